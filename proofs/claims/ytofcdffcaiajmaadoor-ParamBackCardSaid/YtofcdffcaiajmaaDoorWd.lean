/- Walks: a block's eight words (param.Words, quernref02.Words). Conditions: as stated. -/
import Derived.Test.YtofcdffcaiajmaaDoorREn
namespace Go.Proofs.YtofcdffcaiajmaaDoor
open Go.RowKit
set_option linter.unusedVariables false

/-- Numbers of eight bytes as cells. -/
abbrev u64s (xs : List Int) : List Value := xs.map (Value.int .u64)
theorem u64_info : (Tryd.prog.info? 23).map (fun i => (i.zero, i.size, i.bytes)) = some (some (.int .u64 0), 1, 8) := by kernel_rfl
def wdL (zs : List Int) (n : Nat) : Nat → List Int
  | 0 => []
  | i + 1 => wdL zs n i ++ [le ((zs.drop (n * i)).take n)]
theorem wdL_len (zs : List Int) (n i : Nat) : (wdL zs n i).length = i := by
  induction i with
  | zero => rfl
  | succ i ih => simp [wdL, ih]
def wrdA (k : Int) (p : Pm) : List Int := if chkP k p = 0 then wdL (encB k p) (ksz k / 8) 8 else []
/-- What both Words hand back. -/
def WdGives (w : World) (k : Int) (p : Pm) (e : Ending) (w' : World) : Prop :=
  ∃ A c, e = .returned (.tuple #[.slice A (wrdA k p).length c, .int .i64 (chkP k p)]) ∧ w'.ownsRow w.heap.size 23 1 (.slice A (wrdA k p).length c) (wrdA k p).length (u64s (wrdA k p)) ∧ Below w.heap.size w w'
theorem reads_mid {w : World} {base g n cap k : Nat} {e : TypeId} {xs : List Value} (h : w.ownsRow base e 1 (.slice (some ⟨g, 0, none⟩) n cap) n xs) (hk : k ≤ n) : Reads w w.heap.size 1 (some ⟨g, k, none⟩) (n - k) (xs.drop k) := by
  refine ⟨by rw [List.length_drop, h.1]; omega, fun h0 => ⟨_, rfl, (h.lt g rfl).2, fun j u hu => ?_⟩⟩
  have hadd : (⟨g, k, none⟩ : Addr).add j = ⟨g, k + j, none⟩ := by unfold Addr.add; split <;> simp_all
  have hl := h.1
  have hj : j < n - k := by
    rcases Nat.lt_or_ge j (xs.drop k).length with h1 | h1
    · rw [List.length_drop, hl] at h1; omega
    · rw [List.getElem?_eq_none h1] at hu; cases hu
  rw [hadd, h.cellAt _ (by omega), ← hu, List.getElem?_drop]
theorem encB_bd {k : Int} {p : Pm} (hs : ∀ z ∈ p.s, 0 ≤ z ∧ z < 256) (ht : ∀ z ∈ p.t, 0 ≤ z ∧ z < 256) : ∀ z ∈ encB k p, 0 ≤ z ∧ z < 256 := by
  have hN : ∀ j, ∀ z ∈ encN k p j, 0 ≤ z ∧ z < 256 := by
    intro j
    induction j with
    | zero => intro z hz; have := List.eq_of_mem_replicate hz; omega
    | succ j ih => unfold encN; split
                   · exact ih
                   · exact layL_bd ih _ _ _
  have hB : ∀ {xs ys : List Int} {a : Nat}, (∀ z ∈ xs, 0 ≤ z ∧ z < 256) → (∀ z ∈ ys, 0 ≤ z ∧ z < 256) → ∀ z ∈ blit xs a ys, 0 ≤ z ∧ z < 256 := by
    intro xs ys a h1 h2 z hz
    unfold blit at hz
    rcases List.mem_append.1 hz with hz | hz
    · rcases List.mem_append.1 hz with hz | hz
      · exact h1 z (List.mem_of_mem_take hz)
      · exact h2 z hz
    · exact h1 z (List.mem_of_mem_drop hz)
  unfold encB
  exact hB (hB (hN 9) hs) ht
end Go.Proofs.YtofcdffcaiajmaaDoor
