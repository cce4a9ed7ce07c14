/- The law of sums of floats: the program's and the reference's say the same, and the given list stays as it was. Conditions: the list as an argument reads. -/
import Derived.Test.YtcohidjaehdbnaaGreatDoorGu
import Derived.Test.YtcohidjaehdbnaaGreatDoorLaw
namespace Go.Proofs.YtcohidjaehdbnaaGreatDoor
open Go.RowKit Go.WideShapes Go.ChangeShapes
set_option linter.unusedVariables false
attribute [local go_sem ↓] Go.wp_at_zero Go.wp_at_succ

section
variable {H : Type} {enc : TypeId × Value → H} {P : Program}
theorem trod_f64 {w : World} {base : Nat} {spare : Nat → Bool} {held : Bool} {t : TypeId} (ht : P.underlying t = some (.float .f64)) {fuel : Nat} {cs : List Value} {x : DataW H × List MemPlace} (h : DataW.trod enc P w base spare held fuel t cs = some x) :
    ∃ b, cs = [.float .f64 b] ∧ x = (.lit (.float .f64 b), []) ∧ (Lit.float .f64 b).wf = true := by
  cases fuel with
  | zero => simp [DataW.trod] at h
  | succ n =>
    unfold DataW.trod at h
    rw [ht] at h
    split at h <;> simp_all
/-- The bits that a reading says. -/
def bitOf (y : DataW H × List MemPlace) : Nat := match y.1 with | .lit (.float _ n) => n | _ => 0
/-- A slice of floats: its list, with bounds (turned from the library's law on integers). -/
theorem rd_floats {W : World} {t e : TypeId} (ht : P.underlying t = some (.slice e)) (he : P.underlying e = some (.float .f64)) (hc : P.cellsOf e = 1) (hby : P.bytesOf e = 8)
    {fuel : Nat} {cs : List Value} {x : DataW H × List MemPlace} (h : DataW.trod enc P W 0 (fun _ => true) true fuel t cs = some x) (hw : ∀ m ∈ x.1.weights P t, m ≤ reachBytes) :
    ∃ (A : Option Addr) (n c : Nat) (xs : List Nat), cs = [.slice A n c] ∧ n ≤ c ∧ c * 8 ≤ 140737488351232 ∧ (∀ z ∈ xs, (Lit.float .f64 z).wf = true) ∧ Reads W W.heap.size 1 A n (f64s xs) := by
  rcases DataW.trod_slice ht h with ⟨rfl, rfl⟩ | ⟨a, len, cap, elems, rest, n, _, rfl, rfl, hb, hl, hm, hlen, hel, hsp, hns⟩
  · exact ⟨none, 0, 0, [], rfl, Nat.le_refl _, by simp, (fun _ h => by cases h), Reads.none_⟩
  · obtain ⟨hrl, hr⟩ := hsp rfl
    have hsz : cap * 8 ≤ 140737488351232 := by
      have := hw (elems.length * 8 + rest.length * 8) (by simp [DataW.weights, ht, hby]; exact .inl (by omega))
      rw [← Nat.add_mul, show elems.length + rest.length = cap from by omega] at this
      exact this
    have each : ∀ i y, elems[i]? = some y → (Lit.float .f64 (bitOf y)).wf = true ∧ W.cell? (a.add i) = some (.float .f64 (bitOf y)) := by
      intro i y hy
      have hi : i < len := by
        have := (List.getElem?_eq_some_iff.1 hy).1
        omega
      have hb' := hel i hi
      rw [hy, hc, Nat.mul_one, Option.bind_eq_some_iff] at hb'
      obtain ⟨cs', hcs, hy'⟩ := hb'
      obtain ⟨m, rfl, rfl, hw'⟩ := trod_f64 he hy'
      exact ⟨hw', cell_of_cells?_one hcs⟩
    refine ⟨some a, len, cap, elems.map bitOf, rfl, hl, hsz, fun z hz => ?_, ⟨by simp [f64s]; omega, fun h0 => ⟨a, rfl, ?_, ?_⟩⟩⟩
    · obtain ⟨y, hy, rfl⟩ := List.mem_map.1 hz
      obtain ⟨i, hi⟩ := List.getElem?_of_mem hy
      exact (each i y hi).1
    · have hc0 := (each 0 (elems[0]'(by omega)) (List.getElem?_eq_getElem (by omega))).2
      have : a.add 0 = a := by simp [Addr.add]
      rw [this] at hc0
      exact World.block_lt_of_cell? _ _ hc0
    · intro j u hu
      rw [f64s, List.getElem?_map, List.getElem?_map] at hu
      rcases hj : elems[j]? with _ | y
      · rw [hj] at hu; simp at hu
      · rw [hj] at hu
        simp only [Option.map_some, Option.some.injEq] at hu
        rw [(each j y hj).2, ← hu]
/-- A slice of floats as an argument. -/
def RdFloats (W : World) (A : Option Addr) (n c : Nat) (xs : List Nat) : Prop := n ≤ c ∧ c * 8 ≤ 140737488351232 ∧ Bit xs ∧ Reads W W.heap.size 1 A n (f64s xs)
theorem fld_floats {W : World} {t e : TypeId} (ht : P.underlying t = some (.slice e)) (he : P.underlying e = some (.float .f64)) (hc : P.cellsOf e = 1) (hby : P.bytesOf e = 8)
    {fuel : Nat} {u : Value} {x : DataW H × List MemPlace} (h : DataW.trod enc P W 0 (fun _ => true) true fuel t [u] = some x) (hw : ∀ m ∈ x.1.weights P t, m ≤ reachBytes) :
    ∃ (A : Option Addr) (n c : Nat) (xs : List Nat), u = .slice A n c ∧ RdFloats W A n c xs := by
  obtain ⟨A, n, c, xs, h1, h2, h3, h4, h5⟩ := rd_floats ht he hc hby h hw
  injection h1 with h1
  exact ⟨A, n, c, xs, h1, h2, h3, fun z hz => by have := h4 z hz; simpa [Lit.wf] using this, h5⟩
end
theorem own_forms {w : World} {base size n : Nat} {e : TypeId} {v : Value} {xs : List Value} (h : w.ownsRow base e size v n xs) : (v = .slice none 0 0 ∧ n = 0) ∨ ∃ g cap, v = .slice (some ⟨g, 0, none⟩) n cap ∧ base ≤ g ∧ n ≤ cap := by
  rcases h.2 with h | ⟨g, cap, cur, h1, h2, _, h3, _⟩
  · exact .inl h
  · exact .inr ⟨g, cap, h1, h2, h3⟩
theorem own_cap {w : World} {base n cap : Nat} {e : TypeId} {g : Nat} {xs : List Value} (h : w.ownsRow base e 1 (.slice (some ⟨g, 0, none⟩) n cap) n xs) : n ≤ cap := by
  rcases own_forms h with ⟨h1, _⟩ | ⟨g', cap', h1, _, h2⟩
  · cases h1
  · injection h1 with _ _ h3
    omega
theorem own_front {w : World} {base n m cap g : Nat} {e : TypeId} {xs ys : List Value} (h : w.ownsRow base e 1 (.slice (some ⟨g, 0, none⟩) (n + m) cap) (n + m) (xs ++ ys)) (hl : xs.length = n) : Reads w w.heap.size 1 (some ⟨g, 0, none⟩) n xs :=
  ⟨by omega, fun _ => ⟨_, rfl, (h.lt g rfl).2, fun j u hu => by
    have hj : j < xs.length := (List.getElem?_eq_some_iff.1 hu).1
    exact h.cells rfl j u (by rw [List.getElem?_append_left hj]; exact hu)⟩⟩
theorem fone_num {b : Nat} (h : fnan b = false) : fone b = b := by unfold fone; rw [h]; rfl
theorem fnan_sgnd {r : Nat} (h : r ≤ 9218868437227405312) (m : Bool) : fnan (sgnd r m) = false := by
  unfold fnan
  rw [decide_eq_false_iff_not]
  try unfold fmag
  unfold sgnd
  cases m <;> simp <;> omega
theorem fone_sgnd {r : Nat} (h : r ≤ 9218868437227405312) (m : Bool) : fone (sgnd r m) = sgnd r m := fone_num (fnan_sgnd h m)
theorem fone_nan : fone 9221120237041090560 = 9221120237041090560 := by decide +kernel
theorem IsOver.fone {l : List Nat} {n b : Nat} (h : IsOver l n b) : fone b = b := by
  by_cases h1 : (hasNan l || hasPlus l && hasLess l) = true
  · rw [h.none_ h1]; exact fone_nan
  · have h1' : (hasNan l || hasPlus l && hasLess l) = false := by simpa using h1
    by_cases h2 : (hasPlus l || hasLess l) = true
    · rw [h.inf_ h1' h2]; exact fone_sgnd (Nat.le_refl _) _
    · have h3 : (hasNan l || hasPlus l || hasLess l) = false := by
        revert h1' h2
        cases hasNan l <;> cases hasPlus l <;> cases hasLess l <;> simp
      by_cases h4 : totN l = 0
      · rw [h.nought h3 h4]; exact fone_sgnd (Nat.zero_le _) _
      · obtain ⟨r, hr, rfl⟩ := h.some_ h3 h4
        exact fone_sgnd hr.cap _
theorem IsMean.same {l : List Nat} {b c : Nat} (h : IsMean l b) (k : IsMean l c) : b = Go.Proofs.YtcohidjaehdbnaaGreatDoor.fone c := by
  by_cases hl : l = []
  · rw [h.1 hl, k.1 hl]; exact fone_nan.symm
  · rw [(k.2 hl).fone]
    exact IsOver.one (List.length_pos_iff.2 hl) (h.2 hl) (k.2 hl)
theorem IsOver.same {l : List Nat} {n b c : Nat} (hn : 0 < n) (h : IsOver l n b) (k : IsOver l n c) : b = Go.Proofs.YtcohidjaehdbnaaGreatDoor.fone c := by
  rw [k.fone]; exact h.one hn k
theorem IsSpread.same {l : List Nat} {b c : Nat} (h : IsSpread l b) (k : IsSpread l c) : b = Go.Proofs.YtcohidjaehdbnaaGreatDoor.fone c := by
  rw [h.one k]
  by_cases h1 : (l.isEmpty || (hasNan l || hasPlus l || hasLess l)) = true
  · rw [k.none_ h1]; exact fone_nan.symm
  · have h1' : (l.isEmpty || (hasNan l || hasPlus l || hasLess l)) = false := by simpa using h1
    exact (fone_sgnd (k.some_ h1').cap false).symm
end Go.Proofs.YtcohidjaehdbnaaGreatDoor
