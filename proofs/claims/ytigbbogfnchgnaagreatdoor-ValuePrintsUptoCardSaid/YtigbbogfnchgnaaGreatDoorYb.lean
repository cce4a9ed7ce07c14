/- A value as it lies in memory: its six cells, its items' rows, its names; what keeps a reading. Conditions: none. -/
import Derived.Test.YtigbbogfnchgnaaGreatDoorYa
import Derived.Test.YtigbbogfnchgnaaGreatDoorMem2
namespace Go.Proofs.YtigbbogfnchgnaaGreatDoor
open Go.RowKit
set_option linter.unusedVariables false

/-- The cells of a value whose items lie at A, whose names lie at A'. -/
def vcs (v : Val) (A A' : Option Addr) (c c' : Nat) : List Value := [.int .i64 v.k, .int .i64 v.i, .float .f64 v.f, .string v.t, .slice A v.its.length c, .slice A' v.nms.length c']
abbrev strs (l : List ByteArray) : List Value := l.map Value.string
mutual
/-- These cells are this value's. -/
def RdV (w : World) (B : Nat) : Val → List Value → Prop
  | .mk k i f t its nms, cs => ∃ A A' c c', cs = vcs (.mk k i f t its nms) A A' c c' ∧ Reads w B 1 A' nms.length (strs nms) ∧ RdL w B A 0 its
def RdL (w : World) (B : Nat) (A : Option Addr) : Nat → List Val → Prop
  | _, [] => True
  | j, v :: l => (∃ ad cs, A = some ad ∧ ad.block < B ∧ (∀ q u, cs[q]? = some u → w.cell? (ad.add (j * 6 + q)) = some u) ∧ RdV w B v cs) ∧ RdL w B A (j + 1) l
end
theorem RdL_iff {w : World} {B : Nat} {A : Option Addr} : ∀ (l : List Val) (j : Nat), RdL w B A j l ↔ ∀ i, (h : i < l.length) → ∃ ad cs, A = some ad ∧ ad.block < B ∧ (∀ q u, cs[q]? = some u → w.cell? (ad.add ((j + i) * 6 + q)) = some u) ∧ RdV w B l[i] cs := by
  intro l
  induction l with
  | nil => intro j; rw [RdL]; simp
  | cons v l ih =>
    intro j
    rw [RdL, ih]
    constructor
    · rintro ⟨h0, h1⟩ i hi
      cases i with
      | zero => simpa using h0
      | succ i =>
        have := h1 i (by simpa using hi)
        rw [show j + 1 + i = j + (i + 1) from by omega] at this
        simpa using this
    · intro h
      refine ⟨by have := h 0 (by simp); simpa using this, fun i hi => ?_⟩
      have := h (i + 1) (by simpa using hi)
      rw [show j + (i + 1) = j + 1 + i from by omega] at this
      simpa using this
theorem RdV_iff {w : World} {B : Nat} {v : Val} {cs : List Value} : RdV w B v cs ↔ ∃ A A' c c', cs = vcs v A A' c c' ∧ Reads w B 1 A' v.nms.length (strs v.nms) ∧
    ∀ i, (h : i < v.its.length) → ∃ ad cs', A = some ad ∧ ad.block < B ∧ (∀ q u, cs'[q]? = some u → w.cell? (ad.add (i * 6 + q)) = some u) ∧ RdV w B v.its[i] cs' := by
  cases v with
  | mk k i f t its nms =>
    rw [RdV]
    constructor
    · rintro ⟨A, A', c, c', h1, h2, h3⟩
      refine ⟨A, A', c, c', h1, h2, fun i hi => ?_⟩
      have := (RdL_iff _ _).1 h3 i hi
      rw [Nat.zero_add] at this
      exact this
    · rintro ⟨A, A', c, c', h1, h2, h3⟩
      refine ⟨A, A', c, c', h1, h2, (RdL_iff _ _).2 fun i hi => ?_⟩
      have := h3 i hi
      rw [Nat.zero_add]
      exact this
theorem RdV.keep {w w' : World} {B : Nat} (hk : ∀ p : Addr, p.block < B → w'.cell? p = w.cell? p) : ∀ (v : Val) (cs : List Value), RdV w B v cs → RdV w' B v cs := by
  refine Val.ind fun v ih cs h => ?_
  obtain ⟨A, A', c, c', h1, h2, h3⟩ := RdV_iff.1 h
  refine RdV_iff.2 ⟨A, A', c, c', h1, h2.keep hk, fun i hi => ?_⟩
  obtain ⟨ad, cs', e, hb, hc, hr⟩ := h3 i hi
  exact ⟨ad, cs', e, hb, fun q u hq => (hk _ (by rw [block_of_add]; exact hb)).trans (hc q u hq), ih _ (List.getElem_mem hi) cs' hr⟩
theorem RdV.more {w : World} {B B' : Nat} (hB : B ≤ B') : ∀ (v : Val) (cs : List Value), RdV w B v cs → RdV w B' v cs := by
  refine Val.ind fun v ih cs h => ?_
  obtain ⟨A, A', c, c', h1, h2, h3⟩ := RdV_iff.1 h
  refine RdV_iff.2 ⟨A, A', c, c', h1, h2.more hB, fun i hi => ?_⟩
  obtain ⟨ad, cs', e, hb, hc, hr⟩ := h3 i hi
  exact ⟨ad, cs', e, by omega, hc, ih _ (List.getElem_mem hi) cs' hr⟩
theorem RdV.below {w w' : World} {B : Nat} {v : Val} {cs : List Value} (h : RdV w B v cs) (hb : Below B w w') : RdV w' B v cs := RdV.keep (fun _ hp => hb.cell hp) v cs h
theorem RdV.drew {w : World} {B : Nat} {v : Val} {cs : List Value} (h : RdV w B v cs) : RdV w.drew B v cs := RdV.keep (w := w) (w' := w.drew) (fun _ _ => rfl) v cs h
theorem RdV.drewN {w : World} {B : Nat} {v : Val} {cs : List Value} (h : RdV w B v cs) (k : Nat) : RdV (w.drewN k) B v cs := RdV.keep (w := w) (w' := w.drewN k) (fun _ _ => rfl) v cs h
/-- Six cells, the items' place, the names' place. -/
theorem RdV.open_ {w : World} {B : Nat} {v : Val} {cs : List Value} (h : RdV w B v cs) : ∃ A A' c c', cs = vcs v A A' c c' ∧ Reads w B 1 A' v.nms.length (strs v.nms) ∧
    (0 < v.its.length → ∃ b off, A = some ⟨b, off, none⟩ ∧ b < B ∧ b < w.heap.size ∧ ∀ i, (hi : i < v.its.length) → ∃ cs', RdV w B v.its[i] cs' ∧ ∀ q u, cs'[q]? = some u → w.cell? ⟨b, off + (i * 6 + q), none⟩ = some u) := by
  obtain ⟨A, A', c, c', h1, h2, h3⟩ := RdV_iff.1 h
  refine ⟨A, A', c, c', h1, h2, fun h0 => ?_⟩
  obtain ⟨ad, cs0, e, hb, hc, hr⟩ := h3 0 h0
  obtain ⟨b, off, spot⟩ := ad
  have hcell : w.cell? ⟨b, off, spot⟩ = some (.int .i64 v.its[0].k) := by
    obtain ⟨_, _, _, _, e0, _⟩ := RdV_iff.1 hr
    have := hc 0 (.int .i64 v.its[0].k) (by rw [e0]; rfl)
    simpa [Addr.add] using this
  obtain rfl : spot = none := World.cell?_spot hcell
  refine ⟨b, off, e, hb, World.block_lt_of_cell? _ _ hcell, fun i hi => ?_⟩
  obtain ⟨ad', cs', e', _, hc', hr'⟩ := h3 i hi
  obtain rfl : ad' = ⟨b, off, none⟩ := by rw [e] at e'; exact (Option.some.inj e').symm
  refine ⟨cs', hr', fun q u hq => ?_⟩
  have := hc' q u hq
  rcases Nat.eq_zero_or_pos (i * 6 + q) with h0 | h0
  · rw [h0] at this ⊢; simpa [Addr.add] using this
  · unfold Addr.add at this
    rw [if_neg (by omega)] at this
    exact this
mutual
/-- How much a value holds. -/
def bnd : Val → Nat
  | .mk _ _ _ t its nms => 1 + t.size + bndL its + (nms.map fun s => 1 + s.size).sum
def bndL : List Val → Nat
  | [] => 0
  | v :: l => bnd v + bndL l
end
mutual
/-- Its numbers are numbers of their kinds. -/
def wfV : Val → Prop
  | .mk k i f _ its _ => (Lit.int .i64 k).wf = true ∧ (Lit.int .i64 i).wf = true ∧ (Lit.float .f64 f).wf = true ∧ wfL its
def wfL : List Val → Prop
  | [] => True
  | v :: l => wfV v ∧ wfL l
end
end Go.Proofs.YtigbbogfnchgnaaGreatDoor
