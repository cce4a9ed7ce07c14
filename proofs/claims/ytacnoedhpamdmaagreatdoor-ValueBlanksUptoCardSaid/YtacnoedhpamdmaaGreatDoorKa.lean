/- Plain words: the value at the end of a way, a value with another one laid there; what stands where afterwards (no program). Conditions: none. -/
import Derived.Test.YtacnoedhpamdmaaGreatDoorYd
namespace Go.Proofs.YtacnoedhpamdmaaGreatDoor
set_option linter.unusedVariables false

/-- The value with another item at a place. -/
def setI (v : Val) (j : Nat) (y : Val) : Val := .mk v.k v.i v.f v.t (v.its.set j y) v.nms
/-- The value at the end of a way. -/
def atV : Val → List Int → Option Val
  | v, [] => some v
  | v, i :: r => if i < 0 then none else match v.its[i.toNat]? with | some x => atV x r | none => none
/-- A value with another one at the end of a way. -/
def putV : Val → List Int → Val → Val
  | _, [], y => y
  | v, i :: r, y => match v.its[i.toNat]? with | some x => setI v i.toNat (putV x r y) | none => v
theorem atV_cons {v : Val} {i : Int} {r : List Int} {x : Val} (h : atV v (i :: r) = some x) : ∃ j : Nat, i = (j : Int) ∧ ∃ hj : j < v.its.length, atV v.its[j] r = some x := by
  rw [atV] at h
  by_cases h0 : i < 0
  · rw [if_pos h0] at h; cases h
  · rw [if_neg h0] at h
    refine ⟨i.toNat, by omega, ?_⟩
    cases hg : v.its[i.toNat]? with
    | none => rw [hg] at h; cases h
    | some y =>
      rw [hg] at h
      obtain ⟨hj, rfl⟩ := List.getElem?_eq_some_iff.1 hg
      exact ⟨hj, h⟩
theorem atV_in {v : Val} {j : Nat} (hj : j < v.its.length) (r : List Int) : atV v ((j : Int) :: r) = atV v.its[j] r := by
  rw [atV, if_neg (by omega)]
  simp only [Int.toNat_natCast, List.getElem?_eq_getElem hj]
theorem atV_out {v : Val} {i : Int} (hi : i < 0 ∨ (v.its.length : Int) ≤ i) (r : List Int) : atV v (i :: r) = none := by
  rw [atV]
  by_cases h0 : i < 0
  · rw [if_pos h0]
  · rw [if_neg h0, List.getElem?_eq_none (by omega)]
theorem putV_in {v : Val} {j : Nat} (hj : j < v.its.length) (r : List Int) (y : Val) : putV v ((j : Int) :: r) y = setI v j (putV v.its[j] r y) := by
  rw [putV]
  simp only [Int.toNat_natCast, List.getElem?_eq_getElem hj]
theorem setI_its (v : Val) (j : Nat) (y : Val) : (setI v j y).its = v.its.set j y := rfl
theorem setI_nms (v : Val) (j : Nat) (y : Val) : (setI v j y).nms = v.nms := rfl
/-- What was put stands there. -/
theorem at_put {y : Val} : ∀ {r : List Int} {v x : Val}, atV v r = some x → atV (putV v r y) r = some y := by
  intro r
  induction r with
  | nil => intro v x _; rw [putV, atV]
  | cons i r ih =>
    intro v x h
    obtain ⟨j, rfl, hj, h⟩ := atV_cons h
    rw [putV_in hj, atV_in (by rw [setI_its, List.length_set]; exact hj)]
    simp only [setI_its, List.getElem_set_self]
    exact ih h
/-- Elsewhere all is as it was. -/
theorem at_else {y v x : Val} {i j : Int} {r s : List Int} (h : atV v (i :: r) = some x) (hne : i ≠ j) : atV (putV v (i :: r) y) (j :: s) = atV v (j :: s) := by
  obtain ⟨n, rfl, hn, h⟩ := atV_cons h
  rw [putV_in hn]
  rcases (show j < 0 ∨ 0 ≤ j by omega) with h0 | h0
  · rw [atV_out (.inl h0), atV_out (.inl h0)]
  rcases (show j < v.its.length ∨ (v.its.length : Int) ≤ j by omega) with h1 | h1
  · obtain ⟨m, rfl⟩ : ∃ m : Nat, j = (m : Int) := ⟨j.toNat, by omega⟩
    have hm : m < v.its.length := by omega
    rw [atV_in hm, atV_in (by rw [setI_its, List.length_set]; exact hm)]
    simp only [setI_its]
    rw [List.getElem_set_ne (by omega)]
  · rw [atV_out (.inr h1), atV_out (.inr (by rw [setI_its, List.length_set]; exact h1))]
theorem atV_snoc : ∀ {r : List Int} {v x : Val} {s : List Int}, atV v r = some x → atV v (r ++ s) = atV x s := by
  intro r
  induction r with
  | nil => intro v x s h; rw [atV] at h; injection h with h; rw [h]; rfl
  | cons i r ih =>
    intro v x s h
    obtain ⟨j, rfl, hj, h⟩ := atV_cons h
    rw [List.cons_append, atV_in hj]
    exact ih h
theorem putV_snoc {y : Val} {k : Nat} : ∀ {r : List Int} {v x : Val}, atV v r = some x → k < x.its.length → putV v (r ++ [(k : Int)]) y = putV v r (setI x k y) := by
  intro r
  induction r with
  | nil =>
    intro v x h hk
    rw [atV] at h
    injection h with h
    subst h
    rw [List.nil_append, putV_in hk, putV, putV]
  | cons i r ih =>
    intro v x h hk
    obtain ⟨j, rfl, hj, h⟩ := atV_cons h
    rw [List.cons_append, putV_in hj, putV_in hj, ih h hk]
theorem wfL_iff {l : List Val} : wfL l ↔ ∀ x ∈ l, wfV x := by
  induction l with
  | nil => rw [wfL]; simp
  | cons v l ih => rw [wfL, ih]; simp
theorem wfV_iff {v : Val} : wfV v ↔ ((Lit.int .i64 v.k).wf = true ∧ (Lit.int .i64 v.i).wf = true ∧ (Lit.float .f64 v.f).wf = true) ∧ ∀ x ∈ v.its, wfV x := by
  cases v with
  | mk k i f t its nms =>
    rw [wfV, wfL_iff]
    exact ⟨fun ⟨a, b, c, d⟩ => ⟨⟨a, b, c⟩, d⟩, fun ⟨⟨a, b, c⟩, d⟩ => ⟨a, b, c, d⟩⟩
theorem setI_wf {v y : Val} {j : Nat} (h : wfV v) (hy : wfV y) : wfV (setI v j y) := by
  refine wfV_iff.2 ⟨(wfV_iff.1 h).1, fun x hx => ?_⟩
  rcases List.mem_or_eq_of_mem_set hx with hx | rfl
  · exact (wfV_iff.1 h).2 x hx
  · exact hy
theorem putV_wf {y : Val} (hy : wfV y) : ∀ {r : List Int} {v x : Val}, wfV v → atV v r = some x → wfV (putV v r y) := by
  intro r
  induction r with
  | nil => intro v x _ _; rw [putV]; exact hy
  | cons i r ih =>
    intro v x hv h
    obtain ⟨j, rfl, hj, h⟩ := atV_cons h
    rw [putV_in hj]
    exact setI_wf hv (ih (wfV_item hv (List.getElem_mem hj)) h)
theorem atV_wf : ∀ {r : List Int} {v x : Val}, wfV v → atV v r = some x → wfV x := by
  intro r
  induction r with
  | nil => intro v x hv h; rw [atV] at h; injection h with h; exact h ▸ hv
  | cons i r ih =>
    intro v x hv h
    obtain ⟨j, rfl, hj, h⟩ := atV_cons h
    exact ih (wfV_item hv (List.getElem_mem hj)) h
theorem atV_bnd : ∀ {r : List Int} {v x : Val}, atV v r = some x → bnd x ≤ bnd v := by
  intro r
  induction r with
  | nil => intro v x h; rw [atV] at h; injection h with h; rw [h]; exact Nat.le_refl _
  | cons i r ih =>
    intro v x h
    obtain ⟨j, rfl, hj, h⟩ := atV_cons h
    have := ih h
    have := bnd_item (List.getElem_mem hj)
    omega
theorem bndL_set : ∀ {l : List Val} {j : Nat} {y : Val} (hj : j < l.length), bndL (l.set j y) + bnd l[j] = bndL l + bnd y
  | [], j, y, hj => by simp at hj
  | v :: l, 0, y, hj => by simp only [List.set_cons_zero, bndL, List.getElem_cons_zero]; omega
  | v :: l, j + 1, y, hj => by
    have := bndL_set (l := l) (j := j) (y := y) (by simpa using hj)
    simp only [List.set_cons_succ, bndL, List.getElem_cons_succ]
    omega
theorem putV_bnd {y : Val} : ∀ {r : List Int} {v x : Val}, atV v r = some x → bnd (putV v r y) + bnd x = bnd v + bnd y := by
  intro r
  induction r with
  | nil => intro v x h; rw [atV] at h; injection h with h; rw [putV, h]; omega
  | cons i r ih =>
    intro v x h
    obtain ⟨j, rfl, hj, h⟩ := atV_cons h
    rw [putV_in hj]
    have h1 := ih h
    have h2 := bndL_set (y := putV v.its[j] r y) hj
    rw [bnd_eq v, bnd_eq (setI v j _)]
    show 1 + v.t.size + bndL (v.its.set j _) + _ + _ = _
    have h3 : (setI v j (putV v.its[j] r y)).nms = v.nms := rfl
    rw [h3]
    omega
end Go.Proofs.YtacnoedhpamdmaaGreatDoor
