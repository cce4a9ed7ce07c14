/- Plain facts: sums, means and spreads do not hang on the order of a list; a mean lies from the least to the greatest (no program). Conditions: bits below 2^64. -/
import Derived.Test.YtcohidjaehdbnaaGreatDoorHc
import Derived.Test.YtcohidjaehdbnaaGreatDoorGl
namespace Go.Proofs.YtcohidjaehdbnaaGreatDoor
set_option linter.unusedVariables false

theorem kv_top {b : Nat} (h : ffin b = true) : kv (fmag b) < kv 9218868437227405312 := kv_strict (of_decide_eq_true h)
theorem fval_fin {b : Nat} (h : ffin b = true) : -(kv 9218868437227405312 : Int) < fval b ∧ fval b < (kv 9218868437227405312 : Int) := by
  have := kv_top h
  unfold fval
  cases fsgn b <;> simp <;> omega
theorem fval_inf {b : Nat} (h : finf b = true) : fval b = if fsgn b then -(kv 9218868437227405312 : Int) else (kv 9218868437227405312 : Int) := by
  have hm : fmag b = 9218868437227405312 := of_decide_eq_true h
  unfold fval
  rw [hm]
theorem kv_top_pos : 0 < kv 9218868437227405312 := kv_pos_iff.2 (by decide)
theorem fval_num {b : Nat} (h : fnan b = false) : -(kv 9218868437227405312 : Int) ≤ fval b ∧ fval b ≤ (kv 9218868437227405312 : Int) := by
  rcases fcases b with ⟨n, _, _⟩ | ⟨_, _, i⟩ | ⟨_, f, _⟩
  · rw [n] at h; cases h
  · rw [fval_inf i]
    have := kv_top_pos
    cases fsgn b <;> simp <;> omega
  · have := fval_fin f; omega
/-- Two floats that are numbers or endless stand to each other as what they stand for. -/
theorem order_num {a b : Nat} (ha : a < 18446744073709551616) (hb : b < 18446744073709551616) (na : fnan a = false) (nb : fnan b = false) : Ieee.double.order a b = some (compare (fval a) (fval b)) := by
  rcases fcases a with ⟨n, _, _⟩ | ⟨_, _, ia⟩ | ⟨_, fa, _⟩
  · rw [n] at na; cases na
  · rcases fcases b with ⟨n, _, _⟩ | ⟨_, _, ib⟩ | ⟨_, fb, _⟩
    · rw [n] at nb; cases nb
    · unfold Ieee.Format.order
      rw [rd_inf ha ia, rd_inf hb ib, fval_inf ia, fval_inf ib]
      have hp := kv_top_pos
      generalize kv 9218868437227405312 = K at *
      cases fsgn a <;> cases fsgn b <;> simp only [Ieee.Datum.order, Bool.toNat_true, Bool.toNat_false, Bool.false_eq_true, if_false, if_true, Option.some.injEq]
      · rw [Int.compare_eq_eq.2 rfl]; rfl
      · rw [Int.compare_eq_gt.2 (by omega)]; rfl
      · rw [Int.compare_eq_lt.2 (by omega)]; rfl
      · rw [Int.compare_eq_eq.2 rfl]; rfl
    · unfold Ieee.Format.order
      rw [rd_inf ha ia, rd_fin hb fb, fval_inf ia]
      have hv := fval_fin fb
      generalize fval b = v at *
      cases fsgn a <;> simp only [Ieee.Datum.order, Bool.false_eq_true, if_false, if_true, Option.some.injEq]
      · rw [Int.compare_eq_gt.2 (by omega)]
      · rw [Int.compare_eq_lt.2 (by omega)]
  · rcases fcases b with ⟨n, _, _⟩ | ⟨_, _, ib⟩ | ⟨_, fb, _⟩
    · rw [n] at nb; cases nb
    · unfold Ieee.Format.order
      rw [rd_fin ha fa, rd_inf hb ib, fval_inf ib]
      have hv := fval_fin fa
      generalize fval a = v at *
      cases fsgn b <;> simp only [Ieee.Datum.order, Bool.false_eq_true, if_false, if_true, Option.some.injEq]
      · rw [Int.compare_eq_lt.2 (by omega)]
      · rw [Int.compare_eq_gt.2 (by omega)]
    · exact order_fin ha hb fa fb
theorem perm_posN {a b : List Nat} (h : a.Perm b) : posN a = posN b := by
  induction h with
  | nil => rfl
  | cons x _ ih => simp only [posN, ih]
  | swap x y l => simp only [posN]; omega
  | trans _ _ h1 h2 => exact h1.trans h2
theorem perm_negN {a b : List Nat} (h : a.Perm b) : negN a = negN b := by
  induction h with
  | nil => rfl
  | cons x _ ih => simp only [negN, ih]
  | swap x y l => simp only [negN]; omega
  | trans _ _ h1 h2 => exact h1.trans h2
theorem perm_sqN {a b : List Nat} (h : a.Perm b) : sqN a = sqN b := by
  induction h with
  | nil => rfl
  | cons x _ ih => simp only [sqN, ih]
  | swap x y l => simp only [sqN]; omega
  | trans _ _ h1 h2 => exact h1.trans h2
theorem perm_any {a b : List Nat} (p : Nat → Bool) (h : a.Perm b) : a.any p = b.any p := by
  induction h with
  | nil => rfl
  | cons x _ ih => simp only [List.any_cons, ih]
  | swap x y l => simp only [List.any_cons]; cases p x <;> cases p y <;> rfl
  | trans _ _ h1 h2 => exact h1.trans h2
theorem perm_all {a b : List Nat} (p : Nat → Bool) (h : a.Perm b) : a.all p = b.all p := by
  induction h with
  | nil => rfl
  | cons x _ ih => simp only [List.all_cons, ih]
  | swap x y l => simp only [List.all_cons]; cases p x <;> cases p y <;> rfl
  | trans _ _ h1 h2 => exact h1.trans h2
theorem perm_nought {a b : List Nat} (h : a.Perm b) : allNought a = allNought b := by
  unfold allNought
  rw [perm_all _ h]
  have := h.length_eq
  cases a <;> cases b <;> simp_all
theorem over_perm {a b : List Nat} (h : a.Perm b) {n x : Nat} (k : IsOver a n x) : IsOver b n x := by
  have e1 : hasNan a = hasNan b := perm_any _ h
  have e2 : hasPlus a = hasPlus b := perm_any _ h
  have e3 : hasLess a = hasLess b := perm_any _ h
  have e4 := perm_posN h
  have e5 := perm_negN h
  have e6 : totN a = totN b := by unfold totN; rw [e4, e5]
  obtain ⟨k1, k2, k3, k4⟩ := k
  rw [e1, e2, e3] at k1 k2 k3 k4
  rw [e6, perm_nought h] at k3
  rw [e6, e4, e5] at k4
  exact ⟨k1, k2, k3, k4⟩
theorem mean_perm {a b : List Nat} (h : a.Perm b) {x : Nat} (k : IsMean a x) : IsMean b x := by
  refine ⟨fun e => k.1 ?_, fun e => ?_⟩
  · subst e; exact h.eq_nil
  · have := k.2 (by rintro rfl; exact e h.symm.eq_nil)
    rw [h.length_eq] at this
    exact over_perm h this
theorem spread_perm {a b : List Nat} (h : a.Perm b) {x : Nat} (k : IsSpread a x) : IsSpread b x := by
  have e1 : hasNan a = hasNan b := perm_any _ h
  have e2 : hasPlus a = hasPlus b := perm_any _ h
  have e3 : hasLess a = hasLess b := perm_any _ h
  have e6 : totN a = totN b := by unfold totN; rw [perm_posN h, perm_negN h]
  have e7 : a.isEmpty = b.isEmpty := by
    have := h.length_eq
    cases a <;> cases b <;> simp_all
  obtain ⟨k1, k2⟩ := k
  rw [e1, e2, e3, e7] at k1 k2
  rw [e6, perm_sqN h, h.length_eq] at k2
  exact ⟨k1, k2⟩
/-- A quotient that is at least a float is rounded to at least it, and the other way. -/
theorem near_ge {X D r m : Nat} (hD : 0 < D) (h : Near X D r) (hm : m ≤ 9218868437227405312) (k : kv m * D ≤ X) : m ≤ r := by
  refine Nat.le_of_not_lt fun hl => ?_
  have h1 := h.high
  have m1 : kv (r + 1) * D ≤ kv m * D := Nat.mul_le_mul_right D (kv_mono (by omega))
  have m2 : kv r * D < kv (r + 1) * D := (Nat.mul_lt_mul_right hD).2 (kv_lt_succ r)
  rw [Nat.add_mul] at h1
  rcases h1 with h1 | h1 | h1 <;> omega
theorem near_le {X D r m : Nat} (hD : 0 < D) (h : Near X D r) (k : X ≤ kv m * D) : r ≤ m := by
  refine Nat.le_of_not_lt fun hl => ?_
  have h1 := h.low
  have m1 : kv m * D ≤ kv (r - 1) * D := Nat.mul_le_mul_right D (kv_mono (by omega))
  have m2 : kv (r - 1) * D < kv r * D := (Nat.mul_lt_mul_right hD).2 (kv_strict (by omega))
  rw [Nat.add_mul] at h1
  rcases h1 with h1 | h1 | h1 <;> omega
theorem sum_ge {l : List Nat} {v : Int} (hf : ∀ z ∈ l, ffin z = true) (h : ∀ z ∈ l, v ≤ fval z) : (l.length : Int) * v ≤ (posN l : Int) - negN l := by
  induction l with
  | nil => simp [posN, negN]
  | cons x l ih =>
    have i := ih (fun z hz => hf z (List.mem_cons_of_mem _ hz)) (fun z hz => h z (List.mem_cons_of_mem _ hz))
    have hx := h x List.mem_cons_self
    have fx := hf x List.mem_cons_self
    unfold fval at hx
    simp only [posN, negN, List.length_cons, fx, Bool.true_and]
    rw [show ((l.length + 1 : Nat) : Int) * v = (l.length : Int) * v + v from by rw [Int.natCast_add, Int.add_mul]; simp]
    generalize (l.length : Int) * v = q at *
    revert hx
    cases fsgn x <;> simp <;> omega
theorem sum_le {l : List Nat} {v : Int} (hf : ∀ z ∈ l, ffin z = true) (h : ∀ z ∈ l, fval z ≤ v) : (posN l : Int) - negN l ≤ (l.length : Int) * v := by
  induction l with
  | nil => simp [posN, negN]
  | cons x l ih =>
    have i := ih (fun z hz => hf z (List.mem_cons_of_mem _ hz)) (fun z hz => h z (List.mem_cons_of_mem _ hz))
    have hx := h x List.mem_cons_self
    have fx := hf x List.mem_cons_self
    unfold fval at hx
    simp only [posN, negN, List.length_cons, fx, Bool.true_and]
    rw [show ((l.length + 1 : Nat) : Int) * v = (l.length : Int) * v + v from by rw [Int.natCast_add, Int.add_mul]; simp]
    generalize (l.length : Int) * v = q at *
    revert hx
    cases fsgn x <;> simp <;> omega
theorem fval_sgnd {r : Nat} (h : r < 9223372036854775808) (s : Bool) : fval (sgnd r s) = if s then -(kv r : Int) else (kv r : Int) := by
  unfold fval fsgn fmag sgnd
  cases s
  · have : r % 9223372036854775808 = r := by omega
    simp [this, h]
  · have e1 : (r + 9223372036854775808) % 9223372036854775808 = r := by omega
    have e2 : ¬ r + 9223372036854775808 < 9223372036854775808 := by omega
    simp [e1, e2]
/-- A mean that is no NaN is a mean of none. -/
theorem mean_num {l : List Nat} {b : Nat} (hl : l ≠ []) (h : IsMean l b) (hb : fnan b = false) : (hasNan l || hasPlus l && hasLess l) = false := by
  rw [Bool.eq_false_iff]
  intro e
  have := (h.2 hl).none_ e
  rw [this] at hb
  exact absurd hb (by decide +kernel)
theorem flags_fin {l : List Nat} (h : (hasNan l || hasPlus l || hasLess l) = false) : ∀ z ∈ l, ffin z = true := by
  intro z hz
  simp only [Bool.or_eq_false_iff] at h
  obtain ⟨⟨h1, h2⟩, h3⟩ := h
  have a1 := List.any_eq_false.1 h1 z hz
  have a2 := List.any_eq_false.1 h2 z hz
  have a3 := List.any_eq_false.1 h3 z hz
  rcases fcases z with ⟨n, _, _⟩ | ⟨_, _, i⟩ | ⟨_, f, _⟩
  · rw [n] at a1; simp at a1
  · rw [i] at a2 a3
    cases hs : fsgn z <;> rw [hs] at a2 a3 <;> simp at a2 a3
  · exact f
/-- A mean lies from the least to the greatest. -/
theorem mean_between {l : List Nat} {b lo hi : Nat} (hl : l ≠ []) (h : IsMean l b) (hb : fnan b = false) (mlo : lo ∈ l) (mhi : hi ∈ l) (klo : ∀ z ∈ l, fval lo ≤ fval z) (khi : ∀ z ∈ l, fval z ≤ fval hi) :
    fval lo ≤ fval b ∧ fval b ≤ fval hi := by
  have h0 := mean_num hl h hb
  have ho := h.2 hl
  have hn : 0 < l.length := List.length_pos_iff.2 hl
  have hnan : hasNan l = false := by
    revert h0; cases hasNan l <;> simp
  have num : ∀ z ∈ l, fnan z = false := fun z hz => by
    have := List.any_eq_false.1 hnan z hz
    simpa using this
  have nlo := fval_num (num lo mlo)
  have nhi := fval_num (num hi mhi)
  by_cases h1 : (hasPlus l || hasLess l) = true
  · have e := ho.inf_ h0 h1
    have hv : fval b = if hasLess l then -(kv 9218868437227405312 : Int) else (kv 9218868437227405312 : Int) := by
      rw [e]; exact fval_sgnd (by decide) _
    rw [hv]
    cases hL : hasLess l with
    | true =>
      obtain ⟨z, hz, hq⟩ := List.any_eq_true.1 hL
      have := klo z hz
      simp only [Bool.and_eq_true] at hq
      rw [fval_inf hq.1, hq.2] at this
      simp only [if_true] at this ⊢
      omega
    | false =>
      rw [hL, Bool.or_false] at h1
      obtain ⟨z, hz, hq⟩ := List.any_eq_true.1 h1
      have := khi z hz
      simp only [Bool.and_eq_true, Bool.not_eq_true'] at hq
      rw [fval_inf hq.1, hq.2] at this
      simp only [Bool.false_eq_true, if_false] at this ⊢
      omega
  · have h3 : (hasNan l || hasPlus l || hasLess l) = false := by
      rw [hnan]
      simpa using h1
    have hf := flags_fin h3
    have s1 := sum_ge hf klo
    have s2 := sum_le hf khi
    have flo := of_decide_eq_true (hf lo mlo)
    have fhi := of_decide_eq_true (hf hi mhi)
    have hi' : ∀ z, (l.length : Int) * (kv z : Int) = ((kv z * l.length : Nat) : Int) := fun z => by rw [Int.natCast_mul, Int.mul_comm]
    by_cases h4 : totN l = 0
    · have hv : fval b = 0 := by
        rw [ho.nought h3 h4, fval_sgnd (by decide)]
        rw [kv_zero]; cases allNought l <;> rfl
      have hS : (posN l : Int) - negN l = 0 := by unfold totN at h4; omega
      rw [hv]
      rw [hS] at s1 s2
      have hnp : (0 : Int) < l.length := by omega
      constructor
      · exact Int.not_lt.1 fun hlt => absurd (Int.mul_pos hnp hlt) (by omega)
      · refine Int.not_lt.1 fun hlt => ?_
        have := Int.mul_neg_of_pos_of_neg hnp hlt
        omega
    · obtain ⟨r, hr, e⟩ := ho.some_ h3 h4
      have hrl : r < 9223372036854775808 := by have := hr.cap; omega
      have hv : fval b = if decide (posN l < negN l) then -(kv r : Int) else (kv r : Int) := by rw [e]; exact fval_sgnd hrl _
      rw [hv]
      unfold totN at hr h4
      unfold fval at s1 s2 ⊢
      by_cases hs : posN l < negN l
      · rw [decide_eq_true hs]
        simp only [if_true]
        rw [show posN l - negN l + (negN l - posN l) = negN l - posN l from by omega] at hr
        constructor
        · cases hq : fsgn lo with
          | true =>
            rw [hq] at s1
            simp only [if_true] at s1 ⊢
            rw [Int.mul_neg, hi'] at s1
            have := near_le hn hr (m := fmag lo) (by omega)
            have := kv_mono this
            omega
          | false =>
            rw [hq] at s1
            simp only [Bool.false_eq_true, if_false] at s1 ⊢
            rw [hi'] at s1
            omega
        · cases hq : fsgn hi with
          | true =>
            rw [hq] at s2
            simp only [if_true] at s2 ⊢
            rw [Int.mul_neg, hi'] at s2
            have := near_ge hn hr (m := fmag hi) (by unfold fmag at *; omega) (by omega)
            have := kv_mono this
            omega
          | false =>
            simp only [Bool.false_eq_true, if_false]
            omega
      · rw [decide_eq_false hs]
        simp only [Bool.false_eq_true, if_false]
        rw [show posN l - negN l + (negN l - posN l) = posN l - negN l from by omega] at hr
        constructor
        · cases hq : fsgn lo with
          | true =>
            simp only [if_true]
            omega
          | false =>
            rw [hq] at s1
            simp only [Bool.false_eq_true, if_false] at s1 ⊢
            rw [hi'] at s1
            have := near_ge hn hr (m := fmag lo) (by unfold fmag at *; omega) (by omega)
            have := kv_mono this
            omega
        · cases hq : fsgn hi with
          | true =>
            rw [hq] at s2
            simp only [if_true] at s2 ⊢
            rw [Int.mul_neg, hi'] at s2
            omega
          | false =>
            rw [hq] at s2
            simp only [Bool.false_eq_true, if_false] at s2 ⊢
            rw [hi'] at s2
            have := near_le hn hr (m := fmag hi) (by omega)
            have := kv_mono this
            omega
/-- A spread is no NaN, or at least nought. -/
theorem spread_ge {l : List Nat} {b : Nat} (h : IsSpread l b) : fnan b = true ∨ (fnan b = false ∧ b < 18446744073709551616 ∧ 0 ≤ fval b) := by
  by_cases h1 : (l.isEmpty || (hasNan l || hasPlus l || hasLess l)) = true
  · left; rw [h.none_ h1]; decide +kernel
  · right
    have h1' : (l.isEmpty || (hasNan l || hasPlus l || hasLess l)) = false := by simpa using h1
    have hc := (h.some_ h1').cap
    refine ⟨?_, by omega, ?_⟩
    · unfold fnan; rw [decide_eq_false_iff_not]; omega
    · unfold fval fsgn
      rw [decide_eq_true (show b < 9223372036854775808 by omega)]
      simp
end Go.Proofs.YtcohidjaehdbnaaGreatDoor
