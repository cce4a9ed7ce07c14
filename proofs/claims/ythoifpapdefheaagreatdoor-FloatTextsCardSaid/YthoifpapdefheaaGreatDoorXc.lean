/- Plain words: the shortest digits in an interval, found from the coarsest grid down, are those of strconv's shortFloat (no program). Conditions: none. -/
import Derived.Test.YthoifpapdefheaaGreatDoorJa
namespace Go.Proofs.YthoifpapdefheaaGreatDoor
set_option linter.unusedVariables false

/-- The floor on the grid 10^i, in units of D. -/
def flG (V D i : Nat) : Nat := V / (tenN i * D)
/-- Do it, and the next, lie from a to b? -/
def blG (V D a b i : Nat) : Bool := decide (0 < flG V D i) && (decide (a ≤ flG V D i * tenN i) && decide (flG V D i * tenN i ≤ b))
def abG (V D a b i : Nat) : Bool := decide (a ≤ (flG V D i + 1) * tenN i) && decide ((flG V D i + 1) * tenN i ≤ b)
/-- Is the next one nearer, or as near and even? -/
def mdG (V D i : Nat) : Bool := decide ((2 * flG V D i + 1) * (tenN i * D) < 2 * V) || (decide ((2 * flG V D i + 1) * (tenN i * D) = 2 * V) && decide (flG V D i % 2 = 1))
def cdG (V D a b i : Nat) : Nat := if !blG V D a b i || (abG V D a b i && mdG V D i) then flG V D i + 1 else flG V D i
/-- What shortFloat answers: digits, and whether they stand on the grid of tens. -/
def prD (V D a b : Nat) : Nat × Nat := if a ≤ b / 10 * 10 then (b / 10, 1) else (if a < b then (if mdG V D 0 then flG V D 0 + 1 else flG V D 0) else a, 0)
/-- What holds of the interval around 4 * M * w, and of its ends on the grid. -/
structure Ivl (M δ w D a b : Nat) (ev : Prop) : Prop where
  D0 : 0 < D
  w0 : 0 < w
  d1 : 1 ≤ δ
  d2 : δ ≤ 2
  dev : δ = 1 → ev
  M1 : 1 ≤ M
  wide : D ≤ (2 + δ) * w
  slim : (2 + δ) * w < 10 * D
  lo : ∀ c, a ≤ c ↔ (4 * M * w < c * D + δ * w ∨ (4 * M * w = c * D + δ * w ∧ ev))
  hi : ∀ c, c ≤ b ↔ (c * D < 4 * M * w + 2 * w ∨ (c * D = 4 * M * w + 2 * w ∧ ev))
  ten : 4 * M * w < 10 * D → 10 ≤ b → 19 * D ≤ 2 * (4 * M * w)
theorem ivl_sum (δ w : Nat) : (2 + δ) * w = 2 * w + δ * w := Nat.add_mul 2 δ w
namespace Ivl
variable {M δ w D a b : Nat} {ev : Prop} (h : Ivl M δ w D a b ev)
include h
theorem up {c : Nat} (hc : c * D ≤ 4 * M * w) : c ≤ b := (h.hi c).2 (.inl (by have := h.w0; omega))
theorem dn {c : Nat} (hc : 4 * M * w ≤ c * D) : a ≤ c := (h.lo c).2 (.inl (by have := Nat.mul_pos (show 0 < δ from h.d1) h.w0; omega))
theorem dw : δ * w ≤ 2 * w := Nat.mul_le_mul_right w h.d2
theorem dw1 : w ≤ δ * w := Nat.le_mul_of_pos_left w h.d1
theorem bhi : b * D ≤ 4 * M * w + 2 * w := by rcases (h.hi b).1 (Nat.le_refl _) with k | k <;> omega
theorem alo : 4 * M * w ≤ a * D + δ * w := by rcases (h.lo a).1 (Nat.le_refl _) with k | k <;> omega
theorem a1 : 1 ≤ a := by
  have k := h.alo
  have := h.dw
  have := h.w0
  have : 4 * w ≤ 4 * M * w := Nat.mul_le_mul_right w (by have := h.M1; omega)
  rcases Nat.eq_zero_or_pos a with e | e
  · subst e; omega
  · exact e
theorem slim10 {c c' : Nat} (hc : a ≤ c) (hc' : c' ≤ b) : c' < c + 10 := by
  have k1 := h.bhi
  have k2 := h.alo
  have k3 := h.slim
  have k4 := ivl_sum δ w
  have k5 : c' * D ≤ b * D := Nat.mul_le_mul_right D hc'
  have k6 : a * D ≤ c * D := Nat.mul_le_mul_right D hc
  refine Nat.lt_of_mul_lt_mul_right (a := D) ?_
  rw [Nat.add_mul]
  omega
/-- One multiple of ten at most. -/
theorem one10 {e e' : Nat} (h1 : a ≤ e * 10) (h2 : e * 10 ≤ b) (k1 : a ≤ e' * 10) (k2 : e' * 10 ≤ b) : e = e' := by
  have := h.slim10 h1 k2
  have := h.slim10 k1 h2
  omega
end Ivl
theorem flG_lo (V D i : Nat) : flG V D i * (tenN i * D) ≤ V := Nat.div_mul_le_self _ _
theorem flG_hi {D : Nat} (hD : 0 < D) (V i : Nat) : V < (flG V D i + 1) * (tenN i * D) := Nat.lt_mul_of_div_lt (Nat.lt_succ_self _) (Nat.mul_pos (tenN_pos i) hD)
theorem tenN_one : tenN 1 = 10 := rfl
/-- If any grid stops, a coarsest one does. -/
theorem last_stop {P : Nat → Prop} {J i : Nat} (hi : i ≤ J) (hp : P i) : ∃ j, i ≤ j ∧ j ≤ J ∧ P j ∧ ∀ l, j < l → l ≤ J → ¬ P l := by
  generalize hn : J - i = n
  induction n using Nat.strongRecOn generalizing i with
  | _ n ih =>
    by_cases hx : ∃ l, i < l ∧ l ≤ J ∧ P l
    · obtain ⟨l, l1, l2, l3⟩ := hx
      obtain ⟨j, j1, j2, j3, j4⟩ := ih (J - l) (by omega) l2 l3 rfl
      exact ⟨j, by omega, j2, j3, j4⟩
    · exact ⟨i, Nat.le_refl _, hi, hp, fun l l1 l2 l3 => hx ⟨l, l1, l2, l3⟩⟩
/-- What is taken lies within. -/
theorem cdG_in {V D a b i : Nat} (hs : blG V D a b i = true ∨ abG V D a b i = true) : a ≤ cdG V D a b i * tenN i ∧ cdG V D a b i * tenN i ≤ b := by
  unfold cdG
  cases hb : blG V D a b i with
  | false =>
    have ha : abG V D a b i = true := by rcases hs with h | h; · rw [hb] at h; cases h
                                         · exact h
    rw [if_pos (by simp)]
    unfold abG at ha
    simpa using ha
  | true =>
    cases ha : abG V D a b i with
    | false =>
      rw [if_neg (by simp)]
      unfold blG at hb
      simp only [Bool.and_eq_true, decide_eq_true_eq] at hb
      exact hb.2
    | true =>
      split
      · unfold abG at ha
        simpa using ha
      · unfold blG at hb
        simp only [Bool.and_eq_true, decide_eq_true_eq] at hb
        exact hb.2
/-- The law. -/
theorem prD_law {M δ w D a b J : Nat} {ev : Prop} (h : Ivl M δ w D a b ev) (hJ1 : tenN J * D ≤ 4 * M * w) (hJ2 : 4 * M * w < tenN (J + 1) * D) :
    ∃ i, i ≤ J ∧ (blG (4 * M * w) D a b i = true ∨ abG (4 * M * w) D a b i = true) ∧ (∀ l, i < l → l ≤ J → ¬ (blG (4 * M * w) D a b l = true ∨ abG (4 * M * w) D a b l = true)) ∧
      cdG (4 * M * w) D a b i * tenN i = (prD (4 * M * w) D a b).1 * tenN (prD (4 * M * w) D a b).2 := by
  have hD := h.D0
  have hsum := ivl_sum δ w
  have hslim := h.slim
  have hwide := h.wide
  have hdw := h.dw
  have hdw1 := h.dw1
  have hw0 := h.w0
  by_cases hA : a ≤ b / 10 * 10
  · -- a multiple of ten lies within
    have hcb : b / 10 * 10 ≤ b := Nat.div_mul_le_self b 10
    rw [show prD (4 * M * w) D a b = (b / 10, 1) from by unfold prD; rw [if_pos hA]]
    show ∃ i, i ≤ J ∧ _ ∧ _ ∧ _ = b / 10 * tenN 1
    rw [tenN_one]
    obtain ⟨d1, hd1⟩ : ∃ d1, b / 10 = d1 := ⟨_, rfl⟩
    rw [hd1] at hA hcb ⊢
    rcases Nat.eq_zero_or_pos J with hJ | hJ
    · -- the value has one digit on the finest grid
      subst hJ
      rw [show tenN (0 + 1) = 10 from rfl] at hJ2
      rw [show tenN 0 = 1 from rfl, Nat.one_mul] at hJ1
      have ha1 := h.a1
      have h10a : a ≤ 10 := h.dn (by omega)
      have h10b : 10 ≤ b := by omega
      have h19 := h.ten hJ2 h10b
      have hd : d1 = 1 := h.one10 hA hcb (by omega) (by omega)
      subst hd
      have e0 : tenN 0 = 1 := rfl
      have hf : flG (4 * M * w) D 0 = 9 := by
        unfold flG
        rw [e0, Nat.one_mul]
        exact Nat.div_eq_of_lt_le (by omega) (by omega)
      have hab : abG (4 * M * w) D a b 0 = true := by
        unfold abG
        rw [hf, e0]
        simp
        omega
      have hcd : cdG (4 * M * w) D a b 0 = 10 := by
        have hmd : mdG (4 * M * w) D 0 = true := by
          unfold mdG
          rw [hf, e0, Nat.one_mul]
          simp
          omega
        unfold cdG
        rw [hf, hab, hmd]
        simp
      exact ⟨0, Nat.le_refl _, .inr hab, fun l l1 l2 => by omega, by rw [hcd]; rfl⟩
    · -- the grid of tens stops
      have hs : blG (4 * M * w) D a b 1 = true ∨ abG (4 * M * w) D a b 1 = true := by
        have k1 := flG_lo (4 * M * w) D 1
        have k2 := flG_hi hD (4 * M * w) 1
        rw [tenN_one] at k1 k2
        have k3 : d1 * 10 * D ≤ b * D := Nat.mul_le_mul_right D hcb
        have k4 : a * D ≤ d1 * 10 * D := Nat.mul_le_mul_right D hA
        have k5 := h.bhi
        have k6 := h.alo
        obtain ⟨f, hf⟩ : ∃ f, flG (4 * M * w) D 1 = f := ⟨_, rfl⟩
        rw [hf] at k1 k2
        have l1 : f < d1 + 1 := by
          refine Nat.lt_of_mul_lt_mul_right (a := 10 * D) ?_
          rw [Nat.add_mul, show d1 * (10 * D) = d1 * 10 * D from by ac_rfl]
          omega
        have l2 : d1 < f + 2 := by
          refine Nat.lt_of_mul_lt_mul_right (a := 10 * D) ?_
          rw [show d1 * (10 * D) = d1 * 10 * D from by ac_rfl, show (f + 2) * (10 * D) = (f + 1) * (10 * D) + 10 * D from by rw [show f + 2 = f + 1 + 1 from rfl, Nat.add_mul (f + 1), Nat.one_mul]]
          omega
        have ha1 := h.a1
        rcases Nat.lt_or_ge f d1 with e | e
        · right
          unfold abG
          rw [hf, tenN_one, show f + 1 = d1 from by omega]
          simp [hA, hcb]
        · left
          unfold blG
          rw [hf, tenN_one, show f = d1 from by omega]
          simp [hA, hcb]
          omega
      obtain ⟨j, j1, j2, j3, j4⟩ := last_stop (P := fun i => blG (4 * M * w) D a b i = true ∨ abG (4 * M * w) D a b i = true) hJ hs
      refine ⟨j, j2, j3, j4, ?_⟩
      obtain ⟨c1, c2⟩ := cdG_in j3
      obtain ⟨j', rfl⟩ : ∃ j', j = j' + 1 := ⟨j - 1, by omega⟩
      rw [tenN_succ, ← Nat.mul_assoc] at c1 c2 ⊢
      rw [h.one10 c1 c2 hA hcb]
  · -- none lies within
    have hno : ∀ e, a ≤ e * 10 → e * 10 ≤ b → False := fun e e1 e2 => by omega
    have hnos : ∀ l, 0 < l → l ≤ J → ¬ (blG (4 * M * w) D a b l = true ∨ abG (4 * M * w) D a b l = true) := fun l l1 l2 hs => by
      obtain ⟨c1, c2⟩ := cdG_in hs
      obtain ⟨l', rfl⟩ : ∃ l', l = l' + 1 := ⟨l - 1, by omega⟩
      rw [tenN_succ, ← Nat.mul_assoc] at c1 c2
      exact hno _ c1 c2
    have k1 := flG_lo (4 * M * w) D 0
    have k2 := flG_hi hD (4 * M * w) 0
    rw [show tenN 0 = 1 from rfl, Nat.one_mul] at k1 k2
    obtain ⟨f, hf⟩ : ∃ f, flG (4 * M * w) D 0 = f := ⟨_, rfl⟩
    rw [hf] at k1 k2
    have hf1 : 1 ≤ f := by
      have : D ≤ 4 * M * w := Nat.le_trans (Nat.le_mul_of_pos_left D (tenN_pos J)) hJ1
      rw [← hf]
      unfold flG
      rw [show tenN 0 = 1 from rfl, Nat.one_mul]
      exact Nat.div_pos this hD
    have fb := h.up k1
    have fa := h.dn (Nat.le_of_lt k2)
    have e1 : (f + 1) * D = f * D + D := by rw [Nat.add_mul, Nat.one_mul]
    have e2 : (f + 2) * D = f * D + 2 * D := Nat.add_mul f 2 D
    have hne : a ≤ b := by
      rcases Nat.lt_or_ge b a with hlt | hge
      · exfalso
        have n1 : ¬ (f + 1 ≤ b) := by omega
        have n2 : ¬ (a ≤ f) := by omega
        rw [h.hi] at n1
        rw [h.lo] at n2
        have hev : ¬ ev := fun hev => by
          have q1 : ¬ (f + 1) * D < 4 * M * w + 2 * w := fun q => n1 (.inl q)
          have q2 : ¬ 4 * M * w < f * D + δ * w := fun q => n2 (.inl q)
          have q3 : ¬ (f + 1) * D = 4 * M * w + 2 * w := fun e => n1 (.inr ⟨e, hev⟩)
          have q4 : ¬ 4 * M * w = f * D + δ * w := fun e => n2 (.inr ⟨e, hev⟩)
          omega
        have hd : δ = 2 := by
          have := h.d1; have := h.d2
          rcases Nat.lt_or_ge δ 2 with q | q
          · exact (hev (h.dev (by omega))).elim
          · omega
        subst hd
        have m1 : ¬ (f + 1) * D < 4 * M * w + 2 * w := fun q => n1 (.inl q)
        have m2 : ¬ 4 * M * w < f * D + 2 * w := fun q => n2 (.inl q)
        have e4 : D = 4 * w := by omega
        have e5 : 4 * M * w = M * D := by rw [e4]; ac_rfl
        have e6 : f * D < M * D := by omega
        have e7 : M * D < (f + 1) * D := by omega
        have := Nat.lt_of_mul_lt_mul_right e6
        have := Nat.lt_of_mul_lt_mul_right e7
        omega
      · exact hge
    have hbl : blG (4 * M * w) D a b 0 = decide (a ≤ f) := by
      unfold blG
      rw [hf, show tenN 0 = 1 from rfl, Nat.mul_one]
      by_cases q : a ≤ f <;> simp [q, fb] <;> omega
    have hab : abG (4 * M * w) D a b 0 = decide (f + 1 ≤ b) := by
      unfold abG
      rw [hf, show tenN 0 = 1 from rfl, Nat.mul_one]
      by_cases q : f + 1 ≤ b <;> simp [q, fa] <;> omega
    refine ⟨0, Nat.zero_le _, ?_, fun l l1 l2 => hnos l l1 l2, ?_⟩
    · rw [hbl, hab]
      rcases Nat.lt_or_ge f a with q | q
      · right; simp; omega
      · left; simpa using q
    · have hprd : prD (4 * M * w) D a b = (if a < b then (if mdG (4 * M * w) D 0 then f + 1 else f) else a, 0) := by unfold prD; rw [if_neg hA, hf]
      have hcd : cdG (4 * M * w) D a b 0 = if !decide (a ≤ f) || (decide (f + 1 ≤ b) && mdG (4 * M * w) D 0) then f + 1 else f := by unfold cdG; rw [hbl, hab, hf]
      rw [hprd, hcd]
      show _ * tenN 0 = _ * tenN 0
      congr 1
      have hmd : mdG (4 * M * w) D 0 = (decide ((2 * f + 1) * D < 2 * (4 * M * w)) || (decide ((2 * f + 1) * D = 2 * (4 * M * w)) && decide (f % 2 = 1))) := by
        unfold mdG
        rw [hf, show tenN 0 = 1 from rfl, Nat.one_mul]
      have e3 : (2 * f + 1) * D = 2 * (f * D) + D := by rw [Nat.add_mul, Nat.one_mul, Nat.mul_assoc]
      rcases Nat.lt_or_ge a b with hlt | hge
      · rw [if_pos hlt]
        rcases Nat.lt_or_ge f a with q | q
        · -- the floor lies outside
          have hm : mdG (4 * M * w) D 0 = true := by
            rw [hmd]
            have c1 : f + 2 ≤ b := by omega
            have c2 : ¬ (a ≤ f) := by omega
            rw [h.hi] at c1
            rw [h.lo] at c2
            have c3 : ¬ 4 * M * w < f * D + δ * w := fun q => c2 (.inl q)
            have c4 : (f + 2) * D ≤ 4 * M * w + 2 * w := by rcases c1 with c | c <;> omega
            simp only [Bool.or_eq_true, decide_eq_true_eq]
            left
            omega
          rw [hm]
          simp
          omega
        · rcases Nat.lt_or_ge b (f + 1) with r | r
          · -- the next one lies outside
            have hm : mdG (4 * M * w) D 0 = false := by
              rw [hmd]
              have c1 : a ≤ f - 1 := by omega
              have c2 : ¬ (f + 1 ≤ b) := by omega
              rw [h.hi] at c2
              rw [h.lo] at c1
              obtain ⟨g, rfl⟩ : ∃ g, f = g + 1 := ⟨f - 1, by omega⟩
              rw [Nat.add_sub_cancel] at c1
              have e4 : (g + 1) * D = g * D + D := by rw [Nat.add_mul, Nat.one_mul]
              have c3 : ¬ (g + 1 + 1) * D < 4 * M * w + 2 * w := fun q => c2 (.inl q)
              have c4 : 4 * M * w ≤ g * D + δ * w := by rcases c1 with c | c <;> omega
              have c5 : ¬ (2 * (g + 1) + 1) * D < 2 * (4 * M * w) := by omega
              have c6 : ¬ (2 * (g + 1) + 1) * D = 2 * (4 * M * w) := by omega
              simp [c5, c6]
            rw [hm]
            simp [q]
          · have q' : decide (a ≤ f) = true := by simpa using q
            have r' : decide (f + 1 ≤ b) = true := by simpa using r
            rw [q', r']
            simp
      · rw [if_neg (show ¬ a < b from by omega)]
        rcases Nat.lt_or_ge f a with q | q
        · have : decide (a ≤ f) = false := by simp; omega
          rw [this]
          simp
          omega
        · have q' : decide (a ≤ f) = true := by simpa using q
          have r' : decide (f + 1 ≤ b) = false := by simp; omega
          rw [q', r']
          simp
          omega
end Go.Proofs.YthoifpapdefheaaGreatDoor
