/- Plain words: the values of the rungs of a float of 64 bits, the rung nearest to a quotient, and that it is the only one (no program). Conditions: none. -/
import Derived.WalkKit
namespace Go.Proofs.YtcohidjaehdbnaaGreatDoor
set_option linter.unusedVariables false

/-- The least exponent above a rung, from that of the smallest floats on. -/
def kx (r : Nat) : Nat := r / 4503599627370496 - 1
/-- What a rung is worth, in units of the least float. -/
def kv (r : Nat) : Nat := if r < 4503599627370496 then r else (4503599627370496 + r % 4503599627370496) * 2 ^ (r / 4503599627370496 - 1)
theorem kv_lo {r : Nat} (h : r < 4503599627370496) : kv r = r := if_pos h
theorem kv_hi {r : Nat} (h : ¬ r < 4503599627370496) : kv r = (4503599627370496 + r % 4503599627370496) * 2 ^ (r / 4503599627370496 - 1) := if_neg h
theorem kv_succ (r : Nat) : kv (r + 1) = kv r + 2 ^ kx r := by
  unfold kx
  by_cases h1 : r + 1 < 4503599627370496
  · rw [kv_lo h1, kv_lo (by omega), show r / 4503599627370496 - 1 = 0 from by omega]
  · by_cases h2 : r < 4503599627370496
    · have : r = 4503599627370495 := by omega
      subst this
      decide +kernel
    · rw [kv_hi h1, kv_hi h2]
      by_cases h3 : r % 4503599627370496 + 1 < 4503599627370496
      · have e1 : (r + 1) % 4503599627370496 = r % 4503599627370496 + 1 := by omega
        have e2 : (r + 1) / 4503599627370496 = r / 4503599627370496 := by omega
        rw [e1, e2, ← Nat.add_assoc, Nat.add_mul]
        omega
      · have e1 : (r + 1) % 4503599627370496 = 0 := by omega
        have e2 : (r + 1) / 4503599627370496 - 1 = r / 4503599627370496 - 1 + 1 := by omega
        have e3 : r % 4503599627370496 = 4503599627370495 := by omega
        rw [e1, e2, e3, Nat.pow_succ]
        generalize 2 ^ (r / 4503599627370496 - 1) = z
        omega
theorem kv_lt_succ (r : Nat) : kv r < kv (r + 1) := by
  rw [kv_succ]; have := Nat.pow_pos (n := kx r) (show 0 < 2 by decide); omega
theorem kv_mono {a b : Nat} (h : a ≤ b) : kv a ≤ kv b := by
  obtain ⟨d, rfl⟩ : ∃ d, b = a + d := ⟨b - a, by omega⟩
  clear h
  induction d with
  | zero => exact Nat.le_refl _
  | succ d ih => have := kv_lt_succ (a + d); rw [← Nat.add_assoc]; omega
theorem kv_strict {a b : Nat} (h : a < b) : kv a < kv b := Nat.lt_of_lt_of_le (kv_lt_succ a) (kv_mono h)
/-- The value of a rung, put together of an exponent and a significand. -/
theorem kv_make {j m : Nat} (h1 : m < 9007199254740992) (h2 : j = 0 ∨ 4503599627370496 ≤ m) : kv (j * 4503599627370496 + m) = m * 2 ^ j ∧ kx (j * 4503599627370496 + m) = j := by
  by_cases h : j * 4503599627370496 + m < 4503599627370496
  · have hj : j = 0 := by omega
    subst hj
    rw [kv_lo h]
    unfold kx
    constructor <;> omega
  · by_cases hm : m < 4503599627370496
    · exfalso; omega
    · have e1 : (j * 4503599627370496 + m) % 4503599627370496 = m - 4503599627370496 := by omega
      have e2 : (j * 4503599627370496 + m) / 4503599627370496 - 1 = j := by omega
      rw [kv_hi h]
      unfold kx
      rw [e1, e2]
      exact ⟨by rw [show 4503599627370496 + (m - 4503599627370496) = m from by omega], rfl⟩

/-- The rung nearest to X / D (in units of the least float); between two the even one; infinity's, if it is too great. -/
structure Near (X D r : Nat) : Prop where
  cap : r ≤ 9218868437227405312
  low : r = 0 ∨ (kv (r - 1) + kv r) * D < 2 * X ∨ ((kv (r - 1) + kv r) * D = 2 * X ∧ r % 2 = 0)
  high : r = 9218868437227405312 ∨ 2 * X < (kv r + kv (r + 1)) * D ∨ (2 * X = (kv r + kv (r + 1)) * D ∧ r % 2 = 0)
theorem Near.not_lt {X D r s : Nat} (hD : 0 < D) (h : Near X D r) (k : Near X D s) (hl : r < s) : False := by
  have h1 := h.high
  have h2 := k.low
  have h3 := k.cap
  rcases h2 with h2 | h2
  · omega
  rcases h1 with h1 | h1
  · omega
  by_cases e : s = r + 1
  · subst e
    rw [Nat.add_sub_cancel] at h2
    omega
  · have m1 : kv (r + 1) ≤ kv (s - 1) := kv_mono (by omega)
    have m2 : kv r < kv s := kv_strict hl
    have m3 : (kv r + kv (r + 1) + 1) * D ≤ (kv (s - 1) + kv s) * D := Nat.mul_le_mul_right D (by omega)
    rw [Nat.add_mul _ 1 D] at m3
    omega
theorem Near.one {X D r s : Nat} (hD : 0 < D) (h : Near X D r) (k : Near X D s) : r = s := by
  rcases Nat.lt_trichotomy r s with h1 | h1 | h1
  · exact (h.not_lt hD k h1).elim
  · exact h1
  · exact (k.not_lt hD h h1).elim
/-- The same quotient, the same rung. -/
theorem Near.scale {X D Y E r : Nat} (hD : 0 < D) (hE : 0 < E) (h : Near X D r) (e : X * E = Y * D) : Near Y E r := by
  have key : ∀ v : Nat, (v * D < 2 * X ↔ v * E < 2 * Y) ∧ (v * D = 2 * X ↔ v * E = 2 * Y) ∧ (2 * X < v * D ↔ 2 * Y < v * E) := by
    intro v
    have e1 : v * D * E = v * E * D := by rw [Nat.mul_assoc, Nat.mul_comm D E, Nat.mul_assoc]
    have e2 : 2 * X * E = 2 * Y * D := by rw [Nat.mul_assoc, e, Nat.mul_assoc]
    have l1 : v * D < 2 * X ↔ v * D * E < 2 * X * E := (Nat.mul_lt_mul_right hE).symm
    have l2 : v * E < 2 * Y ↔ v * E * D < 2 * Y * D := (Nat.mul_lt_mul_right hD).symm
    have l3 : 2 * X < v * D ↔ 2 * X * E < v * D * E := (Nat.mul_lt_mul_right hE).symm
    have l4 : 2 * Y < v * E ↔ 2 * Y * D < v * E * D := (Nat.mul_lt_mul_right hD).symm
    rw [e1, e2] at l1 l3
    have a1 : v * D < 2 * X ↔ v * E < 2 * Y := l1.trans l2.symm
    have a3 : 2 * X < v * D ↔ 2 * Y < v * E := l3.trans l4.symm
    exact ⟨a1, by omega, a3⟩
  obtain ⟨a1, a2, a3⟩ := key (kv (r - 1) + kv r)
  obtain ⟨b1, b2, b3⟩ := key (kv r + kv (r + 1))
  refine ⟨h.cap, ?_, ?_⟩
  · rcases h.low with x | x | ⟨x, y⟩
    · exact .inl x
    · exact .inr (.inl (a1.1 x))
    · exact .inr (.inr ⟨a2.1 x, y⟩)
  · rcases h.high with x | x | ⟨x, y⟩
    · exact .inl x
    · exact .inr (.inl (b3.1 x))
    · exact .inr (.inr ⟨(b2.1 x.symm).symm, y⟩)
/-- Found from the rung below: up, where the middle lies below, or is met and the rung is odd. -/
theorem near_of {X D lo : Nat} (hD : 0 < D) (h1 : kv lo * D ≤ X) (h2 : lo + 1 = 9218868437227405312 ∨ X < kv (lo + 1) * D) (hlo : lo < 9218868437227405312) {up : Bool}
    (hup : up = true ↔ (kv lo + kv (lo + 1)) * D < 2 * X ∨ ((kv lo + kv (lo + 1)) * D = 2 * X ∧ lo % 2 = 1)) : Near X D (lo + up.toNat) := by
  cases up with
  | true =>
    have hu := hup.1 rfl
    show Near X D (lo + 1)
    refine ⟨by omega, .inr ?_, ?_⟩
    · rw [Nat.add_sub_cancel]; omega
    · rcases h2 with h2 | h2
      · exact .inl h2
      · refine .inr (.inl ?_)
        have m := kv_lt_succ (lo + 1)
        have m2 : (kv (lo + 1) + kv (lo + 1)) * D ≤ (kv (lo + 1) + kv (lo + 1 + 1)) * D := Nat.mul_le_mul_right D (by omega)
        rw [Nat.add_mul] at m2
        omega
  | false =>
    have hu : ¬ ((kv lo + kv (lo + 1)) * D < 2 * X ∨ ((kv lo + kv (lo + 1)) * D = 2 * X ∧ lo % 2 = 1)) := fun h => by cases hup.2 h
    show Near X D (lo + 0)
    rw [Nat.add_zero]
    refine ⟨by omega, ?_, .inr (by omega)⟩
    by_cases h0 : lo = 0
    · exact .inl h0
    · refine .inr (.inl ?_)
      have m := kv_lt_succ (lo - 1)
      rw [show lo - 1 + 1 = lo from by omega] at m
      have m2 : (kv (lo - 1) + kv lo) * D < (kv lo + kv lo) * D := (Nat.mul_lt_mul_right hD).2 (by omega)
      rw [Nat.add_mul (kv lo)] at m2
      omega
theorem over_lt {X D lo T : Nat} (hD : 0 < D) (hT : 1 ≤ T) (hlo : T ≤ lo) (h1 : kv lo * D ≤ X) : (kv (T - 1) + kv T) * D < 2 * X := by
  have m := kv_mono hlo
  have m1 := kv_lt_succ (T - 1)
  rw [show T - 1 + 1 = T from by omega] at m1
  have m2 : (kv (T - 1) + kv T) * D < (kv lo + kv lo) * D := (Nat.mul_lt_mul_right hD).2 (by omega)
  rw [Nat.add_mul (kv lo)] at m2
  omega
/-- Found without a bound, and then cut at infinity. -/
theorem near_cut {X D lo : Nat} (hD : 0 < D) (h1 : kv lo * D ≤ X) (h2 : X < kv (lo + 1) * D) {up : Bool}
    (hup : up = true ↔ (kv lo + kv (lo + 1)) * D < 2 * X ∨ ((kv lo + kv (lo + 1)) * D = 2 * X ∧ lo % 2 = 1)) : Near X D (min (lo + up.toNat) 9218868437227405312) := by
  by_cases hlo : lo < 9218868437227405312
  · have := near_of hD h1 (.inr h2) hlo hup
    rwa [Nat.min_eq_left this.cap]
  · rw [Nat.min_eq_right (by omega)]
    exact ⟨Nat.le_refl _, .inr (.inl (over_lt hD (by decide) (by omega) h1)), .inl rfl⟩
/-- How the program finds it: A / d = q, cut to the digits from place s on (s - K above that of the least float), then rounded by the half, what lies below it, and what is left over. -/
theorem near_shr {A d K s q m0 : Nat} {half rest : Bool} (hd : 0 < d) (hq : q = A / d) (hs : 1 ≤ s) (hK : K ≤ s) (hm : m0 = q / 2 ^ s) (hm1 : m0 < 9007199254740992) (hm2 : s = K ∨ 4503599627370496 ≤ m0)
    (hh : half = true ↔ q / 2 ^ (s - 1) % 2 = 1) (hr : rest = true ↔ (q % 2 ^ (s - 1) ≠ 0 ∨ A % d ≠ 0)) :
    Near A (d * 2 ^ K) (min ((s - K) * 4503599627370496 + m0 + (half && (rest || m0 % 2 == 1)).toNat) 9218868437227405312) := by
  obtain ⟨k1, k2⟩ := kv_make (j := s - K) hm1 (by omega)
  have hD : 0 < d * 2 ^ K := Nat.mul_pos hd (Nat.pow_pos (by decide))
  have k3 := kv_succ ((s - K) * 4503599627370496 + m0)
  rw [k1, k2] at k3
  -- the quotient by its parts
  obtain ⟨t, rfl⟩ : ∃ t, s = t + 1 := ⟨s - 1, by omega⟩
  rw [Nat.add_sub_cancel] at hh hr
  have hT : 0 < 2 ^ t := Nat.pow_pos (by decide)
  have p1 : 2 ^ (t + 1) = 2 * 2 ^ t := by rw [Nat.pow_succ, Nat.mul_comm]
  have p2 : 2 ^ (t + 1 - K) * 2 ^ K = 2 ^ (t + 1) := by rw [← Nat.pow_add]; congr 1; omega
  have q1 : q = q / 2 ^ t * 2 ^ t + q % 2 ^ t := by rw [Nat.mul_comm]; exact (Nat.div_add_mod q (2 ^ t)).symm
  have q2 : q / 2 ^ t = 2 * m0 + q / 2 ^ t % 2 := by
    have : q / 2 ^ (t + 1) = q / 2 ^ t / 2 := by rw [Nat.pow_succ, Nat.div_div_eq_div_mul]
    omega
  have q3 : q % 2 ^ t < 2 ^ t := Nat.mod_lt _ hT
  have a1 : A = q * d + A % d := by rw [hq, Nat.mul_comm]; exact (Nat.div_add_mod A d).symm
  have a2 : A % d < d := Nat.mod_lt _ hd
  -- everything in units of d * 2 ^ t
  have u1 : kv ((t + 1 - K) * 4503599627370496 + m0) * (d * 2 ^ K) = 2 * m0 * (d * 2 ^ t) := by
    rw [k1, show m0 * 2 ^ (t + 1 - K) * (d * 2 ^ K) = m0 * d * (2 ^ (t + 1 - K) * 2 ^ K) from by simp only [Nat.mul_comm, Nat.mul_left_comm, Nat.mul_assoc], p2, p1]
    simp only [Nat.mul_comm, Nat.mul_left_comm, Nat.mul_assoc]
  have u2 : 2 ^ (t + 1 - K) * (d * 2 ^ K) = 2 * (d * 2 ^ t) := by
    rw [show 2 ^ (t + 1 - K) * (d * 2 ^ K) = d * (2 ^ (t + 1 - K) * 2 ^ K) from by rw [← Nat.mul_assoc, Nat.mul_comm _ d, Nat.mul_assoc], p2, p1]
    rw [← Nat.mul_assoc, Nat.mul_comm d 2, Nat.mul_assoc]
  have u3 : kv ((t + 1 - K) * 4503599627370496 + m0 + 1) * (d * 2 ^ K) = 2 * m0 * (d * 2 ^ t) + 2 * (d * 2 ^ t) := by
    rw [k3, ← k1, Nat.add_mul, u1, u2]
  generalize hb : q / 2 ^ t % 2 = b at *
  generalize hl : q % 2 ^ t = l at *
  have hb2 : b < 2 := by omega
  have a3 : A = 2 * m0 * (d * 2 ^ t) + b * (d * 2 ^ t) + (l * d + A % d) := by
    conv => lhs; rw [a1, q1, q2]
    rw [Nat.add_mul, Nat.add_mul, Nat.add_mul]
    have : ∀ x : Nat, x * 2 ^ t * d = x * (d * 2 ^ t) := fun x => by rw [Nat.mul_assoc, Nat.mul_comm (2 ^ t)]
    rw [this, this]; omega
  have a4 : l * d + A % d < d * 2 ^ t := by
    have h1 : (l + 1) * d ≤ 2 ^ t * d := Nat.mul_le_mul_right d q3
    rw [Nat.add_mul] at h1
    rw [Nat.mul_comm d]; omega
  have a5 : (l * d + A % d = 0) ↔ (l = 0 ∧ A % d = 0) := by
    constructor
    · intro h
      have : l * d = 0 := by omega
      rcases Nat.mul_eq_zero.1 this with h1 | h1
      · exact ⟨h1, by omega⟩
      · omega
    · rintro ⟨rfl, h⟩; rw [h]; simp
  have hlo2 : ((t + 1 - K) * 4503599627370496 + m0) % 2 = m0 % 2 := by omega
  refine near_cut hD (by rw [u1]; omega) (by rw [u3]; rcases Nat.lt_or_ge b 1 with h | h <;> (first | (have : b = 0 := by omega) | (have : b = 1 := by omega)) <;> subst this <;> omega) ?_
  rw [Nat.add_mul, u1, u3, hlo2]
  generalize hz : l * d + A % d = z at *
  generalize d * 2 ^ t = U at *
  generalize 2 * m0 * U = V at *
  have hb3 : b = 0 ∨ b = 1 := by omega
  rcases hb3 with rfl | rfl
  · have : half = false := by cases half with
      | false => rfl
      | true => exact absurd (hh.1 rfl) (by decide)
    subst this
    constructor
    · intro h; cases h
    · intro h; omega
  · have : half = true := hh.2 rfl
    subst this
    rcases hrs : rest with _ | _
    · have hz0 : z = 0 := a5.2 (by
        have : ¬ (l ≠ 0 ∨ A % d ≠ 0) := fun h => by rw [hr.2 h] at hrs; cases hrs
        constructor
        · exact Classical.byContradiction fun h => this (.inl h)
        · exact Classical.byContradiction fun h => this (.inr h))
      simp
      constructor
      · intro h; exact .inr ⟨by omega, h⟩
      · rintro (h | ⟨_, h⟩)
        · omega
        · exact h
    · have hz1 : z ≠ 0 := fun h => by
        have := a5.1 h
        rcases hr.1 hrs with h1 | h1
        · exact h1 this.1
        · exact h1 this.2
      simp
      left; omega
end Go.Proofs.YtcohidjaehdbnaaGreatDoor
