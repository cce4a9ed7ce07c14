/- Plain law: strconv's shortest digits of a rung, by its table, are the document's (no program). Conditions: a rung above nought, below infinity's. -/
import Derived.Test.YthoifpapdefheaaGreatDoorXd
namespace Go.Proofs.YthoifpapdefheaaGreatDoor
set_option linter.unusedVariables false

/-- The shift, with z places below the rung's whole number. -/
def shM (m z : Nat) : Nat := ((z : Int) - mexp m - lpI (pM m) - 3).toNat
/-- What uscale says of x. -/
def uAt (m z x : Nat) : Nat := usN x (hiN (pM m)) (loN (pM m)) (2 ^ shM m z)
/-- The ends. -/
def xLo (m z : Nat) : Nat := mman m * 2 ^ z - dlM m * 2 ^ (z - 2)
def xHi (m z : Nat) : Nat := mman m * 2 ^ z + 2 ^ (z - 1)
def aM (m z : Nat) : Nat := (uAt m z (xLo m z) + m % 2 + 3) / 4
def bM (m z : Nat) : Nat := (uAt m z (xHi m z) - m % 2) / 4
/-- The answer: digits, and the power of ten of the last one. -/
def dM (m z : Nat) : Nat := if aM m z ≤ bM m z / 10 * 10 then bM m z / 10 else if aM m z < bM m z then (uAt m z (mman m * 2 ^ z) + 1 + uAt m z (mman m * 2 ^ z) / 4 % 2) / 4 else aM m z
def eM (m z : Nat) : Int := if aM m z ≤ bM m z / 10 * 10 then 1 - pM m else -pM m
theorem regroup {c a0 a2 a3 a4 a5 a6 a7 a8 : Nat} (e : a0 * 512 * a3 * a4 = 4 * a5 * a2 * a6) : c * a0 * 512 * (a7 * a3) * (a4 * a8) = 4 * (c * (a5 * a7)) * (a2 * (a8 * a6)) := by
  calc c * a0 * 512 * (a7 * a3) * (a4 * a8) = c * (a0 * 512 * a3 * a4) * (a7 * a8) := by ac_rfl
    _ = c * (4 * a5 * a2 * a6) * (a7 * a8) := by rw [e]
    _ = _ := by ac_rfl
theorem uAt_eq {m z c : Nat} (h1 : m < 9218868437227405312) (hz : 11 ≤ z) (hz2 : z ≤ 63) (hc0 : 0 < c) (hc : c * 2 ^ (z - 2) < 18446744073709551616) :
    uAt m z (c * 2 ^ (z - 2)) = urN (4 * (c * w4N (mexp m) (pM m))) (d4N (mexp m) (pM m)) ∧ shM m z ≤ 63 := by
  have hk := kOkM h1
  have k1 := hk.p1
  have k2 := hk.p2
  have k3 := hk.s1
  have k4 := hk.s2
  have k5 := (mexp_bd (m := m) (by omega)).1
  have hx : c * 2 ^ (z - 2) = c * 2 ^ (z - 11) * 512 := by
    rw [Nat.mul_assoc, show 512 = 2 ^ 9 from rfl, ← Nat.pow_add, show z - 2 = z - 11 + 9 from by omega]
  have hs : shM m z = (8 - mexp m - lpI (pM m)).toNat + (z - 11) := by unfold shM; omega
  obtain ⟨u1, _⟩ := us_all (p := pM m) (s := shM m z) (t := c * 2 ^ (z - 11)) k1 k2 (by omega) (Nat.mul_pos hc0 (Nat.pow_pos (by decide))) (by omega)
  unfold uAt
  rw [hx, u1]
  refine ⟨urN_congr (Nat.mul_pos (Nat.mul_pos (by decide) (Nat.pow_pos (by decide))) (d0N_pos _)) (d4N_pos _ _) ?_, by omega⟩
  have hsh : ((shM m z : Nat) : Int) = (z : Int) - mexp m - lpI (pM m) - 3 := by unfold shM; omega
  unfold n0N d0N w4N d4N tenN
  generalize mexp m = k at *
  generalize pM m = p at *
  generalize shM m z = s at *
  generalize lpI p = lp at *
  have e1 : 2 ^ (z - 11) * 512 * 2 ^ (127 - lp).toNat * 2 ^ (2 - k).toNat = 4 * 2 ^ (k - 2).toNat * (340282366920938463463374607431768211456 * 2 ^ s) * 2 ^ (lp - 127).toNat := by
    rw [show (340282366920938463463374607431768211456 : Nat) = 2 ^ 128 from rfl, show (512 : Nat) = 2 ^ 9 from rfl, show (4 : Nat) = 2 ^ 2 from rfl]
    simp only [← Nat.pow_add]
    congr 1
    omega
  exact regroup e1
theorem dlM_12 (m : Nat) : (dlM m = 1 ∨ dlM m = 2) := by unfold dlM; split <;> omega
/-- The interval of a rung, and its ends as uscale finds them. -/
theorem ivlM {m z : Nat} (h0 : 0 < m) (h1 : m < 9218868437227405312) (hz : 11 ≤ z) (hz2 : z ≤ 63) (hM : mman m * 2 ^ z < 18446744073709551616) :
    Ivl (mman m) (dlM m) (w4N (mexp m) (pM m)) (d4N (mexp m) (pM m)) (aM m z) (bM m z) (m % 2 = 0) := by
  have hk := kOkM h1
  have hw := w4N_pos (mexp m) (pM m)
  have hD := d4N_pos (mexp m) (pM m)
  have hM1 := mman_one h0
  have hd := dlM_12 m
  have e4 : 2 ^ z = 4 * 2 ^ (z - 2) := by rw [show (4 : Nat) = 2 ^ 2 from rfl, ← Nat.pow_add]; congr 1; omega
  have e2 : 2 ^ (z - 1) = 2 * 2 ^ (z - 2) := by rw [← Nat.pow_succ']; congr 1; omega
  have hP : 0 < 2 ^ (z - 2) := Nat.pow_pos (by decide)
  have xl : xLo m z = (4 * mman m - dlM m) * 2 ^ (z - 2) := by
    unfold xLo
    rw [e4, Nat.sub_mul]
    congr 1
    ac_rfl
  have xh : xHi m z = (4 * mman m + 2) * 2 ^ (z - 2) := by
    unfold xHi
    rw [e4, e2, Nat.add_mul]
    congr 1
    ac_rfl
  have hMq : (4 * mman m + 2) * 2 ^ (z - 2) < 18446744073709551616 := by
    have hlt : mman m < 2 ^ (64 - z) := by
      refine Nat.lt_of_mul_lt_mul_right (a := 2 ^ z) ?_
      rw [← Nat.pow_add, show 64 - z + z = 64 from by omega]
      exact hM
    have h2 : (mman m + 1) * 2 ^ z ≤ 2 ^ (64 - z) * 2 ^ z := Nat.mul_le_mul_right _ hlt
    rw [← Nat.pow_add, show 64 - z + z = 64 from by omega] at h2
    have e5 : (mman m + 1) * 2 ^ z = (4 * mman m + 2) * 2 ^ (z - 2) + 2 * 2 ^ (z - 2) := by
      rw [e4, ← Nat.add_mul, Nat.add_assoc, show 4 * mman m + (2 + 2) = 4 * (mman m + 1) from by omega]
      ac_rfl
    have : (2 : Nat) ^ 64 = 18446744073709551616 := rfl
    omega
  have hlq : (4 * mman m - dlM m) * 2 ^ (z - 2) < 18446744073709551616 := Nat.lt_of_le_of_lt (Nat.mul_le_mul_right _ (by omega)) hMq
  have uL := (uAt_eq (m := m) (z := z) (c := 4 * mman m - dlM m) h1 hz hz2 (by omega) hlq).1
  have uH := (uAt_eq (m := m) (z := z) (c := 4 * mman m + 2) h1 hz hz2 (by omega) hMq).1
  rw [← xl] at uL
  rw [← xh] at uH
  have wide := hk.wide
  have slim := hk.slim
  have hten : 4 * mman m * w4N (mexp m) (pM m) < 10 * d4N (mexp m) (pM m) → 10 ≤ bM m z → 19 * d4N (mexp m) (pM m) ≤ 2 * (4 * mman m * w4N (mexp m) (pM m)) := by
    intro t1 t2
    by_cases hm : m < 4503599627370496
    · have hmm : mman m = m := by unfold mman; rw [if_pos hm]
      have hme : mexp m = -1074 := by unfold mexp; rw [if_pos hm]
      have hdl : dlM m = 2 := by unfold dlM; rw [if_neg (by omega)]
      have hpm : pM m = 324 := by unfold pM; rw [if_neg (by omega), hme]; decide
      have n1 : 10 * d4N (-1074) 324 ≤ 12 * w4N (-1074) 324 := by decide +kernel
      have n2 : 6 * w4N (-1074) 324 < 10 * d4N (-1074) 324 := by decide +kernel
      have n3 : 19 * d4N (-1074) 324 ≤ 16 * w4N (-1074) 324 := by decide +kernel
      have t3 : 10 * d4N (mexp m) (pM m) ≤ (4 * mman m + 2) * w4N (mexp m) (pM m) := by
        unfold bM at t2
        rw [uH] at t2
        have : 10 ≤ urN (4 * ((4 * mman m + 2) * w4N (mexp m) (pM m))) (d4N (mexp m) (pM m)) / 4 := by omega
        exact (ur_floor hD 10).1 this
      rw [hme, hpm] at t1 t3 ⊢
      rw [hmm] at t1 t3 ⊢
      generalize w4N (-1074) 324 = w at *
      generalize d4N (-1074) 324 = D at *
      have c1 : m < 3 := by
        rcases Nat.lt_or_ge m 3 with q | q
        · exact q
        · have : 12 * w ≤ 4 * m * w := Nat.mul_le_mul_right w (by omega)
          omega
      have c2 : m ≠ 1 := fun e => by subst e; omega
      have c3 : m = 2 := by omega
      subst c3
      omega
    · exfalso
      have hmm : 4503599627370496 ≤ mman m := by unfold mman; rw [if_neg hm]; omega
      have : 4 * 4503599627370496 * w4N (mexp m) (pM m) ≤ 4 * mman m * w4N (mexp m) (pM m) := Nat.mul_le_mul_right _ (by omega)
      have : (2 + dlM m) * w4N (mexp m) (pM m) ≤ 4 * w4N (mexp m) (pM m) := Nat.mul_le_mul_right _ (by omega)
      omega
  refine ⟨hD, hw, by omega, by omega, fun hd1 => ?_, hM1, wide, slim, fun c => ?_, fun c => ?_, hten⟩
  · unfold dlM at hd1
    split at hd1
    · omega
    · cases hd1
  · unfold aM
    rw [uL]
    have eA : (4 * mman m - dlM m) * w4N (mexp m) (pM m) + dlM m * w4N (mexp m) (pM m) = 4 * mman m * w4N (mexp m) (pM m) := by
      rw [← Nat.add_mul, Nat.sub_add_cancel (by omega)]
    rcases Nat.mod_two_eq_zero_or_one m with e | e
    · rw [e, Nat.add_zero, ur_ceil hD]
      omega
    · rw [e, ur_ceil1 hD]
      omega
  · unfold bM
    rw [uH]
    have eA : (4 * mman m + 2) * w4N (mexp m) (pM m) = 4 * mman m * w4N (mexp m) (pM m) + 2 * w4N (mexp m) (pM m) := Nat.add_mul _ _ _
    rcases Nat.mod_two_eq_zero_or_one m with e | e
    · rw [e, Nat.sub_zero, ur_floor hD]
      omega
    · rw [e, ur_floor1 hD (Nat.mul_pos (by omega) hw)]
      omega
end Go.Proofs.YthoifpapdefheaaGreatDoor
