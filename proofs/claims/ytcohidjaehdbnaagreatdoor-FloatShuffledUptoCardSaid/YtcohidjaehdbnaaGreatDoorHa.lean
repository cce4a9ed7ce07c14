/- Plain facts: how two floats stand to each other by Go's own order, by what they stand for, and by the key (no program). Conditions: bits below 2^64. -/
import Derived.Test.YtcohidjaehdbnaaGreatDoorNs
import Derived.Test.YtcohidjaehdbnaaGreatDoorNi
namespace Go.Proofs.YtcohidjaehdbnaaGreatDoor
set_option linter.unusedVariables false

/-- What a finite float stands for, in units of the least one. -/
def fval (b : Nat) : Int := if fsgn b then -(kv (fmag b) : Int) else (kv (fmag b) : Int)

theorem rd_fin {a : Nat} (ha : a < 18446744073709551616) (hf : ffin a = true) : Ieee.double.read a = .number (fsgn a) (psig (fmag a)) (-1074 + ((kx (fmag a) : Nat) : Int)) := by
  have hf' : a % 9223372036854775808 < 9218868437227405312 := of_decide_eq_true hf
  unfold Ieee.Format.read
  rw [df_sw, df_bin, df_inf, df_least]
  unfold psig kx fmag fsgn
  have hs : (a / 9223372036854775808 % 2 == 1) = !decide (a < 9223372036854775808) := by
    by_cases h : a < 9223372036854775808
    · have : a / 9223372036854775808 = 0 := by omega
      rw [this, decide_eq_true h]; rfl
    · have : a / 9223372036854775808 = 1 := by omega
      rw [this, decide_eq_false h]; rfl
  by_cases h : a % 9223372036854775808 < 4503599627370496
  · simp only [if_pos h, hs]
    rw [show a % 9223372036854775808 / 4503599627370496 - 1 = 0 from by omega]; rfl
  · simp only [if_neg h, if_pos hf', hs]
theorem rd_inf {a : Nat} (ha : a < 18446744073709551616) (hf : finf a = true) : Ieee.double.read a = .infinity (fsgn a) := by
  have hf' : a % 9223372036854775808 = 9218868437227405312 := of_decide_eq_true hf
  unfold Ieee.Format.read
  rw [df_sw, df_bin, df_inf, df_least]
  unfold fsgn
  have hs : (a / 9223372036854775808 % 2 == 1) = !decide (a < 9223372036854775808) := by
    by_cases h : a < 9223372036854775808
    · have : a / 9223372036854775808 = 0 := by omega
      rw [this, decide_eq_true h]; rfl
    · have : a / 9223372036854775808 = 1 := by omega
      rw [this, decide_eq_false h]; rfl
  simp only [if_neg (show ¬ a % 9223372036854775808 < 4503599627370496 by omega), if_neg (show ¬ a % 9223372036854775808 < 9218868437227405312 by omega), if_pos hf', hs]
theorem rd_nan {a : Nat} (h : fnan a = true) : ∃ s t, Ieee.double.read a = .nan s t := by
  have h' := fnan_yes h
  unfold Ieee.Format.read
  rw [df_sw, df_bin, df_inf, df_least]
  simp only [if_neg (show ¬ a % 9223372036854775808 < 4503599627370496 by omega), if_neg (show ¬ a % 9223372036854775808 < 9218868437227405312 by omega), if_neg (show ¬ a % 9223372036854775808 = 9218868437227405312 by omega)]
  exact ⟨_, _, rfl⟩
theorem shl_val {s : Bool} {m k K : Nat} (h : k ≤ K) : Ieee.signed s m (K - k) * (2 ^ k : Nat) = if s then -((m * 2 ^ K : Nat) : Int) else ((m * 2 ^ K : Nat) : Int) := by
  unfold Ieee.signed
  rw [Nat.shiftLeft_eq]
  have e : m * 2 ^ (K - k) * 2 ^ k = m * 2 ^ K := by rw [Nat.mul_assoc, ← Nat.pow_add, show K - k + k = K from by omega]
  generalize m * 2 ^ (K - k) = x at *
  rw [← e]
  cases s
  · simp
  · simp [Int.neg_mul]
theorem compare_scale {x y : Int} {k : Nat} (hk : 0 < k) : compare (x * (k : Int)) (y * (k : Int)) = compare x y := by
  have hk' : (0 : Int) < k := by omega
  rcases Int.lt_trichotomy x y with h | h | h
  · rw [Int.compare_eq_lt.2 h, Int.compare_eq_lt.2 (Int.mul_lt_mul_of_pos_right h hk')]
  · subst h; rw [Int.compare_eq_eq.2 rfl, Int.compare_eq_eq.2 rfl]
  · rw [Int.compare_eq_gt.2 h, Int.compare_eq_gt.2 (Int.mul_lt_mul_of_pos_right h hk')]
/-- Two finite floats stand to each other as what they stand for. -/
theorem order_fin {a b : Nat} (ha : a < 18446744073709551616) (hb : b < 18446744073709551616) (fa : ffin a = true) (fb : ffin b = true) : Ieee.double.order a b = some (compare (fval a) (fval b)) := by
  unfold Ieee.Format.order
  rw [rd_fin ha fa, rd_fin hb fb]
  unfold Ieee.Datum.order
  simp only []
  congr 1
  obtain ⟨k, hk1, hk2, hk3⟩ : ∃ k, (k = kx (fmag a) ∨ k = kx (fmag b)) ∧ k ≤ kx (fmag a) ∧ k ≤ kx (fmag b) := by
    rcases Nat.le_total (kx (fmag a)) (kx (fmag b)) with h | h
    · exact ⟨_, .inl rfl, Nat.le_refl _, h⟩
    · exact ⟨_, .inr rfl, h, Nat.le_refl _⟩
  have hmin : min (-1074 + ((kx (fmag a) : Nat) : Int)) (-1074 + ((kx (fmag b) : Nat) : Int)) = -1074 + (k : Int) := by rcases hk1 with h | h <;> omega
  rw [hmin]
  have e1 : (-1074 + ((kx (fmag a) : Nat) : Int) - (-1074 + (k : Int))).toNat = kx (fmag a) - k := by omega
  have e2 : (-1074 + ((kx (fmag b) : Nat) : Int) - (-1074 + (k : Int))).toNat = kx (fmag b) - k := by omega
  rw [e1, e2, ← compare_scale (k := 2 ^ k) (Nat.pow_pos (by decide)), shl_val hk2, shl_val hk3, ← kv_psig, ← kv_psig]
  rfl
theorem kv_le_iff {a b : Nat} : kv a ≤ kv b ↔ a ≤ b := ⟨fun h => Nat.le_of_not_lt fun k => absurd (kv_strict k) (by omega), kv_mono⟩
theorem kv_zero : kv 0 = 0 := rfl
theorem kv_pos_iff {a : Nat} : 0 < kv a ↔ 0 < a := by
  constructor
  · intro h; rcases Nat.eq_zero_or_pos a with e | e
    · rw [e, kv_zero] at h; omega
    · exact e
  · intro h; have := kv_strict h; rw [kv_zero] at this; exact this
theorem fkey_fin {b : Nat} (hb : b < 18446744073709551616) (h : fnan b = false) : (fsgn b = false ∧ fkey b = 9218868437227405313 + fmag b) ∨ (fsgn b = true ∧ fkey b + fmag b = 9218868437227405312 ∧ fmag b ≤ 9218868437227405312) := by
  have hn := fnan_no h
  unfold fkey fsgn fmag
  rw [h]
  by_cases hs : b < 9223372036854775808
  · left
    rw [decide_eq_true hs, if_neg (by decide), if_pos hs]
    exact ⟨rfl, by omega⟩
  · right
    rw [decide_eq_false hs, if_neg (by decide), if_neg hs]
    exact ⟨rfl, by omega, by omega⟩
/-- What Go's own < says, the key says. -/
theorem lt_key {a b : Nat} (ha : a < 18446744073709551616) (hb : b < 18446744073709551616) (h : Ieee.double.order a b = some .lt) : fkey a < fkey b := by
  rcases fcases a with ⟨na, fa, ia⟩ | ⟨na, fa, ia⟩ | ⟨na, fa, ia⟩
  · obtain ⟨s, t, e⟩ := rd_nan na
    unfold Ieee.Format.order at h
    rw [e] at h
    simp [Ieee.Datum.order] at h
  all_goals rcases fcases b with ⟨nb, fb, ib⟩ | ⟨nb, fb, ib⟩ | ⟨nb, fb, ib⟩
  · obtain ⟨s, t, e⟩ := rd_nan nb
    unfold Ieee.Format.order at h
    rw [e, rd_inf ha ia] at h
    simp [Ieee.Datum.order] at h
  · have ma : fmag a = 9218868437227405312 := of_decide_eq_true ia
    have mb : fmag b = 9218868437227405312 := of_decide_eq_true ib
    unfold Ieee.Format.order at h
    rw [rd_inf hb ib, rd_inf ha ia] at h
    rcases fkey_fin ha na with ⟨sa, ka⟩ | ⟨sa, ka, _⟩ <;> rcases fkey_fin hb nb with ⟨sb, kb⟩ | ⟨sb, kb, _⟩ <;> rw [sa, sb] at h
    · exact absurd h (by decide)
    · exact absurd h (by decide)
    · omega
    · exact absurd h (by decide)
  · have ma : fmag a = 9218868437227405312 := of_decide_eq_true ia
    have mb : fmag b < 9218868437227405312 := of_decide_eq_true fb
    unfold Ieee.Format.order at h
    rw [rd_fin hb fb, rd_inf ha ia] at h
    rcases fkey_fin ha na with ⟨sa, ka⟩ | ⟨sa, ka, _⟩ <;> rcases fkey_fin hb nb with ⟨sb, kb⟩ | ⟨sb, kb, _⟩ <;> rw [sa] at h
    · simp [Ieee.Datum.order] at h
    · simp [Ieee.Datum.order] at h
    · omega
    · omega
  · obtain ⟨s, t, e⟩ := rd_nan nb
    unfold Ieee.Format.order at h
    rw [e, rd_fin ha fa] at h
    simp [Ieee.Datum.order] at h
  · have mb : fmag b = 9218868437227405312 := of_decide_eq_true ib
    have ma : fmag a < 9218868437227405312 := of_decide_eq_true fa
    unfold Ieee.Format.order at h
    rw [rd_fin ha fa, rd_inf hb ib] at h
    rcases fkey_fin ha na with ⟨sa, ka⟩ | ⟨sa, ka, _⟩ <;> rcases fkey_fin hb nb with ⟨sb, kb⟩ | ⟨sb, kb, _⟩ <;> rw [sb] at h
    · omega
    · simp [Ieee.Datum.order] at h
    · omega
    · simp [Ieee.Datum.order] at h
  · rw [order_fin ha hb fa fb, Option.some.injEq, Int.compare_eq_lt] at h
    unfold fval at h
    rcases fkey_fin ha na with ⟨sa, ka⟩ | ⟨sa, ka, _⟩ <;> rcases fkey_fin hb nb with ⟨sb, kb⟩ | ⟨sb, kb, _⟩ <;> rw [sa, sb] at h
    · simp only [Bool.false_eq_true, if_false] at h
      have : ¬ fmag b ≤ fmag a := fun k => by have := kv_mono k; omega
      omega
    · simp only [Bool.false_eq_true, if_false, if_true] at h
      omega
    · omega
    · simp only [if_true] at h
      have : ¬ fmag a ≤ fmag b := fun k => by have := kv_mono k; omega
      omega
/-- The key is one to one on what is told apart. -/
theorem key_one {a b : Nat} (ha : a < 18446744073709551616) (hb : b < 18446744073709551616) : fkey a = fkey b ↔ fone a = fone b := by
  have na := @fnan_no a
  have nb := @fnan_no b
  have ya := @fnan_yes a
  have yb := @fnan_yes b
  unfold fkey fone
  rcases h1 : fnan a with _ | _ <;> rcases h2 : fnan b with _ | _ <;> rw [h1] at na ya <;> rw [h2] at nb yb <;> simp only [Bool.false_eq_true, if_false, if_true, true_implies, false_implies, reduceCtorEq] at na nb ya yb ⊢
  · split <;> split <;> omega
  · split <;> omega
  · split <;> omega
theorem fcmp_cases (a b : Nat) : (fkey a < fkey b ∧ fcmp a b = -1) ∨ (fkey a = fkey b ∧ fcmp a b = 0) ∨ (fkey b < fkey a ∧ fcmp a b = 1) := by
  unfold fcmp
  rcases Nat.lt_trichotomy (fkey a) (fkey b) with h | h | h
  · exact .inl ⟨h, if_pos h⟩
  · exact .inr (.inl ⟨h, by rw [if_neg (by omega), if_neg (by omega)]⟩)
  · exact .inr (.inr ⟨h, by rw [if_neg (by omega), if_pos h]⟩)
end Go.Proofs.YtcohidjaehdbnaaGreatDoor
