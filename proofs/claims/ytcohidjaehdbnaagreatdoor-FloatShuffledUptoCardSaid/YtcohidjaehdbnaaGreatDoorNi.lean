/- Plain words: a whole number times a power of two that a float of 64 bits can say is written as its rung; whole numbers as floats; a float times 1 and times 2^-53 (no program). Conditions: none. -/
import Ieee.Arith
import GoSem.Core.Float
import Derived.WalkKit
namespace Go.Proofs.YtcohidjaehdbnaaGreatDoor
set_option linter.unusedVariables false

theorem df_bin : Ieee.double.binade = 4503599627370496 := by decide +kernel
theorem df_inf : Ieee.double.infRung = 9218868437227405312 := by decide +kernel
theorem df_sw : Ieee.double.signWeight = 9223372036854775808 := by decide +kernel
theorem df_least : Ieee.double.leastPlace = -1074 := by decide +kernel
theorem df_frac : Ieee.double.fractionBits = 52 := by decide +kernel
/-- How far a number reaches: its bits less one. -/
theorem log2_pow {m k : Nat} (hm : m ≠ 0) : (m * 2 ^ k).log2 = m.log2 + k := by
  have hp : 0 < 2 ^ k := Nat.pow_pos (by decide)
  rw [Nat.log2_eq_iff (by have := Nat.mul_ne_zero hm (Nat.pos_iff_ne_zero.1 hp); exact this)]
  have h1 := Nat.log2_self_le hm
  have h2 : m < 2 ^ (m.log2 + 1) := Nat.lt_log2_self
  constructor
  · rw [Nat.pow_add]; exact Nat.mul_le_mul_right _ h1
  · rw [show m.log2 + k + 1 = m.log2 + 1 + k from by omega, Nat.pow_add]; exact (Nat.mul_lt_mul_right hp).2 h2
theorem log2_lt {m k : Nat} (hm : m ≠ 0) (h : m < 2 ^ k) : m.log2 < k := (Nat.log2_lt hm).2 h
theorem log2_ge {m k : Nat} (hm : m ≠ 0) (h : 2 ^ k ≤ m) : k ≤ m.log2 := (Nat.le_log2 hm).2 h
/-- Nothing is cut off. -/
theorem cut_none (neg : Bool) (n : Nat) : Ieee.Toward.even.cut neg n 0 = n := by
  unfold Ieee.Toward.cut
  rw [Nat.zero_min]
  simp [Nat.mod_one]
/-- Noughts are cut off. -/
theorem cut_exact (neg : Bool) {m d : Nat} (hm : m ≠ 0) : Ieee.Toward.even.cut neg (m * 2 ^ d) d = m := by
  unfold Ieee.Toward.cut
  rw [log2_pow hm, Nat.min_eq_left (by omega), Nat.one_shiftLeft]
  have hp : 0 < 2 ^ d := Nat.pow_pos (by decide)
  simp only [Nat.mul_div_left _ hp, Nat.mul_mod_left]
  have : (decide (2 ^ d < 2 * 0) || (2 ^ d == 2 * 0) && m % 2 == 1) = false := by
    have h1 : decide (2 ^ d < 2 * 0) = false := by simp
    have h2 : (2 ^ d == 2 * 0) = false := by rw [beq_eq_false_iff_ne]; omega
    rw [h1, h2]; rfl
  rw [this]; rfl
/-- A number that can be said: m * 2^j of the least float, m * 2^d there being mag, or mag * 2^a being m. -/
theorem write_rung (neg : Bool) {m j mag : Nat} {place : Int} (hm0 : m ≠ 0) (hm1 : m < 9007199254740992) (hm2 : j = 0 ∨ 4503599627370496 ≤ m)
    (h : (∃ a : Nat, place + 1074 = (j : Int) + a ∧ m = mag * 2 ^ a) ∨ (∃ d : Nat, place + 1074 + d = (j : Int) ∧ mag = m * 2 ^ d)) :
    Ieee.double.nearest neg mag place = (if neg then 9223372036854775808 + min (j * 4503599627370496 + m) 9218868437227405312 else min (j * 4503599627370496 + m) 9218868437227405312) := by
  have hl1 : m.log2 < 53 := log2_lt hm0 (by omega)
  have hl2 : j = 0 ∨ 52 ≤ m.log2 := by
    rcases hm2 with h | h
    · exact .inl h
    · exact .inr (log2_ge hm0 (by omega))
  unfold Ieee.Format.nearest Ieee.Format.word
  rw [df_sw, df_bin, df_inf, df_least, df_frac]
  rcases h with ⟨a, ha, hma⟩ | ⟨d, hd, hmd⟩
  · have hg : mag ≠ 0 := by rintro rfl; exact hm0 (by rw [hma, Nat.zero_mul])
    have hlog : m.log2 = mag.log2 + a := by rw [hma]; exact log2_pow hg
    have e1 : max (place + (mag.log2 : Int) - (52 : Nat)) (-1074) = (j : Int) - 1074 := by
      rcases hl2 with h | h <;> omega
    rw [if_neg hg]
    simp only [e1]
    have e2 : (place - ((j : Int) - 1074)).toNat = a := by omega
    have e3 : ((j : Int) - 1074 - place).toNat = 0 - a := by omega
    have e4 : ((j : Int) - 1074 - -1074).toNat = j := by omega
    rw [e2, e3, e4, Nat.zero_sub, cut_none, Nat.shiftLeft_eq, ← hma]
  · have hg : mag ≠ 0 := by rw [hmd]; exact Nat.mul_ne_zero hm0 (Nat.pos_iff_ne_zero.1 (Nat.pow_pos (by decide)))
    have hlog : mag.log2 = m.log2 + d := by rw [hmd]; exact log2_pow hm0
    have e1 : max (place + (mag.log2 : Int) - (52 : Nat)) (-1074) = (j : Int) - 1074 := by
      rcases hl2 with h | h <;> omega
    rw [if_neg hg]
    simp only [e1]
    have e2 : (place - ((j : Int) - 1074)).toNat = 0 := by omega
    have e3 : ((j : Int) - 1074 - place).toNat = d := by omega
    have e4 : ((j : Int) - 1074 - -1074).toNat = j := by omega
    rw [e2, e3, e4, Nat.shiftLeft_zero, hmd, cut_exact neg hm0]
/-- The bits of a whole number that is at most 2^53, and not nought. -/
def wbits (m : Nat) : Nat := (1022 + m.log2) * 4503599627370496 + (if m.log2 ≤ 52 then m * 2 ^ (52 - m.log2) else m / 2)
theorem wsig {m : Nat} (h0 : m ≠ 0) (h1 : m ≤ 9007199254740992) : m.log2 ≤ 53 ∧
    4503599627370496 ≤ (if m.log2 ≤ 52 then m * 2 ^ (52 - m.log2) else m / 2) ∧ (if m.log2 ≤ 52 then m * 2 ^ (52 - m.log2) else m / 2) < 9007199254740992 ∧ (m.log2 = 53 → m = 9007199254740992) := by
  have a1 : m.log2 < 54 := log2_lt h0 (by omega)
  have a2 := Nat.log2_self_le h0
  have a3 : m < 2 ^ (m.log2 + 1) := Nat.lt_log2_self
  refine ⟨by omega, ?_⟩
  by_cases h : m.log2 ≤ 52
  · rw [if_pos h]
    have hp : 0 < 2 ^ (52 - m.log2) := Nat.pow_pos (by decide)
    have b1 : 2 ^ m.log2 * 2 ^ (52 - m.log2) ≤ m * 2 ^ (52 - m.log2) := Nat.mul_le_mul_right _ a2
    have b2 : m * 2 ^ (52 - m.log2) < 2 ^ (m.log2 + 1) * 2 ^ (52 - m.log2) := (Nat.mul_lt_mul_right hp).2 a3
    rw [← Nat.pow_add, show m.log2 + (52 - m.log2) = 52 from by omega] at b1
    rw [← Nat.pow_add, show m.log2 + 1 + (52 - m.log2) = 53 from by omega] at b2
    exact ⟨by simpa using b1, by simpa using b2, by omega⟩
  · have e : m.log2 = 53 := by omega
    rw [e] at a2
    have e2 : m = 9007199254740992 := by
      have : (2 : Nat) ^ 53 = 9007199254740992 := by decide
      omega
    subst e2
    rw [if_neg h]
    exact ⟨by decide, by decide, fun _ => rfl⟩
theorem whole_bits {m : Nat} (h0 : m ≠ 0) (h1 : m ≤ 9007199254740992) : FloatKind.f64.nearest (m : Int) = wbits m := by
  obtain ⟨s1, s2, s3, s4⟩ := wsig h0 h1
  unfold FloatKind.nearest FloatKind.encode Ieee.Format.write
  show Ieee.double.nearest (decide ((m : Int) < 0)) (m : Int).natAbs 0 = _
  rw [show decide ((m : Int) < 0) = false from decide_eq_false (by omega), Int.natAbs_natCast]
  have hw := write_rung false (m := if m.log2 ≤ 52 then m * 2 ^ (52 - m.log2) else m / 2) (j := 1022 + m.log2) (mag := m) (place := 0) (by omega) s3 (.inr s2) (by
    by_cases h : m.log2 ≤ 52
    · rw [if_pos h]; exact .inl ⟨52 - m.log2, by omega, rfl⟩
    · have e : m.log2 = 53 := by omega
      have e2 := s4 e
      rw [if_neg h]
      refine .inr ⟨1, by omega, by omega⟩)
  rw [hw]
  simp only [Bool.false_eq_true, if_false]
  unfold wbits
  omega
theorem zero_bits : FloatKind.f64.nearest 0 = 0 := by decide +kernel
/-- A normal number that is no NaN and no infinity, read. -/
theorem read_norm {j m : Nat} (hj : j < 2046) (h1 : 4503599627370496 ≤ m) (h2 : m < 9007199254740992) :
    Ieee.double.read (j * 4503599627370496 + m) = .number false m ((j : Int) - 1074) := by
  unfold Ieee.Format.read
  rw [df_sw, df_bin, df_inf, df_least]
  have e0 : (j * 4503599627370496 + m) / 9223372036854775808 = 0 := by omega
  have e1 : (j * 4503599627370496 + m) % 9223372036854775808 = j * 4503599627370496 + m := by omega
  simp only [e0, e1]
  rw [if_neg (by omega), if_pos (by omega)]
  have e2 : (j * 4503599627370496 + m) % 4503599627370496 = m - 4503599627370496 := by omega
  have e3 : (j * 4503599627370496 + m) / 4503599627370496 - 1 = j := by omega
  rw [e2, e3]
  rw [show 4503599627370496 + (m - 4503599627370496) = m from by omega, show (-1074 : Int) + (j : Nat) = (j : Int) - 1074 from by omega]
  rfl
theorem read_one : Ieee.double.read 4607182418800017408 = .number false 4503599627370496 (-52) := by decide +kernel
theorem read_least : Ieee.double.read 4368491638549381120 = .number false 4503599627370496 (-105) := by decide +kernel
/-- Times 1. -/
theorem mul_one_bits {j m : Nat} (hj : j < 2046) (h1 : 4503599627370496 ≤ m) (h2 : m < 9007199254740992) :
    Ieee.double.mul 4607182418800017408 (j * 4503599627370496 + m) = some (j * 4503599627370496 + m) := by
  unfold Ieee.Format.mul
  rw [read_one, read_norm hj h1 h2]
  show some (Ieee.double.nearest (false ^^ false) (4503599627370496 * m) (-52 + ((j : Int) - 1074))) = _
  rw [write_rung (false ^^ false) (m := m) (j := j) (by omega) h2 (.inr h1) (.inr ⟨52, by omega, by omega⟩)]
  simp only [Bool.xor_self, Bool.false_eq_true, if_false]
  exact congrArg some (by omega)
/-- Times 2^-53, down to the smallest floats. -/
theorem mul_least_bits {j m s : Nat} (hj : j < 2046) (h1 : 4503599627370496 ≤ m) (h2 : m < 9007199254740992) (hs0 : s ≠ 0) (hs : s < 4503599627370496) {a : Nat} (ha : j + a = 53) (hm : m = s * 2 ^ a) :
    Ieee.double.mul 4368491638549381120 (j * 4503599627370496 + m) = some s := by
  unfold Ieee.Format.mul
  rw [read_least, read_norm hj h1 h2]
  show some (Ieee.double.nearest (false ^^ false) (4503599627370496 * m) (-105 + ((j : Int) - 1074))) = _
  rw [write_rung (false ^^ false) (m := s) (j := 0) hs0 (by omega) (.inl rfl) (.inr ⟨52 + a, by omega, by
    rw [hm, Nat.pow_add]
    rw [show (4503599627370496 : Nat) = 2 ^ 52 from by decide, ← Nat.mul_assoc, Nat.mul_comm (2 ^ 52) s, Nat.mul_assoc]⟩)]
  simp only [Bool.xor_self, Bool.false_eq_true, if_false]
  exact congrArg some (by omega)
end Go.Proofs.YtcohidjaehdbnaaGreatDoor
