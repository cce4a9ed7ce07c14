/- Walks: math.Ldexp of a whole number that a float can say (math.Abs, IsInf, IsNaN, normalize, ldexp, Ldexp). Conditions: as stated. -/
import Derived.Test.YtcohidjaehdbnaaGreatDoorFs
import Derived.Test.YtcohidjaehdbnaaGreatDoorNs
import Derived.Test.YtcohidjaehdbnaaGreatDoorNi
import Derived.Test.YtcohidjaehdbnaaGreatDoorGe
namespace Go.Proofs.YtcohidjaehdbnaaGreatDoor
open Go.RowKit
set_option linter.unusedVariables false

theorem read_pos {a : Nat} (ha : a < 9218868437227405312) : Ieee.double.read a = .number false (psig a) (-1074 + ((kx a : Nat) : Int)) := by
  unfold Ieee.Format.read
  rw [df_sw, df_bin, df_inf, df_least]
  have e0 : a / 9223372036854775808 = 0 := by omega
  have e1 : a % 9223372036854775808 = a := by omega
  simp only [e0, e1]
  unfold psig kx
  by_cases h : a < 4503599627370496
  · rw [if_pos h, if_pos h, show a / 4503599627370496 - 1 = 0 from by omega]; rfl
  · rw [if_neg h, if_pos ha, if_neg h]; rfl
theorem cmp_lt {x y : Int} (h : x < y) : compare x y = .lt := by rw [Int.compare_eq_lt]; exact h
theorem cmp_eq {x y : Int} (h : x = y) : compare x y = .eq := by rw [Int.compare_eq_eq]; exact h
theorem cmp_gt {x y : Int} (h : y < x) : compare x y = .gt := by rw [Int.compare_eq_gt]; exact h
/-- Floats from +0 up stand to each other as their bits do. -/
theorem order_pos {a b : Nat} (ha : a < 9218868437227405312) (hb : b < 9218868437227405312) : Ieee.double.order a b = some (compare a b) := by
  unfold Ieee.Format.order
  rw [read_pos ha, read_pos hb]
  unfold Ieee.Datum.order
  simp only []
  congr 1
  obtain ⟨k, hk1, hk2, hk3⟩ : ∃ k, (k = kx a ∨ k = kx b) ∧ k ≤ kx a ∧ k ≤ kx b := by
    rcases Nat.le_total (kx a) (kx b) with h | h
    · exact ⟨kx a, .inl rfl, Nat.le_refl _, h⟩
    · exact ⟨kx b, .inr rfl, h, Nat.le_refl _⟩
  have hmin : min (-1074 + ((kx a : Nat) : Int)) (-1074 + ((kx b : Nat) : Int)) = -1074 + (k : Int) := by rcases hk1 with h | h <;> omega
  rw [hmin]
  have e1 : (-1074 + ((kx a : Nat) : Int) - (-1074 + (k : Int))).toNat = kx a - k := by omega
  have e2 : (-1074 + ((kx b : Nat) : Int) - (-1074 + (k : Int))).toNat = kx b - k := by omega
  rw [e1, e2]
  unfold Ieee.signed
  simp only [Bool.false_eq_true, if_false, Nat.shiftLeft_eq]
  have hp : 0 < 2 ^ k := Nat.pow_pos (by decide)
  have va : psig a * 2 ^ (kx a - k) * 2 ^ k = kv a := by rw [Nat.mul_assoc, ← Nat.pow_add, show kx a - k + k = kx a from by omega, ← kv_psig]
  have vb : psig b * 2 ^ (kx b - k) * 2 ^ k = kv b := by rw [Nat.mul_assoc, ← Nat.pow_add, show kx b - k + k = kx b from by omega, ← kv_psig]
  generalize psig a * 2 ^ (kx a - k) = x at *
  generalize psig b * 2 ^ (kx b - k) = y at *
  rcases Nat.lt_trichotomy a b with h | h | h
  · have h1 := kv_strict h
    rw [← va, ← vb, Nat.mul_lt_mul_right hp] at h1
    rw [cmp_lt (by omega), Nat.compare_eq_lt.2 h]
  · subst h
    have : x = y := Nat.eq_of_mul_eq_mul_right hp (va.trans vb.symm)
    rw [cmp_eq (by omega), Nat.compare_eq_eq.2 rfl]
  · have h1 := kv_strict h
    rw [← va, ← vb, Nat.mul_lt_mul_right hp] at h1
    rw [cmp_gt (by omega), Nat.compare_eq_gt.2 h]
theorem ord_eq {a b : Nat} (ha : a < 9218868437227405312) (hb : b < 9218868437227405312) (h : a ≠ b) : (FloatKind.f64.format.order a b == some .eq) = false := by
  show (Ieee.double.order a b == some .eq) = false
  rw [order_pos ha hb]
  rcases Nat.lt_trichotomy a b with k | k | k
  · rw [Nat.compare_eq_lt.2 k]; rfl
  · exact absurd k h
  · rw [Nat.compare_eq_gt.2 k]; rfl
theorem ord_gt {a b : Nat} (ha : a < 9218868437227405312) (hb : b < 9218868437227405312) (h : a ≤ b) : (FloatKind.f64.format.order a b == some .gt) = false := by
  show (Ieee.double.order a b == some .gt) = false
  rw [order_pos ha hb]
  rcases Nat.lt_trichotomy a b with k | k | k
  · rw [Nat.compare_eq_lt.2 k]; rfl
  · rw [Nat.compare_eq_eq.2 k]; rfl
  · omega
theorem ord_lt {a b : Nat} (ha : a < 9218868437227405312) (hb : b < 9218868437227405312) (h : b ≤ a) : (FloatKind.f64.format.order a b == some .lt) = false := by
  show (Ieee.double.order a b == some .lt) = false
  rw [order_pos ha hb]
  rcases Nat.lt_trichotomy a b with k | k | k
  · omega
  · rw [Nat.compare_eq_eq.2 k]; rfl
  · rw [Nat.compare_eq_gt.2 k]; rfl
theorem c_Abs (b : Nat) (hb : b < 9223372036854775808) (w : World) : Calls Tryz.prog 112 #[.float .f64 b] w fun e w' => e = .returned (.float .f64 b) ∧ w = w' := by
  have h1 := call_bits b
  have h2 := andNot_sign b (by omega)
  rw [Nat.mod_eq_of_lt hb] at h2
  have h3 := call_frombits b
  go_enter Tryz.func112, Tryz.ntmps112
  go_wp2
  go_ret
  exact ⟨rfl, rfl⟩
theorem c_IsInf (b : Nat) (hb : b < 9218868437227405312) (w : World) : Calls Tryz.prog 82 #[.float .f64 b, .int .i64 0] w fun e w' => e = .returned (.bool false) ∧ w = w' := by
  have h1 := ord_gt hb (show 9218868437227405311 < 9218868437227405312 by decide) (by omega)
  have HA := Lib.hid (c_Abs b (by omega))
  go_enter Tryz.func82, Tryz.ntmps82
  go_wp2_with ((go_at_call 112; refine (HA.out _).mono ?_; rintro e w' ⟨rfl, rfl⟩))
  go_ret
  exact ⟨rfl, rfl⟩
theorem c_IsNaN (b : Nat) (hb : b < 9218868437227405312) (w : World) : Calls Tryz.prog 83 #[.float .f64 b] w fun e w' => e = .returned (.bool false) ∧ w = w' := by
  have hq := order_neq b
  have hn : fnan b = false := by unfold fnan; exact decide_eq_false (by omega)
  rw [hn] at hq
  clear hn
  go_enter Tryz.func83, Tryz.ntmps83
  go_wp2
  go_ret
  exact ⟨rfl, rfl⟩
theorem c_normalize (b : Nat) (hb : b < 9218868437227405312) (hb2 : 4503599627370496 ≤ b) (w : World) : Calls Tryz.prog 84 #[.float .f64 b] w fun e w' => e = .returned (.tuple #[.float .f64 b, .int .i64 0]) ∧ w = w' := by
  have h1 := ord_lt hb (show 4503599627370496 < 9218868437227405312 by decide) hb2
  have HA := Lib.hid (c_Abs b (by omega))
  go_enter Tryz.func84, Tryz.ntmps84
  go_wp2_with ((go_at_call 112; refine (HA.out _).mono ?_; rintro e w' ⟨rfl, rfl⟩))
  go_ret2
  exact ⟨rfl, rfl⟩
theorem c_Inf1 (w : World) : Calls Tryz.prog 85 #[.int .i64 1] w fun e w' => e = .returned (.float .f64 9218868437227405312) ∧ w = w' := by
  have hc : ∀ w, (callFunc 7 #[.int .u64 9218868437227405312]).run Tryz.prog w = .ok (.value (.float .f64 9218868437227405312)) w := fun w => call_frombits 9218868437227405312 w
  go_enter Tryz.func85, Tryz.ntmps85
  go_wp2
  go_ret
  exact ⟨rfl, rfl⟩
theorem run_mul {x y z : Nat} (h : Ieee.double.mul x y = some z) (w : World) : (binOp BinOp.mul 24 (.float .f64 x) (.float .f64 y)).run Tryz.prog w = .ok (.float .f64 z) w := by
  have h2 : FloatKind.f64.format.mul x y = some z := h
  simp [binOp, Op.floatArith, h2]
theorem ldexp_zero (u : Int) (w : World) : Calls Tryz.prog 65 #[.float .f64 0, .int .i64 u] w fun e w' => e = .returned (.float .f64 0) ∧ w = w' := by
  have h1 : (FloatKind.f64.format.order 0 0 == some .eq) = true := by decide +kernel
  go_enter Tryz.func65, Tryz.ntmps65
  go_wp2
  go_ret
  exact ⟨rfl, rfl⟩
theorem andNot_exp (x : Nat) (h : x < 9223372036854775808) : bits .andNot .u64 (x : Int) 9218868437227405312 = ((x % 4503599627370496 : Nat) : Int) := by
  have := u64_andNot_nat x 9218868437227405312 (by omega) (by decide)
  rw [show ((9218868437227405312 : Nat) : Int) = 9218868437227405312 from rfl] at this
  rw [this]
  congr 1
  have e1 : (18446744073709551615 - 9218868437227405312 : Nat) = 2 ^ 63 + (2 ^ 52 - 1) := by decide
  rw [e1]
  have e2 : (2 ^ 63 + (2 ^ 52 - 1) : Nat) = 2 ^ 63 ||| (2 ^ 52 - 1) := by decide
  rw [e2, Nat.and_or_distrib_left, Nat.and_two_pow_sub_one_eq_mod, nat_bit]
  have e3 : x / 2 ^ 63 % 2 = 0 := by
    have : x / 2 ^ 63 = 0 := Nat.div_eq_of_lt (by simpa using h)
    rw [this]
  rw [e3]
  simp
theorem or_exp (y f : Nat) (hy : y < 4096) (hf : f < 4503599627370496) : bits .or .u64 (f : Int) ((y * 4503599627370496 : Nat) : Int) = ((y * 4503599627370496 + f : Nat) : Int) := by
  have h1 := u64_or_nat f (y * 4503599627370496) (by omega) (by omega)
  have e : f ||| y * 4503599627370496 = y * 4503599627370496 + f := by
    have := Nat.shiftLeft_add_eq_or_of_lt (show f < 2 ^ 52 by simpa using hf) y
    rw [Nat.shiftLeft_eq] at this
    rw [Nat.or_comm]
    simpa using this.symm
  rw [e] at h1
  exact h1
/-- What the walk of ldexp needs of a whole number's bits. -/
structure LdS (m b sig f x : Nat) : Prop where
  hx : x = (1023 + b) * 4503599627370496 + f
  hsig : sig = f + 4503599627370496
  hf : f < 4503599627370496
  hb : b ≤ 53
  lo : b < 52 → m < 4503599627370496 ∧ m ≠ 0 ∧ sig = m * 2 ^ (52 - b)
  hi : 52 ≤ b → (b = 52 ∧ m = sig) ∨ (b = 53 ∧ m = 9007199254740992 ∧ f = 0)
theorem ld_setup {m : Nat} (h0 : m ≠ 0) (h1 : m ≤ 9007199254740992) : ∃ b sig f, LdS m b sig f (wbits m) := by
  obtain ⟨s1, s2, s3, s4⟩ := wsig h0 h1
  have a1 := Nat.log2_self_le h0
  have a2 : m < 2 ^ (m.log2 + 1) := Nat.lt_log2_self
  refine ⟨m.log2, if m.log2 ≤ 52 then m * 2 ^ (52 - m.log2) else m / 2, (if m.log2 ≤ 52 then m * 2 ^ (52 - m.log2) else m / 2) - 4503599627370496, ?_, by omega, by omega, s1, ?_, ?_⟩
  · unfold wbits; omega
  · intro h
    have h2 : 2 ^ (m.log2 + 1) ≤ 2 ^ 52 := Nat.pow_le_pow_right (by decide) (by omega)
    have h3 : (2 : Nat) ^ 52 = 4503599627370496 := by decide
    exact ⟨by omega, h0, by rw [if_pos (by omega)]⟩
  · intro h
    by_cases h2 : m.log2 = 52
    · left
      refine ⟨h2, ?_⟩
      rw [if_pos (by omega), h2]; simp
    · right
      have h3 : m.log2 = 53 := by omega
      have h4 := s4 h3
      refine ⟨h3, h4, ?_⟩
      rw [if_neg (by omega), h4]
theorem i64_and2047 (n : Int) : bits .and .i64 n 2047 = n % 2048 := by
  have h : (BitVec.ofInt 64 2047).toNat = 2 ^ 11 - 1 := by decide
  have key : (BitVec.ofInt 64 n &&& BitVec.ofInt 64 2047).toNat = (n % ((2 ^ 64 : Nat) : Int)).toNat % 2 ^ 11 := by
    rw [BitVec.toNat_and, BitVec.toNat_ofInt, h, Nat.and_two_pow_sub_one_eq_mod]
  show IntKind.i64.wrap ((BitVec.ofInt 64 n &&& BitVec.ofInt 64 2047).toNat : Nat) = n % 2048
  rw [key, IntKind.wrap_i64]
  omega
/-- What ldexp comes to. -/
def ldres (u : Int) (m : Nat) : Nat := min ((u + 1074).toNat * 4503599627370496 + m) 9218868437227405312
theorem ld_big {m b sig f x : Nat} {u : Int} (D : LdS m b sig f x) (hm : u = -1074 ∨ 4503599627370496 ≤ m) (h : 1023 < u + (b : Int)) : ldres u m = 9218868437227405312 := by
  unfold ldres
  have db := D.hb
  rcases hm with hm | hm
  · omega
  · have hb52 : 52 ≤ b := by
      rcases Nat.lt_or_ge b 52 with h | h
      · have := (D.lo h).1; omega
      · exact h
    obtain ⟨k, hk⟩ : ∃ k : Nat, u = (k : Int) := ⟨u.toNat, by omega⟩
    subst hk
    have e : ((k : Int) + 1074).toNat = k + 1074 := by omega
    rw [e]
    rcases D.hi hb52 with ⟨k1, k2⟩ | ⟨k1, k2, k3⟩
    · have ds := D.hsig
      rw [Nat.min_eq_right]
      omega
    · rw [Nat.min_eq_right]
      omega
theorem ld_norm {m b sig f x : Nat} {u : Int} (D : LdS m b sig f x) (hu : -1074 ≤ u) (hm : u = -1074 ∨ 4503599627370496 ≤ m) (h : u + (b : Int) ≤ 1023) (h2 : -1022 ≤ u + (b : Int)) : ∃ j : Nat, j < 2046 ∧ (j : Int) = u + (b : Int) + 1022 ∧ ldres u m = j * 4503599627370496 + sig := by
  unfold ldres
  have db := D.hb
  have hb52 : 52 ≤ b := by
    rcases Nat.lt_or_ge b 52 with h3 | h3
    · have := (D.lo h3).1
      rcases hm with hm | hm <;> omega
    · exact h3
  obtain ⟨k, hk⟩ : ∃ k : Nat, u + 1074 = (k : Int) := ⟨(u + 1074).toNat, by omega⟩
  have e : (u + 1074).toNat = k := by omega
  rw [e]
  rcases D.hi hb52 with ⟨k1, k2⟩ | ⟨k1, k2, k3⟩
  · refine ⟨k, by omega, by omega, ?_⟩
    have df := D.hf
    have ds := D.hsig
    rw [Nat.min_eq_left (by omega), k2]
  · refine ⟨k + 1, by omega, by omega, ?_⟩
    have ds := D.hsig
    rw [Nat.min_eq_left (by omega)]
    omega
theorem ld_den {m b sig f x : Nat} {u : Int} (D : LdS m b sig f x) (hu : -1074 ≤ u) (hm : u = -1074 ∨ 4503599627370496 ≤ m) (h : u + (b : Int) < -1022) : u = -1074 ∧ m < 4503599627370496 ∧ m ≠ 0 ∧ b < 52 ∧ sig = m * 2 ^ (52 - b) ∧ ldres u m = m := by
  have hb52 : b < 52 := by
    rcases Nat.lt_or_ge b 52 with h3 | h3
    · exact h3
    · omega
  obtain ⟨d1, d2, d3⟩ := D.lo hb52
  have hu2 : u = -1074 := by
    rcases hm with hm | hm
    · exact hm
    · omega
  refine ⟨hu2, d1, d2, hb52, d3, ?_⟩
  subst hu2
  unfold ldres
  rw [show ((-1074 : Int) + 1074).toNat = 0 from rfl, Nat.zero_mul, Nat.zero_add, Nat.min_eq_left (by omega)]
theorem sig_z (b : Nat) {f sig : Nat} (h : sig = f + 4503599627370496) : b * 4503599627370496 + sig = (b + 1) * 4503599627370496 + f := by omega
set_option maxRecDepth 100000 in
set_option maxHeartbeats 2000000 in
theorem ldexp_pos (m : Nat) (u : Int) (h0 : m ≠ 0) (h1 : m ≤ 9007199254740992) (hu1 : -1074 ≤ u) (hu2 : u ≤ 100000) (hm : u = -1074 ∨ 4503599627370496 ≤ m) (w : World) :
    Calls Tryz.prog 65 #[.float .f64 (wbits m), .int .i64 u] w fun e w' => e = .returned (.float .f64 (ldres u m)) ∧ w = w' := by
  obtain ⟨b, sig, f, D⟩ := ld_setup h0 h1
  obtain ⟨x, hx⟩ : ∃ x, wbits m = x := ⟨_, rfl⟩
  rw [hx] at D ⊢
  have dx := D.hx
  have ds := D.hsig
  have df := D.hf
  have db := D.hb
  have hxb : x < 9218868437227405312 := by omega
  have hxl : 4503599627370496 ≤ x := by omega
  have e1 := ord_eq hxb (show 0 < 9218868437227405312 by decide) (by omega)
  have e2 := ord_lt hxb (show 0 < 9218868437227405312 by decide) (by omega)
  have HII := Lib.hid (c_IsInf x hxb)
  have HIN := Lib.hid (c_IsNaN x hxb)
  have HNO := Lib.hid (c_normalize x hxb hxl)
  have hcb := call_bits x
  obtain ⟨t, ht⟩ : ∃ t, t = 1023 + b := ⟨_, rfl⟩
  have e3 : (x : Int) / 4503599627370496 = (t : Int) := by omega
  have htb : t ≤ 1076 := by omega
  have htl : 1023 ≤ t := by omega
  have e4 : bits .and .i64 (t : Int) 2047 = (t : Int) := by rw [i64_and2047]; omega
  have e5 := andNot_exp x (by omega)
  rw [show x % 4503599627370496 = f from by omega] at e5
  have HD := Lib.hid D
  have HT := Lib.hid ht
  have HM := Lib.hid hm
  have hl : ¬ u + ((t : Int) - 1023) < -1075 := by omega
  obtain ⟨R, hR⟩ : ∃ R, ldres u m = R := ⟨_, rfl⟩
  rw [hR]
  have HR0 := Lib.hid hR
  have HDS := Lib.hid ds
  clear D dx ds hx hR ht hm h0 h1 db
  by_cases hbig : 1023 < u + ((t : Int) - 1023)
  · have HR : Hid (R = 9218868437227405312) := by
      show _ = _
      rw [← HR0.out]
      exact ld_big HD.out HM.out (by have := HT.out; omega)
    clear e5
    go_enter Tryz.func65, Tryz.ntmps65
    go_wp2_with (first | (go_at_call 82; refine (HII.out _).mono ?_; rintro e w' ⟨rfl, rfl⟩) | (go_at_call 83; refine (HIN.out _).mono ?_; rintro e w' ⟨rfl, rfl⟩) | (go_at_call 84; refine (HNO.out _).mono ?_; rintro e w' ⟨rfl, rfl⟩) | (go_at_call 85; refine (c_Inf1 _).mono ?_; rintro e w' ⟨rfl, rfl⟩))
    go_ret
    exact ⟨by rw [HR.out]; rfl, rfl⟩
  · have hnb : ¬ 1023 < u + ((t : Int) - 1023) := hbig
    by_cases hden : u + ((t : Int) - 1023) < -1022
    · obtain ⟨k1, k2, k3, k4, k5, k6⟩ := ld_den HD.out hu1 HM.out (by have := HT.out; omega)
      have HR : Hid (R = m) := by show _ = _; rw [← HR0.out]; exact k6
      obtain ⟨z, hz⟩ : ∃ z, (b + 2) * 4503599627370496 + f = z := ⟨_, rfl⟩
      have hz2 : (b + 1) * 4503599627370496 + sig = z := by rw [← hz]; exact sig_z (b + 1) HDS.out
      have hmul := run_mul (mul_least_bits (j := b + 1) (m := sig) (s := m) (a := 52 - b) (by omega) (by have := HDS.out; omega) (by have := HDS.out; omega) k3 k2 (by omega) k5)
      rw [hz2] at hmul
      have e6 := or_exp (b + 2) f (by omega) df
      rw [hz] at e6
      have e7 : bits .or .u64 (f : Int) (((b : Int) + 2) * 4503599627370496) = (z : Int) := by
        rw [show (((b + 2) * 4503599627370496 : Nat) : Int) = ((b : Int) + 2) * 4503599627370496 from by omega] at e6
        exact e6
      obtain ⟨Y, hY⟩ : ∃ Y : Nat, Y = b + 2 := ⟨_, rfl⟩
      rw [show (b : Int) + 2 = (Y : Int) from by omega] at e7
      have e8 : u + ((t : Int) - 1023) + 53 + 1023 = (Y : Int) := by have := HT.out; omega
      have hYb : Y < 4096 := by omega
      have hcz := call_frombits z
      clear e6 hz hz2 k1 k2 k3 k4 k5 k6 hY hbig
      obtain ⟨E, hE⟩ : ∃ E : Int, u + ((t : Int) - 1023) = E := ⟨_, rfl⟩
      rw [hE] at hl hnb hden e8
      have hEl : -1074 ≤ E := by omega
      have hE2 : E + 53 + 1023 = (Y : Int) := e8
      clear e8
      go_enter Tryz.func65, Tryz.ntmps65
      go_wp2_with (first | (go_at_call 82; refine (HII.out _).mono ?_; rintro e w' ⟨rfl, rfl⟩) | (go_at_call 83; refine (HIN.out _).mono ?_; rintro e w' ⟨rfl, rfl⟩) | (go_at_call 84; refine (HNO.out _).mono ?_; rintro e w' ⟨rfl, rfl⟩))
      go_ret
      exact ⟨by rw [HR.out]; rfl, rfl⟩
    · obtain ⟨j, k1, k2, k3⟩ := ld_norm HD.out hu1 HM.out (by have := HT.out; omega) (by have := HT.out; omega)
      obtain ⟨z, hz⟩ : ∃ z, (j + 1) * 4503599627370496 + f = z := ⟨_, rfl⟩
      have hz2 : j * 4503599627370496 + sig = z := by rw [← hz]; exact sig_z j HDS.out
      have HR : Hid (R = z) := by show _ = _; rw [← HR0.out, k3, hz2]
      have hmul := run_mul (mul_one_bits (j := j) (m := sig) k1 (by have := HDS.out; omega) (by have := HDS.out; omega))
      rw [hz2] at hmul
      have e6 := or_exp (j + 1) f (by omega) df
      rw [hz] at e6
      have e7 : bits .or .u64 (f : Int) (((j : Int) + 1) * 4503599627370496) = (z : Int) := by
        rw [show (((j + 1) * 4503599627370496 : Nat) : Int) = ((j : Int) + 1) * 4503599627370496 from by omega] at e6
        exact e6
      obtain ⟨Y, hY⟩ : ∃ Y : Nat, Y = j + 1 := ⟨_, rfl⟩
      rw [show (j : Int) + 1 = (Y : Int) from by omega] at e7
      have hYb : Y < 4096 := by omega
      have hcz := call_frombits z
      have e8 : u + ((t : Int) - 1023) + 1023 = (Y : Int) := by have := HT.out; omega
      clear e6 hz hz2 k1 k2 k3 hY hbig
      obtain ⟨E, hE⟩ : ∃ E : Int, u + ((t : Int) - 1023) = E := ⟨_, rfl⟩
      rw [hE] at hl hnb hden e8
      have hEl : -1022 ≤ E := by omega
      go_enter Tryz.func65, Tryz.ntmps65
      go_wp2_with (first | (go_at_call 82; refine (HII.out _).mono ?_; rintro e w' ⟨rfl, rfl⟩) | (go_at_call 83; refine (HIN.out _).mono ?_; rintro e w' ⟨rfl, rfl⟩) | (go_at_call 84; refine (HNO.out _).mono ?_; rintro e w' ⟨rfl, rfl⟩))
      go_ret
      exact ⟨by rw [HR.out]; rfl, rfl⟩
/-- m times 2^u: the nearest float is exact. -/
theorem c_Ldexp (m : Nat) (u : Int) (h1 : m ≤ 9007199254740992) (hu1 : -1074 ≤ u) (hu2 : u ≤ 100000) (hm : u = -1074 ∨ 4503599627370496 ≤ m) (w : World) :
    Calls Tryz.prog 45 #[.float .f64 (FloatKind.f64.nearest (m : Int)), .int .i64 u] w fun e w' => e = .returned (.float .f64 (ldres u m)) ∧ w = w' := by
  by_cases h0 : m = 0
  · subst h0
    obtain rfl : u = -1074 := by omega
    have HR : Hid (ldres (-1074) 0 = 0) := by
      show _ = _
      unfold ldres
      rw [show ((-1074 : Int) + 1074).toNat = 0 from rfl]
      simp
    rw [show ((0 : Nat) : Int) = 0 from rfl, zero_bits]
    have HL := Lib.hid (ldexp_zero (-1074))
    clear hm
    go_enter Tryz.func45, Tryz.ntmps45
    go_wp2_with ((go_at_call 65; refine (HL.out _).mono ?_; rintro e w' ⟨rfl, rfl⟩))
    go_ret
    exact ⟨by rw [HR.out]; rfl, rfl⟩
  · have HL := Lib.hid (ldexp_pos m u h0 h1 hu1 hu2 hm)
    rw [whole_bits h0 h1]
    clear h0 h1 hm
    generalize wbits m = x at *
    generalize ldres u m = R at *
    go_enter Tryz.func45, Tryz.ntmps45
    go_wp2_with ((go_at_call 65; refine (HL.out _).mono ?_; rintro e w' ⟨rfl, rfl⟩))
    go_ret
    exact ⟨rfl, rfl⟩
end Go.Proofs.YtcohidjaehdbnaaGreatDoor
