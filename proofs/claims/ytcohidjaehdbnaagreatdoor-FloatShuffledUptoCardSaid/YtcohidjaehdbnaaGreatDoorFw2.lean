/- Walks: the laws FloatOrders and FloatBits of any two bit patterns. Conditions: both below 2^64. -/
import Derived.Test.YtcohidjaehdbnaaGreatDoorFw1
namespace Go.Proofs.YtcohidjaehdbnaaGreatDoor
open Go.RowKit

theorem fclass_nan {b : Nat} (h : fnan b = true) : fclass b = 1 := by unfold fclass; rw [if_pos h]
theorem fneg_no {b : Nat} (h : fnan b = false) : fneg b = !decide (b < 9223372036854775808) := by unfold fneg; rw [h]; rfl
theorem fneg_nan {b : Nat} (h : fnan b = true) : fneg b = false := by unfold fneg; rw [h]; rfl

/-- The four classes of what is no NaN, each by its tests' outcomes. -/
def Tests (b : Nat) (t0 t1 t2 t3 : Bool) : Prop :=
  decide ((9218868437227405312 : Int) < (b : Int) % 9223372036854775808) = t0 ∧ ((b : Int) % 9223372036854775808 == 9218868437227405312) = t1 ∧ ((b : Int) % 9223372036854775808 == 0) = t2 ∧ decide ((b : Int) % 9223372036854775808 < 4503599627370496) = t3
theorem fclass_cases {b : Nat} (h : fnan b = false) :
    (Tests b false true false false ∧ fclass b = 2) ∨ (Tests b false false true true ∧ fclass b = 3) ∨ (Tests b false false false true ∧ fclass b = 4) ∨ (Tests b false false false false ∧ fclass b = 5) := by
  have hn := fnan_no h
  unfold fclass Tests
  rw [h, if_neg (by decide)]
  have n0 : decide ((9218868437227405312 : Int) < (b : Int) % 9223372036854775808) = false := decide_eq_false (by omega)
  by_cases h1 : b % 9223372036854775808 = 9218868437227405312
  · exact .inl ⟨⟨n0, beq_iff_eq.2 (by omega), beq_eq_false_iff_ne.2 (by omega), decide_eq_false (by omega)⟩, by rw [if_pos h1]⟩
  · rw [if_neg h1]
    have n1 : ((b : Int) % 9223372036854775808 == 9218868437227405312) = false := beq_eq_false_iff_ne.2 (by omega)
    by_cases h2 : b % 9223372036854775808 = 0
    · exact .inr (.inl ⟨⟨n0, n1, beq_iff_eq.2 (by omega), decide_eq_true (by omega)⟩, by rw [if_pos h2]⟩)
    · rw [if_neg h2]
      have n2 : ((b : Int) % 9223372036854775808 == 0) = false := beq_eq_false_iff_ne.2 (by omega)
      by_cases h3 : b % 9223372036854775808 < 4503599627370496
      · exact .inr (.inr (.inl ⟨⟨n0, n1, n2, decide_eq_true (by omega)⟩, by rw [if_pos h3]⟩))
      · exact .inr (.inr (.inr ⟨⟨n0, n1, n2, decide_eq_false (by omega)⟩, by rw [if_neg h3]⟩))
theorem fclass_nan_test {b : Nat} (h : fnan b = true) : decide ((9218868437227405312 : Int) < (b : Int) % 9223372036854775808) = true := by
  have := fnan_yes h
  exact decide_eq_true (by omega)

theorem sgn_ne (b : Nat) (h : b < 18446744073709551616) : (bits .and .u64 (b : Int) 9223372036854775808 != 0) = !decide (b < 9223372036854775808) := by
  rw [and_sign b h]; by_cases k : b < 9223372036854775808 <;> simp [k]
theorem sgn_ne' (b : Nat) (_h : b < 18446744073709551616) : ((b : Int) != (b : Int) % 9223372036854775808) = !decide (b < 9223372036854775808) := by
  by_cases k : b < 9223372036854775808
  · simp [k]; omega
  · simp [k]; omega

set_option maxRecDepth 100000 in
theorem c_Class (b : Nat) (hb : b < 18446744073709551616) (w : World) : Calls Tryz.prog 28 #[.float .f64 b] w fun e w' => e = .returned (.tuple #[.int .i64 (fclass b), .bool (fneg b)]) ∧ w = w' := by
  have hc := call_bits b
  have hq := andNot_sign b hb
  have hs := sgn_ne b hb
  rcases h : fnan b with _ | _
  · have Hn := Lib.hid (fneg_no h)
    obtain ⟨⟨g0, g1, g2, g3⟩, hf⟩ | ⟨⟨g0, g1, g2, g3⟩, hf⟩ | ⟨⟨g0, g1, g2, g3⟩, hf⟩ | ⟨⟨g0, g1, g2, g3⟩, hf⟩ := fclass_cases h
    all_goals
      have Hf := Lib.hid hf
      clear h hf
      go_enter Tryz.func28, Tryz.ntmps28
      go_wp2
      go_ret2
      exact ⟨by rw [Hf.out, Hn.out]; rfl, rfl⟩
  · have Hn := Lib.hid (fneg_nan h)
    have Hf := Lib.hid (fclass_nan h)
    have g1 := fclass_nan_test h
    go_enter Tryz.func28, Tryz.ntmps28
    go_wp2
    go_ret2
    exact ⟨by rw [Hf.out, Hn.out]; rfl, rfl⟩

theorem c_Of (b : Nat) (w : World) : Calls Tryz.prog 17 #[.int .u64 (b : Int)] w fun e w' => e = .returned (.float .f64 (fone b)) ∧ w = w' := by
  have hc := call_frombits b
  have hc2 := call_frombits_nan
  have hq := order_eql b
  rcases h : fnan b with _ | _
  · have Hf := Lib.hid (fone_no h)
    rw [h] at hq
    go_enter Tryz.func17, Tryz.ntmps17
    go_wp2
    go_ret
    exact ⟨by rw [Hf.out]; rfl, rfl⟩
  · have Hf := Lib.hid (fone_yes h)
    rw [h] at hq
    go_enter Tryz.func17, Tryz.ntmps17
    go_wp2
    go_ret
    exact ⟨by rw [Hf.out]; rfl, rfl⟩

theorem c_Same (a b : Nat) (w : World) : Calls Tryz.prog 9 #[.float .f64 a, .float .f64 b] w fun e w' => e = .returned (.bool ((fone a : Int) == (fone b : Int))) ∧ w = w' := by
  go_enter Tryz.func9, Tryz.ntmps9
  go_wp2_with fail
  refine (c_One a _).mono ?_; rintro e w' ⟨rfl, rfl⟩
  go_wp2_with fail
  refine (c_One b _).mono ?_; rintro e w' ⟨rfl, rfl⟩
  go_wp2
  go_ret
  exact ⟨rfl, rfl⟩

theorem fnan_one : fnan 9221120237041090560 = true := by decide +kernel
theorem fone_fone (b : Nat) : fone (fone b) = fone b := by
  rcases h : fnan b with _ | _
  · rw [fone_no h, fone_no h]
  · rw [fone_yes h, fone_yes fnan_one]

end Go.Proofs.YtcohidjaehdbnaaGreatDoor
