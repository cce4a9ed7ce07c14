/- Plain facts on 64-bit floats by their bits (no program): which are NaNs, how one stands to itself, the order's key. Conditions: none. -/
import Ieee.Arith
import Derived.Laws.BitsAllLaws
namespace Go.Proofs.YtigbbogfnchgnaaGreatDoor

/-- Is the float of these bits a NaN? -/
def fnan (b : Nat) : Bool := decide (9218868437227405312 < b % 9223372036854775808)

theorem dbl_sw : Ieee.double.signWeight = 9223372036854775808 := by decide +kernel
theorem dbl_bin : Ieee.double.binade = 4503599627370496 := by decide +kernel
theorem dbl_inf : Ieee.double.infRung = 9218868437227405312 := by decide +kernel

theorem order_self (b : Nat) : Ieee.double.order b b = if fnan b then none else some .eq := by
  unfold Ieee.Format.order Ieee.Format.read fnan
  rw [dbl_sw, dbl_bin, dbl_inf]
  simp only []
  by_cases h1 : b % 9223372036854775808 < 4503599627370496
  · rw [if_pos h1, if_neg (by simp; omega)]
    simp [Ieee.Datum.order]
  · rw [if_neg h1]
    by_cases h2 : b % 9223372036854775808 < 9218868437227405312
    · rw [if_pos h2, if_neg (by simp; omega)]
      simp [Ieee.Datum.order]
    · rw [if_neg h2]
      by_cases h3 : b % 9223372036854775808 = 9218868437227405312
      · rw [if_pos h3, if_neg (by simp; omega)]
        simp [Ieee.Datum.order]
      · rw [if_neg h3, if_pos (by simp; omega)]
        simp [Ieee.Datum.order]

theorem order_neq (b : Nat) : (FloatKind.f64.format.order b b != some .eq) = fnan b := by
  show (Ieee.double.order b b != some .eq) = fnan b
  rw [order_self]; cases fnan b <;> simp
theorem order_eql (b : Nat) : (FloatKind.f64.format.order b b == some .eq) = !fnan b := by
  show (Ieee.double.order b b == some .eq) = !fnan b
  rw [order_self]; cases fnan b <;> simp

/-- '& 1<<63' -/
theorem and_sign (b : Nat) (h : b < 18446744073709551616) : bits .and .u64 (b : Int) 9223372036854775808 = if b < 9223372036854775808 then 0 else 9223372036854775808 := by
  have := u64_and_nat b 9223372036854775808 h (by decide)
  rw [show ((9223372036854775808 : Nat) : Int) = 9223372036854775808 from rfl] at this
  rw [this, show (9223372036854775808 : Nat) = 2 ^ 63 from by decide, nat_bit]
  have e : b / 2 ^ 63 % 2 = if b < 9223372036854775808 then 0 else 1 := by
    split <;> omega
  rw [e]
  split <;> rfl
/-- '&^ 1<<63' -/
theorem andNot_sign (b : Nat) (h : b < 18446744073709551616) : bits .andNot .u64 (b : Int) 9223372036854775808 = ((b % 9223372036854775808 : Nat) : Int) := by
  have := u64_andNot_nat b 9223372036854775808 h (by decide)
  rw [show ((9223372036854775808 : Nat) : Int) = 9223372036854775808 from rfl] at this
  rw [this, show 18446744073709551615 - 9223372036854775808 = 2 ^ 63 - 1 from by decide, Nat.and_two_pow_sub_one_eq_mod]

/-- The bits in the one form. -/
def fone (b : Nat) : Nat := if fnan b then 9221120237041090560 else b
/-- The order's key. -/
def fkey (b : Nat) : Nat := if fnan b then 18437736874454810626 else if b < 9223372036854775808 then 9218868437227405313 + b else 18442240474082181120 - b
/-- -1, 0, 1 by the keys. -/
def fcmp (a b : Nat) : Int := if fkey a < fkey b then -1 else if fkey b < fkey a then 1 else 0
/-- The class. -/
def fclass (b : Nat) : Int := if fnan b then 1 else if b % 9223372036854775808 = 9218868437227405312 then 2 else if b % 9223372036854775808 = 0 then 3 else if b % 9223372036854775808 < 4503599627370496 then 4 else 5
/-- The sign, none of a NaN. -/
def fneg (b : Nat) : Bool := !fnan b && !decide (b < 9223372036854775808)

theorem fnan_yes {b : Nat} (h : fnan b = true) : 9218868437227405312 < b % 9223372036854775808 := of_decide_eq_true h
theorem fnan_no {b : Nat} (h : fnan b = false) : b % 9223372036854775808 ≤ 9218868437227405312 := Nat.le_of_not_lt (of_decide_eq_false h)
theorem fone_lt {b : Nat} (h : b < 18446744073709551616) : fone b < 18446744073709551616 := by unfold fone; split <;> omega
theorem fkey_lt {b : Nat} : fkey b < 18446744073709551616 := by unfold fkey; repeat (first | omega | split)

end Go.Proofs.YtigbbogfnchgnaaGreatDoor
