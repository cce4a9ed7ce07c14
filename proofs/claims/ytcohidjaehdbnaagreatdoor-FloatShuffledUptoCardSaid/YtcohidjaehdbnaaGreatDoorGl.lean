/- Walks: the document's sum divided and rounded (quernref22.signed, NaN, over, Sum, Mean). Conditions: at most 2^44 floats. -/
import Derived.Test.YtcohidjaehdbnaaGreatDoorGk
import Derived.Deep.RegionLaw
namespace Go.Proofs.YtcohidjaehdbnaaGreatDoor
open Go.RowKit
set_option linter.unusedVariables false
attribute [local go_sem ↓] Go.wp_at_zero Go.wp_at_succ

theorem or_sign (b : Nat) (h : b < 9223372036854775808) : bits .or .u64 (b : Int) 9223372036854775808 = ((b + 9223372036854775808 : Nat) : Int) := by
  have h1 := u64_or_nat b 9223372036854775808 (by omega) (by decide)
  have e : b ||| 9223372036854775808 = b + 9223372036854775808 := by
    have := Nat.shiftLeft_add_eq_or_of_lt (show b < 2 ^ 63 by simpa using h) 1
    rw [Nat.shiftLeft_eq] at this
    rw [Nat.or_comm, Nat.add_comm]
    simpa using this.symm
  rw [e] at h1
  exact h1
/-- A float that a list's sum by n is, in memory as it was. -/
def OverR (xs : List Nat) (n : Nat) (w : World) (e : Ending) (w' : World) : Prop := ∃ b, e = .returned (.float .f64 b) ∧ IsOver xs n b ∧ Below w.heap.size w w'
theorem near_lt {X D r : Nat} (h : Near X D r) : r < 9223372036854775808 := by have := h.cap; omega
theorem two_big : (1 : Nat) < nbig := word_big (by decide)
theorem pow_sml {k : Nat} (hk : k ≤ sexp - 100) {a : Nat} (ha : a < 2 ^ 100) : a * 2 ^ k < nsml := by
  have h1 : a * 2 ^ k < 2 ^ 100 * 2 ^ k := (Nat.mul_lt_mul_right (Nat.pow_pos (by decide))).2 ha
  rw [← Nat.pow_add] at h1
  refine Nat.lt_of_lt_of_le h1 ?_
  unfold nsml
  exact Nat.pow_le_pow_right (by decide) (by unfold sexp at *; omega)
/-- The mean: of nothing it is a NaN. -/
def IsMean (xs : List Nat) (b : Nat) : Prop := (xs = [] → b = 9221120237041090560) ∧ (xs ≠ [] → IsOver xs xs.length b)
def MeanR (xs : List Nat) (w : World) (e : Ending) (w' : World) : Prop := ∃ b, e = .returned (.float .f64 b) ∧ IsMean xs b ∧ Below w.heap.size w w'
end Go.Proofs.YtcohidjaehdbnaaGreatDoor
