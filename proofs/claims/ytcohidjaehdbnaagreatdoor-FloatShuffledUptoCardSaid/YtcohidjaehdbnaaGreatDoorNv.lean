/- Plain words: a number of two words divided by one word, half a word at a time, as bits.Div64 does it (no program). Conditions: none. -/
import Derived.WalkKit
namespace Go.Proofs.YtcohidjaehdbnaaGreatDoor
set_option linter.unusedVariables false

/-- What holds of a guess q with its rest r, ahead of each trial: u is what is divided's upper part, y1 and y0 the divisor's halves, u1 the next half word. -/
structure Guess (u y1 y0 u1 q r : Nat) : Prop where
  eq : q * y1 + r = u
  ge : (u * 4294967296 + u1) / (y1 * 4294967296 + y0) ≤ q
  le : q ≤ 4294967297
theorem guess_start {u y1 y0 u1 : Nat} (h1 : 2147483648 ≤ y1) (h2 : y1 < 4294967296) (h3 : y0 < 4294967296) (h4 : u1 < 4294967296) (h5 : u < y1 * 4294967296 + y0) :
    Guess u y1 y0 u1 (u / y1) (u % y1) ∧ u % y1 < y1 := by
  have hy : 0 < y1 := by omega
  have e : u / y1 * y1 + u % y1 = u := by rw [Nat.mul_comm]; exact Nat.div_add_mod u y1
  refine ⟨⟨e, ?_, ?_⟩, Nat.mod_lt _ hy⟩
  · apply Nat.le_of_lt_succ
    rw [Nat.div_lt_iff_lt_mul (by omega)]
    have k : u < (u / y1 + 1) * y1 := by rw [Nat.add_mul]; have := Nat.mod_lt u hy; omega
    have k2 : (u + 1) * 4294967296 ≤ (u / y1 + 1) * y1 * 4294967296 := Nat.mul_le_mul_right _ k
    have k3 : (u / y1).succ * (y1 * 4294967296 + y0) = (u / y1 + 1) * y1 * 4294967296 + (u / y1 + 1) * y0 := by
      rw [Nat.succ_eq_add_one, Nat.mul_add, Nat.mul_assoc]
    rw [k3]; omega
  · apply Nat.le_of_lt_succ
    rw [Nat.div_lt_iff_lt_mul hy]
    show u < 4294967298 * y1
    omega
section
variable {u y1 y0 u1 q r : Nat}
/-- The trial says: too great. -/
theorem guess_less (h : Guess u y1 y0 u1 q r) (hy : 0 < y1) (h5 : u < y1 * 4294967296 + y0) (h4 : u1 < 4294967296) (ht : 4294967296 ≤ q ∨ 4294967296 * r + u1 < q * y0) :
    Guess u y1 y0 u1 (q - 1) (r + y1) ∧ 1 ≤ q := by
  have hY : 0 < y1 * 4294967296 + y0 := by omega
  have key : (u * 4294967296 + u1) / (y1 * 4294967296 + y0) < q := by
    rw [Nat.div_lt_iff_lt_mul hY]
    rcases ht with ht | ht
    · have : 4294967296 * (y1 * 4294967296 + y0) ≤ q * (y1 * 4294967296 + y0) := Nat.mul_le_mul_right _ ht
      omega
    · have e := h.eq
      rw [Nat.mul_add, ← Nat.mul_assoc, ← e]
      omega
  have h1 : 1 ≤ q := Nat.lt_of_le_of_lt (Nat.zero_le _) key
  refine ⟨⟨?_, Nat.le_sub_one_of_lt key, by have := h.le; omega⟩, h1⟩
  have e := h.eq
  obtain ⟨p, rfl⟩ : ∃ p, q = p + 1 := ⟨q - 1, by omega⟩
  rw [Nat.add_sub_cancel]
  rw [Nat.add_mul] at e
  omega
/-- The trial is passed: the guess is the digit. -/
theorem guess_done (h : Guess u y1 y0 u1 q r) (hy : 0 < y1) (ht : q * y0 ≤ 4294967296 * r + u1) : q = (u * 4294967296 + u1) / (y1 * 4294967296 + y0) := by
  have hY : 0 < y1 * 4294967296 + y0 := by omega
  refine Nat.le_antisymm ?_ h.ge
  rw [Nat.le_div_iff_mul_le hY]
  have e := h.eq
  rw [Nat.mul_add, ← Nat.mul_assoc, ← e]
  omega
/-- No trial is needed where the rest has outgrown half a word. -/
theorem guess_out (h : Guess u y1 y0 u1 q r) (hy : 0 < y1) (h3 : y0 < 4294967296) (h5 : u < y1 * 4294967296 + y0) (ht : 4294967296 ≤ r) : q = (u * 4294967296 + u1) / (y1 * 4294967296 + y0) := by
  refine guess_done h hy ?_
  have e := h.eq
  have k : q < 4294967296 := by
    have : q * y1 < 4294967296 * y1 := by omega
    exact Nat.lt_of_mul_lt_mul_right this
  have : q * y0 ≤ 4294967296 * 4294967296 := Nat.mul_le_mul (by omega) (by omega)
  omega
end
/-- One digit, and what is left. -/
theorem digit_rest {u Y u1 q : Nat} (hY : 0 < Y) (hq : q = (u * 4294967296 + u1) / Y) : u * 4294967296 + u1 - q * Y = (u * 4294967296 + u1) % Y ∧ q * Y ≤ u * 4294967296 + u1 := by
  have := Nat.div_add_mod (u * 4294967296 + u1) Y
  rw [Nat.mul_comm Y, ← hq] at this
  omega
theorem digit_lt {u Y u1 q : Nat} (hu : u < Y) (h1 : u1 < 4294967296) (hq : q = (u * 4294967296 + u1) / Y) : q < 4294967296 := by
  rw [hq, Nat.div_lt_iff_lt_mul (by omega)]
  have : (u + 1) * 4294967296 ≤ Y * 4294967296 := Nat.mul_le_mul_right _ hu
  rw [Nat.mul_comm 4294967296]
  omega
/-- Two digits make the quotient; the rest, shifted back. -/
theorem div_two {N Y u1 u0 u q1 q0 r1 : Nat} (hY : 0 < Y) (hN : N = (u * 4294967296 + u1) * 4294967296 + u0) (h1 : q1 = (u * 4294967296 + u1) / Y) (hr : r1 = (u * 4294967296 + u1) % Y) (h0 : q0 = (r1 * 4294967296 + u0) / Y) (hu0 : u0 < 4294967296) :
    N / Y = q1 * 4294967296 + q0 ∧ N % Y = (r1 * 4294967296 + u0) % Y := by
  have a := Nat.div_add_mod (u * 4294967296 + u1) Y
  have b := Nat.div_add_mod (r1 * 4294967296 + u0) Y
  rw [← h1, ← hr] at a
  rw [← h0] at b
  have c : N = Y * (q1 * 4294967296 + q0) + (r1 * 4294967296 + u0) % Y := by
    rw [hN, ← a, Nat.mul_add, ← Nat.mul_assoc]; omega
  have hm := Nat.mod_lt (r1 * 4294967296 + u0) hY
  constructor
  · rw [c, Nat.mul_add_div hY, Nat.div_eq_of_lt hm]; omega
  · rw [c, Nat.mul_add_mod, Nat.mod_mod]
/-- Both shifted by s: the quotient stays, the rest is shifted too. -/
theorem div_shift (N d s : Nat) (hd : 0 < d) : N * 2 ^ s / (d * 2 ^ s) = N / d ∧ N * 2 ^ s % (d * 2 ^ s) / 2 ^ s = N % d := by
  have hp : 0 < 2 ^ s := Nat.pow_pos (by decide)
  constructor
  · exact Nat.mul_div_mul_right N d hp
  · rw [Nat.mul_mod_mul_right, Nat.mul_div_cancel _ hp]
end Go.Proofs.YtcohidjaehdbnaaGreatDoor
