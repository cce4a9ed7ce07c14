/- Words for hexadecimal digits read; walks: is a byte a digit of base 16, and which (sums.hex, word.digit, quernref01.Digit). Conditions: none. -/
import Derived.Test.YtmnkdkibhchglaaGreatDoorLsl
namespace Go.Proofs.YtmnkdkibhchglaaGreatDoor
open Go.RowKit
set_option linter.unusedVariables false
attribute [local go_sem ↓] Go.wp_at_zero Go.wp_at_succ

/-- Is it a digit of base 16? -/
def hB (x : Nat) : Bool := (decide (48 ≤ x) && decide (x ≤ 57)) || ((decide (97 ≤ x) && decide (x ≤ 102)) || (decide (65 ≤ x) && decide (x ≤ 70)))
/-- What it is worth. -/
def hV (x : Nat) : Nat := if 48 ≤ x ∧ x ≤ 57 then x - 48 else if 97 ≤ x ∧ x ≤ 102 then x - 87 else if 65 ≤ x ∧ x ≤ 70 then x - 55 else 0
theorem hV_lt (x : Nat) : hV x < 16 := by unfold hV; (repeat' split) <;> omega
/-- The four ways. -/
theorem h_cases (x : Nat) : (48 ≤ x ∧ x ≤ 57 ∧ hB x = true ∧ hV x = x - 48) ∨ (97 ≤ x ∧ x ≤ 102 ∧ hB x = true ∧ hV x = x - 87) ∨ (65 ≤ x ∧ x ≤ 70 ∧ hB x = true ∧ hV x = x - 55) ∨ (hB x = false ∧ hV x = 0 ∧ (x < 48 ∨ (57 < x ∧ x < 65) ∨ (70 < x ∧ x < 97) ∨ 102 < x)) := by
  by_cases h1 : 48 ≤ x ∧ x ≤ 57
  · exact .inl ⟨h1.1, h1.2, by simp [hB, h1.1, h1.2], by simp [hV, h1.1, h1.2]⟩
  by_cases h2 : 97 ≤ x ∧ x ≤ 102
  · exact .inr (.inl ⟨h2.1, h2.2, by simp [hB, h2.1, h2.2], by unfold hV; rw [if_neg h1, if_pos h2]⟩)
  by_cases h3 : 65 ≤ x ∧ x ≤ 70
  · exact .inr (.inr (.inl ⟨h3.1, h3.2, by simp [hB, h3.1, h3.2], by unfold hV; rw [if_neg h1, if_neg h2, if_pos h3]⟩))
  · refine .inr (.inr (.inr ⟨?_, by unfold hV; rw [if_neg h1, if_neg h2, if_neg h3], by omega⟩))
    rw [Bool.eq_false_iff]
    intro h
    simp only [hB, Bool.or_eq_true, Bool.and_eq_true, decide_eq_true_eq] at h
    omega
theorem c_hex (x : Nat) (hx : x < 256) (w : World) : Calls Tryz.prog 66 #[.int .u8 (x : Int)] w fun e w' => e = .returned (.bool (hB x)) ∧ w' = w := by
  obtain ⟨b, hb⟩ : ∃ b, hB x = b := ⟨_, rfl⟩
  have HC := Lib.hid (h_cases x)
  rw [hb] at HC ⊢
  go_enter Tryz.func66, Tryz.ntmps66
  go_wp2
  all_goals
    go_ret
    refine ⟨?_, rfl⟩
    rcases HC.out with ⟨_, _, rfl, _⟩ | ⟨_, _, rfl, _⟩ | ⟨_, _, rfl, _⟩ | ⟨rfl, _⟩ <;> first | rfl | (exfalso; omega) | (simp; omega) | grind
theorem c_wdigit (x : Nat) (hx : x < 256) (w : World) : Calls Tryz.prog 84 #[.int .u8 (x : Int)] w fun e w' => e = .returned (.tuple #[.int .u8 (hV x : Nat), .bool (hB x)]) ∧ w' = w := by
  obtain ⟨b, hb⟩ : ∃ b, hB x = b := ⟨_, rfl⟩
  obtain ⟨v, hv⟩ : ∃ v, hV x = v := ⟨_, rfl⟩
  have HC := Lib.hid (h_cases x)
  rw [hb, hv] at HC
  rw [hb, hv]
  go_enter Tryz.func84, Tryz.ntmps84
  go_wp2
  all_goals
    go_ret2
    refine ⟨?_, rfl⟩
    rcases HC.out with ⟨_, _, rfl, rfl⟩ | ⟨_, _, rfl, rfl⟩ | ⟨_, _, rfl, rfl⟩ | ⟨rfl, rfl, _⟩ <;> first | rfl | (exfalso; omega) | (simp; omega) | grind
theorem c_rDigit (x : Nat) (hx : x < 256) (w : World) : Calls Tryz.prog 52 #[.int .u8 (x : Int)] w fun e w' => e = .returned (.int .i64 (if hB x = true then (hV x : Int) else -1)) ∧ w' = w := by
  obtain ⟨b, hb⟩ : ∃ b, hB x = b := ⟨_, rfl⟩
  obtain ⟨v, hv⟩ : ∃ v, hV x = v := ⟨_, rfl⟩
  obtain ⟨r, hr⟩ : ∃ r : Int, (if b = true then (v : Int) else -1) = r := ⟨_, rfl⟩
  have HC := Lib.hid (h_cases x)
  rw [hb, hv] at HC
  rw [hb, hv, hr]
  have HR := Lib.hid hr
  clear hr
  go_enter Tryz.func52, Tryz.ntmps52
  go_wp2
  all_goals
    go_ret
    refine ⟨?_, rfl⟩
    have hr := HR.out
    rcases HC.out with ⟨_, _, rfl, rfl⟩ | ⟨_, _, rfl, rfl⟩ | ⟨_, _, rfl, rfl⟩ | ⟨rfl, rfl, _⟩ <;> first | (exfalso; omega) | (simp at hr ⊢; omega) | grind
end Go.Proofs.YtmnkdkibhchglaaGreatDoor
