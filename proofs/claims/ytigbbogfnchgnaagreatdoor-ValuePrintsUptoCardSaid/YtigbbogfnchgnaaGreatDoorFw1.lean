/- Walks: what the small functions on one float return (float and quernref22: One, Of, Is, bits, Order, Key, Compare, Class, Same, form). Conditions: none. -/
import Derived.Test.YtigbbogfnchgnaaGreatDoorRows
import Derived.Test.YtigbbogfnchgnaaGreatDoorPlain
import Derived.WalkKit
import Derived.WalkSpells
import Derived.WalkLawsBesides
import Derived.Lib.Hide
namespace Go.Proofs.YtigbbogfnchgnaaGreatDoor
open Go.RowKit

theorem call_bits (b : Nat) (w : World) : (callFunc 53 #[.float .f64 b]).run Tryz.prog w = .ok (.value (.int .u64 (b : Int))) w := by kernel_rfl
theorem call_frombits (b : Nat) (w : World) : (callFunc 100 #[.int .u64 (b : Int)]).run Tryz.prog w = .ok (.value (.float .f64 b)) w := by kernel_rfl
theorem call_frombits_nan (w : World) : (callFunc 100 #[.int .u64 9221120237041090560]).run Tryz.prog w = .ok (.value (.float .f64 9221120237041090560)) w := by kernel_rfl

theorem fone_yes {b : Nat} (h : fnan b = true) : fone b = 9221120237041090560 := by unfold fone; rw [if_pos h]
theorem fone_no {b : Nat} (h : fnan b = false) : fone b = b := by unfold fone; rw [if_neg (by rw [h]; decide)]

theorem c_One (b : Nat) (w : World) : Calls Tryz.prog 40 #[.float .f64 b] w fun e w' => e = .returned (.int .u64 (fone b)) ∧ w = w' := by
  have hq := order_neq b
  have hc := call_bits b
  rcases h : fnan b with _ | _
  · have Hf := Lib.hid (fone_no h)
    rw [h] at hq
    go_enter Tryz.func40, Tryz.ntmps40
    go_wp2
    go_ret
    exact ⟨by rw [Hf.out]; rfl, rfl⟩
  · have Hf := Lib.hid (fone_yes h)
    rw [h] at hq
    go_enter Tryz.func40, Tryz.ntmps40
    go_wp2
    go_ret
    exact ⟨by rw [Hf.out]; rfl, rfl⟩
theorem c_One_yes {b : Nat} (h : fnan b = true) (w : World) : Calls Tryz.prog 40 #[.float .f64 b] w fun e w' => e = .returned (.int .u64 9221120237041090560) ∧ w = w' :=
  (c_One b w).mono fun _ _ x => by rw [fone_yes h] at x; exact x
theorem c_One_no {b : Nat} (h : fnan b = false) (w : World) : Calls Tryz.prog 40 #[.float .f64 b] w fun e w' => e = .returned (.int .u64 b) ∧ w = w' :=
  (c_One b w).mono fun _ _ x => by rw [fone_no h] at x; exact x

theorem c_Is (b : Nat) (w : World) : Calls Tryz.prog 45 #[.float .f64 b] w fun e w' => e = .returned (.bool (fnan b)) ∧ w = w' := by
  have hq := order_neq b
  go_enter Tryz.func45, Tryz.ntmps45
  go_wp2
  go_ret
  exact ⟨rfl, rfl⟩
theorem c_Is_yes {b : Nat} (h : fnan b = true) (w : World) : Calls Tryz.prog 45 #[.float .f64 b] w fun e w' => e = .returned (.bool true) ∧ w = w' :=
  (c_Is b w).mono fun _ _ x => by rw [h] at x; exact x
theorem c_Is_no {b : Nat} (h : fnan b = false) (w : World) : Calls Tryz.prog 45 #[.float .f64 b] w fun e w' => e = .returned (.bool false) ∧ w = w' :=
  (c_Is b w).mono fun _ _ x => by rw [h] at x; exact x

theorem c_rbits (b : Nat) (hb : b < 18446744073709551616) (w : World) : Calls Tryz.prog 44 #[.float .f64 b] w fun e w' => e = .returned (.tuple #[.int .u64 b, .int .u64 ((b % 9223372036854775808 : Nat) : Int)]) ∧ w = w' := by
  have hq := andNot_sign b hb
  have hc := call_bits b
  go_enter Tryz.func44, Tryz.ntmps44
  go_wp2
  go_ret2
  exact ⟨rfl, rfl⟩

theorem c_rOne (b : Nat) (w : World) : Calls Tryz.prog 72 #[.float .f64 b] w fun e w' => e = .returned (.int .u64 (fone b)) ∧ w = w' := by
  have hc := call_bits b
  rcases h : fnan b with _ | _
  · have Hf := Lib.hid (fone_no h)
    go_enter Tryz.func72, Tryz.ntmps72
    go_wp2_with (go_at_call 45; refine (c_Is_no h _).mono ?_; rintro e w' ⟨rfl, rfl⟩)
    go_ret
    exact ⟨by rw [Hf.out]; rfl, rfl⟩
  · have Hf := Lib.hid (fone_yes h)
    go_enter Tryz.func72, Tryz.ntmps72
    go_wp2_with (go_at_call 45; refine (c_Is_yes h _).mono ?_; rintro e w' ⟨rfl, rfl⟩)
    go_ret
    exact ⟨by rw [Hf.out]; rfl, rfl⟩

end Go.Proofs.YtigbbogfnchgnaaGreatDoor
