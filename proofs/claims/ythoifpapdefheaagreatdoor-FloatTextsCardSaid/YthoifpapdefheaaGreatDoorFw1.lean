/- Walks: what the small functions on one float return (float and quernref22: One, Of, Is, bits, Order, Key, Compare, Class, Same, form). Conditions: none. -/
import Derived.Test.YthoifpapdefheaaGreatDoorRows
import Derived.Test.YthoifpapdefheaaGreatDoorPlain
import Derived.WalkKit
import Derived.WalkSpells
import Derived.WalkLawsBesides
import Derived.Lib.Hide
namespace Go.Proofs.YthoifpapdefheaaGreatDoor
open Go.RowKit

theorem call_bits (b : Nat) (w : World) : (callFunc 19 #[.float .f64 b]).run Tryz.prog w = .ok (.value (.int .u64 (b : Int))) w := by kernel_rfl
theorem call_frombits (b : Nat) (w : World) : (callFunc 4 #[.int .u64 (b : Int)]).run Tryz.prog w = .ok (.value (.float .f64 b)) w := by kernel_rfl
theorem call_frombits_nan (w : World) : (callFunc 4 #[.int .u64 9221120237041090560]).run Tryz.prog w = .ok (.value (.float .f64 9221120237041090560)) w := by kernel_rfl

theorem fone_yes {b : Nat} (h : fnan b = true) : fone b = 9221120237041090560 := by unfold fone; rw [if_pos h]
theorem fone_no {b : Nat} (h : fnan b = false) : fone b = b := by unfold fone; rw [if_neg (by rw [h]; decide)]

theorem c_Is (b : Nat) (w : World) : Calls Tryz.prog 15 #[.float .f64 b] w fun e w' => e = .returned (.bool (fnan b)) ∧ w = w' := by
  have hq := order_neq b
  go_enter Tryz.func15, Tryz.ntmps15
  go_wp2
  go_ret
  exact ⟨rfl, rfl⟩
theorem c_Is_yes {b : Nat} (h : fnan b = true) (w : World) : Calls Tryz.prog 15 #[.float .f64 b] w fun e w' => e = .returned (.bool true) ∧ w = w' :=
  (c_Is b w).mono fun _ _ x => by rw [h] at x; exact x
theorem c_Is_no {b : Nat} (h : fnan b = false) (w : World) : Calls Tryz.prog 15 #[.float .f64 b] w fun e w' => e = .returned (.bool false) ∧ w = w' :=
  (c_Is b w).mono fun _ _ x => by rw [h] at x; exact x

theorem c_rbits (b : Nat) (hb : b < 18446744073709551616) (w : World) : Calls Tryz.prog 14 #[.float .f64 b] w fun e w' => e = .returned (.tuple #[.int .u64 b, .int .u64 ((b % 9223372036854775808 : Nat) : Int)]) ∧ w = w' := by
  have hq := andNot_sign b hb
  have hc := call_bits b
  go_enter Tryz.func14, Tryz.ntmps14
  go_wp2
  go_ret2
  exact ⟨rfl, rfl⟩

end Go.Proofs.YthoifpapdefheaaGreatDoor
