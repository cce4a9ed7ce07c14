/- Walks: the small ways of a float's print at any input (strconv: log10Pow2, log2Pow10, skewed, nudge, ceil, floor, round). Conditions: as stated. -/
import Derived.Test.YthoifpapdefheaaGreatDoorXb
import Derived.Test.YthoifpapdefheaaGreatDoorTa
import Derived.Test.YthoifpapdefheaaGreatDoorLb
import Derived.Deep.RegionHeld3
import Derived.Great.Walk
namespace Go.Proofs.YthoifpapdefheaaGreatDoor
open Go.RowKit
set_option linter.unusedVariables false

theorem c_log10I (x : Int) (h1 : -2000 ≤ x) (h2 : x ≤ 2000) (w : World) : Calls Tryz.prog 73 #[.int .i64 x] w fun e w' => e = .returned (.int .i64 (x * 78913 / 262144)) ∧ w = w' := by
  have hw : IntKind.i64.wrap (x * 78913) = x * 78913 := IntWalk.i64_in _ (by omega)
  go_enter Tryz.func73, Tryz.ntmps73
  go_wp2_with fail
  go_ret
  exact ⟨rfl, rfl⟩
theorem c_log2I (x : Int) (h1 : -2000 ≤ x) (h2 : x ≤ 2000) (w : World) : Calls Tryz.prog 97 #[.int .i64 x] w fun e w' => e = .returned (.int .i64 (lpI x)) ∧ w = w' := by
  have hw : IntKind.i64.wrap (x * 108853) = x * 108853 := IntWalk.i64_in _ (by omega)
  unfold lpI
  go_enter Tryz.func97, Tryz.ntmps97
  go_wp2_with fail
  go_ret
  exact ⟨rfl, rfl⟩
theorem c_skewI (x : Int) (h1 : -2000 ≤ x) (h2 : x ≤ 2000) (w : World) : Calls Tryz.prog 95 #[.int .i64 x] w fun e w' => e = .returned (.int .i64 ((x * 631305 - 261663) / 2097152)) ∧ w = w' := by
  have hw : IntKind.i64.wrap (x * 631305) = x * 631305 := IntWalk.i64_in _ (by omega)
  have hw2 : IntKind.i64.wrap (x * 631305 - 261663) = x * 631305 - 261663 := IntWalk.i64_in _ (by omega)
  go_enter Tryz.func95, Tryz.ntmps95
  go_wp2_with fail
  go_ret
  exact ⟨rfl, rfl⟩
theorem c_nudgeUp (x d : Nat) (hx : x < 4611686018427387904 * 3) (hd : d ≤ 1) (w : World) : Calls Tryz.prog 99 #[.int .u64 (x : Int), .int .i64 (d : Int)] w fun e w' => e = .returned (.int .u64 ((x + d : Nat) : Int)) ∧ w = w' := by
  have h1 : IntKind.u64.wrap (d : Int) = (d : Int) := by rw [IntKind.wrap_u64]; omega
  have h2 : IntKind.u64.wrap ((x : Int) + (d : Int)) = ((x + d : Nat) : Int) := by rw [IntKind.wrap_u64]; omega
  go_enter Tryz.func99, Tryz.ntmps99
  go_wp2_with fail
  go_ret
  exact ⟨rfl, rfl⟩
theorem c_nudgeDn (x d : Nat) (hx : x < 18446744073709551616) (hd : d ≤ 1) (hdx : d ≤ x) (w : World) : Calls Tryz.prog 99 #[.int .u64 (x : Int), .int .i64 (-(d : Int))] w fun e w' => e = .returned (.int .u64 ((x - d : Nat) : Int)) ∧ w = w' := by
  have h2 : IntKind.u64.wrap ((x : Int) + IntKind.u64.wrap (-(d : Int))) = ((x - d : Nat) : Int) := by
    rw [IntKind.wrap_u64, IntKind.wrap_u64]
    rcases Nat.eq_zero_or_pos d with e | e
    · subst e; omega
    · obtain rfl : d = 1 := by omega
      omega
  generalize -(d : Int) = y at *
  go_enter Tryz.func99, Tryz.ntmps99
  go_wp2_with fail
  go_ret
  exact ⟨rfl, rfl⟩
theorem c_ceilI (x : Nat) (hx : x < 4611686018427387904 * 3) (w : World) : Calls Tryz.prog 100 #[.int .u64 (x : Int)] w fun e w' => e = .returned (.int .u64 (((x + 3) / 4 : Nat) : Int)) ∧ w = w' := by
  have h2 : IntKind.u64.wrap ((x : Int) + 3) = (x : Int) + 3 := by rw [IntKind.wrap_u64]; omega
  go_enter Tryz.func100, Tryz.ntmps100
  go_wp2_with fail
  go_ret
  exact ⟨rfl, rfl⟩
theorem c_floorI (x : Nat) (hx : x < 18446744073709551616) (w : World) : Calls Tryz.prog 101 #[.int .u64 (x : Int)] w fun e w' => e = .returned (.int .u64 ((x / 4 : Nat) : Int)) ∧ w = w' := by
  have h2 : IntKind.u64.wrap ((x : Int) + 0) = (x : Int) := by rw [IntKind.wrap_u64]; omega
  go_enter Tryz.func101, Tryz.ntmps101
  go_wp2_with fail
  go_ret
  exact ⟨rfl, rfl⟩
set_option maxRecDepth 100000 in
theorem c_roundI (x : Nat) (hx : x < 4611686018427387904 * 3) (w : World) : Calls Tryz.prog 102 #[.int .u64 (x : Int)] w fun e w' => e = .returned (.int .u64 (((x + 1 + x / 4 % 2) / 4 : Nat) : Int)) ∧ w = w' := by
  have ha : bits BinOp.and .u64 ((x / 4 : Nat) : Int) 1 = ((x / 4 % 2 : Nat) : Int) := by
    have := u64_and_nat (x / 4) 1 (by omega) (by decide)
    rw [show ((1 : Nat) : Int) = 1 from rfl] at this
    rw [this, Nat.and_one_is_mod]
  have hdv : (x : Int) / 4 = ((x / 4 : Nat) : Int) := by omega
  have h1 : IntKind.u64.wrap ((x : Int) + 1) = (x : Int) + 1 := by rw [IntKind.wrap_u64]; omega
  have hq2 : x / 4 % 2 < 2 := Nat.mod_lt _ (by decide)
  generalize x / 4 % 2 = q at *
  have h2 : IntKind.u64.wrap ((x : Int) + 1 + (q : Int)) = ((x + 1 + q : Nat) : Int) := by rw [IntKind.wrap_u64]; omega
  have h3 : ((x + 1 + q : Nat) : Int) / 4 = (((x + 1 + q) / 4 : Nat) : Int) := by omega
  generalize x / 4 = y at *
  generalize (x + 1 + q) / 4 = r at *
  generalize x + 1 + q = t at *
  clear hx hq2
  go_enter Tryz.func102, Tryz.ntmps102
  go_wp2_with fail
  go_ret
  exact ⟨rfl, rfl⟩
end Go.Proofs.YthoifpapdefheaaGreatDoor
