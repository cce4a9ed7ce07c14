/- Walks: the small ways of a float's print at one input, 0.1 (strconv: log10Pow2, log2Pow10, bool2, nudge, ceil, floor). Conditions: none. -/
import Derived.Test.YthoifpapdefheaaGreatDoorM5
import Derived.Test.YthoifpapdefheaaGreatDoorMem2
import Derived.IntWalk
import Derived.Handy
namespace Go.Proofs.YthoifpapdefheaaGreatDoor
open Go.RowKit
set_option linter.unusedVariables false

theorem c_log10 (w : World) : Calls Tryz.prog 73 #[.int .i64 (-56)] w fun e w' => e = .returned (.int .i64 (-17)) ∧ w = w' := by
  have h1 : IntKind.i64.wrap (-56 * 78913) = -4419128 := by decide +kernel
  go_enter Tryz.func73, Tryz.ntmps73
  go_wp2
  go_ret
  exact ⟨rfl, rfl⟩
theorem c_log2 (w : World) : Calls Tryz.prog 97 #[.int .i64 17] w fun e w' => e = .returned (.int .i64 56) ∧ w = w' := by
  go_enter Tryz.func97, Tryz.ntmps97
  go_wp2
  go_ret
  exact ⟨rfl, rfl⟩
theorem c_bool2 (b : Bool) (w : World) : Calls Tryz.prog 117 #[.bool b] w fun e w' => e = .returned (.int .u64 (if b then 1 else 0)) ∧ w = w' := by
  cases b with
  | true =>
    go_enter Tryz.func117, Tryz.ntmps117
    go_wp2
    go_ret
    exact ⟨rfl, rfl⟩
  | false =>
    go_enter Tryz.func117, Tryz.ntmps117
    go_wp2
    go_ret
    exact ⟨rfl, rfl⟩
theorem c_nudge0 (x : Nat) (hx : x < 18446744073709551616) (w : World) : Calls Tryz.prog 99 #[.int .u64 (x : Int), .int .i64 0] w fun e w' => e = .returned (.int .u64 (x : Int)) ∧ w = w' := by
  go_enter Tryz.func99, Tryz.ntmps99
  go_wp2
  go_ret
  exact ⟨rfl, rfl⟩
theorem c_ceil (w : World) : Calls Tryz.prog 100 #[.int .u64 39999999999999999] w fun e w' => e = .returned (.int .u64 10000000000000000) ∧ w = w' := by
  go_enter Tryz.func100, Tryz.ntmps100
  go_wp2
  go_ret
  exact ⟨rfl, rfl⟩
theorem c_floor (w : World) : Calls Tryz.prog 101 #[.int .u64 40000000000000005] w fun e w' => e = .returned (.int .u64 10000000000000001) ∧ w = w' := by
  go_enter Tryz.func101, Tryz.ntmps101
  go_wp2
  go_ret
  exact ⟨rfl, rfl⟩
end Go.Proofs.YthoifpapdefheaaGreatDoor
