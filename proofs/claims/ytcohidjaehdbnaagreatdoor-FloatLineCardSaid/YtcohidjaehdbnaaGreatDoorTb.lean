/- Walks: the scaled product of a float's print at one input, 0.1 (strconv: uscale). Conditions: the three cells of the scale as 'prescale' leaves them. -/
import Derived.Test.YtcohidjaehdbnaaGreatDoorTa
import Derived.Test.YtcohidjaehdbnaaGreatDoorLb
import Derived.Deep.RegionHeld3
import Derived.Great.Walk
namespace Go.Proofs.YtcohidjaehdbnaaGreatDoor
open Go.RowKit
set_option linter.unusedVariables false

theorem c_MulA (w : World) : Calls Tryz.prog 38 #[.int .u64 14757395258967641088, .int .u64 12800000000000000000] w fun e w' => e = .returned (.tuple #[.int .u64 10239999999999999857, .int .u64 16444402540465881088]) ∧ w = w' := by
  refine (Any.bits_Mul64 lays264 14757395258967641088 12800000000000000000 (by decide) (by decide) w).mono fun e w' h => ⟨?_, h.2.symm⟩
  rw [h.1]
  rfl
theorem c_MulB (w : World) : Calls Tryz.prog 38 #[.int .u64 14757395258967643136, .int .u64 12800000000000000000] w fun e w' => e = .returned (.tuple #[.int .u64 10240000000000001278, .int .u64 18021073799193034752]) ∧ w = w' := by
  refine (Any.bits_Mul64 lays264 14757395258967643136 12800000000000000000 (by decide) (by decide) w).mono fun e w' h => ⟨?_, h.2.symm⟩
  rw [h.1]
  rfl
theorem c_uscaleA (g : Nat) (w : World) (h0 : w.cell? ⟨g, 0, none⟩ = some (.int .u64 12800000000000000000)) (h2 : w.cell? ⟨g, 2, none⟩ = some (.int .i64 8)) :
    Calls Tryz.prog 119 #[.int .u64 14757395258967641088, .pointer (some ⟨g, 0, none⟩)] w fun e w' => e = .returned (.int .u64 39999999999999999) ∧ w = w' := by
  have hb1 : bits BinOp.and .i64 8 63 = 8 := by decide +kernel
  have hb2 : bits BinOp.or .u64 39999999999999999 1 = 39999999999999999 := by decide +kernel
  have HM := Lib.hid c_MulA
  go_enter Tryz.func119, Tryz.ntmps119
  go_wp2_with ((go_at_call 38; refine (HM.out _).mono ?_; rintro e w' ⟨rfl, rfl⟩))
  go_ret
  exact ⟨rfl, rfl⟩
theorem c_uscaleB (g : Nat) (w : World) (h0 : w.cell? ⟨g, 0, none⟩ = some (.int .u64 12800000000000000000)) (h2 : w.cell? ⟨g, 2, none⟩ = some (.int .i64 8)) :
    Calls Tryz.prog 119 #[.int .u64 14757395258967643136, .pointer (some ⟨g, 0, none⟩)] w fun e w' => e = .returned (.int .u64 40000000000000005) ∧ w = w' := by
  have hb1 : bits BinOp.and .i64 8 63 = 8 := by decide +kernel
  have hb2 : bits BinOp.or .u64 40000000000000004 1 = 40000000000000005 := by decide +kernel
  have HM := Lib.hid c_MulB
  go_enter Tryz.func119, Tryz.ntmps119
  go_wp2_with ((go_at_call 38; refine (HM.out _).mono ?_; rintro e w' ⟨rfl, rfl⟩))
  go_ret
  exact ⟨rfl, rfl⟩
end Go.Proofs.YtcohidjaehdbnaaGreatDoor
