/- Walks: the scale of a float's print at one input, 0.1 (strconv: prescale). Conditions: the table's row of 17, the three cells of the scale in new memory. -/
import Derived.Test.YtcohidjaehdbnaaGreatDoorTb
namespace Go.Proofs.YtcohidjaehdbnaaGreatDoor
open Go.RowKit
set_option linter.unusedVariables false

theorem c_prescale (g : Nat) (a b c : Value) (w : World) (h0 : w.cell? ⟨10, 730, none⟩ = some (.int .u64 12800000000000000000)) (h1 : w.cell? ⟨10, 731, none⟩ = some (.int .u64 0)) (hk : Blk w g 145 #[a, b, c]) (hg : 10 < g) :
    Calls Tryz.prog 117 #[.pointer (some ⟨g, 0, none⟩), .int .i64 (-67), .int .i64 17, .int .i64 56] w fun e w' => e = .returned (.tuple #[]) ∧ Blk w' g 145 #[.int .u64 12800000000000000000, .int .u64 0, .int .i64 8] ∧ Below g w w' := by
  have f0 := hk.frozen 0
  have f1 := hk.frozen 1
  have f2 := hk.frozen 2
  have k0 : w.cell? ⟨g, 0, none⟩ = some a := hk.cell 0
  have k1 : w.cell? ⟨g, 1, none⟩ = some b := hk.cell 1
  have k2 : w.cell? ⟨g, 2, none⟩ = some c := hk.cell 2
  have HK := Lib.hid hk
  clear hk
  go_enter Tryz.func117, Tryz.ntmps117
  go_wp2_with fail
  go_end0
  exact ⟨rfl, ((HK.out.set_ 0 _).set_ 1 _).set_ 2 _, (((Below.refl g w).setCell (Nat.le_refl _) _).setCell (Nat.le_refl _) _).setCell (Nat.le_refl _) _⟩
end Go.Proofs.YtcohidjaehdbnaaGreatDoor
