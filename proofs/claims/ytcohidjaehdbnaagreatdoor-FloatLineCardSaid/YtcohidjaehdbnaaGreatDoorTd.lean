/- Walk: the shortest digits of a float at one input, 0.1 (strconv: shortFloat[float64]). Conditions: the table's row of 17. -/
import Derived.Test.YtcohidjaehdbnaaGreatDoorTc
namespace Go.Proofs.YtcohidjaehdbnaaGreatDoor
open Go.RowKit
set_option linter.unusedVariables false

set_option maxRecDepth 100000 in
theorem c_short (w : World) (h0 : w.cell? ⟨10, 730, none⟩ = some (.int .u64 12800000000000000000)) (h1 : w.cell? ⟨10, 731, none⟩ = some (.int .u64 0)) (hg : 10 < w.heap.size) :
    Calls Tryz.prog 99 #[.int .u64 14757395258967642112, .int .i64 (-67)] w fun e w' => e = .returned (.tuple #[.int .u64 1000000000000000, .int .i64 (-16)]) ∧ Below w.heap.size w w' := by
  have HT0 := Lib.hid h0
  have HT1 := Lib.hid h1
  have HK := Lib.hid (Blk.new w 145 #[.int .u64 0, .int .u64 0, .int .i64 0])
  have HB := Lib.hid ((Below.refl w.heap.size w).alloc (Nat.le_refl _) (.cells #[.int .u64 0, .int .u64 0, .int .i64 0] 145))
  have hb1 : bits BinOp.and .i64 7205759403792794 1 = 0 := by decide +kernel
  have HA : Hid ((w.alloc (.cells #[.int .u64 0, .int .u64 0, .int .i64 0] 145)).cell? ⟨10, 730, none⟩ = some (.int .u64 12800000000000000000) ∧ (w.alloc (.cells #[.int .u64 0, .int .u64 0, .int .i64 0] 145)).cell? ⟨10, 731, none⟩ = some (.int .u64 0)) := ⟨by rw [World.cell?_alloc_lt w _ _ hg]; exact h0, by rw [World.cell?_alloc_lt w _ _ hg]; exact h1⟩
  have HP := Lib.hid (c_prescale w.heap.size _ _ _ _ HA.out.1 HA.out.2 HK.out hg)
  clear h0 h1
  go_enter Tryz.func99, Tryz.ntmps99
  go_wp2_with (first
    | (go_at_call 94; refine (c_log10 _).mono ?_; rintro e w' ⟨rfl, rfl⟩)
    | (go_at_call 118; refine (c_log2 _).mono ?_; rintro e w' ⟨rfl, rfl⟩))
  refine HP.out.mono ?_; rintro e w2 ⟨rfl, hk2, hb2⟩
  have k0 : w2.cell? ⟨w.heap.size, 0, none⟩ = some (.int .u64 12800000000000000000) := hk2.cell 0
  have k2 : w2.cell? ⟨w.heap.size, 2, none⟩ = some (.int .i64 8) := hk2.cell 2
  have HBB := Lib.hid (HB.out.trans hb2)
  have HUA := Lib.hid (c_uscaleA w.heap.size w2 k0 k2)
  have HUB := Lib.hid (c_uscaleB w.heap.size w2 k0 k2)
  clear hk2 hb2 k0 k2 HP HA
  go_wp2_with fail
  refine HUA.out.mono ?_; rintro e w3 ⟨rfl, rfl⟩
  go_wp2_with fail
  refine (c_nudge0 39999999999999999 (by decide) _).mono ?_; rintro e w3 ⟨rfl, rfl⟩
  go_wp2_with fail
  refine (c_ceil _).mono ?_; rintro e w3 ⟨rfl, rfl⟩
  go_wp2_with fail
  refine HUB.out.mono ?_; rintro e w3 ⟨rfl, rfl⟩
  go_wp2_with fail
  refine (c_nudge0 40000000000000005 (by decide) _).mono ?_; rintro e w3 ⟨rfl, rfl⟩
  go_wp2_with fail
  refine (c_floor _).mono ?_; rintro e w3 ⟨rfl, rfl⟩
  go_wp2
  go_ret2
  exact ⟨rfl, HBB.out⟩
end Go.Proofs.YtcohidjaehdbnaaGreatDoor
