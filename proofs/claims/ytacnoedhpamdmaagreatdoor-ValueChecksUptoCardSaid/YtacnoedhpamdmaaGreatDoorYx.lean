/- The law's walk: ValueChecks. Conditions: the value as it reads; its bulk at most 1048576. -/
import Derived.Test.YtacnoedhpamdmaaGreatDoorYw
import Derived.Test.YtacnoedhpamdmaaGreatDoorYo
import Derived.Deep.RegionHeld3
namespace Go.Proofs.YtacnoedhpamdmaaGreatDoor
open Go.RowKit
set_option linter.unusedVariables false
attribute [local go_sem ↓] Go.wp_at_zero Go.wp_at_succ

theorem Box.drew {W : World} {g : Nat} {cs : List Value} (h : Box W g cs) : Box W.drew g cs := ⟨h.blk.drew, h.lt⟩
theorem below_drew {B : Nat} {a w : World} (h : Below B a w) : Below B a w.drew := ⟨h.os, h.tape, h.output, h.size, h.block⟩
set_option maxRecDepth 100000 in
set_option maxHeartbeats 2000000 in
theorem c_ValueChecks (v : Val) (cs : List Value) (w : World) (h : RV w v cs) : Calls Tryz.prog 4 #[.agg cs.toArray] w fun e w' => e = .returned (.bool true) ∧ Below w.heap.size w w' := by
  have HR := Lib.hid h.row
  have HB0 : Hid (Below w.heap.size w (w.alloc (.cells cs.toArray 30))) := (Below.refl w.heap.size w).alloc (Nat.le_refl _) _
  have HX0 := Lib.hid (Box.new w cs)
  have HRV := Lib.hid h
  have HC1 : Hid (∀ W, RV W v cs → Calls Tryz.prog 18 #[.agg cs.toArray] W fun e w' => e = .returned (.int .i64 (chk fone v)) ∧ Below W.heap.size W w') := fun W h => c_Check v cs W h
  have HC2 : Hid (∀ W, RV W v cs → Calls Tryz.prog 13 #[.agg cs.toArray] W fun e w' => e = .returned (.int .i64 (chk fone v)) ∧ Below W.heap.size W w') := fun W h => c_rCheck v cs W h
  have HP1 : Hid (∀ W, RV W v cs → Calls Tryz.prog 16 #[.agg cs.toArray] W fun e w' => e = .returned (.tuple #[.int .i64 (prts v), .int .i64 (chk fone v)]) ∧ Below W.heap.size W w') := fun W h => c_Parts v cs W h
  have HP2 : Hid (∀ W, RV W v cs → Calls Tryz.prog 17 #[.agg cs.toArray] W fun e w' => e = .returned (.tuple #[.int .i64 (prts v), .int .i64 (chk fone v)]) ∧ Below W.heap.size W w') := fun W h => c_rParts v cs W h
  have HAW : Hid (∀ W, Calls Tryz.prog 10 #[] W fun e w' => e = .returned (.bool true) ∧ Below W.heap.size W w') := fun W => c_awake W
  generalize prts v = C at *
  generalize chk fone v = E at *
  obtain ⟨u0, u1, u2, u3, u4, u5, hcs⟩ := six_list h.six.1
  have HCS := Lib.hid hcs
  clear h hcs
  go_enter Tryz.func4, Tryz.ntmps4
  go_upto_region 1 with fail
  generalize w.alloc (.cells cs.toArray 30) = w0 at *
  have HRV0 := Lib.hid (HRV.out.step HB0.out)
  go_wp2_with (refine wpList_load_row rfl 30 (.tmp 1) rfl w.heap.size rfl 30 _ (0, 0) _ HX0.out.blk Tryz.underlying30 rfl HR.out ?_)
  refine (HP1.out _ HRV0.out).mono ?_; rintro e w1 ⟨rfl, hb1⟩
  have HX1 := Lib.hid (HX0.out.step hb1)
  have HB1 := Lib.hid (HB0.out.trans (hb1.mono HB0.out.size))
  have HRV1 := Lib.hid (HRV.out.step HB1.out)
  clear hb1 HRV0 HX0 HB0
  go_wp2_with (refine wpList_load_row rfl 30 (.tmp 1) rfl w.heap.size rfl 30 _ (0, 0) _ HX1.out.blk Tryz.underlying30 rfl HR.out ?_)
  refine (HP2.out _ HRV1.out).mono ?_; rintro e w2 ⟨rfl, hb2⟩
  have HX2 := Lib.hid (HX1.out.step hb2)
  have HB2 := Lib.hid (HB1.out.trans (hb2.mono HB1.out.size))
  have HRV2 := Lib.hid (HRV.out.step HB2.out)
  clear hb2 HRV1 HX1 HB1
  go_wp2_with fail
  have hcs := HCS.out
  clear HCS
  subst hcs
  have q0 : w2.cell? ⟨w.heap.size, 0, none⟩ = some u0 := HX2.out.blk.cell 0
  have q1 : w2.cell? ⟨w.heap.size, 1, none⟩ = some u1 := HX2.out.blk.cell 1
  have q2 : w2.cell? ⟨w.heap.size, 2, none⟩ = some u2 := HX2.out.blk.cell 2
  have q3 : w2.cell? ⟨w.heap.size, 3, none⟩ = some u3 := HX2.out.blk.cell 3
  have q4 : w2.cell? ⟨w.heap.size, 4, none⟩ = some u4 := HX2.out.blk.cell 4
  have q5 : w2.cell? ⟨w.heap.size, 5, none⟩ = some u5 := HX2.out.blk.cell 5
  go_region_held3 (fun V => V.cell? ⟨w.heap.size, 0, none⟩ = some u0 ∧ V.cell? ⟨w.heap.size, 1, none⟩ = some u1 ∧ V.cell? ⟨w.heap.size, 2, none⟩ = some u2 ∧ V.cell? ⟨w.heap.size, 3, none⟩ = some u3 ∧ V.cell? ⟨w.heap.size, 4, none⟩ = some u4 ∧ V.cell? ⟨w.heap.size, 5, none⟩ = some u5) (first | go_keep | (refine ⟨?_, ?_, ?_, ?_, ?_, ?_⟩ <;> assumption)) (first
    | (go_at_call 18; refine (HC1.out _ (HRV.out.step (below_drew HB2.out))).mono ?_; rintro e w3 ⟨rfl, hb⟩; have HXw3 := Lib.hid (Box.step (Box.drew HX2.out) hb); have HBw3 := Lib.hid ((below_drew HB2.out).trans (hb.mono (below_drew HB2.out).size)); have q0 : w3.cell? ⟨w.heap.size, 0, none⟩ = some u0 := HXw3.out.blk.cell 0; have q1 : w3.cell? ⟨w.heap.size, 1, none⟩ = some u1 := HXw3.out.blk.cell 1; have q2 : w3.cell? ⟨w.heap.size, 2, none⟩ = some u2 := HXw3.out.blk.cell 2; have q3 : w3.cell? ⟨w.heap.size, 3, none⟩ = some u3 := HXw3.out.blk.cell 3; have q4 : w3.cell? ⟨w.heap.size, 4, none⟩ = some u4 := HXw3.out.blk.cell 4; have q5 : w3.cell? ⟨w.heap.size, 5, none⟩ = some u5 := HXw3.out.blk.cell 5; clear hb)
    | (go_at_call 13; refine (HC2.out _ (HRV.out.step HBw3.out)).mono ?_; rintro e w4 ⟨rfl, hb⟩; have HXw4 := Lib.hid (Box.step HXw3.out hb); have HBw4 := Lib.hid (HBw3.out.trans (hb.mono HBw3.out.size)); have q0 : w4.cell? ⟨w.heap.size, 0, none⟩ = some u0 := HXw4.out.blk.cell 0; have q1 : w4.cell? ⟨w.heap.size, 1, none⟩ = some u1 := HXw4.out.blk.cell 1; have q2 : w4.cell? ⟨w.heap.size, 2, none⟩ = some u2 := HXw4.out.blk.cell 2; have q3 : w4.cell? ⟨w.heap.size, 3, none⟩ = some u3 := HXw4.out.blk.cell 3; have q4 : w4.cell? ⟨w.heap.size, 4, none⟩ = some u4 := HXw4.out.blk.cell 4; have q5 : w4.cell? ⟨w.heap.size, 5, none⟩ = some u5 := HXw4.out.blk.cell 5; clear hb)
    | (go_at_call 10; refine (HAW.out _).mono ?_; rintro e w5 ⟨rfl, hb⟩; have HXw5 := Lib.hid (Box.step HXw4.out hb); have HBw5 := Lib.hid (HBw4.out.trans (hb.mono HBw4.out.size)); have q0 : w5.cell? ⟨w.heap.size, 0, none⟩ = some u0 := HXw5.out.blk.cell 0; have q1 : w5.cell? ⟨w.heap.size, 1, none⟩ = some u1 := HXw5.out.blk.cell 1; have q2 : w5.cell? ⟨w.heap.size, 2, none⟩ = some u2 := HXw5.out.blk.cell 2; have q3 : w5.cell? ⟨w.heap.size, 3, none⟩ = some u3 := HXw5.out.blk.cell 3; have q4 : w5.cell? ⟨w.heap.size, 4, none⟩ = some u4 := HXw5.out.blk.cell 4; have q5 : w5.cell? ⟨w.heap.size, 5, none⟩ = some u5 := HXw5.out.blk.cell 5; clear hb))
  clear HXw5 HXw4 HXw3 HX2 HRV HRV2
  go_wp2_with fail
  go_ret
  exact ⟨rfl, HBw5.out⟩
theorem l_ValueChecks (W : World) (v : Val) (cs : List Value) (h : RV W v cs) : Calls Tryz.prog 4 #[.agg cs.toArray] W fun e W' => e = .returned (.bool true) ∧ Below W.heap.size W W' := c_ValueChecks v cs W h
end Go.Proofs.YtacnoedhpamdmaaGreatDoor
