/- Walk: the law ValueOrders. Conditions: the values as they read; bulk at most 1048576. -/
import Derived.Test.YtacnoedhpamdmaaGreatDoorOh
import Derived.Test.YtacnoedhpamdmaaGreatDoorYw
namespace Go.Proofs.YtacnoedhpamdmaaGreatDoor
open Go.RowKit
set_option linter.unusedVariables false
attribute [local go_sem ↓] Go.wp_at_zero Go.wp_at_succ

set_option maxRecDepth 100000 in
set_option maxHeartbeats 2000000 in
theorem c_ValueOrders (a b : Val) (cs cs' : List Value) (w : World) (h : RV w a cs) (h' : RV w b cs') : Calls Tryz.prog 7 #[.agg cs.toArray, .agg cs'.toArray] w fun e w' => e = .returned (.bool true) ∧ Below w.heap.size w w' := by
  have HTB := two_boxes w cs cs'
  have HX0 := Lib.hid HTB.1
  have HY0 := Lib.hid HTB.2.1
  have HB0 := Lib.hid HTB.2.2
  have HRa := Lib.hid h.row
  have HRb := Lib.hid h'.row
  have HV0 := Lib.hid (h.step HTB.2.2)
  have HW0 := Lib.hid (h'.step HTB.2.2)
  obtain ⟨E, hE⟩ : ∃ E, bothE a b = E := ⟨_, rfl⟩
  obtain ⟨S, hS⟩ : ∃ S, samA a b = S := ⟨_, rfl⟩
  obtain ⟨N, hN⟩ : ∃ N, ordA a b = N := ⟨_, rfl⟩
  have HC1 : Hid (∀ W, RV W a cs → RV W b cs' → Calls Tryz.prog 25 #[.agg cs.toArray, .agg cs'.toArray] W fun e w' => e = .returned (.tuple #[.bool S, .int .i64 E]) ∧ Below W.heap.size W w') := by rw [← hS, ← hE]; exact fun W hr hr' => c_vSame a b cs cs' W hr hr'
  have HC2 : Hid (∀ W, RV W a cs → RV W b cs' → Calls Tryz.prog 26 #[.agg cs.toArray, .agg cs'.toArray] W fun e w' => e = .returned (.tuple #[.bool S, .int .i64 E]) ∧ Below W.heap.size W w') := by rw [← hS, ← hE]; exact fun W hr hr' => c_rvSame a b cs cs' W hr hr'
  have HC3 : Hid (∀ W, RV W a cs → RV W b cs' → Calls Tryz.prog 27 #[.agg cs.toArray, .agg cs'.toArray] W fun e w' => e = .returned (.tuple #[.int .i64 N, .int .i64 E]) ∧ Below W.heap.size W w') := by rw [← hN, ← hE]; exact fun W hr hr' => c_vOrder a b cs cs' W hr hr'
  have HC4 : Hid (∀ W, RV W a cs → RV W b cs' → Calls Tryz.prog 28 #[.agg cs.toArray, .agg cs'.toArray] W fun e w' => e = .returned (.tuple #[.int .i64 N, .int .i64 E]) ∧ Below W.heap.size W w') := by rw [← hN, ← hE]; exact fun W hr hr' => c_rvOrder a b cs cs' W hr hr'
  clear h h' HTB hE hS hN
  go_enter Tryz.func7, Tryz.ntmps7
  go_upto_region 1 with fail
  generalize World.alloc (w.alloc _) _ = w0 at *
  go_wp2_with (first | (refine wpList_load_row rfl 30 (.tmp 2) rfl w.heap.size rfl 30 _ (0, 0) _ HX0.out.blk Tryz.underlying30 rfl HRa.out ?_) | (refine wpList_load_row rfl 30 (.tmp 3) rfl (w.heap.size + 1) rfl 30 _ (0, 0) _ HY0.out.blk Tryz.underlying30 rfl HRb.out ?_))
  refine (HC1.out _ HV0.out HW0.out).mono ?_; rintro e w1 ⟨rfl, hb1⟩
  have HX1 := Lib.hid (HX0.out.step hb1)
  have HY1 := Lib.hid (HY0.out.step hb1)
  have HV1 := Lib.hid (HV0.out.step hb1)
  have HW1 := Lib.hid (HW0.out.step hb1)
  have HB1 := Lib.hid (HB0.out.trans (hb1.mono HB0.out.size))
  clear hb1 HX0 HY0 HV0 HW0 HB0 HC1
  go_wp2_with (first | (refine wpList_load_row rfl 30 (.tmp 2) rfl w.heap.size rfl 30 _ (0, 0) _ HX1.out.blk Tryz.underlying30 rfl HRa.out ?_) | (refine wpList_load_row rfl 30 (.tmp 3) rfl (w.heap.size + 1) rfl 30 _ (0, 0) _ HY1.out.blk Tryz.underlying30 rfl HRb.out ?_))
  refine (HC2.out _ HV1.out HW1.out).mono ?_; rintro e w2 ⟨rfl, hb2⟩
  have HX2 := Lib.hid (HX1.out.step hb2)
  have HY2 := Lib.hid (HY1.out.step hb2)
  have HV2 := Lib.hid (HV1.out.step hb2)
  have HW2 := Lib.hid (HW1.out.step hb2)
  have HB2 := Lib.hid (HB1.out.trans (hb2.mono HB1.out.size))
  clear hb2 HX1 HY1 HV1 HW1 HB1 HC2
  go_wp2_with (first | (refine wpList_load_row rfl 30 (.tmp 2) rfl w.heap.size rfl 30 _ (0, 0) _ HX2.out.blk Tryz.underlying30 rfl HRa.out ?_) | (refine wpList_load_row rfl 30 (.tmp 3) rfl (w.heap.size + 1) rfl 30 _ (0, 0) _ HY2.out.blk Tryz.underlying30 rfl HRb.out ?_))
  refine (HC3.out _ HV2.out HW2.out).mono ?_; rintro e w3 ⟨rfl, hb3⟩
  have HX3 := Lib.hid (HX2.out.step hb3)
  have HY3 := Lib.hid (HY2.out.step hb3)
  have HV3 := Lib.hid (HV2.out.step hb3)
  have HW3 := Lib.hid (HW2.out.step hb3)
  have HB3 := Lib.hid (HB2.out.trans (hb3.mono HB2.out.size))
  clear hb3 HX2 HY2 HV2 HW2 HB2 HC3
  go_wp2_with (first | (refine wpList_load_row rfl 30 (.tmp 2) rfl w.heap.size rfl 30 _ (0, 0) _ HX3.out.blk Tryz.underlying30 rfl HRa.out ?_) | (refine wpList_load_row rfl 30 (.tmp 3) rfl (w.heap.size + 1) rfl 30 _ (0, 0) _ HY3.out.blk Tryz.underlying30 rfl HRb.out ?_))
  refine (HC4.out _ HV3.out HW3.out).mono ?_; rintro e w4 ⟨rfl, hb4⟩
  have HX4 := Lib.hid (HX3.out.step hb4)
  have HY4 := Lib.hid (HY3.out.step hb4)
  have HV4 := Lib.hid (HV3.out.step hb4)
  have HW4 := Lib.hid (HW3.out.step hb4)
  have HB4 := Lib.hid (HB3.out.trans (hb4.mono HB3.out.size))
  clear hb4 HX3 HY3 HV3 HW3 HB3 HC4
  have t1 : (S == S) = true := by simp
  have t2 : (E == E) = true := by simp
  have t3 : (N == N) = true := by simp
  go_wp2_with fail
  refine (c_awake _).mono ?_; rintro e w5 ⟨rfl, hb5⟩
  have HB5 := Lib.hid (HB4.out.trans (hb5.mono HB4.out.size))
  clear hb5
  go_wp2_with fail
  go_ret
  exact ⟨rfl, HB5.out⟩
theorem l_ValueOrders (W : World) (a : Val) (cs : List Value) (h : RV W a cs) (b : Val) (cs' : List Value) (h' : RV W b cs') : Calls Tryz.prog 7 #[.agg cs.toArray, .agg cs'.toArray] W fun e W' => e = .returned (.bool true) ∧ Below W.heap.size W W' := c_ValueOrders a b cs cs' W h h'
end Go.Proofs.YtacnoedhpamdmaaGreatDoor
