/- Walk: how many bytes a value has, as far as most (value.size). Conditions: the value as it reads, its fields as the kinds say; its bulk at most 1048576. -/
import Derived.Test.YtigbbogfnchgnaaGreatDoorYm
import Derived.Test.YtigbbogfnchgnaaGreatDoorYl
import Derived.Test.YtigbbogfnchgnaaGreatDoorYi
namespace Go.Proofs.YtigbbogfnchgnaaGreatDoor
open Go.RowKit
set_option linter.unusedVariables false
attribute [local go_sem ↓] Go.wp_at_zero Go.wp_at_succ

theorem ta_null_null (x : Value) (W : World) : (Instr.typeAssert (.iface 76 x) 54 76 true).run Tryz.prog W = .ok (.tuple #[x, .bool true]) W := by kernel_rfl
theorem ta_null_truth (x : Value) (W : World) : (Instr.typeAssert (.iface 76 x) 54 77 true).run Tryz.prog W = .ok (.tuple #[.bool false, .bool false]) W := by kernel_rfl
theorem ta_null_number (x : Value) (W : World) : (Instr.typeAssert (.iface 76 x) 54 78 true).run Tryz.prog W = .ok (.tuple #[.int .i64 0, .bool false]) W := by kernel_rfl
theorem ta_null_real (x : Value) (W : World) : (Instr.typeAssert (.iface 76 x) 54 79 true).run Tryz.prog W = .ok (.tuple #[.float .f64 0, .bool false]) W := by kernel_rfl
theorem ta_null_words (x : Value) (W : World) : (Instr.typeAssert (.iface 76 x) 54 80 true).run Tryz.prog W = .ok (.tuple #[.string ⟨#[]⟩, .bool false]) W := by kernel_rfl
theorem ta_truth_null (x : Value) (W : World) : (Instr.typeAssert (.iface 77 x) 54 76 true).run Tryz.prog W = .ok (.tuple #[.agg #[], .bool false]) W := by kernel_rfl
theorem ta_truth_truth (x : Value) (W : World) : (Instr.typeAssert (.iface 77 x) 54 77 true).run Tryz.prog W = .ok (.tuple #[x, .bool true]) W := by kernel_rfl
theorem ta_truth_number (x : Value) (W : World) : (Instr.typeAssert (.iface 77 x) 54 78 true).run Tryz.prog W = .ok (.tuple #[.int .i64 0, .bool false]) W := by kernel_rfl
theorem ta_truth_real (x : Value) (W : World) : (Instr.typeAssert (.iface 77 x) 54 79 true).run Tryz.prog W = .ok (.tuple #[.float .f64 0, .bool false]) W := by kernel_rfl
theorem ta_truth_words (x : Value) (W : World) : (Instr.typeAssert (.iface 77 x) 54 80 true).run Tryz.prog W = .ok (.tuple #[.string ⟨#[]⟩, .bool false]) W := by kernel_rfl
theorem ta_number_null (x : Value) (W : World) : (Instr.typeAssert (.iface 78 x) 54 76 true).run Tryz.prog W = .ok (.tuple #[.agg #[], .bool false]) W := by kernel_rfl
theorem ta_number_truth (x : Value) (W : World) : (Instr.typeAssert (.iface 78 x) 54 77 true).run Tryz.prog W = .ok (.tuple #[.bool false, .bool false]) W := by kernel_rfl
theorem ta_number_number (x : Value) (W : World) : (Instr.typeAssert (.iface 78 x) 54 78 true).run Tryz.prog W = .ok (.tuple #[x, .bool true]) W := by kernel_rfl
theorem ta_number_real (x : Value) (W : World) : (Instr.typeAssert (.iface 78 x) 54 79 true).run Tryz.prog W = .ok (.tuple #[.float .f64 0, .bool false]) W := by kernel_rfl
theorem ta_number_words (x : Value) (W : World) : (Instr.typeAssert (.iface 78 x) 54 80 true).run Tryz.prog W = .ok (.tuple #[.string ⟨#[]⟩, .bool false]) W := by kernel_rfl
theorem ta_real_null (x : Value) (W : World) : (Instr.typeAssert (.iface 79 x) 54 76 true).run Tryz.prog W = .ok (.tuple #[.agg #[], .bool false]) W := by kernel_rfl
theorem ta_real_truth (x : Value) (W : World) : (Instr.typeAssert (.iface 79 x) 54 77 true).run Tryz.prog W = .ok (.tuple #[.bool false, .bool false]) W := by kernel_rfl
theorem ta_real_number (x : Value) (W : World) : (Instr.typeAssert (.iface 79 x) 54 78 true).run Tryz.prog W = .ok (.tuple #[.int .i64 0, .bool false]) W := by kernel_rfl
theorem ta_real_real (x : Value) (W : World) : (Instr.typeAssert (.iface 79 x) 54 79 true).run Tryz.prog W = .ok (.tuple #[x, .bool true]) W := by kernel_rfl
theorem ta_real_words (x : Value) (W : World) : (Instr.typeAssert (.iface 79 x) 54 80 true).run Tryz.prog W = .ok (.tuple #[.string ⟨#[]⟩, .bool false]) W := by kernel_rfl
theorem ta_words_null (x : Value) (W : World) : (Instr.typeAssert (.iface 80 x) 54 76 true).run Tryz.prog W = .ok (.tuple #[.agg #[], .bool false]) W := by kernel_rfl
theorem ta_words_truth (x : Value) (W : World) : (Instr.typeAssert (.iface 80 x) 54 77 true).run Tryz.prog W = .ok (.tuple #[.bool false, .bool false]) W := by kernel_rfl
theorem ta_words_number (x : Value) (W : World) : (Instr.typeAssert (.iface 80 x) 54 78 true).run Tryz.prog W = .ok (.tuple #[.int .i64 0, .bool false]) W := by kernel_rfl
theorem ta_words_real (x : Value) (W : World) : (Instr.typeAssert (.iface 80 x) 54 79 true).run Tryz.prog W = .ok (.tuple #[.float .f64 0, .bool false]) W := by kernel_rfl
theorem ta_words_words (x : Value) (W : World) : (Instr.typeAssert (.iface 80 x) 54 80 true).run Tryz.prog W = .ok (.tuple #[x, .bool true]) W := by kernel_rfl
theorem ta_raw_null (x : Value) (W : World) : (Instr.typeAssert (.iface 81 x) 54 76 true).run Tryz.prog W = .ok (.tuple #[.agg #[], .bool false]) W := by kernel_rfl
theorem ta_raw_truth (x : Value) (W : World) : (Instr.typeAssert (.iface 81 x) 54 77 true).run Tryz.prog W = .ok (.tuple #[.bool false, .bool false]) W := by kernel_rfl
theorem ta_raw_number (x : Value) (W : World) : (Instr.typeAssert (.iface 81 x) 54 78 true).run Tryz.prog W = .ok (.tuple #[.int .i64 0, .bool false]) W := by kernel_rfl
theorem ta_raw_real (x : Value) (W : World) : (Instr.typeAssert (.iface 81 x) 54 79 true).run Tryz.prog W = .ok (.tuple #[.float .f64 0, .bool false]) W := by kernel_rfl
theorem ta_raw_words (x : Value) (W : World) : (Instr.typeAssert (.iface 81 x) 54 80 true).run Tryz.prog W = .ok (.tuple #[.string ⟨#[]⟩, .bool false]) W := by kernel_rfl
theorem ta_veil_null (x : Value) (W : World) : (Instr.typeAssert (.iface 82 x) 54 76 true).run Tryz.prog W = .ok (.tuple #[.agg #[], .bool false]) W := by kernel_rfl
theorem ta_veil_truth (x : Value) (W : World) : (Instr.typeAssert (.iface 82 x) 54 77 true).run Tryz.prog W = .ok (.tuple #[.bool false, .bool false]) W := by kernel_rfl
theorem ta_veil_number (x : Value) (W : World) : (Instr.typeAssert (.iface 82 x) 54 78 true).run Tryz.prog W = .ok (.tuple #[.int .i64 0, .bool false]) W := by kernel_rfl
theorem ta_veil_real (x : Value) (W : World) : (Instr.typeAssert (.iface 82 x) 54 79 true).run Tryz.prog W = .ok (.tuple #[.float .f64 0, .bool false]) W := by kernel_rfl
theorem ta_veil_words (x : Value) (W : World) : (Instr.typeAssert (.iface 82 x) 54 80 true).run Tryz.prog W = .ok (.tuple #[.string ⟨#[]⟩, .bool false]) W := by kernel_rfl
theorem sz_leaf {v : Val} {m : Int} (h6 : v.k ≠ 6) (h7 : v.k ≠ 7) : szB v m = leafK v.k v.t.size := by
  rw [szB_eq, if_neg (by omega)]; rfl
theorem sz_node {v : Val} {m : Int} (h : v.k = 6 ∨ v.k = 7) : szB v m = szL (v.k = 7) v.its v.nms m 5 := by
  rw [szB_eq, if_pos h]
set_option maxRecDepth 100000 in
set_option maxHeartbeats 2000000 in
theorem c_size : ∀ (v : Val) (m : Int) (cs : List Value) (w : World), RV w v cs → anyV (fun v => !flds fone v) v = false → (wt v : Int) - 1099511627776 ≤ m → m ≤ 1099511627776 → Calls Tryz.prog 23 #[.agg cs.toArray, .int .i64 m] w fun e w' => e = .returned (.int .i64 (szB v m)) ∧ Below w.heap.size w w' := by
  refine Val.ind fun v ih m cs w h hf hm1 hm2 => ?_
  have hgd := good_of hf
  have HR := Lib.hid h.row
  have hlen : v.its.length < 1048577 := by have := (bnd_len v).1; have := h.bd; omega
  have hnlen : v.nms.length < 1048577 := by have := (bnd_len v).2.1; have := h.bd; omega
  have htl : v.t.size < 1048577 := by have := (bnd_len v).2.2; have := h.bd; omega
  have HWB : Hid (wt v ≤ 13 * 1048576) := by have := wt_bnd v; have := h.bd; show _ ≤ _; omega
  have HB : Hid (Below w.heap.size w (w.alloc (.cells cs.toArray 26))) := (Below.refl w.heap.size w).alloc (Nat.le_refl _) _
  have HK := Lib.hid (Blk.new w 26 cs.toArray)
  have HLF := Lib.hid (c_leafOf v cs _ (h.step HB.out))
  obtain ⟨A, A', c, c', hvc, hnm, hop⟩ := h.open_
  have HNM := Lib.hid (hnm.below HB.out)
  have HOP := Lib.hid hop
  have HIH : Hid (∀ (i : Nat) (hi : i < v.its.length) (m : Int) (cs : List Value) (w : World), RV w v.its[i] cs → (wt v.its[i] : Int) - 1099511627776 ≤ m → m ≤ 1099511627776 → Calls Tryz.prog 23 #[.agg cs.toArray, .int .i64 m] w fun e w' => e = .returned (.int .i64 (szB v.its[i] m)) ∧ Below w.heap.size w w') := fun i hi m cs w hr h1 h2 => ih _ (List.getElem_mem hi) m cs w hr (hgd.it _ (List.getElem_mem hi)) h1 h2
  have HSW : Hid (∀ (i : Nat) (hi : i < v.its.length) (m : Int), szB v.its[i] m ≤ m → szB v.its[i] m = wt v.its[i]) := fun i hi m => (sz_wt fone _ (hgd.it _ (List.getElem_mem hi)) m).1
  have K0 : Hid ((w.alloc (.cells cs.toArray 26)).cell? ⟨w.heap.size, 0, none⟩ = some (.int .i64 v.k)) := by show _ = _; rw [HK.out.cell 0, hvc]; rfl
  have K3 : Hid ((w.alloc (.cells cs.toArray 26)).cell? ⟨w.heap.size, 3, none⟩ = some (.string v.t)) := by show _ = _; rw [HK.out.cell 3, hvc]; rfl
  have K4 : Hid ((w.alloc (.cells cs.toArray 26)).cell? ⟨w.heap.size, 4, none⟩ = some (.slice A v.its.length c)) := by show _ = _; rw [HK.out.cell 4, hvc]; rfl
  have K5 : Hid ((w.alloc (.cells cs.toArray 26)).cell? ⟨w.heap.size, 5, none⟩ = some (.slice A' v.nms.length c')) := by show _ = _; rw [HK.out.cell 5, hvc]; rfl
  have HLT : Hid (w.heap.size < (w.alloc (.cells cs.toArray 26)).heap.size) := HK.out.lt
  have HGN : Hid (v.k = 7 → v.nms.length = v.its.length) := hgd.nm
  have HWL : Hid (v.k ≠ 6 → v.k ≠ 7 → szB v m = leafK v.k v.t.size) := sz_leaf
  have HWN : Hid (v.k = 6 ∨ v.k = 7 → szB v m = szL (v.k = 7) v.its v.nms m 5) := sz_node
  have HWT : Hid (v.k = 6 ∨ v.k = 7 → wt v = 5 + wtL (v.k = 7) v.its v.nms) := wt_node
  have HKK := hgd.k
  unfold leafV at HLF
  clear hop ih h hvc hnm hf hgd
  generalize wt v = W at *
  generalize szB v m = Z at *
  generalize v.its = its at *
  generalize v.nms = nms at *
  generalize v.k = k at *
  generalize v.i = iv at *
  generalize v.f = fv at *
  generalize v.t = t at *
  rcases HKK with hk | hk | hk | hk | hk | hk | hk | hk | hk
  · subst hk
    have HE := Lib.hid (HWL.out (by decide) (by decide))
    have HL2 : Hid (Calls Tryz.prog 24 #[.agg cs.toArray] (w.alloc (.cells cs.toArray 26)) fun e w' => e = .returned (.iface 76 (.agg #[])) ∧ Below (w.alloc (.cells cs.toArray 26)).heap.size (w.alloc (.cells cs.toArray 26)) w') := HLF.out
    clear HIH HOP HNM HGN HWL HWN HWT HSW HLF K0 K4 K5 hlen
    go_enter Tryz.func23, Tryz.ntmps23
    go_upto_region 1 with fail
    generalize w.alloc (.cells cs.toArray 26) = w0 at *
    go_wp2_with (refine wpList_load_row rfl 26 (.tmp 2) rfl w.heap.size rfl 26 _ (0, 0) _ HK.out Tryz.underlying26 rfl HR.out ?_)
    refine HL2.out.mono ?_; rintro e w1 ⟨rfl, hb1⟩
    have HB1 := Lib.hid (HB.out.trans (hb1.mono HB.out.size))
    have k3 : w1.cell? ⟨w.heap.size, 3, none⟩ = some (.string t) := (hb1.cell (p := ⟨w.heap.size, 3, none⟩) HLT.out).trans K3.out
    clear hb1 HL2
    have t1 := ta_null_null
    have t2 := ta_null_truth
    have t3 := ta_null_number
    have t4 := ta_null_real
    have t5 := ta_null_words
    go_wp2_with fail
    go_ret
    exact ⟨by rw [HE.out]; first | rfl | (unfold leafK; simp; done), HB1.out.alloc HB1.out.size _⟩
  · subst hk
    have HE := Lib.hid (HWL.out (by decide) (by decide))
    have HL2 : Hid (Calls Tryz.prog 24 #[.agg cs.toArray] (w.alloc (.cells cs.toArray 26)) fun e w' => e = .returned (.iface 77 (.bool (iv == 1))) ∧ Below (w.alloc (.cells cs.toArray 26)).heap.size (w.alloc (.cells cs.toArray 26)) w') := HLF.out
    clear HIH HOP HNM HGN HWL HWN HWT HSW HLF K0 K4 K5 hlen
    go_enter Tryz.func23, Tryz.ntmps23
    go_upto_region 1 with fail
    generalize w.alloc (.cells cs.toArray 26) = w0 at *
    go_wp2_with (refine wpList_load_row rfl 26 (.tmp 2) rfl w.heap.size rfl 26 _ (0, 0) _ HK.out Tryz.underlying26 rfl HR.out ?_)
    refine HL2.out.mono ?_; rintro e w1 ⟨rfl, hb1⟩
    have HB1 := Lib.hid (HB.out.trans (hb1.mono HB.out.size))
    have k3 : w1.cell? ⟨w.heap.size, 3, none⟩ = some (.string t) := (hb1.cell (p := ⟨w.heap.size, 3, none⟩) HLT.out).trans K3.out
    clear hb1 HL2
    have t1 := ta_truth_null
    have t2 := ta_truth_truth
    have t3 := ta_truth_number
    have t4 := ta_truth_real
    have t5 := ta_truth_words
    go_wp2_with fail
    go_ret
    exact ⟨by rw [HE.out]; first | rfl | (unfold leafK; simp; done), HB1.out⟩
  · subst hk
    have HE := Lib.hid (HWL.out (by decide) (by decide))
    have HL2 : Hid (Calls Tryz.prog 24 #[.agg cs.toArray] (w.alloc (.cells cs.toArray 26)) fun e w' => e = .returned (.iface 78 (.int .i64 iv)) ∧ Below (w.alloc (.cells cs.toArray 26)).heap.size (w.alloc (.cells cs.toArray 26)) w') := HLF.out
    clear HIH HOP HNM HGN HWL HWN HWT HSW HLF K0 K4 K5 hlen
    go_enter Tryz.func23, Tryz.ntmps23
    go_upto_region 1 with fail
    generalize w.alloc (.cells cs.toArray 26) = w0 at *
    go_wp2_with (refine wpList_load_row rfl 26 (.tmp 2) rfl w.heap.size rfl 26 _ (0, 0) _ HK.out Tryz.underlying26 rfl HR.out ?_)
    refine HL2.out.mono ?_; rintro e w1 ⟨rfl, hb1⟩
    have HB1 := Lib.hid (HB.out.trans (hb1.mono HB.out.size))
    have k3 : w1.cell? ⟨w.heap.size, 3, none⟩ = some (.string t) := (hb1.cell (p := ⟨w.heap.size, 3, none⟩) HLT.out).trans K3.out
    clear hb1 HL2
    have t1 := ta_number_null
    have t2 := ta_number_truth
    have t3 := ta_number_number
    have t4 := ta_number_real
    have t5 := ta_number_words
    go_wp2_with fail
    go_ret
    exact ⟨by rw [HE.out]; first | rfl | (unfold leafK; simp; done), HB1.out⟩
  · subst hk
    have HE := Lib.hid (HWL.out (by decide) (by decide))
    have HL2 : Hid (Calls Tryz.prog 24 #[.agg cs.toArray] (w.alloc (.cells cs.toArray 26)) fun e w' => e = .returned (.iface 79 (.float .f64 fv)) ∧ Below (w.alloc (.cells cs.toArray 26)).heap.size (w.alloc (.cells cs.toArray 26)) w') := HLF.out
    clear HIH HOP HNM HGN HWL HWN HWT HSW HLF K0 K4 K5 hlen
    go_enter Tryz.func23, Tryz.ntmps23
    go_upto_region 1 with fail
    generalize w.alloc (.cells cs.toArray 26) = w0 at *
    go_wp2_with (refine wpList_load_row rfl 26 (.tmp 2) rfl w.heap.size rfl 26 _ (0, 0) _ HK.out Tryz.underlying26 rfl HR.out ?_)
    refine HL2.out.mono ?_; rintro e w1 ⟨rfl, hb1⟩
    have HB1 := Lib.hid (HB.out.trans (hb1.mono HB.out.size))
    have k3 : w1.cell? ⟨w.heap.size, 3, none⟩ = some (.string t) := (hb1.cell (p := ⟨w.heap.size, 3, none⟩) HLT.out).trans K3.out
    clear hb1 HL2
    have t1 := ta_real_null
    have t2 := ta_real_truth
    have t3 := ta_real_number
    have t4 := ta_real_real
    have t5 := ta_real_words
    go_wp2_with fail
    go_ret
    exact ⟨by rw [HE.out]; first | rfl | (unfold leafK; simp; done), HB1.out⟩
  · subst hk
    have HE := Lib.hid (HWL.out (by decide) (by decide))
    have HL2 : Hid (Calls Tryz.prog 24 #[.agg cs.toArray] (w.alloc (.cells cs.toArray 26)) fun e w' => e = .returned (.iface 80 (.string t)) ∧ Below (w.alloc (.cells cs.toArray 26)).heap.size (w.alloc (.cells cs.toArray 26)) w') := HLF.out
    clear HIH HOP HNM HGN HWL HWN HWT HSW HLF K0 K4 K5 hlen
    go_enter Tryz.func23, Tryz.ntmps23
    go_upto_region 1 with fail
    generalize w.alloc (.cells cs.toArray 26) = w0 at *
    go_wp2_with (refine wpList_load_row rfl 26 (.tmp 2) rfl w.heap.size rfl 26 _ (0, 0) _ HK.out Tryz.underlying26 rfl HR.out ?_)
    refine HL2.out.mono ?_; rintro e w1 ⟨rfl, hb1⟩
    have HB1 := Lib.hid (HB.out.trans (hb1.mono HB.out.size))
    have k3 : w1.cell? ⟨w.heap.size, 3, none⟩ = some (.string t) := (hb1.cell (p := ⟨w.heap.size, 3, none⟩) HLT.out).trans K3.out
    clear hb1 HL2
    have t1 := ta_words_null
    have t2 := ta_words_truth
    have t3 := ta_words_number
    have t4 := ta_words_real
    have t5 := ta_words_words
    go_wp2_with fail
    go_ret
    exact ⟨by rw [HE.out]; first | rfl | (unfold leafK; simp; done), HB1.out⟩
  · subst hk
    have HE := Lib.hid (HWL.out (by decide) (by decide))
    have HL2 : Hid (Calls Tryz.prog 24 #[.agg cs.toArray] (w.alloc (.cells cs.toArray 26)) fun e w' => e = .returned (.iface 81 (.string t)) ∧ Below (w.alloc (.cells cs.toArray 26)).heap.size (w.alloc (.cells cs.toArray 26)) w') := HLF.out
    clear HIH HOP HNM HGN HWL HWN HWT HSW HLF K0 K4 K5 hlen
    go_enter Tryz.func23, Tryz.ntmps23
    go_upto_region 1 with fail
    generalize w.alloc (.cells cs.toArray 26) = w0 at *
    go_wp2_with (refine wpList_load_row rfl 26 (.tmp 2) rfl w.heap.size rfl 26 _ (0, 0) _ HK.out Tryz.underlying26 rfl HR.out ?_)
    refine HL2.out.mono ?_; rintro e w1 ⟨rfl, hb1⟩
    have HB1 := Lib.hid (HB.out.trans (hb1.mono HB.out.size))
    have k3 : w1.cell? ⟨w.heap.size, 3, none⟩ = some (.string t) := (hb1.cell (p := ⟨w.heap.size, 3, none⟩) HLT.out).trans K3.out
    clear hb1 HL2
    have t1 := ta_raw_null
    have t2 := ta_raw_truth
    have t3 := ta_raw_number
    have t4 := ta_raw_real
    have t5 := ta_raw_words
    go_wp2_with fail
    go_ret
    exact ⟨by rw [HE.out]; first | rfl | (unfold leafK; simp; done), HB1.out⟩
  · subst hk
    have HE := Lib.hid (HWL.out (by decide) (by decide))
    have HL2 : Hid (Calls Tryz.prog 24 #[.agg cs.toArray] (w.alloc (.cells cs.toArray 26)) fun e w' => e = .returned (.iface 82 (.string t)) ∧ Below (w.alloc (.cells cs.toArray 26)).heap.size (w.alloc (.cells cs.toArray 26)) w') := HLF.out
    clear HIH HOP HNM HGN HWL HWN HWT HSW HLF K0 K4 K5 hlen
    go_enter Tryz.func23, Tryz.ntmps23
    go_upto_region 1 with fail
    generalize w.alloc (.cells cs.toArray 26) = w0 at *
    go_wp2_with (refine wpList_load_row rfl 26 (.tmp 2) rfl w.heap.size rfl 26 _ (0, 0) _ HK.out Tryz.underlying26 rfl HR.out ?_)
    refine HL2.out.mono ?_; rintro e w1 ⟨rfl, hb1⟩
    have HB1 := Lib.hid (HB.out.trans (hb1.mono HB.out.size))
    have k3 : w1.cell? ⟨w.heap.size, 3, none⟩ = some (.string t) := (hb1.cell (p := ⟨w.heap.size, 3, none⟩) HLT.out).trans K3.out
    clear hb1 HL2
    have t1 := ta_veil_null
    have t2 := ta_veil_truth
    have t3 := ta_veil_number
    have t4 := ta_veil_real
    have t5 := ta_veil_words
    go_wp2_with fail
    go_ret
    exact ⟨by rw [HE.out]; first | rfl | (unfold leafK; simp; done), HB1.out⟩
  · subst hk
    have HE : Hid (Z = szL false its nms m 5) := HWN.out (.inl rfl)
    have HET : Hid (W = 5 + wtL false its nms) := HWT.out (.inl rfl)
    have HL2 : Hid (Calls Tryz.prog 24 #[.agg cs.toArray] (w.alloc (.cells cs.toArray 26)) fun e w' => e = .returned .nilIface ∧ Below (w.alloc (.cells cs.toArray 26)).heap.size (w.alloc (.cells cs.toArray 26)) w') := HLF.out
    clear HWL HWN HWT HLF K3
    go_enter Tryz.func23, Tryz.ntmps23
    go_upto_region 1 with fail
    generalize w.alloc (.cells cs.toArray 26) = w0 at *
    go_wp2_with (refine wpList_load_row rfl 26 (.tmp 2) rfl w.heap.size rfl 26 _ (0, 0) _ HK.out Tryz.underlying26 rfl HR.out ?_)
    refine HL2.out.mono ?_; rintro e w1 ⟨rfl, hb1⟩
    have HB1 : Hid (Below w0.heap.size w0 w1) := hb1
    have k4 : w1.cell? ⟨w.heap.size, 4, none⟩ = some (.slice A its.length c) := (hb1.cell (p := ⟨w.heap.size, 4, none⟩) HLT.out).trans K4.out
    clear hb1 HL2 HK HR
    go_wp2_with fail
    clear k4
    go_loopw [10, 44] (fun vn vi wr => ∃ i n : Nat, vn = .int .i64 (n : Int) ∧ vi = .int .i64 i ∧ i ≤ its.length ∧ n ≤ W ∧ Hid (W = n + wtL false (its.drop i) (nms.drop i)) ∧ Hid (Z = szL false (its.drop i) (nms.drop i) m n) ∧ Hid (Below w0.heap.size w0 wr)) (fun _ vi _ => its.length - (intOf vi).toNat)
    case atStart => exact ⟨0, 5, rfl, rfl, Nat.zero_le _, by have := HET.out; omega, HET.out, HE.out, HB1.out⟩
    case round =>
      obtain ⟨i, n, rfl, rfl, hi, hnW, HF, HFZ, HBr⟩ := hrel
      have HBw := Lib.hid (HB.out.trans (HBr.out.mono HB.out.size))
      by_cases hlt : i < its.length
      · obtain ⟨b, off, hA, hbl, hr⟩ := HOP.out (by omega)
        subst hA
        obtain ⟨cs', hrv, hcell⟩ := hr wr HBw.out i hlt
        obtain ⟨h6, hone⟩ := hrv.six
        have h6a : cs'.toArray.size = 6 := by simpa using h6
        have HRV := Lib.hid hrv
        have HCL := Lib.hid hcell
        have HB8 := Lib.hid (Blk.new wr 26 vz)
        have HBA : Hid (Below wr.heap.size wr (wr.alloc (.cells vz 26))) := (Below.refl _ _).alloc (Nat.le_refl _) _
        clear hr hrv hcell
        have HST := Lib.hid (wtL_step (b := false) (nms := nms) hlt)
        have HSZ := Lib.hid (szL_step (b := false) (nms := nms) (m := m) (n := (n : Int)) hlt)
        obtain ⟨wi, hwi⟩ : ∃ wi, wt its[i] = wi := ⟨_, rfl⟩
        rw [hwi] at HST
        have hWW : W ≤ 13 * 1048576 := HWB.out
        obtain ⟨sz, hsz⟩ : ∃ s, (nms.getD i ⟨#[]⟩).size = s := ⟨_, rfl⟩
        rw [hsz] at HST HSZ
        obtain ⟨n1, hn1⟩ : ∃ n1 : Nat, n1 = n + 0 := ⟨_, rfl⟩
        have HS2 : Hid (W = n1 + wi + wtL false (its.drop (i + 1)) (nms.drop (i + 1))) := by
          have h1 := HF.out
          have h2 := HST.out
          simp only [Bool.false_eq_true, if_false] at h2
          show _ = _
          omega
        have hb3 : n1 + wi ≤ W := by have := HS2.out; omega
        have HIS := szB_le its[i] (m - (n1 : Int))
        rw [hwi] at HIS
        have HSZ2 : Hid (Z = if m < (n1 : Int) + szB its[i] (m - (n1 : Int)) then (n1 : Int) + szB its[i] (m - (n1 : Int)) else szL false (its.drop (i + 1)) (nms.drop (i + 1)) m ((n1 : Int) + szB its[i] (m - (n1 : Int)))) := by
          have h1 := HFZ.out
          have h2 := HSZ.out
          show _ = _
          rw [h1, h2]
          simp only [Bool.false_eq_true, if_false]
          rw [show (n : Int) + 0 = (n1 : Int) by omega]
        have HSWI : Hid (szB its[i] (m - (n1 : Int)) ≤ m - (n1 : Int) → szB its[i] (m - (n1 : Int)) = wi) := by
          intro h
          rw [← hwi]; exact HSW.out i hlt _ h
        have HCALL : Hid (∀ W', RV W' its[i] cs' → Calls Tryz.prog 23 #[.agg cs'.toArray, .int .i64 (m - (n1 : Int))] W' fun e w' => e = .returned (.int .i64 (szB its[i] (m - (n1 : Int)))) ∧ Below W'.heap.size W' w') := fun W' hr => HIH.out i hlt (m - (n1 : Int)) cs' W' hr (by rw [hwi]; omega) (by omega)
        obtain ⟨s, hs⟩ : ∃ s, szB its[i] (m - (n1 : Int)) = s := ⟨_, rfl⟩
        rw [hs] at HSWI HSZ2 HCALL HIS
        clear hwi hs HSZ HST
        have k0w : ∀ W', Below wr.heap.size wr W' → W'.cell? ⟨w.heap.size, 0, none⟩ = some (.int .i64 6) := fun W' hb => (hb.cell (p := ⟨w.heap.size, 0, none⟩) (Nat.lt_of_lt_of_le HLT.out HBr.out.size)).trans ((HBr.out.cell (p := ⟨w.heap.size, 0, none⟩) HLT.out).trans K0.out)
        have k5w : ∀ W', Below wr.heap.size wr W' → W'.cell? ⟨w.heap.size, 5, none⟩ = some (.slice A' nms.length c') := fun W' hb => (hb.cell (p := ⟨w.heap.size, 5, none⟩) (Nat.lt_of_lt_of_le HLT.out HBr.out.size)).trans ((HBr.out.cell (p := ⟨w.heap.size, 5, none⟩) HLT.out).trans K5.out)
        
        have HK0W := Lib.hid k0w
        have HK5W := Lib.hid k5w
        
        
        clear k0w k5w hsz 
        
        go_upto_region 21 with (first
          | (refine wpList_load_at rfl 26 (.tmp 47) rfl b (off + i * 6) rfl cs' _ HCL.out Tryz.underlying26 rfl (by rw [h6]; exact v_info) ?_)
          | (refine wpList_storeB rfl 26 (.tmp 12) (.tmp 48) rfl rfl wr.heap.size cs'.toArray rfl rfl HB8.out (by rw [h6a]; exact v_info) (by rw [h6a]; rfl) hone ?_; intro w4 hB4 hg4 hz4))
        have hb4 : Below wr.heap.size wr w4 := HBA.out.grown hg4 (by simp) (fun _ h => by injection h with h; omega)
        have HB4 := Lib.hid (HBr.out.trans (hb4.mono HBr.out.size))
        have HRV4 := Lib.hid (HRV.out.step hb4)
        have k0 := HK0W.out w4 hb4
        have k5 := HK5W.out w4 hb4
        
        have HBK4 := Lib.hid hB4
        clear hg4 hz4 hb4 HBA HB8 HCL HK0W HK5W  hB4
        go_wp2_with (refine wpList_load_row rfl 26 (.tmp 12) rfl wr.heap.size rfl 26 _ (0, 0) _ HBK4.out Tryz.underlying26 rfl (by rw [h6a]; exact v_info) ?_)
        have HC4 := HCALL.out w4 HRV4.out
        have hn1i : (n1 : Int) = (n : Int) := by omega
        rw [hn1i] at HC4
        refine HC4.mono ?_; rintro e w5 ⟨rfl, hb5⟩
        have HB5 := Lib.hid (HB4.out.trans (hb5.mono HB4.out.size))
        have HB5w := Lib.hid (HB.out.trans (HB5.out.mono HB.out.size))
        clear hb5 HC4 k0 k5  HBK4 HRV4 HCALL
        obtain ⟨hs1, hs2⟩ := HIS
        have hz0 := HSZ2.out
        rw [hn1i] at hz0
        have HZ0 := Lib.hid hz0
        clear hz0 HSZ2
        by_cases hgt : m < (n : Int) + s
        · have HZ1 : Hid (Z = (n : Int) + s) := by show _ = _; rw [HZ0.out, if_pos hgt]
          go_wp2_with fail
          go_ret
          exact ⟨by rw [HZ1.out]; first | rfl | go_num, HB5w.out⟩
        · have hsw : s = (wi : Int) := HSWI.out (by omega)
          have HZ1 : Hid (Z = szL false (its.drop (i + 1)) (nms.drop (i + 1)) m ((n1 + wi : Nat) : Int)) := by
            show _ = _
            rw [HZ0.out, if_neg hgt]
            congr 1
            omega
          go_wp2_with fail
          go_roundw
          case rel => first | exact ⟨i + 1, n1 + wi, by go_num, by go_num, hlt, hb3, HS2.out, HZ1.out, HB5.out⟩
          case measure => simp [intOf]; omega
      · have HEZ : Hid (Z = (n : Int)) := by
          have := HFZ.out
          rw [List.drop_eq_nil_of_le (show its.length ≤ i by omega), szL] at this
          exact this
        go_wp2_with fail
        go_ret
        exact ⟨by rw [HEZ.out]; rfl, HBw.out⟩
  · subst hk
    have HE : Hid (Z = szL true its nms m 5) := HWN.out (.inr rfl)
    have HET : Hid (W = 5 + wtL true its nms) := HWT.out (.inr rfl)
    have HL2 : Hid (Calls Tryz.prog 24 #[.agg cs.toArray] (w.alloc (.cells cs.toArray 26)) fun e w' => e = .returned .nilIface ∧ Below (w.alloc (.cells cs.toArray 26)).heap.size (w.alloc (.cells cs.toArray 26)) w') := HLF.out
    clear HWL HWN HWT HLF K3
    go_enter Tryz.func23, Tryz.ntmps23
    go_upto_region 1 with fail
    generalize w.alloc (.cells cs.toArray 26) = w0 at *
    go_wp2_with (refine wpList_load_row rfl 26 (.tmp 2) rfl w.heap.size rfl 26 _ (0, 0) _ HK.out Tryz.underlying26 rfl HR.out ?_)
    refine HL2.out.mono ?_; rintro e w1 ⟨rfl, hb1⟩
    have HB1 : Hid (Below w0.heap.size w0 w1) := hb1
    have k4 : w1.cell? ⟨w.heap.size, 4, none⟩ = some (.slice A its.length c) := (hb1.cell (p := ⟨w.heap.size, 4, none⟩) HLT.out).trans K4.out
    clear hb1 HL2 HK HR
    go_wp2_with fail
    clear k4
    go_loopw [10, 44] (fun vn vi wr => ∃ i n : Nat, vn = .int .i64 (n : Int) ∧ vi = .int .i64 i ∧ i ≤ its.length ∧ n ≤ W ∧ Hid (W = n + wtL true (its.drop i) (nms.drop i)) ∧ Hid (Z = szL true (its.drop i) (nms.drop i) m n) ∧ Hid (Below w0.heap.size w0 wr)) (fun _ vi _ => its.length - (intOf vi).toNat)
    case atStart => exact ⟨0, 5, rfl, rfl, Nat.zero_le _, by have := HET.out; omega, HET.out, HE.out, HB1.out⟩
    case round =>
      obtain ⟨i, n, rfl, rfl, hi, hnW, HF, HFZ, HBr⟩ := hrel
      have HBw := Lib.hid (HB.out.trans (HBr.out.mono HB.out.size))
      by_cases hlt : i < its.length
      · obtain ⟨b, off, hA, hbl, hr⟩ := HOP.out (by omega)
        subst hA
        obtain ⟨cs', hrv, hcell⟩ := hr wr HBw.out i hlt
        obtain ⟨h6, hone⟩ := hrv.six
        have h6a : cs'.toArray.size = 6 := by simpa using h6
        have HRV := Lib.hid hrv
        have HCL := Lib.hid hcell
        have HB8 := Lib.hid (Blk.new wr 26 vz)
        have HBA : Hid (Below wr.heap.size wr (wr.alloc (.cells vz 26))) := (Below.refl _ _).alloc (Nat.le_refl _) _
        clear hr hrv hcell
        have hnl : nms.length = its.length := by first | exact HGN.out rfl | exact HGN.out trivial
        obtain ⟨bn, offn, hAn, hbn1, hbn2, hcelln⟩ := (HNM.out.below (Below.mono HBr.out (by have := HLT.out; omega))).form (by omega)
        subst hAn
        have kn0 := hcelln i (by omega)
        rw [show (strs nms).getD i undef = .string (nms.getD i ⟨#[]⟩) by simp [List.getD, List.getElem?_eq_getElem (show i < nms.length by omega)]] at kn0
        have dn : (i : Int) < (nms.length : Int) := by omega
        clear hcelln
        have HST := Lib.hid (wtL_step (b := true) (nms := nms) hlt)
        have HSZ := Lib.hid (szL_step (b := true) (nms := nms) (m := m) (n := (n : Int)) hlt)
        obtain ⟨wi, hwi⟩ : ∃ wi, wt its[i] = wi := ⟨_, rfl⟩
        rw [hwi] at HST
        have hWW : W ≤ 13 * 1048576 := HWB.out
        obtain ⟨sz, hsz⟩ : ∃ s, (nms.getD i ⟨#[]⟩).size = s := ⟨_, rfl⟩
        rw [hsz] at HST HSZ
        obtain ⟨n1, hn1⟩ : ∃ n1 : Nat, n1 = n + (4 + sz) := ⟨_, rfl⟩
        have HS2 : Hid (W = n1 + wi + wtL true (its.drop (i + 1)) (nms.drop (i + 1))) := by
          have h1 := HF.out
          have h2 := HST.out
          simp only [if_true] at h2
          show _ = _
          omega
        have hb3 : n1 + wi ≤ W := by have := HS2.out; omega
        have HIS := szB_le its[i] (m - (n1 : Int))
        rw [hwi] at HIS
        have HSZ2 : Hid (Z = if m < (n1 : Int) + szB its[i] (m - (n1 : Int)) then (n1 : Int) + szB its[i] (m - (n1 : Int)) else szL true (its.drop (i + 1)) (nms.drop (i + 1)) m ((n1 : Int) + szB its[i] (m - (n1 : Int)))) := by
          have h1 := HFZ.out
          have h2 := HSZ.out
          show _ = _
          rw [h1, h2]
          simp only [if_true]
          rw [show (n : Int) + (4 + (sz : Int)) = (n1 : Int) by omega]
        have HSWI : Hid (szB its[i] (m - (n1 : Int)) ≤ m - (n1 : Int) → szB its[i] (m - (n1 : Int)) = wi) := by
          intro h
          rw [← hwi]; exact HSW.out i hlt _ h
        have HCALL : Hid (∀ W', RV W' its[i] cs' → Calls Tryz.prog 23 #[.agg cs'.toArray, .int .i64 (m - (n1 : Int))] W' fun e w' => e = .returned (.int .i64 (szB its[i] (m - (n1 : Int)))) ∧ Below W'.heap.size W' w') := fun W' hr => HIH.out i hlt (m - (n1 : Int)) cs' W' hr (by rw [hwi]; omega) (by omega)
        obtain ⟨s, hs⟩ : ∃ s, szB its[i] (m - (n1 : Int)) = s := ⟨_, rfl⟩
        rw [hs] at HSWI HSZ2 HCALL HIS
        clear hwi hs HSZ HST
        have k0w : ∀ W', Below wr.heap.size wr W' → W'.cell? ⟨w.heap.size, 0, none⟩ = some (.int .i64 7) := fun W' hb => (hb.cell (p := ⟨w.heap.size, 0, none⟩) (Nat.lt_of_lt_of_le HLT.out HBr.out.size)).trans ((HBr.out.cell (p := ⟨w.heap.size, 0, none⟩) HLT.out).trans K0.out)
        have k5w : ∀ W', Below wr.heap.size wr W' → W'.cell? ⟨w.heap.size, 5, none⟩ = some (.slice (some ⟨bn, offn, none⟩) nms.length c') := fun W' hb => (hb.cell (p := ⟨w.heap.size, 5, none⟩) (Nat.lt_of_lt_of_le HLT.out HBr.out.size)).trans ((HBr.out.cell (p := ⟨w.heap.size, 5, none⟩) HLT.out).trans K5.out)
        have knw : ∀ W', Below wr.heap.size wr W' → W'.cell? ⟨bn, offn + i, none⟩ = some (.string (nms.getD i ⟨#[]⟩)) := fun W' hb => (hb.cell (p := ⟨bn, offn + i, none⟩) hbn2).trans kn0
        have HK0W := Lib.hid k0w
        have HK5W := Lib.hid k5w
        have HKNW := Lib.hid knw
        have hszi : ((nms.getD i ⟨#[]⟩).size : Int) = (sz : Int) := by rw [hsz]
        clear k0w k5w hsz knw kn0
        generalize nms.getD i ⟨#[]⟩ = nmi at *
        go_upto_region 21 with (first
          | (refine wpList_load_at rfl 26 (.tmp 47) rfl b (off + i * 6) rfl cs' _ HCL.out Tryz.underlying26 rfl (by rw [h6]; exact v_info) ?_)
          | (refine wpList_storeB rfl 26 (.tmp 12) (.tmp 48) rfl rfl wr.heap.size cs'.toArray rfl rfl HB8.out (by rw [h6a]; exact v_info) (by rw [h6a]; rfl) hone ?_; intro w4 hB4 hg4 hz4))
        have hb4 : Below wr.heap.size wr w4 := HBA.out.grown hg4 (by simp) (fun _ h => by injection h with h; omega)
        have HB4 := Lib.hid (HBr.out.trans (hb4.mono HBr.out.size))
        have HRV4 := Lib.hid (HRV.out.step hb4)
        have k0 := HK0W.out w4 hb4
        have k5 := HK5W.out w4 hb4
        have kn := HKNW.out w4 hb4
        have HBK4 := Lib.hid hB4
        clear hg4 hz4 hb4 HBA HB8 HCL HK0W HK5W HKNW hB4
        go_wp2_with (refine wpList_load_row rfl 26 (.tmp 12) rfl wr.heap.size rfl 26 _ (0, 0) _ HBK4.out Tryz.underlying26 rfl (by rw [h6a]; exact v_info) ?_)
        have HC4 := HCALL.out w4 HRV4.out
        have hn1i : (n1 : Int) = (n : Int) + (4 + (sz : Int)) := by omega
        rw [hn1i] at HC4
        refine HC4.mono ?_; rintro e w5 ⟨rfl, hb5⟩
        have HB5 := Lib.hid (HB4.out.trans (hb5.mono HB4.out.size))
        have HB5w := Lib.hid (HB.out.trans (HB5.out.mono HB.out.size))
        clear hb5 HC4 k0 k5 kn HBK4 HRV4 HCALL
        obtain ⟨hs1, hs2⟩ := HIS
        have hz0 := HSZ2.out
        rw [hn1i] at hz0
        have HZ0 := Lib.hid hz0
        clear hz0 HSZ2
        by_cases hgt : m < (n : Int) + (4 + (sz : Int)) + s
        · have HZ1 : Hid (Z = (n : Int) + (4 + (sz : Int)) + s) := by show _ = _; rw [HZ0.out, if_pos hgt]
          go_wp2_with fail
          go_ret
          exact ⟨by rw [HZ1.out]; first | rfl | go_num, HB5w.out⟩
        · have hsw : s = (wi : Int) := HSWI.out (by omega)
          have HZ1 : Hid (Z = szL true (its.drop (i + 1)) (nms.drop (i + 1)) m ((n1 + wi : Nat) : Int)) := by
            show _ = _
            rw [HZ0.out, if_neg hgt]
            congr 1
            omega
          go_wp2_with fail
          go_roundw
          case rel => first | exact ⟨i + 1, n1 + wi, by go_num, by go_num, hlt, hb3, HS2.out, HZ1.out, HB5.out⟩
          case measure => simp [intOf]; omega
      · have HEZ : Hid (Z = (n : Int)) := by
          have := HFZ.out
          rw [List.drop_eq_nil_of_le (show its.length ≤ i by omega), szL] at this
          exact this
        go_wp2_with fail
        go_ret
        exact ⟨by rw [HEZ.out]; rfl, HBw.out⟩
end Go.Proofs.YtigbbogfnchgnaaGreatDoor
