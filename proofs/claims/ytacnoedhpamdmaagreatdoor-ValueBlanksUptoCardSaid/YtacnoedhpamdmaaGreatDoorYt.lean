/- Walks: (*value.text).value and .list at the text '[1,]' (a number at 1, a fault at 3). Conditions: as stated. -/
import Derived.Test.YtacnoedhpamdmaaGreatDoorYs
namespace Go.Proofs.YtacnoedhpamdmaaGreatDoor
open Go.RowKit Go.Shelf
set_option linter.unusedVariables false
attribute [local go_sem ↓] Go.wp_at_zero Go.wp_at_succ

set_option maxRecDepth 100000 in
set_option maxHeartbeats 1000000 in
theorem c_value1 (S T : ByteArray) (g : Nat) (w : World) (hS : Is4 S T) (hB : Blk w g 79 (TxC S 1)) :
    Calls Tryz.prog 40 #[.pointer (some ⟨g, 0, none⟩)] w fun e w' => e = .returned (.agg v21.toArray) ∧ Blk w' g 79 (TxC S 2) ∧ w.grownBy w' (some g) := by
  have hs := hS.size
  have hlt := hB.lt
  have HBR : Hid (∀ W, Blk W g 79 (TxC S 1) → Calls Tryz.prog 71 #[.pointer (some ⟨g, 0, none⟩)] W fun e w' => e = .returned (.agg v21.toArray) ∧ Blk w' g 79 (TxC S 2) ∧ W.grownBy w' (some g)) := fun W h => c_bare1 S T g W hS h
  have HB1 : Hid (∀ W, Blk W g 79 (TxC S 1) → Calls Tryz.prog 70 #[.pointer (some ⟨g, 0, none⟩)] W fun e w' => e = .returned (.tuple #[]) ∧ ∃ k, w' = W.drewN k) := fun W h => c_blanks S 1 g 49 W h hs (by omega) (hS.b1 _) rfl rfl rfl rfl
  have HB2 : Hid (∀ W, Blk W g 79 (TxC S 2) → Calls Tryz.prog 70 #[.pointer (some ⟨g, 0, none⟩)] W fun e w' => e = .returned (.tuple #[]) ∧ ∃ k, w' = W.drewN k) := fun W h => c_blanks S 2 g 44 W h hs (by omega) (hS.b2 _) rfl rfl rfl rfl
  have HK := Lib.hid (hB.alloc (.cells vz 30))
  have HR := Lib.hid (Blk.new w 30 vz)
  have HG : Hid (w.grownBy (w.alloc (.cells vz 30)) (some g)) := only_alloc (World.grownBy.refl w _) _
  clear hS hB
  go_enter Tryz.func40, Tryz.ntmps40
  go_upto_region 1 with fail
  unfold vz at *
  generalize w.alloc (.cells #[.int .i64 0, .int .i64 0, .float .f64 0, .string ⟨#[]⟩, .slice none 0 0, .slice none 0 0] 30) = w0 at *
  go_wp2_with fail
  refine (HB1.out _ HK.out).mono ?_
  rintro e w1 ⟨rfl, q, hq⟩
  have HK1 : Hid (Blk w1 g 79 (TxC S 1)) := by rw [hq]; exact HK.out.drewN q
  have HG1 : Hid (w.grownBy w1 (some g)) := by rw [hq]; exact only_drewN HG.out q
  have HR1 : Hid (Blk w1 w.heap.size 30 vz) := by rw [hq]; exact HR.out.drewN q
  clear hq HK HG HR
  go_wp2_with fail
  refine (HBR.out _ HK1.out).mono ?_
  rintro e w2 ⟨rfl, hk2, hg2⟩
  have HK2 := Lib.hid (hk2.alloc (.cells vz 30))
  have HG2 := Lib.hid (only_alloc (only_trans HG1.out hg2) (.cells vz 30))
  have HR2 := Lib.hid ((HR1.out.grown hg2 (by intro e; have := Option.some.inj e; omega)).alloc (.cells vz 30))
  have HX2 := Lib.hid (Blk.new w2 30 vz)
  have hz2 : w.heap.size < w2.heap.size := Nat.lt_of_lt_of_le HR1.out.lt hg2.size
  clear hk2 hg2 HK1 HG1 HR1
  unfold vz at *
  go_wp2_with (refine wpList_storeB rfl 30 (.tmp 3) (.tmp 7) rfl rfl w2.heap.size v21.toArray rfl rfl HX2.out v_info rfl rfl ?_; intro w3 hB3 hg3 hz3)
  have HK3 : Hid (Blk w3 g 79 (TxC S 2)) := HK2.out.grown hg3 (by intro e; have := Option.some.inj e; omega)
  have HR3 : Hid (Blk w3 w.heap.size 30 vz) := HR2.out.grown hg3 (by intro e; have := Option.some.inj e; omega)
  have HX3 := Lib.hid hB3
  have HG3 : Hid (w.grownBy w3 (some g)) := only_far HG2.out hg3 (by omega)
  clear hB3 hg3 hz3 HK2 HR2 HG2 HX2
  refine (HB2.out _ HK3.out).mono ?_
  rintro e w4 ⟨rfl, q, hq⟩
  have HK4 : Hid (Blk w4 g 79 (TxC S 2)) := by rw [hq]; exact HK3.out.drewN q
  have HG4 : Hid (w.grownBy w4 (some g)) := by rw [hq]; exact only_drewN HG3.out q
  have HR4 : Hid (Blk w4 w.heap.size 30 vz) := by rw [hq]; exact HR3.out.drewN q
  have HX4 : Hid (Blk w4 w2.heap.size 30 v21.toArray) := by rw [hq]; exact HX3.out.drewN q
  clear hq HK3 HG3 HR3 HX3
  go_wp2_with (first
    | (refine wpList_load_row rfl 30 (.tmp 3) rfl w2.heap.size rfl 30 _ (0, 0) _ HX4.out Tryz.underlying30 rfl v_info ?_)
    | (refine wpList_storeB rfl 30 (.tmp 2) (.tmp 10) rfl rfl w.heap.size v21.toArray rfl rfl HR4.out v_info rfl rfl ?_; intro w5 hB5 hg5 hz5))
  exact bodyPost_ret (results_cellB (p := 2) rfl _ hB5 _ rfl Tryz.underlying30 rfl v_info) rfl ⟨rfl, HK4.out.grown hg5 (by intro e; have := Option.some.inj e; omega), only_new HG4.out hg5⟩
set_option maxRecDepth 100000 in
set_option maxHeartbeats 1000000 in
theorem c_value3 (S T : ByteArray) (g : Nat) (w : World) (hS : Is4 S T) (hB : Blk w g 79 (TxC S 3)) :
    Calls Tryz.prog 40 #[.pointer (some ⟨g, 0, none⟩)] w fun e w' => e = .panicked [flt3] ∧ w.grownBy w' (some g) := by
  have hs := hS.size
  have HBR : Hid (∀ W, Blk W g 79 (TxC S 3) → Calls Tryz.prog 71 #[.pointer (some ⟨g, 0, none⟩)] W fun e w' => e = .panicked [flt3] ∧ W.grownBy w' (some g)) := fun W h => c_bare3 S T g W hS h
  have HB1 : Hid (∀ W, Blk W g 79 (TxC S 3) → Calls Tryz.prog 70 #[.pointer (some ⟨g, 0, none⟩)] W fun e w' => e = .returned (.tuple #[]) ∧ ∃ k, w' = W.drewN k) := fun W h => c_blanks S 3 g 93 W h hs (by omega) (hS.b3 _) rfl rfl rfl rfl
  have HK := Lib.hid (hB.alloc (.cells vz 30))
  have HG : Hid (w.grownBy (w.alloc (.cells vz 30)) (some g)) := only_alloc (World.grownBy.refl w _) _
  clear hS hB
  go_enter Tryz.func40, Tryz.ntmps40
  go_upto_region 1 with fail
  unfold vz at *
  generalize w.alloc (.cells #[.int .i64 0, .int .i64 0, .float .f64 0, .string ⟨#[]⟩, .slice none 0 0, .slice none 0 0] 30) = w0 at *
  go_wp2_with fail
  refine (HB1.out _ HK.out).mono ?_
  rintro e w1 ⟨rfl, q, hq⟩
  have HK1 : Hid (Blk w1 g 79 (TxC S 3)) := by rw [hq]; exact HK.out.drewN q
  have HG1 : Hid (w.grownBy w1 (some g)) := by rw [hq]; exact only_drewN HG.out q
  clear hq HK HG
  go_wp2_with fail
  refine (HBR.out _ HK1.out).mono ?_
  rintro e w2 ⟨rfl, hg2⟩
  exact ⟨rfl, rfl, only_trans HG1.out hg2⟩
theorem c_value0 (S T : ByteArray) (g : Nat) (w : World) (hS : Is4 S T) (hB : Blk w g 79 (TxC S 0))
    (hL : ∀ W, Blk W g 79 (TxC S 0) → Calls Tryz.prog 108 #[.pointer (some ⟨g, 0, none⟩)] W fun e w' => e = .panicked [flt3] ∧ W.grownBy w' (some g)) :
    Calls Tryz.prog 40 #[.pointer (some ⟨g, 0, none⟩)] w fun e w' => e = .panicked [flt3] ∧ w.grownBy w' (some g) := by
  have hs := hS.size
  have HBR : Hid (∀ W, Blk W g 79 (TxC S 0) → Calls Tryz.prog 71 #[.pointer (some ⟨g, 0, none⟩)] W fun e w' => e = .panicked [flt3] ∧ W.grownBy w' (some g)) := fun W h => c_bare0 S T g W hS h hL
  have HB1 : Hid (∀ W, Blk W g 79 (TxC S 0) → Calls Tryz.prog 70 #[.pointer (some ⟨g, 0, none⟩)] W fun e w' => e = .returned (.tuple #[]) ∧ ∃ k, w' = W.drewN k) := fun W h => c_blanks S 0 g 91 W h hs (by omega) (hS.b0 _) rfl rfl rfl rfl
  have HK := Lib.hid (hB.alloc (.cells vz 30))
  have HG : Hid (w.grownBy (w.alloc (.cells vz 30)) (some g)) := only_alloc (World.grownBy.refl w _) _
  clear hS hB hL
  go_enter Tryz.func40, Tryz.ntmps40
  go_upto_region 1 with fail
  unfold vz at *
  generalize w.alloc (.cells #[.int .i64 0, .int .i64 0, .float .f64 0, .string ⟨#[]⟩, .slice none 0 0, .slice none 0 0] 30) = w0 at *
  go_wp2_with fail
  refine (HB1.out _ HK.out).mono ?_
  rintro e w1 ⟨rfl, q, hq⟩
  have HK1 : Hid (Blk w1 g 79 (TxC S 0)) := by rw [hq]; exact HK.out.drewN q
  have HG1 : Hid (w.grownBy w1 (some g)) := by rw [hq]; exact only_drewN HG.out q
  clear hq HK HG
  go_wp2_with fail
  refine (HBR.out _ HK1.out).mono ?_
  rintro e w2 ⟨rfl, hg2⟩
  exact ⟨rfl, rfl, only_trans HG1.out hg2⟩
end Go.Proofs.YtacnoedhpamdmaaGreatDoor
