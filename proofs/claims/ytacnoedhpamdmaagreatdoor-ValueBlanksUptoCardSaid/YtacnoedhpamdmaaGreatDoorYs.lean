/- Walks: (*value.text).bare and .value at the text '[1,]' (at 1 a number, at 3 a fault). Conditions: as stated. -/
import Derived.Test.YtacnoedhpamdmaaGreatDoorYr
namespace Go.Proofs.YtacnoedhpamdmaaGreatDoor
open Go.RowKit Go.Shelf
set_option linter.unusedVariables false
attribute [local go_sem ↓] Go.wp_at_zero Go.wp_at_succ

abbrev v21 : List Value := [.int .i64 2, .int .i64 1, .float .f64 0, .string ⟨#[]⟩, .slice none 0 0, .slice none 0 0]
theorem only_new {a b c : World} {g : Nat} (h : a.grownBy b (some g)) (k : b.grownBy c (some a.heap.size)) : a.grownBy c (some g) :=
  ⟨k.os.trans h.os, k.tape.trans h.tape, k.output.trans h.output, Nat.le_trans h.size k.size, fun i hi hr => (k.block i (Nat.lt_of_lt_of_le hi h.size) (fun e => by have := Option.some.inj e; omega)).trans (h.block i hi hr)⟩
theorem only_far {a b c : World} {g x : Nat} (h : a.grownBy b (some g)) (k : b.grownBy c (some x)) (hx : a.heap.size ≤ x) : a.grownBy c (some g) :=
  ⟨k.os.trans h.os, k.tape.trans h.tape, k.output.trans h.output, Nat.le_trans h.size k.size, fun i hi hr => (k.block i (Nat.lt_of_lt_of_le hi h.size) (fun e => by have := Option.some.inj e; omega)).trans (h.block i hi hr)⟩
set_option maxRecDepth 100000 in
set_option maxHeartbeats 1000000 in
theorem c_bare1 (S T : ByteArray) (g : Nat) (w : World) (hS : Is4 S T) (hB : Blk w g 79 (TxC S 1)) :
    Calls Tryz.prog 71 #[.pointer (some ⟨g, 0, none⟩)] w fun e w' => e = .returned (.agg v21.toArray) ∧ Blk w' g 79 (TxC S 2) ∧ w.grownBy w' (some g) := by
  have hs := hS.size
  have hb1 := hS.b1
  have hlt := hB.lt
  have HIN : Hid (∀ W, Blk W g 79 (TxC S 1) → Calls Tryz.prog 104 #[.pointer (some ⟨g, 0, none⟩)] W fun e w' => e = .returned (.int .i64 1) ∧ Blk w' g 79 (TxC S 2) ∧ W.grownBy w' (some g)) := fun W h => c_int S T g W hS h (fun W => c_PI hS W)
  have HK := Lib.hid (hB.alloc (.cells vz 30))
  have HR := Lib.hid (Blk.new w 30 vz)
  have HG : Hid (w.grownBy (w.alloc (.cells vz 30)) (some g)) := only_alloc (World.grownBy.refl w _) _
  clear hS hB
  go_enter Tryz.func71, Tryz.ntmps71
  go_upto_region 1 with fail
  unfold vz at *
  generalize w.alloc (.cells #[.int .i64 0, .int .i64 0, .float .f64 0, .string ⟨#[]⟩, .slice none 0 0, .slice none 0 0] 30) = w0 at *
  go_wp2_with fail
  refine (c_peek S 1 g _ HK.out hs (by omega)).mono ?_
  rintro e w1 ⟨rfl, q, hq⟩
  rw [hb1]
  have HK1 : Hid (Blk w1 g 79 (TxC S 1)) := by rw [hq]; exact HK.out.drewN q
  have HG1 : Hid (w.grownBy w1 (some g)) := by rw [hq]; exact only_drewN HG.out q
  have HR1 : Hid (Blk w1 w.heap.size 30 vz) := by rw [hq]; exact HR.out.drewN q
  clear hq HK HG HR
  go_wp2_with fail
  refine (HIN.out _ HK1.out).mono ?_
  rintro e w2 ⟨rfl, hk2, hg2⟩
  have HK2 := Lib.hid hk2
  have HG2 := Lib.hid (only_trans HG1.out hg2)
  have HR2 := Lib.hid (HR1.out.grown hg2 (by intro e; have := Option.some.inj e; omega))
  clear hk2 hg2 HK1 HG1 HR1
  go_wp2_with (refine wpList_storeB rfl 30 (.tmp 2) (.tmp 37) rfl rfl w.heap.size v21.toArray rfl rfl HR2.out v_info rfl rfl ?_; intro w3 hB3 hg3 hz3)
  exact bodyPost_ret (results_cellB (p := 2) rfl _ hB3 _ rfl Tryz.underlying30 rfl v_info) rfl ⟨rfl, HK2.out.grown hg3 (by intro e; have := Option.some.inj e; omega), only_new HG2.out hg3⟩
set_option maxRecDepth 100000 in
set_option maxHeartbeats 1000000 in
theorem c_bare3 (S T : ByteArray) (g : Nat) (w : World) (hS : Is4 S T) (hB : Blk w g 79 (TxC S 3)) :
    Calls Tryz.prog 71 #[.pointer (some ⟨g, 0, none⟩)] w fun e w' => e = .panicked [flt3] ∧ w.grownBy w' (some g) := by
  have hs := hS.size
  have hb1 := hS.b3
  have hlt := hB.lt
  have HK := Lib.hid (hB.alloc (.cells vz 30))
  have HG : Hid (w.grownBy (w.alloc (.cells vz 30)) (some g)) := only_alloc (World.grownBy.refl w _) _
  clear hS hB
  go_enter Tryz.func71, Tryz.ntmps71
  go_upto_region 1 with fail
  unfold vz at *
  generalize w.alloc (.cells #[.int .i64 0, .int .i64 0, .float .f64 0, .string ⟨#[]⟩, .slice none 0 0, .slice none 0 0] 30) = w0 at *
  go_wp2_with fail
  refine (c_peek S 3 g _ HK.out hs (by omega)).mono ?_
  rintro e w1 ⟨rfl, q, hq⟩
  rw [hb1]
  have HK1 : Hid (Blk w1 g 79 (TxC S 3)) := by rw [hq]; exact HK.out.drewN q
  have HG1 : Hid (w.grownBy w1 (some g)) := by rw [hq]; exact only_drewN HG.out q
  have c1 : w1.cell? ⟨g, 1, none⟩ = some (.int .i64 3) := HK1.out.cell 1
  clear hq HK HG
  go_wp2_with fail
  refine (c_tfail g _).mono ?_
  rintro e w2 ⟨rfl, rfl⟩
  exact ⟨rfl, rfl, HG1.out⟩
set_option maxRecDepth 100000 in
set_option maxHeartbeats 1000000 in
theorem c_bare0 (S T : ByteArray) (g : Nat) (w : World) (hS : Is4 S T) (hB : Blk w g 79 (TxC S 0))
    (hL : ∀ W, Blk W g 79 (TxC S 0) → Calls Tryz.prog 108 #[.pointer (some ⟨g, 0, none⟩)] W fun e w' => e = .panicked [flt3] ∧ W.grownBy w' (some g)) :
    Calls Tryz.prog 71 #[.pointer (some ⟨g, 0, none⟩)] w fun e w' => e = .panicked [flt3] ∧ w.grownBy w' (some g) := by
  have hs := hS.size
  have hb1 := hS.b0
  have hlt := hB.lt
  have HL := Lib.hid hL
  have HK := Lib.hid (hB.alloc (.cells vz 30))
  have HG : Hid (w.grownBy (w.alloc (.cells vz 30)) (some g)) := only_alloc (World.grownBy.refl w _) _
  clear hS hB hL
  go_enter Tryz.func71, Tryz.ntmps71
  go_upto_region 1 with fail
  unfold vz at *
  generalize w.alloc (.cells #[.int .i64 0, .int .i64 0, .float .f64 0, .string ⟨#[]⟩, .slice none 0 0, .slice none 0 0] 30) = w0 at *
  go_wp2_with fail
  refine (c_peek S 0 g _ HK.out hs (by omega)).mono ?_
  rintro e w1 ⟨rfl, q, hq⟩
  rw [hb1]
  have HK1 : Hid (Blk w1 g 79 (TxC S 0)) := by rw [hq]; exact HK.out.drewN q
  have HG1 : Hid (w.grownBy w1 (some g)) := by rw [hq]; exact only_drewN HG.out q
  clear hq HK HG
  go_wp2_with fail
  refine (HL.out _ HK1.out).mono ?_
  rintro e w2 ⟨rfl, hg2⟩
  exact ⟨rfl, rfl, only_trans HG1.out hg2⟩
end Go.Proofs.YtacnoedhpamdmaaGreatDoor
