/- Walk: one value read out of bytes ((*value.pen).value). Conditions: as in the items' walk. -/
import Derived.Test.YtacnoedhpamdmaaGreatDoorZd
namespace Go.Proofs.YtacnoedhpamdmaaGreatDoor
open Go.RowKit
set_option linter.unusedVariables false
attribute [local go_sem ↓] Go.wp_at_zero Go.wp_at_succ

theorem run_store_flt {P : Program} {w : World} {a : Addr} {m : Mode} (k : FloatKind) (f : Nat) : (store a (.float k f) m).run P w = stored P w a (.float k f) m := run_store P w a _ m rfl
attribute [local go_sem] run_store_flt
section
variable {xs : List Int} {d a p : Nat} {k : Int}
theorem dv_many (h : 65536 ≤ p) : decV xs (d + 1) a p = .bad a 2 := by rw [decV, if_pos h]
theorem dv_end (h : ¬ 65536 ≤ p) (hs : xs.length < a + 1) : decV xs (d + 1) a p = .bad a 3 := by rw [decV, if_neg h, if_pos hs]
theorem dv_k (h : ¬ 65536 ≤ p) (hs : ¬ xs.length < a + 1) (hk : xs.getD a 0 = k) : decV xs (d + 1) a p =
    if k = 0 then .ok (.mk 0 0 0 ⟨#[]⟩ [] []) (a + 1) (p + 1)
    else if k = 1 then
      if xs.length < a + 2 then .bad (a + 1) 3 else if 1 < xs.getD (a + 1) 0 then .bad (a + 1) 4
      else .ok (.mk 1 (xs.getD (a + 1) 0) 0 ⟨#[]⟩ [] []) (a + 2) (p + 1)
    else if k = 2 then
      if xs.length < a + 9 then .bad (a + 1) 3 else .ok (.mk 2 (IntKind.i64.wrap (numL (sub xs (a + 1) 8) : Nat)) 0 ⟨#[]⟩ [] []) (a + 9) (p + 1)
    else if k = 3 then
      if xs.length < a + 9 then .bad (a + 1) 3 else if fone (numL (sub xs (a + 1) 8)) ≠ numL (sub xs (a + 1) 8) then .bad (a + 1) 4
      else .ok (.mk 3 0 (numL (sub xs (a + 1) 8)) ⟨#[]⟩ [] []) (a + 9) (p + 1)
    else if k = 4 ∨ k = 5 ∨ k = 8 then textD xs k a (p + 1)
    else if k = 6 ∨ k = 7 then
      if xs.length < a + 5 then .bad (a + 1) 3 else decI (decV xs d) xs k (numL (sub xs (a + 1) 4)) (a + 5) (p + 1) [] []
    else .bad a 4 := by
  rw [decV, if_neg h, if_neg hs, hk]
theorem sub_one (h : a < xs.length) : sub xs a 1 = [xs.getD a 0] := by
  unfold sub
  rw [List.drop_eq_getElem_cons h, List.take_succ_cons, List.take_zero]
  simp [List.getD, List.getElem?_eq_getElem h]
end
theorem only_new_ {a b c : World} {g x : Nat} (h : a.grownBy b (some g)) (k : b.grownBy c (some x)) (hx : a.heap.size ≤ x) : a.grownBy c (some g) :=
  ⟨k.os.trans h.os, k.tape.trans h.tape, k.output.trans h.output, Nat.le_trans h.size k.size, fun i hi hne => (k.block i (Nat.lt_of_lt_of_le hi h.size) (fun e => by injection e with e; omega)).trans (h.block i hi hne)⟩
/-- The reader and what it reads: all that each way asks. -/
structure PenAt (W : World) (g : Nat) (xs : List Int) (A : Option Addr) (N c a p : Nat) : Prop where
  bk : Blk W g 97 (PnC A N c a p)
  rd : Reads W g 1 A N (u8s xs)
  ha : a ≤ N
  hp : p ≤ 65536
  bt : Bts xs
  hN : N ≤ 1048576
  hc : N ≤ c
  hm : c ≤ 9223372036854775807
theorem PenAt.len {W : World} {g : Nat} {xs : List Int} {A : Option Addr} {N c a p : Nat} (h : PenAt W g xs A N c a p) : xs.length = N := by simpa using h.rd.1
theorem c_items_bad (g gv : Nat) (A : Option Addr) (N c a p : Nat) (D : Int) (w : World) (hB : Blk w g 97 (PnC A N c a p)) (ha : a ≤ N) (hN : N ≤ 1048576) (hn : N < a + 4) :
    Calls Tryz.prog 96 #[.pointer (some ⟨g, 0, none⟩), .pointer (some ⟨gv, 0, none⟩), .int .i64 D] w fun e w' => e = .panicked [fltV a 3] ∧ w.grownBy w' (some g) := by
  have HC := Lib.hid (c_num_bad g A N c a p w hB ha hN hn)
  clear hB
  go_enter Tryz.func96, Tryz.ntmps96
  go_wp2_with fail
  refine (HC.out).mono ?_; rintro e w1 ⟨rfl, hg⟩
  exact ⟨rfl, rfl, hg⟩
set_option maxRecDepth 100000 in
set_option maxHeartbeats 4000000 in
theorem c_v_many (xs : List Int) (A : Option Addr) (N c d g a p : Nat) (W : World) (E : Int) (hE : E = 65 - ((d + 1 : Nat) : Int)) (hP : PenAt W g xs A N c a p) (hm : 65536 ≤ p) :
    Calls Tryz.prog 65 #[.pointer (some ⟨g, 0, none⟩), .int .i64 E] W (DPost W g A N c (.bad a 2)) := by
  have hl := hP.len
  have hle : ¬ 64 < E := by omega
  have HLT : Hid (g < W.heap.size) := hP.bk.lt
  have HP0 : Hid (Blk (W.alloc (.cells vz 30)) g 97 (PnC A N c a p)) := hP.bk.alloc _
  have HR0 := Lib.hid (Blk.new W 30 vz)
  have HG0 : Hid (W.grownBy (W.alloc (.cells vz 30)) (some g)) := only_alloc (World.grownBy.refl W _) _
  have HPA := Lib.hid hP
  have HL := Lib.hid hl
  have ha := hP.ha
  have hN := hP.hN
  have hpp := hP.hp
  clear hl hP hE
  go_enter Tryz.func65, Tryz.ntmps65
  go_upto_region 1 with fail
  unfold vz at *
  generalize W.alloc (.cells #[.int .i64 0, .int .i64 0, .float .f64 0, .string ⟨#[]⟩, .slice none 0 0, .slice none 0 0] 30) = w0 at *
  have p1 : w0.cell? ⟨g, 1, none⟩ = some (.int .i64 (a : Int)) := HP0.out.cell 1
  have p2 : w0.cell? ⟨g, 2, none⟩ = some (.int .i64 (p : Int)) := HP0.out.cell 2
  have q2 : w0.frozen? ⟨g, 2, none⟩ = false := HP0.out.frozen 2
  go_upto_region 4 with fail
  have HP1 : Hid (Blk (w0.setCell ⟨g, 2, none⟩ (.int .i64 ((p : Int) + 1))) g 97 (PnC A N c a (p + 1))) := by
    have := HP0.out.set_ 2 (.int .i64 ((p : Int) + 1))
    exact this
  have HR1 : Hid (Blk (w0.setCell ⟨g, 2, none⟩ (.int .i64 ((p : Int) + 1))) W.heap.size 30 #[.int .i64 0, .int .i64 0, .float .f64 0, .string ⟨#[]⟩, .slice none 0 0, .slice none 0 0]) := HR0.out.far (by have := HLT.out; simp only; omega) _
  have HG1 : Hid (W.grownBy (w0.setCell ⟨g, 2, none⟩ (.int .i64 ((p : Int) + 1))) (some g)) := only_setCell HG0.out (.inl rfl) _
  generalize w0.setCell ⟨g, 2, none⟩ (.int .i64 ((p : Int) + 1)) = w1 at *
  clear p1 p2 q2 HP0 HR0 HG0
  have p1 : w1.cell? ⟨g, 1, none⟩ = some (.int .i64 (a : Int)) := HP1.out.cell 1
  have p2 : w1.cell? ⟨g, 2, none⟩ = some (.int .i64 ((p : Int) + 1)) := HP1.out.cell 2
  have hpe : (65536 : Int) < (p : Int) + 1 := by omega
  go_wp2_with fail
  refine (c_pfail g a 2 _).mono ?_; rintro e w2 ⟨rfl, rfl⟩
  exact ⟨rfl, rfl, HG1.out⟩
set_option maxRecDepth 100000 in
set_option maxHeartbeats 4000000 in
theorem c_v_end (xs : List Int) (A : Option Addr) (N c d g a p : Nat) (W : World) (E : Int) (hE : E = 65 - ((d + 1 : Nat) : Int)) (hP : PenAt W g xs A N c a p) (hm : ¬ 65536 ≤ p) (hka : N < a + 1) :
    Calls Tryz.prog 65 #[.pointer (some ⟨g, 0, none⟩), .int .i64 E] W (DPost W g A N c (.bad a 3)) := by
  have hl := hP.len
  have hle : ¬ 64 < E := by omega
  have HLT : Hid (g < W.heap.size) := hP.bk.lt
  have HP0 : Hid (Blk (W.alloc (.cells vz 30)) g 97 (PnC A N c a p)) := hP.bk.alloc _
  have HR0 := Lib.hid (Blk.new W 30 vz)
  have HG0 : Hid (W.grownBy (W.alloc (.cells vz 30)) (some g)) := only_alloc (World.grownBy.refl W _) _
  have HPA := Lib.hid hP
  have HL := Lib.hid hl
  have ha := hP.ha
  have hN := hP.hN
  have hpp := hP.hp
  clear hl hP hE
  go_enter Tryz.func65, Tryz.ntmps65
  go_upto_region 1 with fail
  unfold vz at *
  generalize W.alloc (.cells #[.int .i64 0, .int .i64 0, .float .f64 0, .string ⟨#[]⟩, .slice none 0 0, .slice none 0 0] 30) = w0 at *
  have p1 : w0.cell? ⟨g, 1, none⟩ = some (.int .i64 (a : Int)) := HP0.out.cell 1
  have p2 : w0.cell? ⟨g, 2, none⟩ = some (.int .i64 (p : Int)) := HP0.out.cell 2
  have q2 : w0.frozen? ⟨g, 2, none⟩ = false := HP0.out.frozen 2
  go_upto_region 4 with fail
  have HP1 : Hid (Blk (w0.setCell ⟨g, 2, none⟩ (.int .i64 ((p : Int) + 1))) g 97 (PnC A N c a (p + 1))) := by
    have := HP0.out.set_ 2 (.int .i64 ((p : Int) + 1))
    exact this
  have HR1 : Hid (Blk (w0.setCell ⟨g, 2, none⟩ (.int .i64 ((p : Int) + 1))) W.heap.size 30 #[.int .i64 0, .int .i64 0, .float .f64 0, .string ⟨#[]⟩, .slice none 0 0, .slice none 0 0]) := HR0.out.far (by have := HLT.out; simp only; omega) _
  have HG1 : Hid (W.grownBy (w0.setCell ⟨g, 2, none⟩ (.int .i64 ((p : Int) + 1))) (some g)) := only_setCell HG0.out (.inl rfl) _
  generalize w0.setCell ⟨g, 2, none⟩ (.int .i64 ((p : Int) + 1)) = w1 at *
  clear p1 p2 q2 HP0 HR0 HG0
  have p1 : w1.cell? ⟨g, 1, none⟩ = some (.int .i64 (a : Int)) := HP1.out.cell 1
  have p2 : w1.cell? ⟨g, 2, none⟩ = some (.int .i64 ((p : Int) + 1)) := HP1.out.cell 2
  have hpe : ¬ (65536 : Int) < (p : Int) + 1 := by omega
  go_wp2_with fail
  refine (c_take_bad g A N c a (p + 1) 1 w1 HP1.out ha hN (by omega) (by omega)).mono ?_; rintro e w2 ⟨rfl, hg2⟩
  exact ⟨rfl, rfl, only_trans HG1.out hg2⟩
set_option maxRecDepth 100000 in
set_option maxHeartbeats 4000000 in
theorem c_v_0 (xs : List Int) (A : Option Addr) (N c d g a p : Nat) (W : World) (E : Int) (hE : E = 65 - ((d + 1 : Nat) : Int)) (hP : PenAt W g xs A N c a p) (hm : ¬ 65536 ≤ p) (hka : a + 1 ≤ N) (hkg : xs.getD a 0 = 0) :
    Calls Tryz.prog 65 #[.pointer (some ⟨g, 0, none⟩), .int .i64 E] W (DPost W g A N c (.ok (.mk 0 0 0 ⟨#[]⟩ [] []) (a + 1) (p + 1))) := by
  have hl := hP.len
  have hle : ¬ 64 < E := by omega
  have HLT : Hid (g < W.heap.size) := hP.bk.lt
  have HP0 : Hid (Blk (W.alloc (.cells vz 30)) g 97 (PnC A N c a p)) := hP.bk.alloc _
  have HR0 := Lib.hid (Blk.new W 30 vz)
  have HG0 : Hid (W.grownBy (W.alloc (.cells vz 30)) (some g)) := only_alloc (World.grownBy.refl W _) _
  have HPA := Lib.hid hP
  have HL := Lib.hid hl
  have ha := hP.ha
  have hN := hP.hN
  have hpp := hP.hp
  have HKG := Lib.hid hkg
  clear hkg
  clear hl hP hE
  go_enter Tryz.func65, Tryz.ntmps65
  go_upto_region 1 with fail
  unfold vz at *
  generalize W.alloc (.cells #[.int .i64 0, .int .i64 0, .float .f64 0, .string ⟨#[]⟩, .slice none 0 0, .slice none 0 0] 30) = w0 at *
  have p1 : w0.cell? ⟨g, 1, none⟩ = some (.int .i64 (a : Int)) := HP0.out.cell 1
  have p2 : w0.cell? ⟨g, 2, none⟩ = some (.int .i64 (p : Int)) := HP0.out.cell 2
  have q2 : w0.frozen? ⟨g, 2, none⟩ = false := HP0.out.frozen 2
  go_upto_region 4 with fail
  have HP1 : Hid (Blk (w0.setCell ⟨g, 2, none⟩ (.int .i64 ((p : Int) + 1))) g 97 (PnC A N c a (p + 1))) := by
    have := HP0.out.set_ 2 (.int .i64 ((p : Int) + 1))
    exact this
  have HR1 : Hid (Blk (w0.setCell ⟨g, 2, none⟩ (.int .i64 ((p : Int) + 1))) W.heap.size 30 #[.int .i64 0, .int .i64 0, .float .f64 0, .string ⟨#[]⟩, .slice none 0 0, .slice none 0 0]) := HR0.out.far (by have := HLT.out; simp only; omega) _
  have HG1 : Hid (W.grownBy (w0.setCell ⟨g, 2, none⟩ (.int .i64 ((p : Int) + 1))) (some g)) := only_setCell HG0.out (.inl rfl) _
  generalize w0.setCell ⟨g, 2, none⟩ (.int .i64 ((p : Int) + 1)) = w1 at *
  clear p1 p2 q2 HP0 HR0 HG0
  have p1 : w1.cell? ⟨g, 1, none⟩ = some (.int .i64 (a : Int)) := HP1.out.cell 1
  have p2 : w1.cell? ⟨g, 2, none⟩ = some (.int .i64 ((p : Int) + 1)) := HP1.out.cell 2
  have hpe : ¬ (65536 : Int) < (p : Int) + 1 := by omega
  go_wp2_with fail
  clear p1 p2
  have HR1' := Lib.hid (Reads.grown HPA.out.rd HG1.out (Nat.le_of_lt HLT.out) (fun _ h => by injection h with h; omega))
  refine (c_take g A N c a (p + 1) 1 xs w1 HP1.out HR1'.out hN HPA.out.hc HPA.out.hm hka).mono ?_; rintro e w2 ⟨A2, c2, rfl, hc2, hr2, hb2, hg2⟩
  rw [sub_one (by rw [HL.out]; omega), HKG.out] at hr2
  obtain ⟨b2, o2, hA2, _, _, hk2⟩ := hr2.form (by omega)
  subst hA2
  have k2 : w2.cell? ⟨b2, o2, none⟩ = some (.int .u8 0) := hk2 0 (by omega)
  have HP2 := Lib.hid hb2
  have HG2 := Lib.hid (only_trans HG1.out hg2)
  have HR2 : Hid (Blk w2 W.heap.size 30 #[.int .i64 0, .int .i64 0, .float .f64 0, .string ⟨#[]⟩, .slice none 0 0, .slice none 0 0]) := HR1.out.grown hg2 (by have := HLT.out; intro e; injection e with e; omega)
  have h01 : (0 : Int) < (1 : Int) := by omega
  clear hr2 hk2 hb2 hg2 HP1 HR1 HG1 HR1'
  have HVA := Lib.hid (Blk.new w2 30 #[.int .i64 0, .int .i64 0, .float .f64 0, .string ⟨#[]⟩, .slice none 0 0, .slice none 0 0])
  have HGA : Hid (w2.grownBy (w2.alloc (.cells #[.int .i64 0, .int .i64 0, .float .f64 0, .string ⟨#[]⟩, .slice none 0 0, .slice none 0 0] 30)) none) := only_alloc (World.grownBy.refl w2 none) _
  have HZ3 : Hid (W.heap.size < w2.heap.size) := HR2.out.lt
  go_upto_region 8 with (refine wpList_storeB rfl 30 (.tmp 6) (.tmp 48) rfl rfl w2.heap.size #[.int .i64 0, .int .i64 0, .float .f64 0, .string ⟨#[]⟩, .slice none 0 0, .slice none 0 0] (by first | rfl | simp [Act.eval]) (by first | rfl | simp [Act.eval]) HVA.out v_info rfl rfl ?_; intro w3 hb3 hg3 hz3)
  have HV3 := Lib.hid hb3
  have HG23 : Hid (w2.grownBy w3 none) := ⟨hg3.os, hg3.tape, hg3.output, Nat.le_trans HGA.out.size hg3.size, fun i hi _ => (hg3.block i (Nat.lt_of_lt_of_le hi HGA.out.size) (by intro e; injection e with e; omega)).trans (HGA.out.block i hi (by simp))⟩
  have HP3 : Hid (Blk w3 g 97 (PnC A N c (a + 1) (p + 1))) := HP2.out.grown HG23.out (by simp)
  have HR3 : Hid (Blk w3 W.heap.size 30 #[.int .i64 0, .int .i64 0, .float .f64 0, .string ⟨#[]⟩, .slice none 0 0, .slice none 0 0]) := HR2.out.grown HG23.out (by simp)
  have HG3 : Hid (W.grownBy w3 (some g)) := only_trans HG2.out ⟨HG23.out.os, HG23.out.tape, HG23.out.output, HG23.out.size, fun i hi _ => HG23.out.block i hi (by simp)⟩
  clear hb3 hg3 hz3 HVA HGA HG23
  clear k2 HP2 HR2 HG2
  have p1 : w3.cell? ⟨g, 1, none⟩ = some (.int .i64 ((a + 1 : Nat) : Int)) := HP3.out.cell 1
  have v0 : w3.cell? ⟨w2.heap.size, 0, none⟩ = some (.int .i64 0) := HV3.out.cell 0
  have HR3' := Lib.hid (Reads.grown HPA.out.rd HG3.out (Nat.le_of_lt HLT.out) (fun _ h => by injection h with h; omega))
  have hneq : W.heap.size ≠ w2.heap.size := Nat.ne_of_lt HZ3.out
  have HFE := Lib.hid (Fresh.leaf (W.heap.size + 1) w3 (k := 0) (i := 0) (f := 0) (t := ⟨#[]⟩))
  go_wp2_with (first
    | (refine wpList_load_row rfl 30 (.tmp 6) rfl w2.heap.size rfl 30 _ (0, 0) _ HV3.out Tryz.underlying30 rfl (by first | exact v_info | (simp only [List.size_toArray, (six_of (HFE.out.rd)).1]; exact v_info)) ?_)
    | (refine wpList_storeB rfl 30 (.tmp 4) (.tmp 134) rfl rfl W.heap.size #[.int .i64 0, .int .i64 (0), .float .f64 (0), .string ⟨#[]⟩, .slice none 0 0, .slice none 0 0] rfl rfl HR3.out (by first | exact v_info | (simp only [List.size_toArray, (six_of (HFE.out.rd)).1]; exact v_info)) (by first | rfl | (simp only [List.size_toArray, (six_of (HFE.out.rd)).1]; rfl)) (by first | rfl | exact (six_of (HFE.out.rd)).2) ?_; intro w9 hB9 hg9 hz9))
  exact bodyPost_ret (results_cellB (p := 4) rfl _ hB9 _ rfl Tryz.underlying30 rfl (by first | exact v_info | (simp only [List.size_toArray, (six_of (HFE.out.rd)).1]; exact v_info))) rfl ⟨_, rfl, (HFE.out.on (by rw [hz9]; exact Nat.le_refl _) (fun i hi hj => hg9.block i hj (by intro e; injection e with e; omega))).lo_ (Nat.le_succ _), HP3.out.grown hg9 (by have := HLT.out; intro e; injection e with e; omega), only_new_ HG3.out hg9 (Nat.le_refl _)⟩
set_option maxRecDepth 100000 in
set_option maxHeartbeats 4000000 in
theorem c_v_1s (xs : List Int) (A : Option Addr) (N c d g a p : Nat) (W : World) (E : Int) (hE : E = 65 - ((d + 1 : Nat) : Int)) (hP : PenAt W g xs A N c a p) (hm : ¬ 65536 ≤ p) (hka : a + 1 ≤ N) (hkg : xs.getD a 0 = 1) (hs : N < a + 2) :
    Calls Tryz.prog 65 #[.pointer (some ⟨g, 0, none⟩), .int .i64 E] W (DPost W g A N c (.bad (a + 1) 3)) := by
  have hl := hP.len
  have hle : ¬ 64 < E := by omega
  have HLT : Hid (g < W.heap.size) := hP.bk.lt
  have HP0 : Hid (Blk (W.alloc (.cells vz 30)) g 97 (PnC A N c a p)) := hP.bk.alloc _
  have HR0 := Lib.hid (Blk.new W 30 vz)
  have HG0 : Hid (W.grownBy (W.alloc (.cells vz 30)) (some g)) := only_alloc (World.grownBy.refl W _) _
  have HPA := Lib.hid hP
  have HL := Lib.hid hl
  have ha := hP.ha
  have hN := hP.hN
  have hpp := hP.hp
  have HKG := Lib.hid hkg
  clear hkg
  clear hl hP hE
  go_enter Tryz.func65, Tryz.ntmps65
  go_upto_region 1 with fail
  unfold vz at *
  generalize W.alloc (.cells #[.int .i64 0, .int .i64 0, .float .f64 0, .string ⟨#[]⟩, .slice none 0 0, .slice none 0 0] 30) = w0 at *
  have p1 : w0.cell? ⟨g, 1, none⟩ = some (.int .i64 (a : Int)) := HP0.out.cell 1
  have p2 : w0.cell? ⟨g, 2, none⟩ = some (.int .i64 (p : Int)) := HP0.out.cell 2
  have q2 : w0.frozen? ⟨g, 2, none⟩ = false := HP0.out.frozen 2
  go_upto_region 4 with fail
  have HP1 : Hid (Blk (w0.setCell ⟨g, 2, none⟩ (.int .i64 ((p : Int) + 1))) g 97 (PnC A N c a (p + 1))) := by
    have := HP0.out.set_ 2 (.int .i64 ((p : Int) + 1))
    exact this
  have HR1 : Hid (Blk (w0.setCell ⟨g, 2, none⟩ (.int .i64 ((p : Int) + 1))) W.heap.size 30 #[.int .i64 0, .int .i64 0, .float .f64 0, .string ⟨#[]⟩, .slice none 0 0, .slice none 0 0]) := HR0.out.far (by have := HLT.out; simp only; omega) _
  have HG1 : Hid (W.grownBy (w0.setCell ⟨g, 2, none⟩ (.int .i64 ((p : Int) + 1))) (some g)) := only_setCell HG0.out (.inl rfl) _
  generalize w0.setCell ⟨g, 2, none⟩ (.int .i64 ((p : Int) + 1)) = w1 at *
  clear p1 p2 q2 HP0 HR0 HG0
  have p1 : w1.cell? ⟨g, 1, none⟩ = some (.int .i64 (a : Int)) := HP1.out.cell 1
  have p2 : w1.cell? ⟨g, 2, none⟩ = some (.int .i64 ((p : Int) + 1)) := HP1.out.cell 2
  have hpe : ¬ (65536 : Int) < (p : Int) + 1 := by omega
  go_wp2_with fail
  clear p1 p2
  have HR1' := Lib.hid (Reads.grown HPA.out.rd HG1.out (Nat.le_of_lt HLT.out) (fun _ h => by injection h with h; omega))
  refine (c_take g A N c a (p + 1) 1 xs w1 HP1.out HR1'.out hN HPA.out.hc HPA.out.hm hka).mono ?_; rintro e w2 ⟨A2, c2, rfl, hc2, hr2, hb2, hg2⟩
  rw [sub_one (by rw [HL.out]; omega), HKG.out] at hr2
  obtain ⟨b2, o2, hA2, _, _, hk2⟩ := hr2.form (by omega)
  subst hA2
  have k2 : w2.cell? ⟨b2, o2, none⟩ = some (.int .u8 1) := hk2 0 (by omega)
  have HP2 := Lib.hid hb2
  have HG2 := Lib.hid (only_trans HG1.out hg2)
  have HR2 : Hid (Blk w2 W.heap.size 30 #[.int .i64 0, .int .i64 0, .float .f64 0, .string ⟨#[]⟩, .slice none 0 0, .slice none 0 0]) := HR1.out.grown hg2 (by have := HLT.out; intro e; injection e with e; omega)
  have h01 : (0 : Int) < (1 : Int) := by omega
  clear hr2 hk2 hb2 hg2 HP1 HR1 HG1 HR1'
  have HVA := Lib.hid (Blk.new w2 30 #[.int .i64 0, .int .i64 0, .float .f64 0, .string ⟨#[]⟩, .slice none 0 0, .slice none 0 0])
  have HGA : Hid (w2.grownBy (w2.alloc (.cells #[.int .i64 0, .int .i64 0, .float .f64 0, .string ⟨#[]⟩, .slice none 0 0, .slice none 0 0] 30)) none) := only_alloc (World.grownBy.refl w2 none) _
  have HZ3 : Hid (W.heap.size < w2.heap.size) := HR2.out.lt
  go_upto_region 8 with (refine wpList_storeB rfl 30 (.tmp 6) (.tmp 48) rfl rfl w2.heap.size #[.int .i64 1, .int .i64 0, .float .f64 0, .string ⟨#[]⟩, .slice none 0 0, .slice none 0 0] (by first | rfl | simp [Act.eval]) (by first | rfl | simp [Act.eval]) HVA.out v_info rfl rfl ?_; intro w3 hb3 hg3 hz3)
  have HV3 := Lib.hid hb3
  have HG23 : Hid (w2.grownBy w3 none) := ⟨hg3.os, hg3.tape, hg3.output, Nat.le_trans HGA.out.size hg3.size, fun i hi _ => (hg3.block i (Nat.lt_of_lt_of_le hi HGA.out.size) (by intro e; injection e with e; omega)).trans (HGA.out.block i hi (by simp))⟩
  have HP3 : Hid (Blk w3 g 97 (PnC A N c (a + 1) (p + 1))) := HP2.out.grown HG23.out (by simp)
  have HR3 : Hid (Blk w3 W.heap.size 30 #[.int .i64 0, .int .i64 0, .float .f64 0, .string ⟨#[]⟩, .slice none 0 0, .slice none 0 0]) := HR2.out.grown HG23.out (by simp)
  have HG3 : Hid (W.grownBy w3 (some g)) := only_trans HG2.out ⟨HG23.out.os, HG23.out.tape, HG23.out.output, HG23.out.size, fun i hi _ => HG23.out.block i hi (by simp)⟩
  clear hb3 hg3 hz3 HVA HGA HG23
  clear k2 HP2 HR2 HG2
  have p1 : w3.cell? ⟨g, 1, none⟩ = some (.int .i64 ((a + 1 : Nat) : Int)) := HP3.out.cell 1
  have v0 : w3.cell? ⟨w2.heap.size, 0, none⟩ = some (.int .i64 1) := HV3.out.cell 0
  have HR3' := Lib.hid (Reads.grown HPA.out.rd HG3.out (Nat.le_of_lt HLT.out) (fun _ h => by injection h with h; omega))
  go_wp2_with fail
  refine (c_take_bad g A N c (a + 1) (p + 1) 1 w3 HP3.out (by omega) hN (by omega) (by omega)).mono ?_; rintro e w4 ⟨rfl, hg4⟩
  exact ⟨rfl, rfl, only_trans HG3.out hg4⟩
set_option maxRecDepth 100000 in
set_option maxHeartbeats 4000000 in
theorem c_v_1b (xs : List Int) (A : Option Addr) (N c d g a p : Nat) (W : World) (E : Int) (hE : E = 65 - ((d + 1 : Nat) : Int)) (hP : PenAt W g xs A N c a p) (hm : ¬ 65536 ≤ p) (hka : a + 1 ≤ N) (hkg : xs.getD a 0 = 1) (hs : a + 2 ≤ N) (b : Int) (hbg : xs.getD (a + 1) 0 = b) (hbr : 0 ≤ b ∧ b < 256) (hb : 1 < b) :
    Calls Tryz.prog 65 #[.pointer (some ⟨g, 0, none⟩), .int .i64 E] W (DPost W g A N c (.bad (a + 1) 4)) := by
  have hl := hP.len
  have hle : ¬ 64 < E := by omega
  have HLT : Hid (g < W.heap.size) := hP.bk.lt
  have HP0 : Hid (Blk (W.alloc (.cells vz 30)) g 97 (PnC A N c a p)) := hP.bk.alloc _
  have HR0 := Lib.hid (Blk.new W 30 vz)
  have HG0 : Hid (W.grownBy (W.alloc (.cells vz 30)) (some g)) := only_alloc (World.grownBy.refl W _) _
  have HPA := Lib.hid hP
  have HL := Lib.hid hl
  have ha := hP.ha
  have hN := hP.hN
  have hpp := hP.hp
  have HKG := Lib.hid hkg
  have HBG := Lib.hid hbg
  obtain ⟨hb0, hb1⟩ := hbr
  clear hbg
  clear hkg
  clear hl hP hE
  go_enter Tryz.func65, Tryz.ntmps65
  go_upto_region 1 with fail
  unfold vz at *
  generalize W.alloc (.cells #[.int .i64 0, .int .i64 0, .float .f64 0, .string ⟨#[]⟩, .slice none 0 0, .slice none 0 0] 30) = w0 at *
  have p1 : w0.cell? ⟨g, 1, none⟩ = some (.int .i64 (a : Int)) := HP0.out.cell 1
  have p2 : w0.cell? ⟨g, 2, none⟩ = some (.int .i64 (p : Int)) := HP0.out.cell 2
  have q2 : w0.frozen? ⟨g, 2, none⟩ = false := HP0.out.frozen 2
  go_upto_region 4 with fail
  have HP1 : Hid (Blk (w0.setCell ⟨g, 2, none⟩ (.int .i64 ((p : Int) + 1))) g 97 (PnC A N c a (p + 1))) := by
    have := HP0.out.set_ 2 (.int .i64 ((p : Int) + 1))
    exact this
  have HR1 : Hid (Blk (w0.setCell ⟨g, 2, none⟩ (.int .i64 ((p : Int) + 1))) W.heap.size 30 #[.int .i64 0, .int .i64 0, .float .f64 0, .string ⟨#[]⟩, .slice none 0 0, .slice none 0 0]) := HR0.out.far (by have := HLT.out; simp only; omega) _
  have HG1 : Hid (W.grownBy (w0.setCell ⟨g, 2, none⟩ (.int .i64 ((p : Int) + 1))) (some g)) := only_setCell HG0.out (.inl rfl) _
  generalize w0.setCell ⟨g, 2, none⟩ (.int .i64 ((p : Int) + 1)) = w1 at *
  clear p1 p2 q2 HP0 HR0 HG0
  have p1 : w1.cell? ⟨g, 1, none⟩ = some (.int .i64 (a : Int)) := HP1.out.cell 1
  have p2 : w1.cell? ⟨g, 2, none⟩ = some (.int .i64 ((p : Int) + 1)) := HP1.out.cell 2
  have hpe : ¬ (65536 : Int) < (p : Int) + 1 := by omega
  go_wp2_with fail
  clear p1 p2
  have HR1' := Lib.hid (Reads.grown HPA.out.rd HG1.out (Nat.le_of_lt HLT.out) (fun _ h => by injection h with h; omega))
  refine (c_take g A N c a (p + 1) 1 xs w1 HP1.out HR1'.out hN HPA.out.hc HPA.out.hm hka).mono ?_; rintro e w2 ⟨A2, c2, rfl, hc2, hr2, hb2, hg2⟩
  rw [sub_one (by rw [HL.out]; omega), HKG.out] at hr2
  obtain ⟨b2, o2, hA2, _, _, hk2⟩ := hr2.form (by omega)
  subst hA2
  have k2 : w2.cell? ⟨b2, o2, none⟩ = some (.int .u8 1) := hk2 0 (by omega)
  have HP2 := Lib.hid hb2
  have HG2 := Lib.hid (only_trans HG1.out hg2)
  have HR2 : Hid (Blk w2 W.heap.size 30 #[.int .i64 0, .int .i64 0, .float .f64 0, .string ⟨#[]⟩, .slice none 0 0, .slice none 0 0]) := HR1.out.grown hg2 (by have := HLT.out; intro e; injection e with e; omega)
  have h01 : (0 : Int) < (1 : Int) := by omega
  clear hr2 hk2 hb2 hg2 HP1 HR1 HG1 HR1'
  have HVA := Lib.hid (Blk.new w2 30 #[.int .i64 0, .int .i64 0, .float .f64 0, .string ⟨#[]⟩, .slice none 0 0, .slice none 0 0])
  have HGA : Hid (w2.grownBy (w2.alloc (.cells #[.int .i64 0, .int .i64 0, .float .f64 0, .string ⟨#[]⟩, .slice none 0 0, .slice none 0 0] 30)) none) := only_alloc (World.grownBy.refl w2 none) _
  have HZ3 : Hid (W.heap.size < w2.heap.size) := HR2.out.lt
  go_upto_region 8 with (refine wpList_storeB rfl 30 (.tmp 6) (.tmp 48) rfl rfl w2.heap.size #[.int .i64 1, .int .i64 0, .float .f64 0, .string ⟨#[]⟩, .slice none 0 0, .slice none 0 0] (by first | rfl | simp [Act.eval]) (by first | rfl | simp [Act.eval]) HVA.out v_info rfl rfl ?_; intro w3 hb3 hg3 hz3)
  have HV3 := Lib.hid hb3
  have HG23 : Hid (w2.grownBy w3 none) := ⟨hg3.os, hg3.tape, hg3.output, Nat.le_trans HGA.out.size hg3.size, fun i hi _ => (hg3.block i (Nat.lt_of_lt_of_le hi HGA.out.size) (by intro e; injection e with e; omega)).trans (HGA.out.block i hi (by simp))⟩
  have HP3 : Hid (Blk w3 g 97 (PnC A N c (a + 1) (p + 1))) := HP2.out.grown HG23.out (by simp)
  have HR3 : Hid (Blk w3 W.heap.size 30 #[.int .i64 0, .int .i64 0, .float .f64 0, .string ⟨#[]⟩, .slice none 0 0, .slice none 0 0]) := HR2.out.grown HG23.out (by simp)
  have HG3 : Hid (W.grownBy w3 (some g)) := only_trans HG2.out ⟨HG23.out.os, HG23.out.tape, HG23.out.output, HG23.out.size, fun i hi _ => HG23.out.block i hi (by simp)⟩
  clear hb3 hg3 hz3 HVA HGA HG23
  clear k2 HP2 HR2 HG2
  have p1 : w3.cell? ⟨g, 1, none⟩ = some (.int .i64 ((a + 1 : Nat) : Int)) := HP3.out.cell 1
  have v0 : w3.cell? ⟨w2.heap.size, 0, none⟩ = some (.int .i64 1) := HV3.out.cell 0
  have HR3' := Lib.hid (Reads.grown HPA.out.rd HG3.out (Nat.le_of_lt HLT.out) (fun _ h => by injection h with h; omega))
  go_wp2_with fail
  refine (c_take g A N c (a + 1) (p + 1) 1 xs w3 HP3.out HR3'.out hN HPA.out.hc HPA.out.hm (by omega)).mono ?_; rintro e w4 ⟨A4, c4, rfl, hc4, hr4, hb4, hg4⟩
  have HP4 := Lib.hid hb4
  have HG4 := Lib.hid (only_trans HG3.out hg4)
  have HR4 := Lib.hid (HR3.out.grown hg4 (by have := HLT.out; intro e; injection e with e; omega))
  have HV4 := Lib.hid (HV3.out.grown hg4 (by have := HLT.out; have := HZ3.out; intro e; injection e with e; omega))
  have v1 : w4.frozen? ⟨w2.heap.size, 1, none⟩ = false := HV4.out.frozen 1
  have v2 : w4.frozen? ⟨w2.heap.size, 2, none⟩ = false := HV4.out.frozen 2
  have v3 : w4.frozen? ⟨w2.heap.size, 3, none⟩ = false := HV4.out.frozen 3
  have x1 : w4.cell? ⟨w2.heap.size, 1, none⟩ = some (.int .i64 0) := HV4.out.cell 1
  have x2 : w4.cell? ⟨w2.heap.size, 2, none⟩ = some (.float .f64 0) := HV4.out.cell 2
  have x3 : w4.cell? ⟨w2.heap.size, 3, none⟩ = some (.string ⟨#[]⟩) := HV4.out.cell 3
  clear p1 hb4 hg4 HP3 HG3 HR3 HV3 v0
  rw [sub_one (by rw [HL.out]; omega), HBG.out] at hr4
  obtain ⟨b4, o4, hA4, _, _, hk4⟩ := hr4.form (by omega)
  subst hA4
  have k4 : w4.cell? ⟨b4, o4, none⟩ = some (.int .u8 b) := hk4 0 (by omega)
  clear hr4 hk4
  go_upto_region 14 with fail
  clear k4
  have HP5 : Hid (Blk (w4.setCell ⟨w2.heap.size, 1, none⟩ (.int .i64 b)) g 97 _) := HP4.out.far (by have := HLT.out; have := HZ3.out; simp only; omega) _
  have HR5 : Hid (Blk (w4.setCell ⟨w2.heap.size, 1, none⟩ (.int .i64 b)) W.heap.size 30 _) := HR4.out.far (by have := HZ3.out; simp only; omega) _
  have HV5 : Hid (Blk (w4.setCell ⟨w2.heap.size, 1, none⟩ (.int .i64 b)) w2.heap.size 30 #[.int .i64 1, .int .i64 (b), .float .f64 (0), .string ⟨#[]⟩, .slice none 0 0, .slice none 0 0]) := HV4.out.set_ 1 _
  have HG5 : Hid (W.grownBy (w4.setCell ⟨w2.heap.size, 1, none⟩ (.int .i64 b)) (some g)) := only_setCell HG4.out (.inr (by have := HZ3.out; simp only; omega)) _
  generalize w4.setCell ⟨w2.heap.size, 1, none⟩ (.int .i64 b) = w5 at *
  clear HP4 HR4 HV4 HG4 v1 v2 v3 x1 x2 x3
  have y1 : w5.cell? ⟨w2.heap.size, 1, none⟩ = some (.int .i64 b) := HV5.out.cell 1
  go_wp2_with fail
  refine (c_pfail g (a + 1) 4 _).mono ?_; rintro e w6 ⟨rfl, rfl⟩
  exact ⟨rfl, rfl, HG5.out⟩
set_option maxRecDepth 100000 in
set_option maxHeartbeats 4000000 in
theorem c_v_10 (xs : List Int) (A : Option Addr) (N c d g a p : Nat) (W : World) (E : Int) (hE : E = 65 - ((d + 1 : Nat) : Int)) (hP : PenAt W g xs A N c a p) (hm : ¬ 65536 ≤ p) (hka : a + 1 ≤ N) (hkg : xs.getD a 0 = 1) (hs : a + 2 ≤ N) (hbg : xs.getD (a + 1) 0 = 0) :
    Calls Tryz.prog 65 #[.pointer (some ⟨g, 0, none⟩), .int .i64 E] W (DPost W g A N c (.ok (.mk 1 0 0 ⟨#[]⟩ [] []) (a + 2) (p + 1))) := by
  have hl := hP.len
  have hle : ¬ 64 < E := by omega
  have HLT : Hid (g < W.heap.size) := hP.bk.lt
  have HP0 : Hid (Blk (W.alloc (.cells vz 30)) g 97 (PnC A N c a p)) := hP.bk.alloc _
  have HR0 := Lib.hid (Blk.new W 30 vz)
  have HG0 : Hid (W.grownBy (W.alloc (.cells vz 30)) (some g)) := only_alloc (World.grownBy.refl W _) _
  have HPA := Lib.hid hP
  have HL := Lib.hid hl
  have ha := hP.ha
  have hN := hP.hN
  have hpp := hP.hp
  have HKG := Lib.hid hkg
  have HBG := Lib.hid hbg
  clear hbg
  clear hkg
  clear hl hP hE
  go_enter Tryz.func65, Tryz.ntmps65
  go_upto_region 1 with fail
  unfold vz at *
  generalize W.alloc (.cells #[.int .i64 0, .int .i64 0, .float .f64 0, .string ⟨#[]⟩, .slice none 0 0, .slice none 0 0] 30) = w0 at *
  have p1 : w0.cell? ⟨g, 1, none⟩ = some (.int .i64 (a : Int)) := HP0.out.cell 1
  have p2 : w0.cell? ⟨g, 2, none⟩ = some (.int .i64 (p : Int)) := HP0.out.cell 2
  have q2 : w0.frozen? ⟨g, 2, none⟩ = false := HP0.out.frozen 2
  go_upto_region 4 with fail
  have HP1 : Hid (Blk (w0.setCell ⟨g, 2, none⟩ (.int .i64 ((p : Int) + 1))) g 97 (PnC A N c a (p + 1))) := by
    have := HP0.out.set_ 2 (.int .i64 ((p : Int) + 1))
    exact this
  have HR1 : Hid (Blk (w0.setCell ⟨g, 2, none⟩ (.int .i64 ((p : Int) + 1))) W.heap.size 30 #[.int .i64 0, .int .i64 0, .float .f64 0, .string ⟨#[]⟩, .slice none 0 0, .slice none 0 0]) := HR0.out.far (by have := HLT.out; simp only; omega) _
  have HG1 : Hid (W.grownBy (w0.setCell ⟨g, 2, none⟩ (.int .i64 ((p : Int) + 1))) (some g)) := only_setCell HG0.out (.inl rfl) _
  generalize w0.setCell ⟨g, 2, none⟩ (.int .i64 ((p : Int) + 1)) = w1 at *
  clear p1 p2 q2 HP0 HR0 HG0
  have p1 : w1.cell? ⟨g, 1, none⟩ = some (.int .i64 (a : Int)) := HP1.out.cell 1
  have p2 : w1.cell? ⟨g, 2, none⟩ = some (.int .i64 ((p : Int) + 1)) := HP1.out.cell 2
  have hpe : ¬ (65536 : Int) < (p : Int) + 1 := by omega
  go_wp2_with fail
  clear p1 p2
  have HR1' := Lib.hid (Reads.grown HPA.out.rd HG1.out (Nat.le_of_lt HLT.out) (fun _ h => by injection h with h; omega))
  refine (c_take g A N c a (p + 1) 1 xs w1 HP1.out HR1'.out hN HPA.out.hc HPA.out.hm hka).mono ?_; rintro e w2 ⟨A2, c2, rfl, hc2, hr2, hb2, hg2⟩
  rw [sub_one (by rw [HL.out]; omega), HKG.out] at hr2
  obtain ⟨b2, o2, hA2, _, _, hk2⟩ := hr2.form (by omega)
  subst hA2
  have k2 : w2.cell? ⟨b2, o2, none⟩ = some (.int .u8 1) := hk2 0 (by omega)
  have HP2 := Lib.hid hb2
  have HG2 := Lib.hid (only_trans HG1.out hg2)
  have HR2 : Hid (Blk w2 W.heap.size 30 #[.int .i64 0, .int .i64 0, .float .f64 0, .string ⟨#[]⟩, .slice none 0 0, .slice none 0 0]) := HR1.out.grown hg2 (by have := HLT.out; intro e; injection e with e; omega)
  have h01 : (0 : Int) < (1 : Int) := by omega
  clear hr2 hk2 hb2 hg2 HP1 HR1 HG1 HR1'
  have HVA := Lib.hid (Blk.new w2 30 #[.int .i64 0, .int .i64 0, .float .f64 0, .string ⟨#[]⟩, .slice none 0 0, .slice none 0 0])
  have HGA : Hid (w2.grownBy (w2.alloc (.cells #[.int .i64 0, .int .i64 0, .float .f64 0, .string ⟨#[]⟩, .slice none 0 0, .slice none 0 0] 30)) none) := only_alloc (World.grownBy.refl w2 none) _
  have HZ3 : Hid (W.heap.size < w2.heap.size) := HR2.out.lt
  go_upto_region 8 with (refine wpList_storeB rfl 30 (.tmp 6) (.tmp 48) rfl rfl w2.heap.size #[.int .i64 1, .int .i64 0, .float .f64 0, .string ⟨#[]⟩, .slice none 0 0, .slice none 0 0] (by first | rfl | simp [Act.eval]) (by first | rfl | simp [Act.eval]) HVA.out v_info rfl rfl ?_; intro w3 hb3 hg3 hz3)
  have HV3 := Lib.hid hb3
  have HG23 : Hid (w2.grownBy w3 none) := ⟨hg3.os, hg3.tape, hg3.output, Nat.le_trans HGA.out.size hg3.size, fun i hi _ => (hg3.block i (Nat.lt_of_lt_of_le hi HGA.out.size) (by intro e; injection e with e; omega)).trans (HGA.out.block i hi (by simp))⟩
  have HP3 : Hid (Blk w3 g 97 (PnC A N c (a + 1) (p + 1))) := HP2.out.grown HG23.out (by simp)
  have HR3 : Hid (Blk w3 W.heap.size 30 #[.int .i64 0, .int .i64 0, .float .f64 0, .string ⟨#[]⟩, .slice none 0 0, .slice none 0 0]) := HR2.out.grown HG23.out (by simp)
  have HG3 : Hid (W.grownBy w3 (some g)) := only_trans HG2.out ⟨HG23.out.os, HG23.out.tape, HG23.out.output, HG23.out.size, fun i hi _ => HG23.out.block i hi (by simp)⟩
  clear hb3 hg3 hz3 HVA HGA HG23
  clear k2 HP2 HR2 HG2
  have p1 : w3.cell? ⟨g, 1, none⟩ = some (.int .i64 ((a + 1 : Nat) : Int)) := HP3.out.cell 1
  have v0 : w3.cell? ⟨w2.heap.size, 0, none⟩ = some (.int .i64 1) := HV3.out.cell 0
  have HR3' := Lib.hid (Reads.grown HPA.out.rd HG3.out (Nat.le_of_lt HLT.out) (fun _ h => by injection h with h; omega))
  go_wp2_with fail
  refine (c_take g A N c (a + 1) (p + 1) 1 xs w3 HP3.out HR3'.out hN HPA.out.hc HPA.out.hm (by omega)).mono ?_; rintro e w4 ⟨A4, c4, rfl, hc4, hr4, hb4, hg4⟩
  have HP4 := Lib.hid hb4
  have HG4 := Lib.hid (only_trans HG3.out hg4)
  have HR4 := Lib.hid (HR3.out.grown hg4 (by have := HLT.out; intro e; injection e with e; omega))
  have HV4 := Lib.hid (HV3.out.grown hg4 (by have := HLT.out; have := HZ3.out; intro e; injection e with e; omega))
  have v1 : w4.frozen? ⟨w2.heap.size, 1, none⟩ = false := HV4.out.frozen 1
  have v2 : w4.frozen? ⟨w2.heap.size, 2, none⟩ = false := HV4.out.frozen 2
  have v3 : w4.frozen? ⟨w2.heap.size, 3, none⟩ = false := HV4.out.frozen 3
  have x1 : w4.cell? ⟨w2.heap.size, 1, none⟩ = some (.int .i64 0) := HV4.out.cell 1
  have x2 : w4.cell? ⟨w2.heap.size, 2, none⟩ = some (.float .f64 0) := HV4.out.cell 2
  have x3 : w4.cell? ⟨w2.heap.size, 3, none⟩ = some (.string ⟨#[]⟩) := HV4.out.cell 3
  clear p1 hb4 hg4 HP3 HG3 HR3 HV3 v0
  rw [sub_one (by rw [HL.out]; omega), HBG.out] at hr4
  obtain ⟨b4, o4, hA4, _, _, hk4⟩ := hr4.form (by omega)
  subst hA4
  have k4 : w4.cell? ⟨b4, o4, none⟩ = some (.int .u8 0) := hk4 0 (by omega)
  clear hr4 hk4
  go_upto_region 14 with fail
  clear k4
  have HP5 : Hid (Blk (w4.setCell ⟨w2.heap.size, 1, none⟩ (.int .i64 0)) g 97 _) := HP4.out.far (by have := HLT.out; have := HZ3.out; simp only; omega) _
  have HR5 : Hid (Blk (w4.setCell ⟨w2.heap.size, 1, none⟩ (.int .i64 0)) W.heap.size 30 _) := HR4.out.far (by have := HZ3.out; simp only; omega) _
  have HV5 : Hid (Blk (w4.setCell ⟨w2.heap.size, 1, none⟩ (.int .i64 0)) w2.heap.size 30 #[.int .i64 1, .int .i64 0, .float .f64 (0), .string ⟨#[]⟩, .slice none 0 0, .slice none 0 0]) := HV4.out.set_ 1 _
  have HG5 : Hid (W.grownBy (w4.setCell ⟨w2.heap.size, 1, none⟩ (.int .i64 0)) (some g)) := only_setCell HG4.out (.inr (by have := HZ3.out; simp only; omega)) _
  generalize w4.setCell ⟨w2.heap.size, 1, none⟩ (.int .i64 0) = w5 at *
  clear HP4 HR4 HV4 HG4 v1 v2 v3 x1 x2 x3
  have y1 : w5.cell? ⟨w2.heap.size, 1, none⟩ = some (.int .i64 0) := HV5.out.cell 1
  have hneq : W.heap.size ≠ w2.heap.size := Nat.ne_of_lt HZ3.out
  have HFE := Lib.hid (Fresh.leaf (W.heap.size + 1) w5 (k := 1) (i := 0) (f := 0) (t := ⟨#[]⟩))
  go_wp2_with (first
    | (refine wpList_load_row rfl 30 (.tmp 6) rfl w2.heap.size rfl 30 _ (0, 0) _ HV5.out Tryz.underlying30 rfl (by first | exact v_info | (simp only [List.size_toArray, (six_of (HFE.out.rd)).1]; exact v_info)) ?_)
    | (refine wpList_storeB rfl 30 (.tmp 4) (.tmp 134) rfl rfl W.heap.size #[.int .i64 1, .int .i64 (0), .float .f64 (0), .string ⟨#[]⟩, .slice none 0 0, .slice none 0 0] rfl rfl HR5.out (by first | exact v_info | (simp only [List.size_toArray, (six_of (HFE.out.rd)).1]; exact v_info)) (by first | rfl | (simp only [List.size_toArray, (six_of (HFE.out.rd)).1]; rfl)) (by first | rfl | exact (six_of (HFE.out.rd)).2) ?_; intro w9 hB9 hg9 hz9))
  exact bodyPost_ret (results_cellB (p := 4) rfl _ hB9 _ rfl Tryz.underlying30 rfl (by first | exact v_info | (simp only [List.size_toArray, (six_of (HFE.out.rd)).1]; exact v_info))) rfl ⟨_, rfl, (HFE.out.on (by rw [hz9]; exact Nat.le_refl _) (fun i hi hj => hg9.block i hj (by intro e; injection e with e; omega))).lo_ (Nat.le_succ _), HP5.out.grown hg9 (by have := HLT.out; intro e; injection e with e; omega), only_new_ HG5.out hg9 (Nat.le_refl _)⟩
set_option maxRecDepth 100000 in
set_option maxHeartbeats 4000000 in
theorem c_v_11 (xs : List Int) (A : Option Addr) (N c d g a p : Nat) (W : World) (E : Int) (hE : E = 65 - ((d + 1 : Nat) : Int)) (hP : PenAt W g xs A N c a p) (hm : ¬ 65536 ≤ p) (hka : a + 1 ≤ N) (hkg : xs.getD a 0 = 1) (hs : a + 2 ≤ N) (hbg : xs.getD (a + 1) 0 = 1) :
    Calls Tryz.prog 65 #[.pointer (some ⟨g, 0, none⟩), .int .i64 E] W (DPost W g A N c (.ok (.mk 1 1 0 ⟨#[]⟩ [] []) (a + 2) (p + 1))) := by
  have hl := hP.len
  have hle : ¬ 64 < E := by omega
  have HLT : Hid (g < W.heap.size) := hP.bk.lt
  have HP0 : Hid (Blk (W.alloc (.cells vz 30)) g 97 (PnC A N c a p)) := hP.bk.alloc _
  have HR0 := Lib.hid (Blk.new W 30 vz)
  have HG0 : Hid (W.grownBy (W.alloc (.cells vz 30)) (some g)) := only_alloc (World.grownBy.refl W _) _
  have HPA := Lib.hid hP
  have HL := Lib.hid hl
  have ha := hP.ha
  have hN := hP.hN
  have hpp := hP.hp
  have HKG := Lib.hid hkg
  have HBG := Lib.hid hbg
  clear hbg
  clear hkg
  clear hl hP hE
  go_enter Tryz.func65, Tryz.ntmps65
  go_upto_region 1 with fail
  unfold vz at *
  generalize W.alloc (.cells #[.int .i64 0, .int .i64 0, .float .f64 0, .string ⟨#[]⟩, .slice none 0 0, .slice none 0 0] 30) = w0 at *
  have p1 : w0.cell? ⟨g, 1, none⟩ = some (.int .i64 (a : Int)) := HP0.out.cell 1
  have p2 : w0.cell? ⟨g, 2, none⟩ = some (.int .i64 (p : Int)) := HP0.out.cell 2
  have q2 : w0.frozen? ⟨g, 2, none⟩ = false := HP0.out.frozen 2
  go_upto_region 4 with fail
  have HP1 : Hid (Blk (w0.setCell ⟨g, 2, none⟩ (.int .i64 ((p : Int) + 1))) g 97 (PnC A N c a (p + 1))) := by
    have := HP0.out.set_ 2 (.int .i64 ((p : Int) + 1))
    exact this
  have HR1 : Hid (Blk (w0.setCell ⟨g, 2, none⟩ (.int .i64 ((p : Int) + 1))) W.heap.size 30 #[.int .i64 0, .int .i64 0, .float .f64 0, .string ⟨#[]⟩, .slice none 0 0, .slice none 0 0]) := HR0.out.far (by have := HLT.out; simp only; omega) _
  have HG1 : Hid (W.grownBy (w0.setCell ⟨g, 2, none⟩ (.int .i64 ((p : Int) + 1))) (some g)) := only_setCell HG0.out (.inl rfl) _
  generalize w0.setCell ⟨g, 2, none⟩ (.int .i64 ((p : Int) + 1)) = w1 at *
  clear p1 p2 q2 HP0 HR0 HG0
  have p1 : w1.cell? ⟨g, 1, none⟩ = some (.int .i64 (a : Int)) := HP1.out.cell 1
  have p2 : w1.cell? ⟨g, 2, none⟩ = some (.int .i64 ((p : Int) + 1)) := HP1.out.cell 2
  have hpe : ¬ (65536 : Int) < (p : Int) + 1 := by omega
  go_wp2_with fail
  clear p1 p2
  have HR1' := Lib.hid (Reads.grown HPA.out.rd HG1.out (Nat.le_of_lt HLT.out) (fun _ h => by injection h with h; omega))
  refine (c_take g A N c a (p + 1) 1 xs w1 HP1.out HR1'.out hN HPA.out.hc HPA.out.hm hka).mono ?_; rintro e w2 ⟨A2, c2, rfl, hc2, hr2, hb2, hg2⟩
  rw [sub_one (by rw [HL.out]; omega), HKG.out] at hr2
  obtain ⟨b2, o2, hA2, _, _, hk2⟩ := hr2.form (by omega)
  subst hA2
  have k2 : w2.cell? ⟨b2, o2, none⟩ = some (.int .u8 1) := hk2 0 (by omega)
  have HP2 := Lib.hid hb2
  have HG2 := Lib.hid (only_trans HG1.out hg2)
  have HR2 : Hid (Blk w2 W.heap.size 30 #[.int .i64 0, .int .i64 0, .float .f64 0, .string ⟨#[]⟩, .slice none 0 0, .slice none 0 0]) := HR1.out.grown hg2 (by have := HLT.out; intro e; injection e with e; omega)
  have h01 : (0 : Int) < (1 : Int) := by omega
  clear hr2 hk2 hb2 hg2 HP1 HR1 HG1 HR1'
  have HVA := Lib.hid (Blk.new w2 30 #[.int .i64 0, .int .i64 0, .float .f64 0, .string ⟨#[]⟩, .slice none 0 0, .slice none 0 0])
  have HGA : Hid (w2.grownBy (w2.alloc (.cells #[.int .i64 0, .int .i64 0, .float .f64 0, .string ⟨#[]⟩, .slice none 0 0, .slice none 0 0] 30)) none) := only_alloc (World.grownBy.refl w2 none) _
  have HZ3 : Hid (W.heap.size < w2.heap.size) := HR2.out.lt
  go_upto_region 8 with (refine wpList_storeB rfl 30 (.tmp 6) (.tmp 48) rfl rfl w2.heap.size #[.int .i64 1, .int .i64 0, .float .f64 0, .string ⟨#[]⟩, .slice none 0 0, .slice none 0 0] (by first | rfl | simp [Act.eval]) (by first | rfl | simp [Act.eval]) HVA.out v_info rfl rfl ?_; intro w3 hb3 hg3 hz3)
  have HV3 := Lib.hid hb3
  have HG23 : Hid (w2.grownBy w3 none) := ⟨hg3.os, hg3.tape, hg3.output, Nat.le_trans HGA.out.size hg3.size, fun i hi _ => (hg3.block i (Nat.lt_of_lt_of_le hi HGA.out.size) (by intro e; injection e with e; omega)).trans (HGA.out.block i hi (by simp))⟩
  have HP3 : Hid (Blk w3 g 97 (PnC A N c (a + 1) (p + 1))) := HP2.out.grown HG23.out (by simp)
  have HR3 : Hid (Blk w3 W.heap.size 30 #[.int .i64 0, .int .i64 0, .float .f64 0, .string ⟨#[]⟩, .slice none 0 0, .slice none 0 0]) := HR2.out.grown HG23.out (by simp)
  have HG3 : Hid (W.grownBy w3 (some g)) := only_trans HG2.out ⟨HG23.out.os, HG23.out.tape, HG23.out.output, HG23.out.size, fun i hi _ => HG23.out.block i hi (by simp)⟩
  clear hb3 hg3 hz3 HVA HGA HG23
  clear k2 HP2 HR2 HG2
  have p1 : w3.cell? ⟨g, 1, none⟩ = some (.int .i64 ((a + 1 : Nat) : Int)) := HP3.out.cell 1
  have v0 : w3.cell? ⟨w2.heap.size, 0, none⟩ = some (.int .i64 1) := HV3.out.cell 0
  have HR3' := Lib.hid (Reads.grown HPA.out.rd HG3.out (Nat.le_of_lt HLT.out) (fun _ h => by injection h with h; omega))
  go_wp2_with fail
  refine (c_take g A N c (a + 1) (p + 1) 1 xs w3 HP3.out HR3'.out hN HPA.out.hc HPA.out.hm (by omega)).mono ?_; rintro e w4 ⟨A4, c4, rfl, hc4, hr4, hb4, hg4⟩
  have HP4 := Lib.hid hb4
  have HG4 := Lib.hid (only_trans HG3.out hg4)
  have HR4 := Lib.hid (HR3.out.grown hg4 (by have := HLT.out; intro e; injection e with e; omega))
  have HV4 := Lib.hid (HV3.out.grown hg4 (by have := HLT.out; have := HZ3.out; intro e; injection e with e; omega))
  have v1 : w4.frozen? ⟨w2.heap.size, 1, none⟩ = false := HV4.out.frozen 1
  have v2 : w4.frozen? ⟨w2.heap.size, 2, none⟩ = false := HV4.out.frozen 2
  have v3 : w4.frozen? ⟨w2.heap.size, 3, none⟩ = false := HV4.out.frozen 3
  have x1 : w4.cell? ⟨w2.heap.size, 1, none⟩ = some (.int .i64 0) := HV4.out.cell 1
  have x2 : w4.cell? ⟨w2.heap.size, 2, none⟩ = some (.float .f64 0) := HV4.out.cell 2
  have x3 : w4.cell? ⟨w2.heap.size, 3, none⟩ = some (.string ⟨#[]⟩) := HV4.out.cell 3
  clear p1 hb4 hg4 HP3 HG3 HR3 HV3 v0
  rw [sub_one (by rw [HL.out]; omega), HBG.out] at hr4
  obtain ⟨b4, o4, hA4, _, _, hk4⟩ := hr4.form (by omega)
  subst hA4
  have k4 : w4.cell? ⟨b4, o4, none⟩ = some (.int .u8 1) := hk4 0 (by omega)
  clear hr4 hk4
  go_upto_region 14 with fail
  clear k4
  have HP5 : Hid (Blk (w4.setCell ⟨w2.heap.size, 1, none⟩ (.int .i64 1)) g 97 _) := HP4.out.far (by have := HLT.out; have := HZ3.out; simp only; omega) _
  have HR5 : Hid (Blk (w4.setCell ⟨w2.heap.size, 1, none⟩ (.int .i64 1)) W.heap.size 30 _) := HR4.out.far (by have := HZ3.out; simp only; omega) _
  have HV5 : Hid (Blk (w4.setCell ⟨w2.heap.size, 1, none⟩ (.int .i64 1)) w2.heap.size 30 #[.int .i64 1, .int .i64 1, .float .f64 (0), .string ⟨#[]⟩, .slice none 0 0, .slice none 0 0]) := HV4.out.set_ 1 _
  have HG5 : Hid (W.grownBy (w4.setCell ⟨w2.heap.size, 1, none⟩ (.int .i64 1)) (some g)) := only_setCell HG4.out (.inr (by have := HZ3.out; simp only; omega)) _
  generalize w4.setCell ⟨w2.heap.size, 1, none⟩ (.int .i64 1) = w5 at *
  clear HP4 HR4 HV4 HG4 v1 v2 v3 x1 x2 x3
  have y1 : w5.cell? ⟨w2.heap.size, 1, none⟩ = some (.int .i64 1) := HV5.out.cell 1
  have hneq : W.heap.size ≠ w2.heap.size := Nat.ne_of_lt HZ3.out
  have HFE := Lib.hid (Fresh.leaf (W.heap.size + 1) w5 (k := 1) (i := 1) (f := 0) (t := ⟨#[]⟩))
  go_wp2_with (first
    | (refine wpList_load_row rfl 30 (.tmp 6) rfl w2.heap.size rfl 30 _ (0, 0) _ HV5.out Tryz.underlying30 rfl (by first | exact v_info | (simp only [List.size_toArray, (six_of (HFE.out.rd)).1]; exact v_info)) ?_)
    | (refine wpList_storeB rfl 30 (.tmp 4) (.tmp 134) rfl rfl W.heap.size #[.int .i64 1, .int .i64 (1), .float .f64 (0), .string ⟨#[]⟩, .slice none 0 0, .slice none 0 0] rfl rfl HR5.out (by first | exact v_info | (simp only [List.size_toArray, (six_of (HFE.out.rd)).1]; exact v_info)) (by first | rfl | (simp only [List.size_toArray, (six_of (HFE.out.rd)).1]; rfl)) (by first | rfl | exact (six_of (HFE.out.rd)).2) ?_; intro w9 hB9 hg9 hz9))
  exact bodyPost_ret (results_cellB (p := 4) rfl _ hB9 _ rfl Tryz.underlying30 rfl (by first | exact v_info | (simp only [List.size_toArray, (six_of (HFE.out.rd)).1]; exact v_info))) rfl ⟨_, rfl, (HFE.out.on (by rw [hz9]; exact Nat.le_refl _) (fun i hi hj => hg9.block i hj (by intro e; injection e with e; omega))).lo_ (Nat.le_succ _), HP5.out.grown hg9 (by have := HLT.out; intro e; injection e with e; omega), only_new_ HG5.out hg9 (Nat.le_refl _)⟩
set_option maxRecDepth 100000 in
set_option maxHeartbeats 4000000 in
theorem c_v_2s (xs : List Int) (A : Option Addr) (N c d g a p : Nat) (W : World) (E : Int) (hE : E = 65 - ((d + 1 : Nat) : Int)) (hP : PenAt W g xs A N c a p) (hm : ¬ 65536 ≤ p) (hka : a + 1 ≤ N) (hkg : xs.getD a 0 = 2) (hs : N < a + 9) :
    Calls Tryz.prog 65 #[.pointer (some ⟨g, 0, none⟩), .int .i64 E] W (DPost W g A N c (.bad (a + 1) 3)) := by
  have hl := hP.len
  have hle : ¬ 64 < E := by omega
  have HLT : Hid (g < W.heap.size) := hP.bk.lt
  have HP0 : Hid (Blk (W.alloc (.cells vz 30)) g 97 (PnC A N c a p)) := hP.bk.alloc _
  have HR0 := Lib.hid (Blk.new W 30 vz)
  have HG0 : Hid (W.grownBy (W.alloc (.cells vz 30)) (some g)) := only_alloc (World.grownBy.refl W _) _
  have HPA := Lib.hid hP
  have HL := Lib.hid hl
  have ha := hP.ha
  have hN := hP.hN
  have hpp := hP.hp
  have HKG := Lib.hid hkg
  clear hkg
  clear hl hP hE
  go_enter Tryz.func65, Tryz.ntmps65
  go_upto_region 1 with fail
  unfold vz at *
  generalize W.alloc (.cells #[.int .i64 0, .int .i64 0, .float .f64 0, .string ⟨#[]⟩, .slice none 0 0, .slice none 0 0] 30) = w0 at *
  have p1 : w0.cell? ⟨g, 1, none⟩ = some (.int .i64 (a : Int)) := HP0.out.cell 1
  have p2 : w0.cell? ⟨g, 2, none⟩ = some (.int .i64 (p : Int)) := HP0.out.cell 2
  have q2 : w0.frozen? ⟨g, 2, none⟩ = false := HP0.out.frozen 2
  go_upto_region 4 with fail
  have HP1 : Hid (Blk (w0.setCell ⟨g, 2, none⟩ (.int .i64 ((p : Int) + 1))) g 97 (PnC A N c a (p + 1))) := by
    have := HP0.out.set_ 2 (.int .i64 ((p : Int) + 1))
    exact this
  have HR1 : Hid (Blk (w0.setCell ⟨g, 2, none⟩ (.int .i64 ((p : Int) + 1))) W.heap.size 30 #[.int .i64 0, .int .i64 0, .float .f64 0, .string ⟨#[]⟩, .slice none 0 0, .slice none 0 0]) := HR0.out.far (by have := HLT.out; simp only; omega) _
  have HG1 : Hid (W.grownBy (w0.setCell ⟨g, 2, none⟩ (.int .i64 ((p : Int) + 1))) (some g)) := only_setCell HG0.out (.inl rfl) _
  generalize w0.setCell ⟨g, 2, none⟩ (.int .i64 ((p : Int) + 1)) = w1 at *
  clear p1 p2 q2 HP0 HR0 HG0
  have p1 : w1.cell? ⟨g, 1, none⟩ = some (.int .i64 (a : Int)) := HP1.out.cell 1
  have p2 : w1.cell? ⟨g, 2, none⟩ = some (.int .i64 ((p : Int) + 1)) := HP1.out.cell 2
  have hpe : ¬ (65536 : Int) < (p : Int) + 1 := by omega
  go_wp2_with fail
  clear p1 p2
  have HR1' := Lib.hid (Reads.grown HPA.out.rd HG1.out (Nat.le_of_lt HLT.out) (fun _ h => by injection h with h; omega))
  refine (c_take g A N c a (p + 1) 1 xs w1 HP1.out HR1'.out hN HPA.out.hc HPA.out.hm hka).mono ?_; rintro e w2 ⟨A2, c2, rfl, hc2, hr2, hb2, hg2⟩
  rw [sub_one (by rw [HL.out]; omega), HKG.out] at hr2
  obtain ⟨b2, o2, hA2, _, _, hk2⟩ := hr2.form (by omega)
  subst hA2
  have k2 : w2.cell? ⟨b2, o2, none⟩ = some (.int .u8 2) := hk2 0 (by omega)
  have HP2 := Lib.hid hb2
  have HG2 := Lib.hid (only_trans HG1.out hg2)
  have HR2 : Hid (Blk w2 W.heap.size 30 #[.int .i64 0, .int .i64 0, .float .f64 0, .string ⟨#[]⟩, .slice none 0 0, .slice none 0 0]) := HR1.out.grown hg2 (by have := HLT.out; intro e; injection e with e; omega)
  have h01 : (0 : Int) < (1 : Int) := by omega
  clear hr2 hk2 hb2 hg2 HP1 HR1 HG1 HR1'
  have HVA := Lib.hid (Blk.new w2 30 #[.int .i64 0, .int .i64 0, .float .f64 0, .string ⟨#[]⟩, .slice none 0 0, .slice none 0 0])
  have HGA : Hid (w2.grownBy (w2.alloc (.cells #[.int .i64 0, .int .i64 0, .float .f64 0, .string ⟨#[]⟩, .slice none 0 0, .slice none 0 0] 30)) none) := only_alloc (World.grownBy.refl w2 none) _
  have HZ3 : Hid (W.heap.size < w2.heap.size) := HR2.out.lt
  go_upto_region 8 with (refine wpList_storeB rfl 30 (.tmp 6) (.tmp 48) rfl rfl w2.heap.size #[.int .i64 2, .int .i64 0, .float .f64 0, .string ⟨#[]⟩, .slice none 0 0, .slice none 0 0] (by first | rfl | simp [Act.eval]) (by first | rfl | simp [Act.eval]) HVA.out v_info rfl rfl ?_; intro w3 hb3 hg3 hz3)
  have HV3 := Lib.hid hb3
  have HG23 : Hid (w2.grownBy w3 none) := ⟨hg3.os, hg3.tape, hg3.output, Nat.le_trans HGA.out.size hg3.size, fun i hi _ => (hg3.block i (Nat.lt_of_lt_of_le hi HGA.out.size) (by intro e; injection e with e; omega)).trans (HGA.out.block i hi (by simp))⟩
  have HP3 : Hid (Blk w3 g 97 (PnC A N c (a + 1) (p + 1))) := HP2.out.grown HG23.out (by simp)
  have HR3 : Hid (Blk w3 W.heap.size 30 #[.int .i64 0, .int .i64 0, .float .f64 0, .string ⟨#[]⟩, .slice none 0 0, .slice none 0 0]) := HR2.out.grown HG23.out (by simp)
  have HG3 : Hid (W.grownBy w3 (some g)) := only_trans HG2.out ⟨HG23.out.os, HG23.out.tape, HG23.out.output, HG23.out.size, fun i hi _ => HG23.out.block i hi (by simp)⟩
  clear hb3 hg3 hz3 HVA HGA HG23
  clear k2 HP2 HR2 HG2
  have p1 : w3.cell? ⟨g, 1, none⟩ = some (.int .i64 ((a + 1 : Nat) : Int)) := HP3.out.cell 1
  have v0 : w3.cell? ⟨w2.heap.size, 0, none⟩ = some (.int .i64 2) := HV3.out.cell 0
  have HR3' := Lib.hid (Reads.grown HPA.out.rd HG3.out (Nat.le_of_lt HLT.out) (fun _ h => by injection h with h; omega))
  go_wp2_with fail
  refine (c_take_bad g A N c (a + 1) (p + 1) 8 w3 HP3.out (by omega) hN (by omega) (by omega)).mono ?_; rintro e w4 ⟨rfl, hg4⟩
  exact ⟨rfl, rfl, only_trans HG3.out hg4⟩
set_option maxRecDepth 100000 in
set_option maxHeartbeats 4000000 in
theorem c_v_2 (xs : List Int) (A : Option Addr) (N c d g a p : Nat) (W : World) (E : Int) (hE : E = 65 - ((d + 1 : Nat) : Int)) (hP : PenAt W g xs A N c a p) (hm : ¬ 65536 ≤ p) (hka : a + 1 ≤ N) (hkg : xs.getD a 0 = 2) (hs : a + 9 ≤ N) (M : Nat) (hM : numL (sub xs (a + 1) 8) = M) (Z : Int) (hZ : IntKind.i64.wrap (M : Nat) = Z) :
    Calls Tryz.prog 65 #[.pointer (some ⟨g, 0, none⟩), .int .i64 E] W (DPost W g A N c (.ok (.mk 2 Z 0 ⟨#[]⟩ [] []) (a + 9) (p + 1))) := by
  have hl := hP.len
  have hle : ¬ 64 < E := by omega
  have HLT : Hid (g < W.heap.size) := hP.bk.lt
  have HP0 : Hid (Blk (W.alloc (.cells vz 30)) g 97 (PnC A N c a p)) := hP.bk.alloc _
  have HR0 := Lib.hid (Blk.new W 30 vz)
  have HG0 : Hid (W.grownBy (W.alloc (.cells vz 30)) (some g)) := only_alloc (World.grownBy.refl W _) _
  have HPA := Lib.hid hP
  have HL := Lib.hid hl
  have ha := hP.ha
  have hN := hP.hN
  have hpp := hP.hp
  have HKG := Lib.hid hkg
  have HM := Lib.hid hM
  clear hM
  have HZZ := Lib.hid hZ
  clear hZ
  clear hkg
  clear hl hP hE
  go_enter Tryz.func65, Tryz.ntmps65
  go_upto_region 1 with fail
  unfold vz at *
  generalize W.alloc (.cells #[.int .i64 0, .int .i64 0, .float .f64 0, .string ⟨#[]⟩, .slice none 0 0, .slice none 0 0] 30) = w0 at *
  have p1 : w0.cell? ⟨g, 1, none⟩ = some (.int .i64 (a : Int)) := HP0.out.cell 1
  have p2 : w0.cell? ⟨g, 2, none⟩ = some (.int .i64 (p : Int)) := HP0.out.cell 2
  have q2 : w0.frozen? ⟨g, 2, none⟩ = false := HP0.out.frozen 2
  go_upto_region 4 with fail
  have HP1 : Hid (Blk (w0.setCell ⟨g, 2, none⟩ (.int .i64 ((p : Int) + 1))) g 97 (PnC A N c a (p + 1))) := by
    have := HP0.out.set_ 2 (.int .i64 ((p : Int) + 1))
    exact this
  have HR1 : Hid (Blk (w0.setCell ⟨g, 2, none⟩ (.int .i64 ((p : Int) + 1))) W.heap.size 30 #[.int .i64 0, .int .i64 0, .float .f64 0, .string ⟨#[]⟩, .slice none 0 0, .slice none 0 0]) := HR0.out.far (by have := HLT.out; simp only; omega) _
  have HG1 : Hid (W.grownBy (w0.setCell ⟨g, 2, none⟩ (.int .i64 ((p : Int) + 1))) (some g)) := only_setCell HG0.out (.inl rfl) _
  generalize w0.setCell ⟨g, 2, none⟩ (.int .i64 ((p : Int) + 1)) = w1 at *
  clear p1 p2 q2 HP0 HR0 HG0
  have p1 : w1.cell? ⟨g, 1, none⟩ = some (.int .i64 (a : Int)) := HP1.out.cell 1
  have p2 : w1.cell? ⟨g, 2, none⟩ = some (.int .i64 ((p : Int) + 1)) := HP1.out.cell 2
  have hpe : ¬ (65536 : Int) < (p : Int) + 1 := by omega
  go_wp2_with fail
  clear p1 p2
  have HR1' := Lib.hid (Reads.grown HPA.out.rd HG1.out (Nat.le_of_lt HLT.out) (fun _ h => by injection h with h; omega))
  refine (c_take g A N c a (p + 1) 1 xs w1 HP1.out HR1'.out hN HPA.out.hc HPA.out.hm hka).mono ?_; rintro e w2 ⟨A2, c2, rfl, hc2, hr2, hb2, hg2⟩
  rw [sub_one (by rw [HL.out]; omega), HKG.out] at hr2
  obtain ⟨b2, o2, hA2, _, _, hk2⟩ := hr2.form (by omega)
  subst hA2
  have k2 : w2.cell? ⟨b2, o2, none⟩ = some (.int .u8 2) := hk2 0 (by omega)
  have HP2 := Lib.hid hb2
  have HG2 := Lib.hid (only_trans HG1.out hg2)
  have HR2 : Hid (Blk w2 W.heap.size 30 #[.int .i64 0, .int .i64 0, .float .f64 0, .string ⟨#[]⟩, .slice none 0 0, .slice none 0 0]) := HR1.out.grown hg2 (by have := HLT.out; intro e; injection e with e; omega)
  have h01 : (0 : Int) < (1 : Int) := by omega
  clear hr2 hk2 hb2 hg2 HP1 HR1 HG1 HR1'
  have HVA := Lib.hid (Blk.new w2 30 #[.int .i64 0, .int .i64 0, .float .f64 0, .string ⟨#[]⟩, .slice none 0 0, .slice none 0 0])
  have HGA : Hid (w2.grownBy (w2.alloc (.cells #[.int .i64 0, .int .i64 0, .float .f64 0, .string ⟨#[]⟩, .slice none 0 0, .slice none 0 0] 30)) none) := only_alloc (World.grownBy.refl w2 none) _
  have HZ3 : Hid (W.heap.size < w2.heap.size) := HR2.out.lt
  go_upto_region 8 with (refine wpList_storeB rfl 30 (.tmp 6) (.tmp 48) rfl rfl w2.heap.size #[.int .i64 2, .int .i64 0, .float .f64 0, .string ⟨#[]⟩, .slice none 0 0, .slice none 0 0] (by first | rfl | simp [Act.eval]) (by first | rfl | simp [Act.eval]) HVA.out v_info rfl rfl ?_; intro w3 hb3 hg3 hz3)
  have HV3 := Lib.hid hb3
  have HG23 : Hid (w2.grownBy w3 none) := ⟨hg3.os, hg3.tape, hg3.output, Nat.le_trans HGA.out.size hg3.size, fun i hi _ => (hg3.block i (Nat.lt_of_lt_of_le hi HGA.out.size) (by intro e; injection e with e; omega)).trans (HGA.out.block i hi (by simp))⟩
  have HP3 : Hid (Blk w3 g 97 (PnC A N c (a + 1) (p + 1))) := HP2.out.grown HG23.out (by simp)
  have HR3 : Hid (Blk w3 W.heap.size 30 #[.int .i64 0, .int .i64 0, .float .f64 0, .string ⟨#[]⟩, .slice none 0 0, .slice none 0 0]) := HR2.out.grown HG23.out (by simp)
  have HG3 : Hid (W.grownBy w3 (some g)) := only_trans HG2.out ⟨HG23.out.os, HG23.out.tape, HG23.out.output, HG23.out.size, fun i hi _ => HG23.out.block i hi (by simp)⟩
  clear hb3 hg3 hz3 HVA HGA HG23
  clear k2 HP2 HR2 HG2
  have p1 : w3.cell? ⟨g, 1, none⟩ = some (.int .i64 ((a + 1 : Nat) : Int)) := HP3.out.cell 1
  have v0 : w3.cell? ⟨w2.heap.size, 0, none⟩ = some (.int .i64 2) := HV3.out.cell 0
  have HR3' := Lib.hid (Reads.grown HPA.out.rd HG3.out (Nat.le_of_lt HLT.out) (fun _ h => by injection h with h; omega))
  go_wp2_with fail
  refine (c_take g A N c (a + 1) (p + 1) 8 xs w3 HP3.out HR3'.out hN HPA.out.hc HPA.out.hm (by omega)).mono ?_; rintro e w4 ⟨A4, c4, rfl, hc4, hr4, hb4, hg4⟩
  have HP4 := Lib.hid hb4
  have HG4 := Lib.hid (only_trans HG3.out hg4)
  have HR4 := Lib.hid (HR3.out.grown hg4 (by have := HLT.out; intro e; injection e with e; omega))
  have HV4 := Lib.hid (HV3.out.grown hg4 (by have := HLT.out; have := HZ3.out; intro e; injection e with e; omega))
  have v1 : w4.frozen? ⟨w2.heap.size, 1, none⟩ = false := HV4.out.frozen 1
  have v2 : w4.frozen? ⟨w2.heap.size, 2, none⟩ = false := HV4.out.frozen 2
  have v3 : w4.frozen? ⟨w2.heap.size, 3, none⟩ = false := HV4.out.frozen 3
  have x1 : w4.cell? ⟨w2.heap.size, 1, none⟩ = some (.int .i64 0) := HV4.out.cell 1
  have x2 : w4.cell? ⟨w2.heap.size, 2, none⟩ = some (.float .f64 0) := HV4.out.cell 2
  have x3 : w4.cell? ⟨w2.heap.size, 3, none⟩ = some (.string ⟨#[]⟩) := HV4.out.cell 3
  clear p1 hb4 hg4 HP3 HG3 HR3 HV3 v0
  have HL8 := Lib.hid (c_L64 A4 c4 _ w4 g hr4 (sub_bts HPA.out.bt _ _))
  rw [HM.out] at HL8
  clear hr4
  go_wp2_with fail
  refine (HL8.out).mono ?_; rintro e w5' ⟨rfl, rfl⟩
  have hz1 : wrap64 ((M : Nat) : Int) = Z := (IntWalk.i64_left _).symm.trans HZZ.out
  go_upto_region 35 with fail
  clear hz1
  have HP5 : Hid (Blk (w4.setCell ⟨w2.heap.size, 1, none⟩ (.int .i64 Z)) g 97 _) := HP4.out.far (by have := HLT.out; have := HZ3.out; simp only; omega) _
  have HR5 : Hid (Blk (w4.setCell ⟨w2.heap.size, 1, none⟩ (.int .i64 Z)) W.heap.size 30 _) := HR4.out.far (by have := HZ3.out; simp only; omega) _
  have HV5 : Hid (Blk (w4.setCell ⟨w2.heap.size, 1, none⟩ (.int .i64 Z)) w2.heap.size 30 #[.int .i64 2, .int .i64 (Z), .float .f64 (0), .string ⟨#[]⟩, .slice none 0 0, .slice none 0 0]) := HV4.out.set_ 1 _
  have HG5 : Hid (W.grownBy (w4.setCell ⟨w2.heap.size, 1, none⟩ (.int .i64 Z)) (some g)) := only_setCell HG4.out (.inr (by have := HZ3.out; simp only; omega)) _
  generalize w4.setCell ⟨w2.heap.size, 1, none⟩ (.int .i64 Z) = w5 at *
  clear HP4 HR4 HV4 HG4 v1 v2 v3 x1 x2 x3
  have hneq : W.heap.size ≠ w2.heap.size := Nat.ne_of_lt HZ3.out
  have HFE := Lib.hid (Fresh.leaf (W.heap.size + 1) w5 (k := 2) (i := Z) (f := 0) (t := ⟨#[]⟩))
  go_wp2_with (first
    | (refine wpList_load_row rfl 30 (.tmp 6) rfl w2.heap.size rfl 30 _ (0, 0) _ HV5.out Tryz.underlying30 rfl (by first | exact v_info | (simp only [List.size_toArray, (six_of (HFE.out.rd)).1]; exact v_info)) ?_)
    | (refine wpList_storeB rfl 30 (.tmp 4) (.tmp 134) rfl rfl W.heap.size #[.int .i64 2, .int .i64 (Z), .float .f64 (0), .string ⟨#[]⟩, .slice none 0 0, .slice none 0 0] rfl rfl HR5.out (by first | exact v_info | (simp only [List.size_toArray, (six_of (HFE.out.rd)).1]; exact v_info)) (by first | rfl | (simp only [List.size_toArray, (six_of (HFE.out.rd)).1]; rfl)) (by first | rfl | exact (six_of (HFE.out.rd)).2) ?_; intro w9 hB9 hg9 hz9))
  exact bodyPost_ret (results_cellB (p := 4) rfl _ hB9 _ rfl Tryz.underlying30 rfl (by first | exact v_info | (simp only [List.size_toArray, (six_of (HFE.out.rd)).1]; exact v_info))) rfl ⟨_, rfl, (HFE.out.on (by rw [hz9]; exact Nat.le_refl _) (fun i hi hj => hg9.block i hj (by intro e; injection e with e; omega))).lo_ (Nat.le_succ _), HP5.out.grown hg9 (by have := HLT.out; intro e; injection e with e; omega), only_new_ HG5.out hg9 (Nat.le_refl _)⟩
set_option maxRecDepth 100000 in
set_option maxHeartbeats 4000000 in
theorem c_v_3s (xs : List Int) (A : Option Addr) (N c d g a p : Nat) (W : World) (E : Int) (hE : E = 65 - ((d + 1 : Nat) : Int)) (hP : PenAt W g xs A N c a p) (hm : ¬ 65536 ≤ p) (hka : a + 1 ≤ N) (hkg : xs.getD a 0 = 3) (hs : N < a + 9) :
    Calls Tryz.prog 65 #[.pointer (some ⟨g, 0, none⟩), .int .i64 E] W (DPost W g A N c (.bad (a + 1) 3)) := by
  have hl := hP.len
  have hle : ¬ 64 < E := by omega
  have HLT : Hid (g < W.heap.size) := hP.bk.lt
  have HP0 : Hid (Blk (W.alloc (.cells vz 30)) g 97 (PnC A N c a p)) := hP.bk.alloc _
  have HR0 := Lib.hid (Blk.new W 30 vz)
  have HG0 : Hid (W.grownBy (W.alloc (.cells vz 30)) (some g)) := only_alloc (World.grownBy.refl W _) _
  have HPA := Lib.hid hP
  have HL := Lib.hid hl
  have ha := hP.ha
  have hN := hP.hN
  have hpp := hP.hp
  have HKG := Lib.hid hkg
  clear hkg
  clear hl hP hE
  go_enter Tryz.func65, Tryz.ntmps65
  go_upto_region 1 with fail
  unfold vz at *
  generalize W.alloc (.cells #[.int .i64 0, .int .i64 0, .float .f64 0, .string ⟨#[]⟩, .slice none 0 0, .slice none 0 0] 30) = w0 at *
  have p1 : w0.cell? ⟨g, 1, none⟩ = some (.int .i64 (a : Int)) := HP0.out.cell 1
  have p2 : w0.cell? ⟨g, 2, none⟩ = some (.int .i64 (p : Int)) := HP0.out.cell 2
  have q2 : w0.frozen? ⟨g, 2, none⟩ = false := HP0.out.frozen 2
  go_upto_region 4 with fail
  have HP1 : Hid (Blk (w0.setCell ⟨g, 2, none⟩ (.int .i64 ((p : Int) + 1))) g 97 (PnC A N c a (p + 1))) := by
    have := HP0.out.set_ 2 (.int .i64 ((p : Int) + 1))
    exact this
  have HR1 : Hid (Blk (w0.setCell ⟨g, 2, none⟩ (.int .i64 ((p : Int) + 1))) W.heap.size 30 #[.int .i64 0, .int .i64 0, .float .f64 0, .string ⟨#[]⟩, .slice none 0 0, .slice none 0 0]) := HR0.out.far (by have := HLT.out; simp only; omega) _
  have HG1 : Hid (W.grownBy (w0.setCell ⟨g, 2, none⟩ (.int .i64 ((p : Int) + 1))) (some g)) := only_setCell HG0.out (.inl rfl) _
  generalize w0.setCell ⟨g, 2, none⟩ (.int .i64 ((p : Int) + 1)) = w1 at *
  clear p1 p2 q2 HP0 HR0 HG0
  have p1 : w1.cell? ⟨g, 1, none⟩ = some (.int .i64 (a : Int)) := HP1.out.cell 1
  have p2 : w1.cell? ⟨g, 2, none⟩ = some (.int .i64 ((p : Int) + 1)) := HP1.out.cell 2
  have hpe : ¬ (65536 : Int) < (p : Int) + 1 := by omega
  go_wp2_with fail
  clear p1 p2
  have HR1' := Lib.hid (Reads.grown HPA.out.rd HG1.out (Nat.le_of_lt HLT.out) (fun _ h => by injection h with h; omega))
  refine (c_take g A N c a (p + 1) 1 xs w1 HP1.out HR1'.out hN HPA.out.hc HPA.out.hm hka).mono ?_; rintro e w2 ⟨A2, c2, rfl, hc2, hr2, hb2, hg2⟩
  rw [sub_one (by rw [HL.out]; omega), HKG.out] at hr2
  obtain ⟨b2, o2, hA2, _, _, hk2⟩ := hr2.form (by omega)
  subst hA2
  have k2 : w2.cell? ⟨b2, o2, none⟩ = some (.int .u8 3) := hk2 0 (by omega)
  have HP2 := Lib.hid hb2
  have HG2 := Lib.hid (only_trans HG1.out hg2)
  have HR2 : Hid (Blk w2 W.heap.size 30 #[.int .i64 0, .int .i64 0, .float .f64 0, .string ⟨#[]⟩, .slice none 0 0, .slice none 0 0]) := HR1.out.grown hg2 (by have := HLT.out; intro e; injection e with e; omega)
  have h01 : (0 : Int) < (1 : Int) := by omega
  clear hr2 hk2 hb2 hg2 HP1 HR1 HG1 HR1'
  have HVA := Lib.hid (Blk.new w2 30 #[.int .i64 0, .int .i64 0, .float .f64 0, .string ⟨#[]⟩, .slice none 0 0, .slice none 0 0])
  have HGA : Hid (w2.grownBy (w2.alloc (.cells #[.int .i64 0, .int .i64 0, .float .f64 0, .string ⟨#[]⟩, .slice none 0 0, .slice none 0 0] 30)) none) := only_alloc (World.grownBy.refl w2 none) _
  have HZ3 : Hid (W.heap.size < w2.heap.size) := HR2.out.lt
  go_upto_region 8 with (refine wpList_storeB rfl 30 (.tmp 6) (.tmp 48) rfl rfl w2.heap.size #[.int .i64 3, .int .i64 0, .float .f64 0, .string ⟨#[]⟩, .slice none 0 0, .slice none 0 0] (by first | rfl | simp [Act.eval]) (by first | rfl | simp [Act.eval]) HVA.out v_info rfl rfl ?_; intro w3 hb3 hg3 hz3)
  have HV3 := Lib.hid hb3
  have HG23 : Hid (w2.grownBy w3 none) := ⟨hg3.os, hg3.tape, hg3.output, Nat.le_trans HGA.out.size hg3.size, fun i hi _ => (hg3.block i (Nat.lt_of_lt_of_le hi HGA.out.size) (by intro e; injection e with e; omega)).trans (HGA.out.block i hi (by simp))⟩
  have HP3 : Hid (Blk w3 g 97 (PnC A N c (a + 1) (p + 1))) := HP2.out.grown HG23.out (by simp)
  have HR3 : Hid (Blk w3 W.heap.size 30 #[.int .i64 0, .int .i64 0, .float .f64 0, .string ⟨#[]⟩, .slice none 0 0, .slice none 0 0]) := HR2.out.grown HG23.out (by simp)
  have HG3 : Hid (W.grownBy w3 (some g)) := only_trans HG2.out ⟨HG23.out.os, HG23.out.tape, HG23.out.output, HG23.out.size, fun i hi _ => HG23.out.block i hi (by simp)⟩
  clear hb3 hg3 hz3 HVA HGA HG23
  clear k2 HP2 HR2 HG2
  have p1 : w3.cell? ⟨g, 1, none⟩ = some (.int .i64 ((a + 1 : Nat) : Int)) := HP3.out.cell 1
  have v0 : w3.cell? ⟨w2.heap.size, 0, none⟩ = some (.int .i64 3) := HV3.out.cell 0
  have HR3' := Lib.hid (Reads.grown HPA.out.rd HG3.out (Nat.le_of_lt HLT.out) (fun _ h => by injection h with h; omega))
  go_wp2_with fail
  refine (c_take_bad g A N c (a + 1) (p + 1) 8 w3 HP3.out (by omega) hN (by omega) (by omega)).mono ?_; rintro e w4 ⟨rfl, hg4⟩
  exact ⟨rfl, rfl, only_trans HG3.out hg4⟩
set_option maxRecDepth 100000 in
set_option maxHeartbeats 4000000 in
theorem c_v_3b (xs : List Int) (A : Option Addr) (N c d g a p : Nat) (W : World) (E : Int) (hE : E = 65 - ((d + 1 : Nat) : Int)) (hP : PenAt W g xs A N c a p) (hm : ¬ 65536 ≤ p) (hka : a + 1 ≤ N) (hkg : xs.getD a 0 = 3) (hs : a + 9 ≤ N) (M : Nat) (hM : numL (sub xs (a + 1) 8) = M) (hne : fone M ≠ M) :
    Calls Tryz.prog 65 #[.pointer (some ⟨g, 0, none⟩), .int .i64 E] W (DPost W g A N c (.bad (a + 1) 4)) := by
  have hl := hP.len
  have hle : ¬ 64 < E := by omega
  have HLT : Hid (g < W.heap.size) := hP.bk.lt
  have HP0 : Hid (Blk (W.alloc (.cells vz 30)) g 97 (PnC A N c a p)) := hP.bk.alloc _
  have HR0 := Lib.hid (Blk.new W 30 vz)
  have HG0 : Hid (W.grownBy (W.alloc (.cells vz 30)) (some g)) := only_alloc (World.grownBy.refl W _) _
  have HPA := Lib.hid hP
  have HL := Lib.hid hl
  have ha := hP.ha
  have hN := hP.hN
  have hpp := hP.hp
  have HKG := Lib.hid hkg
  have HM := Lib.hid hM
  clear hM
  have HNE : Hid (¬ fone M = M) := hne
  clear hne
  clear hkg
  clear hl hP hE
  go_enter Tryz.func65, Tryz.ntmps65
  go_upto_region 1 with fail
  unfold vz at *
  generalize W.alloc (.cells #[.int .i64 0, .int .i64 0, .float .f64 0, .string ⟨#[]⟩, .slice none 0 0, .slice none 0 0] 30) = w0 at *
  have p1 : w0.cell? ⟨g, 1, none⟩ = some (.int .i64 (a : Int)) := HP0.out.cell 1
  have p2 : w0.cell? ⟨g, 2, none⟩ = some (.int .i64 (p : Int)) := HP0.out.cell 2
  have q2 : w0.frozen? ⟨g, 2, none⟩ = false := HP0.out.frozen 2
  go_upto_region 4 with fail
  have HP1 : Hid (Blk (w0.setCell ⟨g, 2, none⟩ (.int .i64 ((p : Int) + 1))) g 97 (PnC A N c a (p + 1))) := by
    have := HP0.out.set_ 2 (.int .i64 ((p : Int) + 1))
    exact this
  have HR1 : Hid (Blk (w0.setCell ⟨g, 2, none⟩ (.int .i64 ((p : Int) + 1))) W.heap.size 30 #[.int .i64 0, .int .i64 0, .float .f64 0, .string ⟨#[]⟩, .slice none 0 0, .slice none 0 0]) := HR0.out.far (by have := HLT.out; simp only; omega) _
  have HG1 : Hid (W.grownBy (w0.setCell ⟨g, 2, none⟩ (.int .i64 ((p : Int) + 1))) (some g)) := only_setCell HG0.out (.inl rfl) _
  generalize w0.setCell ⟨g, 2, none⟩ (.int .i64 ((p : Int) + 1)) = w1 at *
  clear p1 p2 q2 HP0 HR0 HG0
  have p1 : w1.cell? ⟨g, 1, none⟩ = some (.int .i64 (a : Int)) := HP1.out.cell 1
  have p2 : w1.cell? ⟨g, 2, none⟩ = some (.int .i64 ((p : Int) + 1)) := HP1.out.cell 2
  have hpe : ¬ (65536 : Int) < (p : Int) + 1 := by omega
  go_wp2_with fail
  clear p1 p2
  have HR1' := Lib.hid (Reads.grown HPA.out.rd HG1.out (Nat.le_of_lt HLT.out) (fun _ h => by injection h with h; omega))
  refine (c_take g A N c a (p + 1) 1 xs w1 HP1.out HR1'.out hN HPA.out.hc HPA.out.hm hka).mono ?_; rintro e w2 ⟨A2, c2, rfl, hc2, hr2, hb2, hg2⟩
  rw [sub_one (by rw [HL.out]; omega), HKG.out] at hr2
  obtain ⟨b2, o2, hA2, _, _, hk2⟩ := hr2.form (by omega)
  subst hA2
  have k2 : w2.cell? ⟨b2, o2, none⟩ = some (.int .u8 3) := hk2 0 (by omega)
  have HP2 := Lib.hid hb2
  have HG2 := Lib.hid (only_trans HG1.out hg2)
  have HR2 : Hid (Blk w2 W.heap.size 30 #[.int .i64 0, .int .i64 0, .float .f64 0, .string ⟨#[]⟩, .slice none 0 0, .slice none 0 0]) := HR1.out.grown hg2 (by have := HLT.out; intro e; injection e with e; omega)
  have h01 : (0 : Int) < (1 : Int) := by omega
  clear hr2 hk2 hb2 hg2 HP1 HR1 HG1 HR1'
  have HVA := Lib.hid (Blk.new w2 30 #[.int .i64 0, .int .i64 0, .float .f64 0, .string ⟨#[]⟩, .slice none 0 0, .slice none 0 0])
  have HGA : Hid (w2.grownBy (w2.alloc (.cells #[.int .i64 0, .int .i64 0, .float .f64 0, .string ⟨#[]⟩, .slice none 0 0, .slice none 0 0] 30)) none) := only_alloc (World.grownBy.refl w2 none) _
  have HZ3 : Hid (W.heap.size < w2.heap.size) := HR2.out.lt
  go_upto_region 8 with (refine wpList_storeB rfl 30 (.tmp 6) (.tmp 48) rfl rfl w2.heap.size #[.int .i64 3, .int .i64 0, .float .f64 0, .string ⟨#[]⟩, .slice none 0 0, .slice none 0 0] (by first | rfl | simp [Act.eval]) (by first | rfl | simp [Act.eval]) HVA.out v_info rfl rfl ?_; intro w3 hb3 hg3 hz3)
  have HV3 := Lib.hid hb3
  have HG23 : Hid (w2.grownBy w3 none) := ⟨hg3.os, hg3.tape, hg3.output, Nat.le_trans HGA.out.size hg3.size, fun i hi _ => (hg3.block i (Nat.lt_of_lt_of_le hi HGA.out.size) (by intro e; injection e with e; omega)).trans (HGA.out.block i hi (by simp))⟩
  have HP3 : Hid (Blk w3 g 97 (PnC A N c (a + 1) (p + 1))) := HP2.out.grown HG23.out (by simp)
  have HR3 : Hid (Blk w3 W.heap.size 30 #[.int .i64 0, .int .i64 0, .float .f64 0, .string ⟨#[]⟩, .slice none 0 0, .slice none 0 0]) := HR2.out.grown HG23.out (by simp)
  have HG3 : Hid (W.grownBy w3 (some g)) := only_trans HG2.out ⟨HG23.out.os, HG23.out.tape, HG23.out.output, HG23.out.size, fun i hi _ => HG23.out.block i hi (by simp)⟩
  clear hb3 hg3 hz3 HVA HGA HG23
  clear k2 HP2 HR2 HG2
  have p1 : w3.cell? ⟨g, 1, none⟩ = some (.int .i64 ((a + 1 : Nat) : Int)) := HP3.out.cell 1
  have v0 : w3.cell? ⟨w2.heap.size, 0, none⟩ = some (.int .i64 3) := HV3.out.cell 0
  have HR3' := Lib.hid (Reads.grown HPA.out.rd HG3.out (Nat.le_of_lt HLT.out) (fun _ h => by injection h with h; omega))
  go_wp2_with fail
  refine (c_take g A N c (a + 1) (p + 1) 8 xs w3 HP3.out HR3'.out hN HPA.out.hc HPA.out.hm (by omega)).mono ?_; rintro e w4 ⟨A4, c4, rfl, hc4, hr4, hb4, hg4⟩
  have HP4 := Lib.hid hb4
  have HG4 := Lib.hid (only_trans HG3.out hg4)
  have HR4 := Lib.hid (HR3.out.grown hg4 (by have := HLT.out; intro e; injection e with e; omega))
  have HV4 := Lib.hid (HV3.out.grown hg4 (by have := HLT.out; have := HZ3.out; intro e; injection e with e; omega))
  have v1 : w4.frozen? ⟨w2.heap.size, 1, none⟩ = false := HV4.out.frozen 1
  have v2 : w4.frozen? ⟨w2.heap.size, 2, none⟩ = false := HV4.out.frozen 2
  have v3 : w4.frozen? ⟨w2.heap.size, 3, none⟩ = false := HV4.out.frozen 3
  have x1 : w4.cell? ⟨w2.heap.size, 1, none⟩ = some (.int .i64 0) := HV4.out.cell 1
  have x2 : w4.cell? ⟨w2.heap.size, 2, none⟩ = some (.float .f64 0) := HV4.out.cell 2
  have x3 : w4.cell? ⟨w2.heap.size, 3, none⟩ = some (.string ⟨#[]⟩) := HV4.out.cell 3
  clear p1 hb4 hg4 HP3 HG3 HR3 HV3 v0
  have HL8 := Lib.hid (c_L64 A4 c4 _ w4 g hr4 (sub_bts HPA.out.bt _ _))
  rw [HM.out] at HL8
  clear hr4
  have hfb := call_frombits M
  go_wp2_with fail
  refine (HL8.out).mono ?_; rintro e w5' ⟨rfl, rfl⟩
  go_upto_region 22 with fail
  clear hfb
  have HP5 : Hid (Blk (w4.setCell ⟨w2.heap.size, 2, none⟩ (.float .f64 M)) g 97 _) := HP4.out.far (by have := HLT.out; have := HZ3.out; simp only; omega) _
  have HR5 : Hid (Blk (w4.setCell ⟨w2.heap.size, 2, none⟩ (.float .f64 M)) W.heap.size 30 _) := HR4.out.far (by have := HZ3.out; simp only; omega) _
  have HV5 : Hid (Blk (w4.setCell ⟨w2.heap.size, 2, none⟩ (.float .f64 M)) w2.heap.size 30 #[.int .i64 3, .int .i64 (0), .float .f64 (M), .string ⟨#[]⟩, .slice none 0 0, .slice none 0 0]) := HV4.out.set_ 2 _
  have HG5 : Hid (W.grownBy (w4.setCell ⟨w2.heap.size, 2, none⟩ (.float .f64 M)) (some g)) := only_setCell HG4.out (.inr (by have := HZ3.out; simp only; omega)) _
  generalize w4.setCell ⟨w2.heap.size, 2, none⟩ (.float .f64 M) = w5 at *
  clear HP4 HR4 HV4 HG4 v1 v2 v3 x1 x2 x3
  have y2 : w5.cell? ⟨w2.heap.size, 2, none⟩ = some (.float .f64 M) := HV5.out.cell 2
  go_wp2_with fail
  refine (c_One M w5).mono ?_; rintro e w6 ⟨rfl, rfl⟩
  have hn : ((fone M : Int) != (M : Int)) = true := by simp; exact fun e => HNE.out (by omega)
  go_wp2_with fail
  refine (c_pfail g (a + 1) 4 _).mono ?_; rintro e w6 ⟨rfl, rfl⟩
  exact ⟨rfl, rfl, HG5.out⟩
set_option maxRecDepth 100000 in
set_option maxHeartbeats 4000000 in
theorem c_v_3 (xs : List Int) (A : Option Addr) (N c d g a p : Nat) (W : World) (E : Int) (hE : E = 65 - ((d + 1 : Nat) : Int)) (hP : PenAt W g xs A N c a p) (hm : ¬ 65536 ≤ p) (hka : a + 1 ≤ N) (hkg : xs.getD a 0 = 3) (hs : a + 9 ≤ N) (M : Nat) (hM : numL (sub xs (a + 1) 8) = M) (hne : fone M = M) :
    Calls Tryz.prog 65 #[.pointer (some ⟨g, 0, none⟩), .int .i64 E] W (DPost W g A N c (.ok (.mk 3 0 M ⟨#[]⟩ [] []) (a + 9) (p + 1))) := by
  have hl := hP.len
  have hle : ¬ 64 < E := by omega
  have HLT : Hid (g < W.heap.size) := hP.bk.lt
  have HP0 : Hid (Blk (W.alloc (.cells vz 30)) g 97 (PnC A N c a p)) := hP.bk.alloc _
  have HR0 := Lib.hid (Blk.new W 30 vz)
  have HG0 : Hid (W.grownBy (W.alloc (.cells vz 30)) (some g)) := only_alloc (World.grownBy.refl W _) _
  have HPA := Lib.hid hP
  have HL := Lib.hid hl
  have ha := hP.ha
  have hN := hP.hN
  have hpp := hP.hp
  have HKG := Lib.hid hkg
  have HM := Lib.hid hM
  clear hM
  have HNE := Lib.hid hne
  clear hne
  clear hkg
  clear hl hP hE
  go_enter Tryz.func65, Tryz.ntmps65
  go_upto_region 1 with fail
  unfold vz at *
  generalize W.alloc (.cells #[.int .i64 0, .int .i64 0, .float .f64 0, .string ⟨#[]⟩, .slice none 0 0, .slice none 0 0] 30) = w0 at *
  have p1 : w0.cell? ⟨g, 1, none⟩ = some (.int .i64 (a : Int)) := HP0.out.cell 1
  have p2 : w0.cell? ⟨g, 2, none⟩ = some (.int .i64 (p : Int)) := HP0.out.cell 2
  have q2 : w0.frozen? ⟨g, 2, none⟩ = false := HP0.out.frozen 2
  go_upto_region 4 with fail
  have HP1 : Hid (Blk (w0.setCell ⟨g, 2, none⟩ (.int .i64 ((p : Int) + 1))) g 97 (PnC A N c a (p + 1))) := by
    have := HP0.out.set_ 2 (.int .i64 ((p : Int) + 1))
    exact this
  have HR1 : Hid (Blk (w0.setCell ⟨g, 2, none⟩ (.int .i64 ((p : Int) + 1))) W.heap.size 30 #[.int .i64 0, .int .i64 0, .float .f64 0, .string ⟨#[]⟩, .slice none 0 0, .slice none 0 0]) := HR0.out.far (by have := HLT.out; simp only; omega) _
  have HG1 : Hid (W.grownBy (w0.setCell ⟨g, 2, none⟩ (.int .i64 ((p : Int) + 1))) (some g)) := only_setCell HG0.out (.inl rfl) _
  generalize w0.setCell ⟨g, 2, none⟩ (.int .i64 ((p : Int) + 1)) = w1 at *
  clear p1 p2 q2 HP0 HR0 HG0
  have p1 : w1.cell? ⟨g, 1, none⟩ = some (.int .i64 (a : Int)) := HP1.out.cell 1
  have p2 : w1.cell? ⟨g, 2, none⟩ = some (.int .i64 ((p : Int) + 1)) := HP1.out.cell 2
  have hpe : ¬ (65536 : Int) < (p : Int) + 1 := by omega
  go_wp2_with fail
  clear p1 p2
  have HR1' := Lib.hid (Reads.grown HPA.out.rd HG1.out (Nat.le_of_lt HLT.out) (fun _ h => by injection h with h; omega))
  refine (c_take g A N c a (p + 1) 1 xs w1 HP1.out HR1'.out hN HPA.out.hc HPA.out.hm hka).mono ?_; rintro e w2 ⟨A2, c2, rfl, hc2, hr2, hb2, hg2⟩
  rw [sub_one (by rw [HL.out]; omega), HKG.out] at hr2
  obtain ⟨b2, o2, hA2, _, _, hk2⟩ := hr2.form (by omega)
  subst hA2
  have k2 : w2.cell? ⟨b2, o2, none⟩ = some (.int .u8 3) := hk2 0 (by omega)
  have HP2 := Lib.hid hb2
  have HG2 := Lib.hid (only_trans HG1.out hg2)
  have HR2 : Hid (Blk w2 W.heap.size 30 #[.int .i64 0, .int .i64 0, .float .f64 0, .string ⟨#[]⟩, .slice none 0 0, .slice none 0 0]) := HR1.out.grown hg2 (by have := HLT.out; intro e; injection e with e; omega)
  have h01 : (0 : Int) < (1 : Int) := by omega
  clear hr2 hk2 hb2 hg2 HP1 HR1 HG1 HR1'
  have HVA := Lib.hid (Blk.new w2 30 #[.int .i64 0, .int .i64 0, .float .f64 0, .string ⟨#[]⟩, .slice none 0 0, .slice none 0 0])
  have HGA : Hid (w2.grownBy (w2.alloc (.cells #[.int .i64 0, .int .i64 0, .float .f64 0, .string ⟨#[]⟩, .slice none 0 0, .slice none 0 0] 30)) none) := only_alloc (World.grownBy.refl w2 none) _
  have HZ3 : Hid (W.heap.size < w2.heap.size) := HR2.out.lt
  go_upto_region 8 with (refine wpList_storeB rfl 30 (.tmp 6) (.tmp 48) rfl rfl w2.heap.size #[.int .i64 3, .int .i64 0, .float .f64 0, .string ⟨#[]⟩, .slice none 0 0, .slice none 0 0] (by first | rfl | simp [Act.eval]) (by first | rfl | simp [Act.eval]) HVA.out v_info rfl rfl ?_; intro w3 hb3 hg3 hz3)
  have HV3 := Lib.hid hb3
  have HG23 : Hid (w2.grownBy w3 none) := ⟨hg3.os, hg3.tape, hg3.output, Nat.le_trans HGA.out.size hg3.size, fun i hi _ => (hg3.block i (Nat.lt_of_lt_of_le hi HGA.out.size) (by intro e; injection e with e; omega)).trans (HGA.out.block i hi (by simp))⟩
  have HP3 : Hid (Blk w3 g 97 (PnC A N c (a + 1) (p + 1))) := HP2.out.grown HG23.out (by simp)
  have HR3 : Hid (Blk w3 W.heap.size 30 #[.int .i64 0, .int .i64 0, .float .f64 0, .string ⟨#[]⟩, .slice none 0 0, .slice none 0 0]) := HR2.out.grown HG23.out (by simp)
  have HG3 : Hid (W.grownBy w3 (some g)) := only_trans HG2.out ⟨HG23.out.os, HG23.out.tape, HG23.out.output, HG23.out.size, fun i hi _ => HG23.out.block i hi (by simp)⟩
  clear hb3 hg3 hz3 HVA HGA HG23
  clear k2 HP2 HR2 HG2
  have p1 : w3.cell? ⟨g, 1, none⟩ = some (.int .i64 ((a + 1 : Nat) : Int)) := HP3.out.cell 1
  have v0 : w3.cell? ⟨w2.heap.size, 0, none⟩ = some (.int .i64 3) := HV3.out.cell 0
  have HR3' := Lib.hid (Reads.grown HPA.out.rd HG3.out (Nat.le_of_lt HLT.out) (fun _ h => by injection h with h; omega))
  go_wp2_with fail
  refine (c_take g A N c (a + 1) (p + 1) 8 xs w3 HP3.out HR3'.out hN HPA.out.hc HPA.out.hm (by omega)).mono ?_; rintro e w4 ⟨A4, c4, rfl, hc4, hr4, hb4, hg4⟩
  have HP4 := Lib.hid hb4
  have HG4 := Lib.hid (only_trans HG3.out hg4)
  have HR4 := Lib.hid (HR3.out.grown hg4 (by have := HLT.out; intro e; injection e with e; omega))
  have HV4 := Lib.hid (HV3.out.grown hg4 (by have := HLT.out; have := HZ3.out; intro e; injection e with e; omega))
  have v1 : w4.frozen? ⟨w2.heap.size, 1, none⟩ = false := HV4.out.frozen 1
  have v2 : w4.frozen? ⟨w2.heap.size, 2, none⟩ = false := HV4.out.frozen 2
  have v3 : w4.frozen? ⟨w2.heap.size, 3, none⟩ = false := HV4.out.frozen 3
  have x1 : w4.cell? ⟨w2.heap.size, 1, none⟩ = some (.int .i64 0) := HV4.out.cell 1
  have x2 : w4.cell? ⟨w2.heap.size, 2, none⟩ = some (.float .f64 0) := HV4.out.cell 2
  have x3 : w4.cell? ⟨w2.heap.size, 3, none⟩ = some (.string ⟨#[]⟩) := HV4.out.cell 3
  clear p1 hb4 hg4 HP3 HG3 HR3 HV3 v0
  have HL8 := Lib.hid (c_L64 A4 c4 _ w4 g hr4 (sub_bts HPA.out.bt _ _))
  rw [HM.out] at HL8
  clear hr4
  have hfb := call_frombits M
  go_wp2_with fail
  refine (HL8.out).mono ?_; rintro e w5' ⟨rfl, rfl⟩
  go_upto_region 22 with fail
  clear hfb
  have HP5 : Hid (Blk (w4.setCell ⟨w2.heap.size, 2, none⟩ (.float .f64 M)) g 97 _) := HP4.out.far (by have := HLT.out; have := HZ3.out; simp only; omega) _
  have HR5 : Hid (Blk (w4.setCell ⟨w2.heap.size, 2, none⟩ (.float .f64 M)) W.heap.size 30 _) := HR4.out.far (by have := HZ3.out; simp only; omega) _
  have HV5 : Hid (Blk (w4.setCell ⟨w2.heap.size, 2, none⟩ (.float .f64 M)) w2.heap.size 30 #[.int .i64 3, .int .i64 (0), .float .f64 (M), .string ⟨#[]⟩, .slice none 0 0, .slice none 0 0]) := HV4.out.set_ 2 _
  have HG5 : Hid (W.grownBy (w4.setCell ⟨w2.heap.size, 2, none⟩ (.float .f64 M)) (some g)) := only_setCell HG4.out (.inr (by have := HZ3.out; simp only; omega)) _
  generalize w4.setCell ⟨w2.heap.size, 2, none⟩ (.float .f64 M) = w5 at *
  clear HP4 HR4 HV4 HG4 v1 v2 v3 x1 x2 x3
  have y2 : w5.cell? ⟨w2.heap.size, 2, none⟩ = some (.float .f64 M) := HV5.out.cell 2
  go_wp2_with fail
  refine (c_One M w5).mono ?_; rintro e w6 ⟨rfl, rfl⟩
  rw [HNE.out]
  have hn : ((M : Int) != (M : Int)) = false := by simp
  have hneq : W.heap.size ≠ w2.heap.size := Nat.ne_of_lt HZ3.out
  have HFE := Lib.hid (Fresh.leaf (W.heap.size + 1) w5 (k := 3) (i := 0) (f := M) (t := ⟨#[]⟩))
  go_wp2_with (first
    | (refine wpList_load_row rfl 30 (.tmp 6) rfl w2.heap.size rfl 30 _ (0, 0) _ HV5.out Tryz.underlying30 rfl (by first | exact v_info | (simp only [List.size_toArray, (six_of (HFE.out.rd)).1]; exact v_info)) ?_)
    | (refine wpList_storeB rfl 30 (.tmp 4) (.tmp 134) rfl rfl W.heap.size #[.int .i64 3, .int .i64 (0), .float .f64 (M), .string ⟨#[]⟩, .slice none 0 0, .slice none 0 0] rfl rfl HR5.out (by first | exact v_info | (simp only [List.size_toArray, (six_of (HFE.out.rd)).1]; exact v_info)) (by first | rfl | (simp only [List.size_toArray, (six_of (HFE.out.rd)).1]; rfl)) (by first | rfl | exact (six_of (HFE.out.rd)).2) ?_; intro w9 hB9 hg9 hz9))
  exact bodyPost_ret (results_cellB (p := 4) rfl _ hB9 _ rfl Tryz.underlying30 rfl (by first | exact v_info | (simp only [List.size_toArray, (six_of (HFE.out.rd)).1]; exact v_info))) rfl ⟨_, rfl, (HFE.out.on (by rw [hz9]; exact Nat.le_refl _) (fun i hi hj => hg9.block i hj (by intro e; injection e with e; omega))).lo_ (Nat.le_succ _), HP5.out.grown hg9 (by have := HLT.out; intro e; injection e with e; omega), only_new_ HG5.out hg9 (Nat.le_refl _)⟩
set_option maxRecDepth 100000 in
set_option maxHeartbeats 4000000 in
theorem c_v_4b (xs : List Int) (A : Option Addr) (N c d g a p : Nat) (W : World) (E : Int) (hE : E = 65 - ((d + 1 : Nat) : Int)) (hP : PenAt W g xs A N c a p) (hm : ¬ 65536 ≤ p) (hka : a + 1 ≤ N) (hkg : xs.getD a 0 = 4) (a4 : Nat) (e4 : Int) (htx : ptx xs (a + 1) = .bad a4 e4) :
    Calls Tryz.prog 65 #[.pointer (some ⟨g, 0, none⟩), .int .i64 E] W (DPost W g A N c (.bad a4 e4)) := by
  have hl := hP.len
  have hle : ¬ 64 < E := by omega
  have HLT : Hid (g < W.heap.size) := hP.bk.lt
  have HP0 : Hid (Blk (W.alloc (.cells vz 30)) g 97 (PnC A N c a p)) := hP.bk.alloc _
  have HR0 := Lib.hid (Blk.new W 30 vz)
  have HG0 : Hid (W.grownBy (W.alloc (.cells vz 30)) (some g)) := only_alloc (World.grownBy.refl W _) _
  have HPA := Lib.hid hP
  have HL := Lib.hid hl
  have ha := hP.ha
  have hN := hP.hN
  have hpp := hP.hp
  have HKG := Lib.hid hkg
  have HTX := Lib.hid htx
  clear htx
  clear hkg
  clear hl hP hE
  go_enter Tryz.func65, Tryz.ntmps65
  go_upto_region 1 with fail
  unfold vz at *
  generalize W.alloc (.cells #[.int .i64 0, .int .i64 0, .float .f64 0, .string ⟨#[]⟩, .slice none 0 0, .slice none 0 0] 30) = w0 at *
  have p1 : w0.cell? ⟨g, 1, none⟩ = some (.int .i64 (a : Int)) := HP0.out.cell 1
  have p2 : w0.cell? ⟨g, 2, none⟩ = some (.int .i64 (p : Int)) := HP0.out.cell 2
  have q2 : w0.frozen? ⟨g, 2, none⟩ = false := HP0.out.frozen 2
  go_upto_region 4 with fail
  have HP1 : Hid (Blk (w0.setCell ⟨g, 2, none⟩ (.int .i64 ((p : Int) + 1))) g 97 (PnC A N c a (p + 1))) := by
    have := HP0.out.set_ 2 (.int .i64 ((p : Int) + 1))
    exact this
  have HR1 : Hid (Blk (w0.setCell ⟨g, 2, none⟩ (.int .i64 ((p : Int) + 1))) W.heap.size 30 #[.int .i64 0, .int .i64 0, .float .f64 0, .string ⟨#[]⟩, .slice none 0 0, .slice none 0 0]) := HR0.out.far (by have := HLT.out; simp only; omega) _
  have HG1 : Hid (W.grownBy (w0.setCell ⟨g, 2, none⟩ (.int .i64 ((p : Int) + 1))) (some g)) := only_setCell HG0.out (.inl rfl) _
  generalize w0.setCell ⟨g, 2, none⟩ (.int .i64 ((p : Int) + 1)) = w1 at *
  clear p1 p2 q2 HP0 HR0 HG0
  have p1 : w1.cell? ⟨g, 1, none⟩ = some (.int .i64 (a : Int)) := HP1.out.cell 1
  have p2 : w1.cell? ⟨g, 2, none⟩ = some (.int .i64 ((p : Int) + 1)) := HP1.out.cell 2
  have hpe : ¬ (65536 : Int) < (p : Int) + 1 := by omega
  go_wp2_with fail
  clear p1 p2
  have HR1' := Lib.hid (Reads.grown HPA.out.rd HG1.out (Nat.le_of_lt HLT.out) (fun _ h => by injection h with h; omega))
  refine (c_take g A N c a (p + 1) 1 xs w1 HP1.out HR1'.out hN HPA.out.hc HPA.out.hm hka).mono ?_; rintro e w2 ⟨A2, c2, rfl, hc2, hr2, hb2, hg2⟩
  rw [sub_one (by rw [HL.out]; omega), HKG.out] at hr2
  obtain ⟨b2, o2, hA2, _, _, hk2⟩ := hr2.form (by omega)
  subst hA2
  have k2 : w2.cell? ⟨b2, o2, none⟩ = some (.int .u8 4) := hk2 0 (by omega)
  have HP2 := Lib.hid hb2
  have HG2 := Lib.hid (only_trans HG1.out hg2)
  have HR2 : Hid (Blk w2 W.heap.size 30 #[.int .i64 0, .int .i64 0, .float .f64 0, .string ⟨#[]⟩, .slice none 0 0, .slice none 0 0]) := HR1.out.grown hg2 (by have := HLT.out; intro e; injection e with e; omega)
  have h01 : (0 : Int) < (1 : Int) := by omega
  clear hr2 hk2 hb2 hg2 HP1 HR1 HG1 HR1'
  have HVA := Lib.hid (Blk.new w2 30 #[.int .i64 0, .int .i64 0, .float .f64 0, .string ⟨#[]⟩, .slice none 0 0, .slice none 0 0])
  have HGA : Hid (w2.grownBy (w2.alloc (.cells #[.int .i64 0, .int .i64 0, .float .f64 0, .string ⟨#[]⟩, .slice none 0 0, .slice none 0 0] 30)) none) := only_alloc (World.grownBy.refl w2 none) _
  have HZ3 : Hid (W.heap.size < w2.heap.size) := HR2.out.lt
  go_upto_region 8 with (refine wpList_storeB rfl 30 (.tmp 6) (.tmp 48) rfl rfl w2.heap.size #[.int .i64 4, .int .i64 0, .float .f64 0, .string ⟨#[]⟩, .slice none 0 0, .slice none 0 0] (by first | rfl | simp [Act.eval]) (by first | rfl | simp [Act.eval]) HVA.out v_info rfl rfl ?_; intro w3 hb3 hg3 hz3)
  have HV3 := Lib.hid hb3
  have HG23 : Hid (w2.grownBy w3 none) := ⟨hg3.os, hg3.tape, hg3.output, Nat.le_trans HGA.out.size hg3.size, fun i hi _ => (hg3.block i (Nat.lt_of_lt_of_le hi HGA.out.size) (by intro e; injection e with e; omega)).trans (HGA.out.block i hi (by simp))⟩
  have HP3 : Hid (Blk w3 g 97 (PnC A N c (a + 1) (p + 1))) := HP2.out.grown HG23.out (by simp)
  have HR3 : Hid (Blk w3 W.heap.size 30 #[.int .i64 0, .int .i64 0, .float .f64 0, .string ⟨#[]⟩, .slice none 0 0, .slice none 0 0]) := HR2.out.grown HG23.out (by simp)
  have HG3 : Hid (W.grownBy w3 (some g)) := only_trans HG2.out ⟨HG23.out.os, HG23.out.tape, HG23.out.output, HG23.out.size, fun i hi _ => HG23.out.block i hi (by simp)⟩
  clear hb3 hg3 hz3 HVA HGA HG23
  clear k2 HP2 HR2 HG2
  have p1 : w3.cell? ⟨g, 1, none⟩ = some (.int .i64 ((a + 1 : Nat) : Int)) := HP3.out.cell 1
  have v0 : w3.cell? ⟨w2.heap.size, 0, none⟩ = some (.int .i64 4) := HV3.out.cell 0
  have HR3' := Lib.hid (Reads.grown HPA.out.rd HG3.out (Nat.le_of_lt HLT.out) (fun _ h => by injection h with h; omega))
  go_wp2_with fail
  refine (c_ptext g A N c (a + 1) (p + 1) xs w3 HP3.out HR3'.out HPA.out.bt (by omega) hN HPA.out.hc HPA.out.hm).mono ?_
  rw [HTX.out]
  rintro e w4 ⟨rfl, hg4⟩
  exact ⟨rfl, rfl, only_trans HG3.out hg4⟩
set_option maxRecDepth 100000 in
set_option maxHeartbeats 4000000 in
theorem c_v_4 (xs : List Int) (A : Option Addr) (N c d g a p : Nat) (W : World) (E : Int) (hE : E = 65 - ((d + 1 : Nat) : Int)) (hP : PenAt W g xs A N c a p) (hm : ¬ 65536 ≤ p) (hka : a + 1 ≤ N) (hkg : xs.getD a 0 = 4) (s : ByteArray) (a4 : Nat) (htx : ptx xs (a + 1) = .ok s a4) :
    Calls Tryz.prog 65 #[.pointer (some ⟨g, 0, none⟩), .int .i64 E] W (DPost W g A N c (.ok (.mk 4 0 0 s [] []) a4 (p + 1))) := by
  have hl := hP.len
  have hle : ¬ 64 < E := by omega
  have HLT : Hid (g < W.heap.size) := hP.bk.lt
  have HP0 : Hid (Blk (W.alloc (.cells vz 30)) g 97 (PnC A N c a p)) := hP.bk.alloc _
  have HR0 := Lib.hid (Blk.new W 30 vz)
  have HG0 : Hid (W.grownBy (W.alloc (.cells vz 30)) (some g)) := only_alloc (World.grownBy.refl W _) _
  have HPA := Lib.hid hP
  have HL := Lib.hid hl
  have ha := hP.ha
  have hN := hP.hN
  have hpp := hP.hp
  have HKG := Lib.hid hkg
  have HTX := Lib.hid htx
  clear htx
  clear hkg
  clear hl hP hE
  go_enter Tryz.func65, Tryz.ntmps65
  go_upto_region 1 with fail
  unfold vz at *
  generalize W.alloc (.cells #[.int .i64 0, .int .i64 0, .float .f64 0, .string ⟨#[]⟩, .slice none 0 0, .slice none 0 0] 30) = w0 at *
  have p1 : w0.cell? ⟨g, 1, none⟩ = some (.int .i64 (a : Int)) := HP0.out.cell 1
  have p2 : w0.cell? ⟨g, 2, none⟩ = some (.int .i64 (p : Int)) := HP0.out.cell 2
  have q2 : w0.frozen? ⟨g, 2, none⟩ = false := HP0.out.frozen 2
  go_upto_region 4 with fail
  have HP1 : Hid (Blk (w0.setCell ⟨g, 2, none⟩ (.int .i64 ((p : Int) + 1))) g 97 (PnC A N c a (p + 1))) := by
    have := HP0.out.set_ 2 (.int .i64 ((p : Int) + 1))
    exact this
  have HR1 : Hid (Blk (w0.setCell ⟨g, 2, none⟩ (.int .i64 ((p : Int) + 1))) W.heap.size 30 #[.int .i64 0, .int .i64 0, .float .f64 0, .string ⟨#[]⟩, .slice none 0 0, .slice none 0 0]) := HR0.out.far (by have := HLT.out; simp only; omega) _
  have HG1 : Hid (W.grownBy (w0.setCell ⟨g, 2, none⟩ (.int .i64 ((p : Int) + 1))) (some g)) := only_setCell HG0.out (.inl rfl) _
  generalize w0.setCell ⟨g, 2, none⟩ (.int .i64 ((p : Int) + 1)) = w1 at *
  clear p1 p2 q2 HP0 HR0 HG0
  have p1 : w1.cell? ⟨g, 1, none⟩ = some (.int .i64 (a : Int)) := HP1.out.cell 1
  have p2 : w1.cell? ⟨g, 2, none⟩ = some (.int .i64 ((p : Int) + 1)) := HP1.out.cell 2
  have hpe : ¬ (65536 : Int) < (p : Int) + 1 := by omega
  go_wp2_with fail
  clear p1 p2
  have HR1' := Lib.hid (Reads.grown HPA.out.rd HG1.out (Nat.le_of_lt HLT.out) (fun _ h => by injection h with h; omega))
  refine (c_take g A N c a (p + 1) 1 xs w1 HP1.out HR1'.out hN HPA.out.hc HPA.out.hm hka).mono ?_; rintro e w2 ⟨A2, c2, rfl, hc2, hr2, hb2, hg2⟩
  rw [sub_one (by rw [HL.out]; omega), HKG.out] at hr2
  obtain ⟨b2, o2, hA2, _, _, hk2⟩ := hr2.form (by omega)
  subst hA2
  have k2 : w2.cell? ⟨b2, o2, none⟩ = some (.int .u8 4) := hk2 0 (by omega)
  have HP2 := Lib.hid hb2
  have HG2 := Lib.hid (only_trans HG1.out hg2)
  have HR2 : Hid (Blk w2 W.heap.size 30 #[.int .i64 0, .int .i64 0, .float .f64 0, .string ⟨#[]⟩, .slice none 0 0, .slice none 0 0]) := HR1.out.grown hg2 (by have := HLT.out; intro e; injection e with e; omega)
  have h01 : (0 : Int) < (1 : Int) := by omega
  clear hr2 hk2 hb2 hg2 HP1 HR1 HG1 HR1'
  have HVA := Lib.hid (Blk.new w2 30 #[.int .i64 0, .int .i64 0, .float .f64 0, .string ⟨#[]⟩, .slice none 0 0, .slice none 0 0])
  have HGA : Hid (w2.grownBy (w2.alloc (.cells #[.int .i64 0, .int .i64 0, .float .f64 0, .string ⟨#[]⟩, .slice none 0 0, .slice none 0 0] 30)) none) := only_alloc (World.grownBy.refl w2 none) _
  have HZ3 : Hid (W.heap.size < w2.heap.size) := HR2.out.lt
  go_upto_region 8 with (refine wpList_storeB rfl 30 (.tmp 6) (.tmp 48) rfl rfl w2.heap.size #[.int .i64 4, .int .i64 0, .float .f64 0, .string ⟨#[]⟩, .slice none 0 0, .slice none 0 0] (by first | rfl | simp [Act.eval]) (by first | rfl | simp [Act.eval]) HVA.out v_info rfl rfl ?_; intro w3 hb3 hg3 hz3)
  have HV3 := Lib.hid hb3
  have HG23 : Hid (w2.grownBy w3 none) := ⟨hg3.os, hg3.tape, hg3.output, Nat.le_trans HGA.out.size hg3.size, fun i hi _ => (hg3.block i (Nat.lt_of_lt_of_le hi HGA.out.size) (by intro e; injection e with e; omega)).trans (HGA.out.block i hi (by simp))⟩
  have HP3 : Hid (Blk w3 g 97 (PnC A N c (a + 1) (p + 1))) := HP2.out.grown HG23.out (by simp)
  have HR3 : Hid (Blk w3 W.heap.size 30 #[.int .i64 0, .int .i64 0, .float .f64 0, .string ⟨#[]⟩, .slice none 0 0, .slice none 0 0]) := HR2.out.grown HG23.out (by simp)
  have HG3 : Hid (W.grownBy w3 (some g)) := only_trans HG2.out ⟨HG23.out.os, HG23.out.tape, HG23.out.output, HG23.out.size, fun i hi _ => HG23.out.block i hi (by simp)⟩
  clear hb3 hg3 hz3 HVA HGA HG23
  clear k2 HP2 HR2 HG2
  have p1 : w3.cell? ⟨g, 1, none⟩ = some (.int .i64 ((a + 1 : Nat) : Int)) := HP3.out.cell 1
  have v0 : w3.cell? ⟨w2.heap.size, 0, none⟩ = some (.int .i64 4) := HV3.out.cell 0
  have HR3' := Lib.hid (Reads.grown HPA.out.rd HG3.out (Nat.le_of_lt HLT.out) (fun _ h => by injection h with h; omega))
  go_wp2_with fail
  refine (c_ptext g A N c (a + 1) (p + 1) xs w3 HP3.out HR3'.out HPA.out.bt (by omega) hN HPA.out.hc HPA.out.hm).mono ?_
  rw [HTX.out]
  rintro e w4 ⟨rfl, hb4, hg4⟩
  have HP4 := Lib.hid hb4
  have HG4 := Lib.hid (only_trans HG3.out hg4)
  have HR4 := Lib.hid (HR3.out.grown hg4 (by have := HLT.out; intro e; injection e with e; omega))
  have HV4 := Lib.hid (HV3.out.grown hg4 (by have := HLT.out; have := HZ3.out; intro e; injection e with e; omega))
  have v3 : w4.frozen? ⟨w2.heap.size, 3, none⟩ = false := HV4.out.frozen 3
  have x3 : w4.cell? ⟨w2.heap.size, 3, none⟩ = some (.string ⟨#[]⟩) := HV4.out.cell 3
  clear p1 hb4 hg4 HP3 HG3 HR3 HV3 v0
  go_upto_region 35 with fail
  have HP5 : Hid (Blk (w4.setCell ⟨w2.heap.size, 3, none⟩ (.string s)) g 97 _) := HP4.out.far (by have := HLT.out; have := HZ3.out; simp only; omega) _
  have HR5 : Hid (Blk (w4.setCell ⟨w2.heap.size, 3, none⟩ (.string s)) W.heap.size 30 _) := HR4.out.far (by have := HZ3.out; simp only; omega) _
  have HV5 : Hid (Blk (w4.setCell ⟨w2.heap.size, 3, none⟩ (.string s)) w2.heap.size 30 #[.int .i64 4, .int .i64 (0), .float .f64 (0), .string (s), .slice none 0 0, .slice none 0 0]) := HV4.out.set_ 3 _
  have HG5 : Hid (W.grownBy (w4.setCell ⟨w2.heap.size, 3, none⟩ (.string s)) (some g)) := only_setCell HG4.out (.inr (by have := HZ3.out; simp only; omega)) _
  generalize w4.setCell ⟨w2.heap.size, 3, none⟩ (.string s) = w5 at *
  clear HP4 HR4 HV4 HG4 v3 x3
  have hneq : W.heap.size ≠ w2.heap.size := Nat.ne_of_lt HZ3.out
  have HFE := Lib.hid (Fresh.leaf (W.heap.size + 1) w5 (k := 4) (i := 0) (f := 0) (t := s))
  go_wp2_with (first
    | (refine wpList_load_row rfl 30 (.tmp 6) rfl w2.heap.size rfl 30 _ (0, 0) _ HV5.out Tryz.underlying30 rfl (by first | exact v_info | (simp only [List.size_toArray, (six_of (HFE.out.rd)).1]; exact v_info)) ?_)
    | (refine wpList_storeB rfl 30 (.tmp 4) (.tmp 134) rfl rfl W.heap.size #[.int .i64 4, .int .i64 (0), .float .f64 (0), .string (s), .slice none 0 0, .slice none 0 0] rfl rfl HR5.out (by first | exact v_info | (simp only [List.size_toArray, (six_of (HFE.out.rd)).1]; exact v_info)) (by first | rfl | (simp only [List.size_toArray, (six_of (HFE.out.rd)).1]; rfl)) (by first | rfl | exact (six_of (HFE.out.rd)).2) ?_; intro w9 hB9 hg9 hz9))
  exact bodyPost_ret (results_cellB (p := 4) rfl _ hB9 _ rfl Tryz.underlying30 rfl (by first | exact v_info | (simp only [List.size_toArray, (six_of (HFE.out.rd)).1]; exact v_info))) rfl ⟨_, rfl, (HFE.out.on (by rw [hz9]; exact Nat.le_refl _) (fun i hi hj => hg9.block i hj (by intro e; injection e with e; omega))).lo_ (Nat.le_succ _), HP5.out.grown hg9 (by have := HLT.out; intro e; injection e with e; omega), only_new_ HG5.out hg9 (Nat.le_refl _)⟩
set_option maxRecDepth 100000 in
set_option maxHeartbeats 4000000 in
theorem c_v_5b (xs : List Int) (A : Option Addr) (N c d g a p : Nat) (W : World) (E : Int) (hE : E = 65 - ((d + 1 : Nat) : Int)) (hP : PenAt W g xs A N c a p) (hm : ¬ 65536 ≤ p) (hka : a + 1 ≤ N) (hkg : xs.getD a 0 = 5) (a4 : Nat) (e4 : Int) (htx : ptx xs (a + 1) = .bad a4 e4) :
    Calls Tryz.prog 65 #[.pointer (some ⟨g, 0, none⟩), .int .i64 E] W (DPost W g A N c (.bad a4 e4)) := by
  have hl := hP.len
  have hle : ¬ 64 < E := by omega
  have HLT : Hid (g < W.heap.size) := hP.bk.lt
  have HP0 : Hid (Blk (W.alloc (.cells vz 30)) g 97 (PnC A N c a p)) := hP.bk.alloc _
  have HR0 := Lib.hid (Blk.new W 30 vz)
  have HG0 : Hid (W.grownBy (W.alloc (.cells vz 30)) (some g)) := only_alloc (World.grownBy.refl W _) _
  have HPA := Lib.hid hP
  have HL := Lib.hid hl
  have ha := hP.ha
  have hN := hP.hN
  have hpp := hP.hp
  have HKG := Lib.hid hkg
  have HTX := Lib.hid htx
  clear htx
  clear hkg
  clear hl hP hE
  go_enter Tryz.func65, Tryz.ntmps65
  go_upto_region 1 with fail
  unfold vz at *
  generalize W.alloc (.cells #[.int .i64 0, .int .i64 0, .float .f64 0, .string ⟨#[]⟩, .slice none 0 0, .slice none 0 0] 30) = w0 at *
  have p1 : w0.cell? ⟨g, 1, none⟩ = some (.int .i64 (a : Int)) := HP0.out.cell 1
  have p2 : w0.cell? ⟨g, 2, none⟩ = some (.int .i64 (p : Int)) := HP0.out.cell 2
  have q2 : w0.frozen? ⟨g, 2, none⟩ = false := HP0.out.frozen 2
  go_upto_region 4 with fail
  have HP1 : Hid (Blk (w0.setCell ⟨g, 2, none⟩ (.int .i64 ((p : Int) + 1))) g 97 (PnC A N c a (p + 1))) := by
    have := HP0.out.set_ 2 (.int .i64 ((p : Int) + 1))
    exact this
  have HR1 : Hid (Blk (w0.setCell ⟨g, 2, none⟩ (.int .i64 ((p : Int) + 1))) W.heap.size 30 #[.int .i64 0, .int .i64 0, .float .f64 0, .string ⟨#[]⟩, .slice none 0 0, .slice none 0 0]) := HR0.out.far (by have := HLT.out; simp only; omega) _
  have HG1 : Hid (W.grownBy (w0.setCell ⟨g, 2, none⟩ (.int .i64 ((p : Int) + 1))) (some g)) := only_setCell HG0.out (.inl rfl) _
  generalize w0.setCell ⟨g, 2, none⟩ (.int .i64 ((p : Int) + 1)) = w1 at *
  clear p1 p2 q2 HP0 HR0 HG0
  have p1 : w1.cell? ⟨g, 1, none⟩ = some (.int .i64 (a : Int)) := HP1.out.cell 1
  have p2 : w1.cell? ⟨g, 2, none⟩ = some (.int .i64 ((p : Int) + 1)) := HP1.out.cell 2
  have hpe : ¬ (65536 : Int) < (p : Int) + 1 := by omega
  go_wp2_with fail
  clear p1 p2
  have HR1' := Lib.hid (Reads.grown HPA.out.rd HG1.out (Nat.le_of_lt HLT.out) (fun _ h => by injection h with h; omega))
  refine (c_take g A N c a (p + 1) 1 xs w1 HP1.out HR1'.out hN HPA.out.hc HPA.out.hm hka).mono ?_; rintro e w2 ⟨A2, c2, rfl, hc2, hr2, hb2, hg2⟩
  rw [sub_one (by rw [HL.out]; omega), HKG.out] at hr2
  obtain ⟨b2, o2, hA2, _, _, hk2⟩ := hr2.form (by omega)
  subst hA2
  have k2 : w2.cell? ⟨b2, o2, none⟩ = some (.int .u8 5) := hk2 0 (by omega)
  have HP2 := Lib.hid hb2
  have HG2 := Lib.hid (only_trans HG1.out hg2)
  have HR2 : Hid (Blk w2 W.heap.size 30 #[.int .i64 0, .int .i64 0, .float .f64 0, .string ⟨#[]⟩, .slice none 0 0, .slice none 0 0]) := HR1.out.grown hg2 (by have := HLT.out; intro e; injection e with e; omega)
  have h01 : (0 : Int) < (1 : Int) := by omega
  clear hr2 hk2 hb2 hg2 HP1 HR1 HG1 HR1'
  have HVA := Lib.hid (Blk.new w2 30 #[.int .i64 0, .int .i64 0, .float .f64 0, .string ⟨#[]⟩, .slice none 0 0, .slice none 0 0])
  have HGA : Hid (w2.grownBy (w2.alloc (.cells #[.int .i64 0, .int .i64 0, .float .f64 0, .string ⟨#[]⟩, .slice none 0 0, .slice none 0 0] 30)) none) := only_alloc (World.grownBy.refl w2 none) _
  have HZ3 : Hid (W.heap.size < w2.heap.size) := HR2.out.lt
  go_upto_region 8 with (refine wpList_storeB rfl 30 (.tmp 6) (.tmp 48) rfl rfl w2.heap.size #[.int .i64 5, .int .i64 0, .float .f64 0, .string ⟨#[]⟩, .slice none 0 0, .slice none 0 0] (by first | rfl | simp [Act.eval]) (by first | rfl | simp [Act.eval]) HVA.out v_info rfl rfl ?_; intro w3 hb3 hg3 hz3)
  have HV3 := Lib.hid hb3
  have HG23 : Hid (w2.grownBy w3 none) := ⟨hg3.os, hg3.tape, hg3.output, Nat.le_trans HGA.out.size hg3.size, fun i hi _ => (hg3.block i (Nat.lt_of_lt_of_le hi HGA.out.size) (by intro e; injection e with e; omega)).trans (HGA.out.block i hi (by simp))⟩
  have HP3 : Hid (Blk w3 g 97 (PnC A N c (a + 1) (p + 1))) := HP2.out.grown HG23.out (by simp)
  have HR3 : Hid (Blk w3 W.heap.size 30 #[.int .i64 0, .int .i64 0, .float .f64 0, .string ⟨#[]⟩, .slice none 0 0, .slice none 0 0]) := HR2.out.grown HG23.out (by simp)
  have HG3 : Hid (W.grownBy w3 (some g)) := only_trans HG2.out ⟨HG23.out.os, HG23.out.tape, HG23.out.output, HG23.out.size, fun i hi _ => HG23.out.block i hi (by simp)⟩
  clear hb3 hg3 hz3 HVA HGA HG23
  clear k2 HP2 HR2 HG2
  have p1 : w3.cell? ⟨g, 1, none⟩ = some (.int .i64 ((a + 1 : Nat) : Int)) := HP3.out.cell 1
  have v0 : w3.cell? ⟨w2.heap.size, 0, none⟩ = some (.int .i64 5) := HV3.out.cell 0
  have HR3' := Lib.hid (Reads.grown HPA.out.rd HG3.out (Nat.le_of_lt HLT.out) (fun _ h => by injection h with h; omega))
  go_wp2_with fail
  refine (c_ptext g A N c (a + 1) (p + 1) xs w3 HP3.out HR3'.out HPA.out.bt (by omega) hN HPA.out.hc HPA.out.hm).mono ?_
  rw [HTX.out]
  rintro e w4 ⟨rfl, hg4⟩
  exact ⟨rfl, rfl, only_trans HG3.out hg4⟩
set_option maxRecDepth 100000 in
set_option maxHeartbeats 4000000 in
theorem c_v_5 (xs : List Int) (A : Option Addr) (N c d g a p : Nat) (W : World) (E : Int) (hE : E = 65 - ((d + 1 : Nat) : Int)) (hP : PenAt W g xs A N c a p) (hm : ¬ 65536 ≤ p) (hka : a + 1 ≤ N) (hkg : xs.getD a 0 = 5) (s : ByteArray) (a4 : Nat) (htx : ptx xs (a + 1) = .ok s a4) :
    Calls Tryz.prog 65 #[.pointer (some ⟨g, 0, none⟩), .int .i64 E] W (DPost W g A N c (.ok (.mk 5 0 0 s [] []) a4 (p + 1))) := by
  have hl := hP.len
  have hle : ¬ 64 < E := by omega
  have HLT : Hid (g < W.heap.size) := hP.bk.lt
  have HP0 : Hid (Blk (W.alloc (.cells vz 30)) g 97 (PnC A N c a p)) := hP.bk.alloc _
  have HR0 := Lib.hid (Blk.new W 30 vz)
  have HG0 : Hid (W.grownBy (W.alloc (.cells vz 30)) (some g)) := only_alloc (World.grownBy.refl W _) _
  have HPA := Lib.hid hP
  have HL := Lib.hid hl
  have ha := hP.ha
  have hN := hP.hN
  have hpp := hP.hp
  have HKG := Lib.hid hkg
  have HTX := Lib.hid htx
  clear htx
  clear hkg
  clear hl hP hE
  go_enter Tryz.func65, Tryz.ntmps65
  go_upto_region 1 with fail
  unfold vz at *
  generalize W.alloc (.cells #[.int .i64 0, .int .i64 0, .float .f64 0, .string ⟨#[]⟩, .slice none 0 0, .slice none 0 0] 30) = w0 at *
  have p1 : w0.cell? ⟨g, 1, none⟩ = some (.int .i64 (a : Int)) := HP0.out.cell 1
  have p2 : w0.cell? ⟨g, 2, none⟩ = some (.int .i64 (p : Int)) := HP0.out.cell 2
  have q2 : w0.frozen? ⟨g, 2, none⟩ = false := HP0.out.frozen 2
  go_upto_region 4 with fail
  have HP1 : Hid (Blk (w0.setCell ⟨g, 2, none⟩ (.int .i64 ((p : Int) + 1))) g 97 (PnC A N c a (p + 1))) := by
    have := HP0.out.set_ 2 (.int .i64 ((p : Int) + 1))
    exact this
  have HR1 : Hid (Blk (w0.setCell ⟨g, 2, none⟩ (.int .i64 ((p : Int) + 1))) W.heap.size 30 #[.int .i64 0, .int .i64 0, .float .f64 0, .string ⟨#[]⟩, .slice none 0 0, .slice none 0 0]) := HR0.out.far (by have := HLT.out; simp only; omega) _
  have HG1 : Hid (W.grownBy (w0.setCell ⟨g, 2, none⟩ (.int .i64 ((p : Int) + 1))) (some g)) := only_setCell HG0.out (.inl rfl) _
  generalize w0.setCell ⟨g, 2, none⟩ (.int .i64 ((p : Int) + 1)) = w1 at *
  clear p1 p2 q2 HP0 HR0 HG0
  have p1 : w1.cell? ⟨g, 1, none⟩ = some (.int .i64 (a : Int)) := HP1.out.cell 1
  have p2 : w1.cell? ⟨g, 2, none⟩ = some (.int .i64 ((p : Int) + 1)) := HP1.out.cell 2
  have hpe : ¬ (65536 : Int) < (p : Int) + 1 := by omega
  go_wp2_with fail
  clear p1 p2
  have HR1' := Lib.hid (Reads.grown HPA.out.rd HG1.out (Nat.le_of_lt HLT.out) (fun _ h => by injection h with h; omega))
  refine (c_take g A N c a (p + 1) 1 xs w1 HP1.out HR1'.out hN HPA.out.hc HPA.out.hm hka).mono ?_; rintro e w2 ⟨A2, c2, rfl, hc2, hr2, hb2, hg2⟩
  rw [sub_one (by rw [HL.out]; omega), HKG.out] at hr2
  obtain ⟨b2, o2, hA2, _, _, hk2⟩ := hr2.form (by omega)
  subst hA2
  have k2 : w2.cell? ⟨b2, o2, none⟩ = some (.int .u8 5) := hk2 0 (by omega)
  have HP2 := Lib.hid hb2
  have HG2 := Lib.hid (only_trans HG1.out hg2)
  have HR2 : Hid (Blk w2 W.heap.size 30 #[.int .i64 0, .int .i64 0, .float .f64 0, .string ⟨#[]⟩, .slice none 0 0, .slice none 0 0]) := HR1.out.grown hg2 (by have := HLT.out; intro e; injection e with e; omega)
  have h01 : (0 : Int) < (1 : Int) := by omega
  clear hr2 hk2 hb2 hg2 HP1 HR1 HG1 HR1'
  have HVA := Lib.hid (Blk.new w2 30 #[.int .i64 0, .int .i64 0, .float .f64 0, .string ⟨#[]⟩, .slice none 0 0, .slice none 0 0])
  have HGA : Hid (w2.grownBy (w2.alloc (.cells #[.int .i64 0, .int .i64 0, .float .f64 0, .string ⟨#[]⟩, .slice none 0 0, .slice none 0 0] 30)) none) := only_alloc (World.grownBy.refl w2 none) _
  have HZ3 : Hid (W.heap.size < w2.heap.size) := HR2.out.lt
  go_upto_region 8 with (refine wpList_storeB rfl 30 (.tmp 6) (.tmp 48) rfl rfl w2.heap.size #[.int .i64 5, .int .i64 0, .float .f64 0, .string ⟨#[]⟩, .slice none 0 0, .slice none 0 0] (by first | rfl | simp [Act.eval]) (by first | rfl | simp [Act.eval]) HVA.out v_info rfl rfl ?_; intro w3 hb3 hg3 hz3)
  have HV3 := Lib.hid hb3
  have HG23 : Hid (w2.grownBy w3 none) := ⟨hg3.os, hg3.tape, hg3.output, Nat.le_trans HGA.out.size hg3.size, fun i hi _ => (hg3.block i (Nat.lt_of_lt_of_le hi HGA.out.size) (by intro e; injection e with e; omega)).trans (HGA.out.block i hi (by simp))⟩
  have HP3 : Hid (Blk w3 g 97 (PnC A N c (a + 1) (p + 1))) := HP2.out.grown HG23.out (by simp)
  have HR3 : Hid (Blk w3 W.heap.size 30 #[.int .i64 0, .int .i64 0, .float .f64 0, .string ⟨#[]⟩, .slice none 0 0, .slice none 0 0]) := HR2.out.grown HG23.out (by simp)
  have HG3 : Hid (W.grownBy w3 (some g)) := only_trans HG2.out ⟨HG23.out.os, HG23.out.tape, HG23.out.output, HG23.out.size, fun i hi _ => HG23.out.block i hi (by simp)⟩
  clear hb3 hg3 hz3 HVA HGA HG23
  clear k2 HP2 HR2 HG2
  have p1 : w3.cell? ⟨g, 1, none⟩ = some (.int .i64 ((a + 1 : Nat) : Int)) := HP3.out.cell 1
  have v0 : w3.cell? ⟨w2.heap.size, 0, none⟩ = some (.int .i64 5) := HV3.out.cell 0
  have HR3' := Lib.hid (Reads.grown HPA.out.rd HG3.out (Nat.le_of_lt HLT.out) (fun _ h => by injection h with h; omega))
  go_wp2_with fail
  refine (c_ptext g A N c (a + 1) (p + 1) xs w3 HP3.out HR3'.out HPA.out.bt (by omega) hN HPA.out.hc HPA.out.hm).mono ?_
  rw [HTX.out]
  rintro e w4 ⟨rfl, hb4, hg4⟩
  have HP4 := Lib.hid hb4
  have HG4 := Lib.hid (only_trans HG3.out hg4)
  have HR4 := Lib.hid (HR3.out.grown hg4 (by have := HLT.out; intro e; injection e with e; omega))
  have HV4 := Lib.hid (HV3.out.grown hg4 (by have := HLT.out; have := HZ3.out; intro e; injection e with e; omega))
  have v3 : w4.frozen? ⟨w2.heap.size, 3, none⟩ = false := HV4.out.frozen 3
  have x3 : w4.cell? ⟨w2.heap.size, 3, none⟩ = some (.string ⟨#[]⟩) := HV4.out.cell 3
  clear p1 hb4 hg4 HP3 HG3 HR3 HV3 v0
  go_upto_region 35 with fail
  have HP5 : Hid (Blk (w4.setCell ⟨w2.heap.size, 3, none⟩ (.string s)) g 97 _) := HP4.out.far (by have := HLT.out; have := HZ3.out; simp only; omega) _
  have HR5 : Hid (Blk (w4.setCell ⟨w2.heap.size, 3, none⟩ (.string s)) W.heap.size 30 _) := HR4.out.far (by have := HZ3.out; simp only; omega) _
  have HV5 : Hid (Blk (w4.setCell ⟨w2.heap.size, 3, none⟩ (.string s)) w2.heap.size 30 #[.int .i64 5, .int .i64 (0), .float .f64 (0), .string (s), .slice none 0 0, .slice none 0 0]) := HV4.out.set_ 3 _
  have HG5 : Hid (W.grownBy (w4.setCell ⟨w2.heap.size, 3, none⟩ (.string s)) (some g)) := only_setCell HG4.out (.inr (by have := HZ3.out; simp only; omega)) _
  generalize w4.setCell ⟨w2.heap.size, 3, none⟩ (.string s) = w5 at *
  clear HP4 HR4 HV4 HG4 v3 x3
  have hneq : W.heap.size ≠ w2.heap.size := Nat.ne_of_lt HZ3.out
  have HFE := Lib.hid (Fresh.leaf (W.heap.size + 1) w5 (k := 5) (i := 0) (f := 0) (t := s))
  go_wp2_with (first
    | (refine wpList_load_row rfl 30 (.tmp 6) rfl w2.heap.size rfl 30 _ (0, 0) _ HV5.out Tryz.underlying30 rfl (by first | exact v_info | (simp only [List.size_toArray, (six_of (HFE.out.rd)).1]; exact v_info)) ?_)
    | (refine wpList_storeB rfl 30 (.tmp 4) (.tmp 134) rfl rfl W.heap.size #[.int .i64 5, .int .i64 (0), .float .f64 (0), .string (s), .slice none 0 0, .slice none 0 0] rfl rfl HR5.out (by first | exact v_info | (simp only [List.size_toArray, (six_of (HFE.out.rd)).1]; exact v_info)) (by first | rfl | (simp only [List.size_toArray, (six_of (HFE.out.rd)).1]; rfl)) (by first | rfl | exact (six_of (HFE.out.rd)).2) ?_; intro w9 hB9 hg9 hz9))
  exact bodyPost_ret (results_cellB (p := 4) rfl _ hB9 _ rfl Tryz.underlying30 rfl (by first | exact v_info | (simp only [List.size_toArray, (six_of (HFE.out.rd)).1]; exact v_info))) rfl ⟨_, rfl, (HFE.out.on (by rw [hz9]; exact Nat.le_refl _) (fun i hi hj => hg9.block i hj (by intro e; injection e with e; omega))).lo_ (Nat.le_succ _), HP5.out.grown hg9 (by have := HLT.out; intro e; injection e with e; omega), only_new_ HG5.out hg9 (Nat.le_refl _)⟩
set_option maxRecDepth 100000 in
set_option maxHeartbeats 4000000 in
theorem c_v_8s (xs : List Int) (A : Option Addr) (N c d g a p : Nat) (W : World) (E : Int) (hE : E = 65 - ((d + 1 : Nat) : Int)) (hP : PenAt W g xs A N c a p) (hm : ¬ 65536 ≤ p) (hka : a + 1 ≤ N) (hkg : xs.getD a 0 = 8) (hs : N < a + 5) :
    Calls Tryz.prog 65 #[.pointer (some ⟨g, 0, none⟩), .int .i64 E] W (DPost W g A N c (.bad (a + 1) 3)) := by
  have hl := hP.len
  have hle : ¬ 64 < E := by omega
  have HLT : Hid (g < W.heap.size) := hP.bk.lt
  have HP0 : Hid (Blk (W.alloc (.cells vz 30)) g 97 (PnC A N c a p)) := hP.bk.alloc _
  have HR0 := Lib.hid (Blk.new W 30 vz)
  have HG0 : Hid (W.grownBy (W.alloc (.cells vz 30)) (some g)) := only_alloc (World.grownBy.refl W _) _
  have HPA := Lib.hid hP
  have HL := Lib.hid hl
  have ha := hP.ha
  have hN := hP.hN
  have hpp := hP.hp
  have HKG := Lib.hid hkg
  clear hkg
  clear hl hP hE
  go_enter Tryz.func65, Tryz.ntmps65
  go_upto_region 1 with fail
  unfold vz at *
  generalize W.alloc (.cells #[.int .i64 0, .int .i64 0, .float .f64 0, .string ⟨#[]⟩, .slice none 0 0, .slice none 0 0] 30) = w0 at *
  have p1 : w0.cell? ⟨g, 1, none⟩ = some (.int .i64 (a : Int)) := HP0.out.cell 1
  have p2 : w0.cell? ⟨g, 2, none⟩ = some (.int .i64 (p : Int)) := HP0.out.cell 2
  have q2 : w0.frozen? ⟨g, 2, none⟩ = false := HP0.out.frozen 2
  go_upto_region 4 with fail
  have HP1 : Hid (Blk (w0.setCell ⟨g, 2, none⟩ (.int .i64 ((p : Int) + 1))) g 97 (PnC A N c a (p + 1))) := by
    have := HP0.out.set_ 2 (.int .i64 ((p : Int) + 1))
    exact this
  have HR1 : Hid (Blk (w0.setCell ⟨g, 2, none⟩ (.int .i64 ((p : Int) + 1))) W.heap.size 30 #[.int .i64 0, .int .i64 0, .float .f64 0, .string ⟨#[]⟩, .slice none 0 0, .slice none 0 0]) := HR0.out.far (by have := HLT.out; simp only; omega) _
  have HG1 : Hid (W.grownBy (w0.setCell ⟨g, 2, none⟩ (.int .i64 ((p : Int) + 1))) (some g)) := only_setCell HG0.out (.inl rfl) _
  generalize w0.setCell ⟨g, 2, none⟩ (.int .i64 ((p : Int) + 1)) = w1 at *
  clear p1 p2 q2 HP0 HR0 HG0
  have p1 : w1.cell? ⟨g, 1, none⟩ = some (.int .i64 (a : Int)) := HP1.out.cell 1
  have p2 : w1.cell? ⟨g, 2, none⟩ = some (.int .i64 ((p : Int) + 1)) := HP1.out.cell 2
  have hpe : ¬ (65536 : Int) < (p : Int) + 1 := by omega
  go_wp2_with fail
  clear p1 p2
  have HR1' := Lib.hid (Reads.grown HPA.out.rd HG1.out (Nat.le_of_lt HLT.out) (fun _ h => by injection h with h; omega))
  refine (c_take g A N c a (p + 1) 1 xs w1 HP1.out HR1'.out hN HPA.out.hc HPA.out.hm hka).mono ?_; rintro e w2 ⟨A2, c2, rfl, hc2, hr2, hb2, hg2⟩
  rw [sub_one (by rw [HL.out]; omega), HKG.out] at hr2
  obtain ⟨b2, o2, hA2, _, _, hk2⟩ := hr2.form (by omega)
  subst hA2
  have k2 : w2.cell? ⟨b2, o2, none⟩ = some (.int .u8 8) := hk2 0 (by omega)
  have HP2 := Lib.hid hb2
  have HG2 := Lib.hid (only_trans HG1.out hg2)
  have HR2 : Hid (Blk w2 W.heap.size 30 #[.int .i64 0, .int .i64 0, .float .f64 0, .string ⟨#[]⟩, .slice none 0 0, .slice none 0 0]) := HR1.out.grown hg2 (by have := HLT.out; intro e; injection e with e; omega)
  have h01 : (0 : Int) < (1 : Int) := by omega
  clear hr2 hk2 hb2 hg2 HP1 HR1 HG1 HR1'
  have HVA := Lib.hid (Blk.new w2 30 #[.int .i64 0, .int .i64 0, .float .f64 0, .string ⟨#[]⟩, .slice none 0 0, .slice none 0 0])
  have HGA : Hid (w2.grownBy (w2.alloc (.cells #[.int .i64 0, .int .i64 0, .float .f64 0, .string ⟨#[]⟩, .slice none 0 0, .slice none 0 0] 30)) none) := only_alloc (World.grownBy.refl w2 none) _
  have HZ3 : Hid (W.heap.size < w2.heap.size) := HR2.out.lt
  go_upto_region 8 with (refine wpList_storeB rfl 30 (.tmp 6) (.tmp 48) rfl rfl w2.heap.size #[.int .i64 8, .int .i64 0, .float .f64 0, .string ⟨#[]⟩, .slice none 0 0, .slice none 0 0] (by first | rfl | simp [Act.eval]) (by first | rfl | simp [Act.eval]) HVA.out v_info rfl rfl ?_; intro w3 hb3 hg3 hz3)
  have HV3 := Lib.hid hb3
  have HG23 : Hid (w2.grownBy w3 none) := ⟨hg3.os, hg3.tape, hg3.output, Nat.le_trans HGA.out.size hg3.size, fun i hi _ => (hg3.block i (Nat.lt_of_lt_of_le hi HGA.out.size) (by intro e; injection e with e; omega)).trans (HGA.out.block i hi (by simp))⟩
  have HP3 : Hid (Blk w3 g 97 (PnC A N c (a + 1) (p + 1))) := HP2.out.grown HG23.out (by simp)
  have HR3 : Hid (Blk w3 W.heap.size 30 #[.int .i64 0, .int .i64 0, .float .f64 0, .string ⟨#[]⟩, .slice none 0 0, .slice none 0 0]) := HR2.out.grown HG23.out (by simp)
  have HG3 : Hid (W.grownBy w3 (some g)) := only_trans HG2.out ⟨HG23.out.os, HG23.out.tape, HG23.out.output, HG23.out.size, fun i hi _ => HG23.out.block i hi (by simp)⟩
  clear hb3 hg3 hz3 HVA HGA HG23
  clear k2 HP2 HR2 HG2
  have p1 : w3.cell? ⟨g, 1, none⟩ = some (.int .i64 ((a + 1 : Nat) : Int)) := HP3.out.cell 1
  have v0 : w3.cell? ⟨w2.heap.size, 0, none⟩ = some (.int .i64 8) := HV3.out.cell 0
  have HR3' := Lib.hid (Reads.grown HPA.out.rd HG3.out (Nat.le_of_lt HLT.out) (fun _ h => by injection h with h; omega))
  go_wp2_with fail
  refine (c_num_bad g A N c (a + 1) (p + 1) w3 HP3.out (by omega) hN (by omega)).mono ?_; rintro e w4 ⟨rfl, hg4⟩
  exact ⟨rfl, rfl, only_trans HG3.out hg4⟩
set_option maxRecDepth 100000 in
set_option maxHeartbeats 4000000 in
theorem c_v_8l (xs : List Int) (A : Option Addr) (N c d g a p : Nat) (W : World) (E : Int) (hE : E = 65 - ((d + 1 : Nat) : Int)) (hP : PenAt W g xs A N c a p) (hm : ¬ 65536 ≤ p) (hka : a + 1 ≤ N) (hkg : xs.getD a 0 = 8) (hs : a + 5 ≤ N) (M : Nat) (hM : numL (sub xs (a + 1) 4) = M) (hw : M < 1) :
    Calls Tryz.prog 65 #[.pointer (some ⟨g, 0, none⟩), .int .i64 E] W (DPost W g A N c (.bad (a + 1) 4)) := by
  have hl := hP.len
  have hle : ¬ 64 < E := by omega
  have HLT : Hid (g < W.heap.size) := hP.bk.lt
  have HP0 : Hid (Blk (W.alloc (.cells vz 30)) g 97 (PnC A N c a p)) := hP.bk.alloc _
  have HR0 := Lib.hid (Blk.new W 30 vz)
  have HG0 : Hid (W.grownBy (W.alloc (.cells vz 30)) (some g)) := only_alloc (World.grownBy.refl W _) _
  have HPA := Lib.hid hP
  have HL := Lib.hid hl
  have ha := hP.ha
  have hN := hP.hN
  have hpp := hP.hp
  have HKG := Lib.hid hkg
  have HM := Lib.hid hM
  clear hM
  clear hkg
  clear hl hP hE
  go_enter Tryz.func65, Tryz.ntmps65
  go_upto_region 1 with fail
  unfold vz at *
  generalize W.alloc (.cells #[.int .i64 0, .int .i64 0, .float .f64 0, .string ⟨#[]⟩, .slice none 0 0, .slice none 0 0] 30) = w0 at *
  have p1 : w0.cell? ⟨g, 1, none⟩ = some (.int .i64 (a : Int)) := HP0.out.cell 1
  have p2 : w0.cell? ⟨g, 2, none⟩ = some (.int .i64 (p : Int)) := HP0.out.cell 2
  have q2 : w0.frozen? ⟨g, 2, none⟩ = false := HP0.out.frozen 2
  go_upto_region 4 with fail
  have HP1 : Hid (Blk (w0.setCell ⟨g, 2, none⟩ (.int .i64 ((p : Int) + 1))) g 97 (PnC A N c a (p + 1))) := by
    have := HP0.out.set_ 2 (.int .i64 ((p : Int) + 1))
    exact this
  have HR1 : Hid (Blk (w0.setCell ⟨g, 2, none⟩ (.int .i64 ((p : Int) + 1))) W.heap.size 30 #[.int .i64 0, .int .i64 0, .float .f64 0, .string ⟨#[]⟩, .slice none 0 0, .slice none 0 0]) := HR0.out.far (by have := HLT.out; simp only; omega) _
  have HG1 : Hid (W.grownBy (w0.setCell ⟨g, 2, none⟩ (.int .i64 ((p : Int) + 1))) (some g)) := only_setCell HG0.out (.inl rfl) _
  generalize w0.setCell ⟨g, 2, none⟩ (.int .i64 ((p : Int) + 1)) = w1 at *
  clear p1 p2 q2 HP0 HR0 HG0
  have p1 : w1.cell? ⟨g, 1, none⟩ = some (.int .i64 (a : Int)) := HP1.out.cell 1
  have p2 : w1.cell? ⟨g, 2, none⟩ = some (.int .i64 ((p : Int) + 1)) := HP1.out.cell 2
  have hpe : ¬ (65536 : Int) < (p : Int) + 1 := by omega
  go_wp2_with fail
  clear p1 p2
  have HR1' := Lib.hid (Reads.grown HPA.out.rd HG1.out (Nat.le_of_lt HLT.out) (fun _ h => by injection h with h; omega))
  refine (c_take g A N c a (p + 1) 1 xs w1 HP1.out HR1'.out hN HPA.out.hc HPA.out.hm hka).mono ?_; rintro e w2 ⟨A2, c2, rfl, hc2, hr2, hb2, hg2⟩
  rw [sub_one (by rw [HL.out]; omega), HKG.out] at hr2
  obtain ⟨b2, o2, hA2, _, _, hk2⟩ := hr2.form (by omega)
  subst hA2
  have k2 : w2.cell? ⟨b2, o2, none⟩ = some (.int .u8 8) := hk2 0 (by omega)
  have HP2 := Lib.hid hb2
  have HG2 := Lib.hid (only_trans HG1.out hg2)
  have HR2 : Hid (Blk w2 W.heap.size 30 #[.int .i64 0, .int .i64 0, .float .f64 0, .string ⟨#[]⟩, .slice none 0 0, .slice none 0 0]) := HR1.out.grown hg2 (by have := HLT.out; intro e; injection e with e; omega)
  have h01 : (0 : Int) < (1 : Int) := by omega
  clear hr2 hk2 hb2 hg2 HP1 HR1 HG1 HR1'
  have HVA := Lib.hid (Blk.new w2 30 #[.int .i64 0, .int .i64 0, .float .f64 0, .string ⟨#[]⟩, .slice none 0 0, .slice none 0 0])
  have HGA : Hid (w2.grownBy (w2.alloc (.cells #[.int .i64 0, .int .i64 0, .float .f64 0, .string ⟨#[]⟩, .slice none 0 0, .slice none 0 0] 30)) none) := only_alloc (World.grownBy.refl w2 none) _
  have HZ3 : Hid (W.heap.size < w2.heap.size) := HR2.out.lt
  go_upto_region 8 with (refine wpList_storeB rfl 30 (.tmp 6) (.tmp 48) rfl rfl w2.heap.size #[.int .i64 8, .int .i64 0, .float .f64 0, .string ⟨#[]⟩, .slice none 0 0, .slice none 0 0] (by first | rfl | simp [Act.eval]) (by first | rfl | simp [Act.eval]) HVA.out v_info rfl rfl ?_; intro w3 hb3 hg3 hz3)
  have HV3 := Lib.hid hb3
  have HG23 : Hid (w2.grownBy w3 none) := ⟨hg3.os, hg3.tape, hg3.output, Nat.le_trans HGA.out.size hg3.size, fun i hi _ => (hg3.block i (Nat.lt_of_lt_of_le hi HGA.out.size) (by intro e; injection e with e; omega)).trans (HGA.out.block i hi (by simp))⟩
  have HP3 : Hid (Blk w3 g 97 (PnC A N c (a + 1) (p + 1))) := HP2.out.grown HG23.out (by simp)
  have HR3 : Hid (Blk w3 W.heap.size 30 #[.int .i64 0, .int .i64 0, .float .f64 0, .string ⟨#[]⟩, .slice none 0 0, .slice none 0 0]) := HR2.out.grown HG23.out (by simp)
  have HG3 : Hid (W.grownBy w3 (some g)) := only_trans HG2.out ⟨HG23.out.os, HG23.out.tape, HG23.out.output, HG23.out.size, fun i hi _ => HG23.out.block i hi (by simp)⟩
  clear hb3 hg3 hz3 HVA HGA HG23
  clear k2 HP2 HR2 HG2
  have p1 : w3.cell? ⟨g, 1, none⟩ = some (.int .i64 ((a + 1 : Nat) : Int)) := HP3.out.cell 1
  have v0 : w3.cell? ⟨w2.heap.size, 0, none⟩ = some (.int .i64 8) := HV3.out.cell 0
  have HR3' := Lib.hid (Reads.grown HPA.out.rd HG3.out (Nat.le_of_lt HLT.out) (fun _ h => by injection h with h; omega))
  go_wp2_with fail
  refine (c_num g A N c (a + 1) (p + 1) xs w3 HP3.out HR3'.out HPA.out.bt hN HPA.out.hc HPA.out.hm (by omega)).mono ?_; rintro e w4 ⟨rfl, hb4, hg4⟩
  rw [HM.out]
  have HP4 := Lib.hid hb4
  have HG4 := Lib.hid (only_trans HG3.out hg4)
  have HR4 := Lib.hid (HR3.out.grown hg4 (by have := HLT.out; intro e; injection e with e; omega))
  have HV4 := Lib.hid (HV3.out.grown hg4 (by have := HLT.out; have := HZ3.out; intro e; injection e with e; omega))
  have v3 : w4.frozen? ⟨w2.heap.size, 3, none⟩ = false := HV4.out.frozen 3
  have x3 : w4.cell? ⟨w2.heap.size, 3, none⟩ = some (.string ⟨#[]⟩) := HV4.out.cell 3
  have HR4' := Lib.hid (Reads.grown HPA.out.rd HG4.out (Nat.le_of_lt HLT.out) (fun _ h => by injection h with h; omega))
  clear p1 hb4 hg4 HP3 HG3 HR3 HV3 v0
  have t1 : (M : Int) < 1 := by omega
  go_wp2_with fail
  refine (c_pfail g (a + 1) 4 _).mono ?_; rintro e w6 ⟨rfl, rfl⟩
  exact ⟨rfl, rfl, HG4.out⟩
set_option maxRecDepth 100000 in
set_option maxHeartbeats 4000000 in
theorem c_v_8g (xs : List Int) (A : Option Addr) (N c d g a p : Nat) (W : World) (E : Int) (hE : E = 65 - ((d + 1 : Nat) : Int)) (hP : PenAt W g xs A N c a p) (hm : ¬ 65536 ≤ p) (hka : a + 1 ≤ N) (hkg : xs.getD a 0 = 8) (hs : a + 5 ≤ N) (M : Nat) (hM : numL (sub xs (a + 1) 4) = M) (hw : 64 < M) :
    Calls Tryz.prog 65 #[.pointer (some ⟨g, 0, none⟩), .int .i64 E] W (DPost W g A N c (.bad (a + 1) 4)) := by
  have hl := hP.len
  have hle : ¬ 64 < E := by omega
  have HLT : Hid (g < W.heap.size) := hP.bk.lt
  have HP0 : Hid (Blk (W.alloc (.cells vz 30)) g 97 (PnC A N c a p)) := hP.bk.alloc _
  have HR0 := Lib.hid (Blk.new W 30 vz)
  have HG0 : Hid (W.grownBy (W.alloc (.cells vz 30)) (some g)) := only_alloc (World.grownBy.refl W _) _
  have HPA := Lib.hid hP
  have HL := Lib.hid hl
  have ha := hP.ha
  have hN := hP.hN
  have hpp := hP.hp
  have HKG := Lib.hid hkg
  have HM := Lib.hid hM
  clear hM
  clear hkg
  clear hl hP hE
  go_enter Tryz.func65, Tryz.ntmps65
  go_upto_region 1 with fail
  unfold vz at *
  generalize W.alloc (.cells #[.int .i64 0, .int .i64 0, .float .f64 0, .string ⟨#[]⟩, .slice none 0 0, .slice none 0 0] 30) = w0 at *
  have p1 : w0.cell? ⟨g, 1, none⟩ = some (.int .i64 (a : Int)) := HP0.out.cell 1
  have p2 : w0.cell? ⟨g, 2, none⟩ = some (.int .i64 (p : Int)) := HP0.out.cell 2
  have q2 : w0.frozen? ⟨g, 2, none⟩ = false := HP0.out.frozen 2
  go_upto_region 4 with fail
  have HP1 : Hid (Blk (w0.setCell ⟨g, 2, none⟩ (.int .i64 ((p : Int) + 1))) g 97 (PnC A N c a (p + 1))) := by
    have := HP0.out.set_ 2 (.int .i64 ((p : Int) + 1))
    exact this
  have HR1 : Hid (Blk (w0.setCell ⟨g, 2, none⟩ (.int .i64 ((p : Int) + 1))) W.heap.size 30 #[.int .i64 0, .int .i64 0, .float .f64 0, .string ⟨#[]⟩, .slice none 0 0, .slice none 0 0]) := HR0.out.far (by have := HLT.out; simp only; omega) _
  have HG1 : Hid (W.grownBy (w0.setCell ⟨g, 2, none⟩ (.int .i64 ((p : Int) + 1))) (some g)) := only_setCell HG0.out (.inl rfl) _
  generalize w0.setCell ⟨g, 2, none⟩ (.int .i64 ((p : Int) + 1)) = w1 at *
  clear p1 p2 q2 HP0 HR0 HG0
  have p1 : w1.cell? ⟨g, 1, none⟩ = some (.int .i64 (a : Int)) := HP1.out.cell 1
  have p2 : w1.cell? ⟨g, 2, none⟩ = some (.int .i64 ((p : Int) + 1)) := HP1.out.cell 2
  have hpe : ¬ (65536 : Int) < (p : Int) + 1 := by omega
  go_wp2_with fail
  clear p1 p2
  have HR1' := Lib.hid (Reads.grown HPA.out.rd HG1.out (Nat.le_of_lt HLT.out) (fun _ h => by injection h with h; omega))
  refine (c_take g A N c a (p + 1) 1 xs w1 HP1.out HR1'.out hN HPA.out.hc HPA.out.hm hka).mono ?_; rintro e w2 ⟨A2, c2, rfl, hc2, hr2, hb2, hg2⟩
  rw [sub_one (by rw [HL.out]; omega), HKG.out] at hr2
  obtain ⟨b2, o2, hA2, _, _, hk2⟩ := hr2.form (by omega)
  subst hA2
  have k2 : w2.cell? ⟨b2, o2, none⟩ = some (.int .u8 8) := hk2 0 (by omega)
  have HP2 := Lib.hid hb2
  have HG2 := Lib.hid (only_trans HG1.out hg2)
  have HR2 : Hid (Blk w2 W.heap.size 30 #[.int .i64 0, .int .i64 0, .float .f64 0, .string ⟨#[]⟩, .slice none 0 0, .slice none 0 0]) := HR1.out.grown hg2 (by have := HLT.out; intro e; injection e with e; omega)
  have h01 : (0 : Int) < (1 : Int) := by omega
  clear hr2 hk2 hb2 hg2 HP1 HR1 HG1 HR1'
  have HVA := Lib.hid (Blk.new w2 30 #[.int .i64 0, .int .i64 0, .float .f64 0, .string ⟨#[]⟩, .slice none 0 0, .slice none 0 0])
  have HGA : Hid (w2.grownBy (w2.alloc (.cells #[.int .i64 0, .int .i64 0, .float .f64 0, .string ⟨#[]⟩, .slice none 0 0, .slice none 0 0] 30)) none) := only_alloc (World.grownBy.refl w2 none) _
  have HZ3 : Hid (W.heap.size < w2.heap.size) := HR2.out.lt
  go_upto_region 8 with (refine wpList_storeB rfl 30 (.tmp 6) (.tmp 48) rfl rfl w2.heap.size #[.int .i64 8, .int .i64 0, .float .f64 0, .string ⟨#[]⟩, .slice none 0 0, .slice none 0 0] (by first | rfl | simp [Act.eval]) (by first | rfl | simp [Act.eval]) HVA.out v_info rfl rfl ?_; intro w3 hb3 hg3 hz3)
  have HV3 := Lib.hid hb3
  have HG23 : Hid (w2.grownBy w3 none) := ⟨hg3.os, hg3.tape, hg3.output, Nat.le_trans HGA.out.size hg3.size, fun i hi _ => (hg3.block i (Nat.lt_of_lt_of_le hi HGA.out.size) (by intro e; injection e with e; omega)).trans (HGA.out.block i hi (by simp))⟩
  have HP3 : Hid (Blk w3 g 97 (PnC A N c (a + 1) (p + 1))) := HP2.out.grown HG23.out (by simp)
  have HR3 : Hid (Blk w3 W.heap.size 30 #[.int .i64 0, .int .i64 0, .float .f64 0, .string ⟨#[]⟩, .slice none 0 0, .slice none 0 0]) := HR2.out.grown HG23.out (by simp)
  have HG3 : Hid (W.grownBy w3 (some g)) := only_trans HG2.out ⟨HG23.out.os, HG23.out.tape, HG23.out.output, HG23.out.size, fun i hi _ => HG23.out.block i hi (by simp)⟩
  clear hb3 hg3 hz3 HVA HGA HG23
  clear k2 HP2 HR2 HG2
  have p1 : w3.cell? ⟨g, 1, none⟩ = some (.int .i64 ((a + 1 : Nat) : Int)) := HP3.out.cell 1
  have v0 : w3.cell? ⟨w2.heap.size, 0, none⟩ = some (.int .i64 8) := HV3.out.cell 0
  have HR3' := Lib.hid (Reads.grown HPA.out.rd HG3.out (Nat.le_of_lt HLT.out) (fun _ h => by injection h with h; omega))
  go_wp2_with fail
  refine (c_num g A N c (a + 1) (p + 1) xs w3 HP3.out HR3'.out HPA.out.bt hN HPA.out.hc HPA.out.hm (by omega)).mono ?_; rintro e w4 ⟨rfl, hb4, hg4⟩
  rw [HM.out]
  have HP4 := Lib.hid hb4
  have HG4 := Lib.hid (only_trans HG3.out hg4)
  have HR4 := Lib.hid (HR3.out.grown hg4 (by have := HLT.out; intro e; injection e with e; omega))
  have HV4 := Lib.hid (HV3.out.grown hg4 (by have := HLT.out; have := HZ3.out; intro e; injection e with e; omega))
  have v3 : w4.frozen? ⟨w2.heap.size, 3, none⟩ = false := HV4.out.frozen 3
  have x3 : w4.cell? ⟨w2.heap.size, 3, none⟩ = some (.string ⟨#[]⟩) := HV4.out.cell 3
  have HR4' := Lib.hid (Reads.grown HPA.out.rd HG4.out (Nat.le_of_lt HLT.out) (fun _ h => by injection h with h; omega))
  clear p1 hb4 hg4 HP3 HG3 HR3 HV3 v0
  have t1 : ¬ (M : Int) < 1 := by omega
  have t2 : (64 : Int) < (M : Int) := by omega
  go_wp2_with fail
  refine (c_pfail g (a + 1) 4 _).mono ?_; rintro e w6 ⟨rfl, rfl⟩
  exact ⟨rfl, rfl, HG4.out⟩
set_option maxRecDepth 100000 in
set_option maxHeartbeats 4000000 in
theorem c_v_8b (xs : List Int) (A : Option Addr) (N c d g a p : Nat) (W : World) (E : Int) (hE : E = 65 - ((d + 1 : Nat) : Int)) (hP : PenAt W g xs A N c a p) (hm : ¬ 65536 ≤ p) (hka : a + 1 ≤ N) (hkg : xs.getD a 0 = 8) (hs : a + 5 ≤ N) (M : Nat) (hM : numL (sub xs (a + 1) 4) = M) (hw1 : ¬ M < 1) (hw2 : ¬ 64 < M) (hs2 : N < a + 5 + M) :
    Calls Tryz.prog 65 #[.pointer (some ⟨g, 0, none⟩), .int .i64 E] W (DPost W g A N c (.bad (a + 5) 3)) := by
  have hl := hP.len
  have hle : ¬ 64 < E := by omega
  have HLT : Hid (g < W.heap.size) := hP.bk.lt
  have HP0 : Hid (Blk (W.alloc (.cells vz 30)) g 97 (PnC A N c a p)) := hP.bk.alloc _
  have HR0 := Lib.hid (Blk.new W 30 vz)
  have HG0 : Hid (W.grownBy (W.alloc (.cells vz 30)) (some g)) := only_alloc (World.grownBy.refl W _) _
  have HPA := Lib.hid hP
  have HL := Lib.hid hl
  have ha := hP.ha
  have hN := hP.hN
  have hpp := hP.hp
  have HKG := Lib.hid hkg
  have HM := Lib.hid hM
  clear hM
  have HWW := Lib.hid (And.intro hw1 hw2)
  clear hw1 hw2
  clear hkg
  clear hl hP hE
  go_enter Tryz.func65, Tryz.ntmps65
  go_upto_region 1 with fail
  unfold vz at *
  generalize W.alloc (.cells #[.int .i64 0, .int .i64 0, .float .f64 0, .string ⟨#[]⟩, .slice none 0 0, .slice none 0 0] 30) = w0 at *
  have p1 : w0.cell? ⟨g, 1, none⟩ = some (.int .i64 (a : Int)) := HP0.out.cell 1
  have p2 : w0.cell? ⟨g, 2, none⟩ = some (.int .i64 (p : Int)) := HP0.out.cell 2
  have q2 : w0.frozen? ⟨g, 2, none⟩ = false := HP0.out.frozen 2
  go_upto_region 4 with fail
  have HP1 : Hid (Blk (w0.setCell ⟨g, 2, none⟩ (.int .i64 ((p : Int) + 1))) g 97 (PnC A N c a (p + 1))) := by
    have := HP0.out.set_ 2 (.int .i64 ((p : Int) + 1))
    exact this
  have HR1 : Hid (Blk (w0.setCell ⟨g, 2, none⟩ (.int .i64 ((p : Int) + 1))) W.heap.size 30 #[.int .i64 0, .int .i64 0, .float .f64 0, .string ⟨#[]⟩, .slice none 0 0, .slice none 0 0]) := HR0.out.far (by have := HLT.out; simp only; omega) _
  have HG1 : Hid (W.grownBy (w0.setCell ⟨g, 2, none⟩ (.int .i64 ((p : Int) + 1))) (some g)) := only_setCell HG0.out (.inl rfl) _
  generalize w0.setCell ⟨g, 2, none⟩ (.int .i64 ((p : Int) + 1)) = w1 at *
  clear p1 p2 q2 HP0 HR0 HG0
  have p1 : w1.cell? ⟨g, 1, none⟩ = some (.int .i64 (a : Int)) := HP1.out.cell 1
  have p2 : w1.cell? ⟨g, 2, none⟩ = some (.int .i64 ((p : Int) + 1)) := HP1.out.cell 2
  have hpe : ¬ (65536 : Int) < (p : Int) + 1 := by omega
  go_wp2_with fail
  clear p1 p2
  have HR1' := Lib.hid (Reads.grown HPA.out.rd HG1.out (Nat.le_of_lt HLT.out) (fun _ h => by injection h with h; omega))
  refine (c_take g A N c a (p + 1) 1 xs w1 HP1.out HR1'.out hN HPA.out.hc HPA.out.hm hka).mono ?_; rintro e w2 ⟨A2, c2, rfl, hc2, hr2, hb2, hg2⟩
  rw [sub_one (by rw [HL.out]; omega), HKG.out] at hr2
  obtain ⟨b2, o2, hA2, _, _, hk2⟩ := hr2.form (by omega)
  subst hA2
  have k2 : w2.cell? ⟨b2, o2, none⟩ = some (.int .u8 8) := hk2 0 (by omega)
  have HP2 := Lib.hid hb2
  have HG2 := Lib.hid (only_trans HG1.out hg2)
  have HR2 : Hid (Blk w2 W.heap.size 30 #[.int .i64 0, .int .i64 0, .float .f64 0, .string ⟨#[]⟩, .slice none 0 0, .slice none 0 0]) := HR1.out.grown hg2 (by have := HLT.out; intro e; injection e with e; omega)
  have h01 : (0 : Int) < (1 : Int) := by omega
  clear hr2 hk2 hb2 hg2 HP1 HR1 HG1 HR1'
  have HVA := Lib.hid (Blk.new w2 30 #[.int .i64 0, .int .i64 0, .float .f64 0, .string ⟨#[]⟩, .slice none 0 0, .slice none 0 0])
  have HGA : Hid (w2.grownBy (w2.alloc (.cells #[.int .i64 0, .int .i64 0, .float .f64 0, .string ⟨#[]⟩, .slice none 0 0, .slice none 0 0] 30)) none) := only_alloc (World.grownBy.refl w2 none) _
  have HZ3 : Hid (W.heap.size < w2.heap.size) := HR2.out.lt
  go_upto_region 8 with (refine wpList_storeB rfl 30 (.tmp 6) (.tmp 48) rfl rfl w2.heap.size #[.int .i64 8, .int .i64 0, .float .f64 0, .string ⟨#[]⟩, .slice none 0 0, .slice none 0 0] (by first | rfl | simp [Act.eval]) (by first | rfl | simp [Act.eval]) HVA.out v_info rfl rfl ?_; intro w3 hb3 hg3 hz3)
  have HV3 := Lib.hid hb3
  have HG23 : Hid (w2.grownBy w3 none) := ⟨hg3.os, hg3.tape, hg3.output, Nat.le_trans HGA.out.size hg3.size, fun i hi _ => (hg3.block i (Nat.lt_of_lt_of_le hi HGA.out.size) (by intro e; injection e with e; omega)).trans (HGA.out.block i hi (by simp))⟩
  have HP3 : Hid (Blk w3 g 97 (PnC A N c (a + 1) (p + 1))) := HP2.out.grown HG23.out (by simp)
  have HR3 : Hid (Blk w3 W.heap.size 30 #[.int .i64 0, .int .i64 0, .float .f64 0, .string ⟨#[]⟩, .slice none 0 0, .slice none 0 0]) := HR2.out.grown HG23.out (by simp)
  have HG3 : Hid (W.grownBy w3 (some g)) := only_trans HG2.out ⟨HG23.out.os, HG23.out.tape, HG23.out.output, HG23.out.size, fun i hi _ => HG23.out.block i hi (by simp)⟩
  clear hb3 hg3 hz3 HVA HGA HG23
  clear k2 HP2 HR2 HG2
  have p1 : w3.cell? ⟨g, 1, none⟩ = some (.int .i64 ((a + 1 : Nat) : Int)) := HP3.out.cell 1
  have v0 : w3.cell? ⟨w2.heap.size, 0, none⟩ = some (.int .i64 8) := HV3.out.cell 0
  have HR3' := Lib.hid (Reads.grown HPA.out.rd HG3.out (Nat.le_of_lt HLT.out) (fun _ h => by injection h with h; omega))
  go_wp2_with fail
  refine (c_num g A N c (a + 1) (p + 1) xs w3 HP3.out HR3'.out HPA.out.bt hN HPA.out.hc HPA.out.hm (by omega)).mono ?_; rintro e w4 ⟨rfl, hb4, hg4⟩
  rw [HM.out]
  have HP4 := Lib.hid hb4
  have HG4 := Lib.hid (only_trans HG3.out hg4)
  have HR4 := Lib.hid (HR3.out.grown hg4 (by have := HLT.out; intro e; injection e with e; omega))
  have HV4 := Lib.hid (HV3.out.grown hg4 (by have := HLT.out; have := HZ3.out; intro e; injection e with e; omega))
  have v3 : w4.frozen? ⟨w2.heap.size, 3, none⟩ = false := HV4.out.frozen 3
  have x3 : w4.cell? ⟨w2.heap.size, 3, none⟩ = some (.string ⟨#[]⟩) := HV4.out.cell 3
  have HR4' := Lib.hid (Reads.grown HPA.out.rd HG4.out (Nat.le_of_lt HLT.out) (fun _ h => by injection h with h; omega))
  clear p1 hb4 hg4 HP3 HG3 HR3 HV3 v0
  have t1 : decide ((M : Int) < 1) = false := by have := HWW.out.1; simp; omega
  have t2 : decide ((64 : Int) < (M : Int)) = false := by have := HWW.out.2; simp; omega
  go_wp2_with fail
  refine (c_take_bad g A N c (a + 1 + 4) (p + 1) M w4 HP4.out (by omega) hN (by omega) (by have := HWW.out.2; omega)).mono ?_; rintro e w5 ⟨rfl, hg5⟩
  exact ⟨rfl, rfl, only_trans HG4.out hg5⟩
set_option maxRecDepth 100000 in
set_option maxHeartbeats 4000000 in
theorem c_v_8 (xs : List Int) (A : Option Addr) (N c d g a p : Nat) (W : World) (E : Int) (hE : E = 65 - ((d + 1 : Nat) : Int)) (hP : PenAt W g xs A N c a p) (hm : ¬ 65536 ≤ p) (hka : a + 1 ≤ N) (hkg : xs.getD a 0 = 8) (hs : a + 5 ≤ N) (M : Nat) (hM : numL (sub xs (a + 1) 4) = M) (hw1 : ¬ M < 1) (hw2 : ¬ 64 < M) (hs2 : a + 5 + M ≤ N) (s : ByteArray) (hst : strL (sub xs (a + 5) M) = s) :
    Calls Tryz.prog 65 #[.pointer (some ⟨g, 0, none⟩), .int .i64 E] W (DPost W g A N c (.ok (.mk 8 0 0 s [] []) (a + 5 + M) (p + 1))) := by
  have hl := hP.len
  have hle : ¬ 64 < E := by omega
  have HLT : Hid (g < W.heap.size) := hP.bk.lt
  have HP0 : Hid (Blk (W.alloc (.cells vz 30)) g 97 (PnC A N c a p)) := hP.bk.alloc _
  have HR0 := Lib.hid (Blk.new W 30 vz)
  have HG0 : Hid (W.grownBy (W.alloc (.cells vz 30)) (some g)) := only_alloc (World.grownBy.refl W _) _
  have HPA := Lib.hid hP
  have HL := Lib.hid hl
  have ha := hP.ha
  have hN := hP.hN
  have hpp := hP.hp
  have HKG := Lib.hid hkg
  have HM := Lib.hid hM
  clear hM
  have HWW := Lib.hid (And.intro hw1 hw2)
  clear hw1 hw2
  have HST := Lib.hid hst
  clear hst
  clear hkg
  clear hl hP hE
  go_enter Tryz.func65, Tryz.ntmps65
  go_upto_region 1 with fail
  unfold vz at *
  generalize W.alloc (.cells #[.int .i64 0, .int .i64 0, .float .f64 0, .string ⟨#[]⟩, .slice none 0 0, .slice none 0 0] 30) = w0 at *
  have p1 : w0.cell? ⟨g, 1, none⟩ = some (.int .i64 (a : Int)) := HP0.out.cell 1
  have p2 : w0.cell? ⟨g, 2, none⟩ = some (.int .i64 (p : Int)) := HP0.out.cell 2
  have q2 : w0.frozen? ⟨g, 2, none⟩ = false := HP0.out.frozen 2
  go_upto_region 4 with fail
  have HP1 : Hid (Blk (w0.setCell ⟨g, 2, none⟩ (.int .i64 ((p : Int) + 1))) g 97 (PnC A N c a (p + 1))) := by
    have := HP0.out.set_ 2 (.int .i64 ((p : Int) + 1))
    exact this
  have HR1 : Hid (Blk (w0.setCell ⟨g, 2, none⟩ (.int .i64 ((p : Int) + 1))) W.heap.size 30 #[.int .i64 0, .int .i64 0, .float .f64 0, .string ⟨#[]⟩, .slice none 0 0, .slice none 0 0]) := HR0.out.far (by have := HLT.out; simp only; omega) _
  have HG1 : Hid (W.grownBy (w0.setCell ⟨g, 2, none⟩ (.int .i64 ((p : Int) + 1))) (some g)) := only_setCell HG0.out (.inl rfl) _
  generalize w0.setCell ⟨g, 2, none⟩ (.int .i64 ((p : Int) + 1)) = w1 at *
  clear p1 p2 q2 HP0 HR0 HG0
  have p1 : w1.cell? ⟨g, 1, none⟩ = some (.int .i64 (a : Int)) := HP1.out.cell 1
  have p2 : w1.cell? ⟨g, 2, none⟩ = some (.int .i64 ((p : Int) + 1)) := HP1.out.cell 2
  have hpe : ¬ (65536 : Int) < (p : Int) + 1 := by omega
  go_wp2_with fail
  clear p1 p2
  have HR1' := Lib.hid (Reads.grown HPA.out.rd HG1.out (Nat.le_of_lt HLT.out) (fun _ h => by injection h with h; omega))
  refine (c_take g A N c a (p + 1) 1 xs w1 HP1.out HR1'.out hN HPA.out.hc HPA.out.hm hka).mono ?_; rintro e w2 ⟨A2, c2, rfl, hc2, hr2, hb2, hg2⟩
  rw [sub_one (by rw [HL.out]; omega), HKG.out] at hr2
  obtain ⟨b2, o2, hA2, _, _, hk2⟩ := hr2.form (by omega)
  subst hA2
  have k2 : w2.cell? ⟨b2, o2, none⟩ = some (.int .u8 8) := hk2 0 (by omega)
  have HP2 := Lib.hid hb2
  have HG2 := Lib.hid (only_trans HG1.out hg2)
  have HR2 : Hid (Blk w2 W.heap.size 30 #[.int .i64 0, .int .i64 0, .float .f64 0, .string ⟨#[]⟩, .slice none 0 0, .slice none 0 0]) := HR1.out.grown hg2 (by have := HLT.out; intro e; injection e with e; omega)
  have h01 : (0 : Int) < (1 : Int) := by omega
  clear hr2 hk2 hb2 hg2 HP1 HR1 HG1 HR1'
  have HVA := Lib.hid (Blk.new w2 30 #[.int .i64 0, .int .i64 0, .float .f64 0, .string ⟨#[]⟩, .slice none 0 0, .slice none 0 0])
  have HGA : Hid (w2.grownBy (w2.alloc (.cells #[.int .i64 0, .int .i64 0, .float .f64 0, .string ⟨#[]⟩, .slice none 0 0, .slice none 0 0] 30)) none) := only_alloc (World.grownBy.refl w2 none) _
  have HZ3 : Hid (W.heap.size < w2.heap.size) := HR2.out.lt
  go_upto_region 8 with (refine wpList_storeB rfl 30 (.tmp 6) (.tmp 48) rfl rfl w2.heap.size #[.int .i64 8, .int .i64 0, .float .f64 0, .string ⟨#[]⟩, .slice none 0 0, .slice none 0 0] (by first | rfl | simp [Act.eval]) (by first | rfl | simp [Act.eval]) HVA.out v_info rfl rfl ?_; intro w3 hb3 hg3 hz3)
  have HV3 := Lib.hid hb3
  have HG23 : Hid (w2.grownBy w3 none) := ⟨hg3.os, hg3.tape, hg3.output, Nat.le_trans HGA.out.size hg3.size, fun i hi _ => (hg3.block i (Nat.lt_of_lt_of_le hi HGA.out.size) (by intro e; injection e with e; omega)).trans (HGA.out.block i hi (by simp))⟩
  have HP3 : Hid (Blk w3 g 97 (PnC A N c (a + 1) (p + 1))) := HP2.out.grown HG23.out (by simp)
  have HR3 : Hid (Blk w3 W.heap.size 30 #[.int .i64 0, .int .i64 0, .float .f64 0, .string ⟨#[]⟩, .slice none 0 0, .slice none 0 0]) := HR2.out.grown HG23.out (by simp)
  have HG3 : Hid (W.grownBy w3 (some g)) := only_trans HG2.out ⟨HG23.out.os, HG23.out.tape, HG23.out.output, HG23.out.size, fun i hi _ => HG23.out.block i hi (by simp)⟩
  clear hb3 hg3 hz3 HVA HGA HG23
  clear k2 HP2 HR2 HG2
  have p1 : w3.cell? ⟨g, 1, none⟩ = some (.int .i64 ((a + 1 : Nat) : Int)) := HP3.out.cell 1
  have v0 : w3.cell? ⟨w2.heap.size, 0, none⟩ = some (.int .i64 8) := HV3.out.cell 0
  have HR3' := Lib.hid (Reads.grown HPA.out.rd HG3.out (Nat.le_of_lt HLT.out) (fun _ h => by injection h with h; omega))
  go_wp2_with fail
  refine (c_num g A N c (a + 1) (p + 1) xs w3 HP3.out HR3'.out HPA.out.bt hN HPA.out.hc HPA.out.hm (by omega)).mono ?_; rintro e w4 ⟨rfl, hb4, hg4⟩
  rw [HM.out]
  have HP4 := Lib.hid hb4
  have HG4 := Lib.hid (only_trans HG3.out hg4)
  have HR4 := Lib.hid (HR3.out.grown hg4 (by have := HLT.out; intro e; injection e with e; omega))
  have HV4 := Lib.hid (HV3.out.grown hg4 (by have := HLT.out; have := HZ3.out; intro e; injection e with e; omega))
  have v3 : w4.frozen? ⟨w2.heap.size, 3, none⟩ = false := HV4.out.frozen 3
  have x3 : w4.cell? ⟨w2.heap.size, 3, none⟩ = some (.string ⟨#[]⟩) := HV4.out.cell 3
  have HR4' := Lib.hid (Reads.grown HPA.out.rd HG4.out (Nat.le_of_lt HLT.out) (fun _ h => by injection h with h; omega))
  clear p1 hb4 hg4 HP3 HG3 HR3 HV3 v0
  have t1 : decide ((M : Int) < 1) = false := by have := HWW.out.1; simp; omega
  have t2 : decide ((64 : Int) < (M : Int)) = false := by have := HWW.out.2; simp; omega
  go_wp2_with fail
  refine (c_take g A N c (a + 1 + 4) (p + 1) M xs w4 HP4.out HR4'.out hN HPA.out.hc HPA.out.hm (by omega)).mono ?_; rintro e w5 ⟨A5, c5, rfl, hc5, hr5, hb5, hg5⟩
  have hcv := run_conv (P := Tryz.prog) w5 23 5 9 Tryz.underlying23 Tryz.underlying5 Tryz.underlying9 (c := c5) hr5
  rw [show a + 1 + 4 = a + 5 by omega, show strOfNums (sub xs (a + 5) M) = s from HST.out] at hcv
  have HP5 := Lib.hid hb5
  have HG5 := Lib.hid (only_trans HG4.out hg5)
  have HR5 := Lib.hid (HR4.out.grown hg5 (by have := HLT.out; intro e; injection e with e; omega))
  have HV5 := Lib.hid (HV4.out.grown hg5 (by have := HLT.out; have := HZ3.out; intro e; injection e with e; omega))
  have v3 : w5.frozen? ⟨w2.heap.size, 3, none⟩ = false := HV5.out.frozen 3
  have x3 : w5.cell? ⟨w2.heap.size, 3, none⟩ = some (.string ⟨#[]⟩) := HV5.out.cell 3
  clear hr5 hb5 hg5 HP4 HG4 HR4 HV4
  go_upto_region 35 with fail
  clear hcv
  have HP6 : Hid (Blk (w5.setCell ⟨w2.heap.size, 3, none⟩ (.string s)) g 97 _) := HP5.out.far (by have := HLT.out; have := HZ3.out; simp only; omega) _
  have HR6 : Hid (Blk (w5.setCell ⟨w2.heap.size, 3, none⟩ (.string s)) W.heap.size 30 _) := HR5.out.far (by have := HZ3.out; simp only; omega) _
  have HV6 : Hid (Blk (w5.setCell ⟨w2.heap.size, 3, none⟩ (.string s)) w2.heap.size 30 #[.int .i64 8, .int .i64 (0), .float .f64 (0), .string (s), .slice none 0 0, .slice none 0 0]) := HV5.out.set_ 3 _
  have HG6 : Hid (W.grownBy (w5.setCell ⟨w2.heap.size, 3, none⟩ (.string s)) (some g)) := only_setCell HG5.out (.inr (by have := HZ3.out; simp only; omega)) _
  generalize w5.setCell ⟨w2.heap.size, 3, none⟩ (.string s) = w6 at *
  clear HP5 HR5 HV5 HG5 v3 x3
  have hneq : W.heap.size ≠ w2.heap.size := Nat.ne_of_lt HZ3.out
  have HFE := Lib.hid (Fresh.leaf (W.heap.size + 1) w6 (k := 8) (i := 0) (f := 0) (t := s))
  go_wp2_with (first
    | (refine wpList_load_row rfl 30 (.tmp 6) rfl w2.heap.size rfl 30 _ (0, 0) _ HV6.out Tryz.underlying30 rfl (by first | exact v_info | (simp only [List.size_toArray, (six_of (HFE.out.rd)).1]; exact v_info)) ?_)
    | (refine wpList_storeB rfl 30 (.tmp 4) (.tmp 134) rfl rfl W.heap.size #[.int .i64 8, .int .i64 (0), .float .f64 (0), .string (s), .slice none 0 0, .slice none 0 0] rfl rfl HR6.out (by first | exact v_info | (simp only [List.size_toArray, (six_of (HFE.out.rd)).1]; exact v_info)) (by first | rfl | (simp only [List.size_toArray, (six_of (HFE.out.rd)).1]; rfl)) (by first | rfl | exact (six_of (HFE.out.rd)).2) ?_; intro w9 hB9 hg9 hz9))
  exact bodyPost_ret (results_cellB (p := 4) rfl _ hB9 _ rfl Tryz.underlying30 rfl (by first | exact v_info | (simp only [List.size_toArray, (six_of (HFE.out.rd)).1]; exact v_info))) rfl ⟨_, rfl, (HFE.out.on (by rw [hz9]; exact Nat.le_refl _) (fun i hi hj => hg9.block i hj (by intro e; injection e with e; omega))).lo_ (Nat.le_succ _), (show Blk w6 g 97 (PnC A N c (a + 5 + M) (p + 1)) from by have := HP6.out; rw [show a + 1 + 4 + M = a + 5 + M by omega] at this; exact this).grown hg9 (by have := HLT.out; intro e; injection e with e; omega), only_new_ HG6.out hg9 (Nat.le_refl _)⟩
set_option maxRecDepth 100000 in
set_option maxHeartbeats 4000000 in
theorem c_v_d (xs : List Int) (A : Option Addr) (N c d g a p : Nat) (W : World) (E : Int) (hE : E = 65 - ((d + 1 : Nat) : Int)) (hP : PenAt W g xs A N c a p) (hm : ¬ 65536 ≤ p) (hka : a + 1 ≤ N) (k : Int) (hkg : xs.getD a 0 = k) (hk8 : 8 < k) (hk9 : k < 256) :
    Calls Tryz.prog 65 #[.pointer (some ⟨g, 0, none⟩), .int .i64 E] W (DPost W g A N c (.bad a 4)) := by
  have hl := hP.len
  have hle : ¬ 64 < E := by omega
  have HLT : Hid (g < W.heap.size) := hP.bk.lt
  have HP0 : Hid (Blk (W.alloc (.cells vz 30)) g 97 (PnC A N c a p)) := hP.bk.alloc _
  have HR0 := Lib.hid (Blk.new W 30 vz)
  have HG0 : Hid (W.grownBy (W.alloc (.cells vz 30)) (some g)) := only_alloc (World.grownBy.refl W _) _
  have HPA := Lib.hid hP
  have HL := Lib.hid hl
  have ha := hP.ha
  have hN := hP.hN
  have hpp := hP.hp
  have HKG := Lib.hid hkg
  clear hkg
  clear hl hP hE
  go_enter Tryz.func65, Tryz.ntmps65
  go_upto_region 1 with fail
  unfold vz at *
  generalize W.alloc (.cells #[.int .i64 0, .int .i64 0, .float .f64 0, .string ⟨#[]⟩, .slice none 0 0, .slice none 0 0] 30) = w0 at *
  have p1 : w0.cell? ⟨g, 1, none⟩ = some (.int .i64 (a : Int)) := HP0.out.cell 1
  have p2 : w0.cell? ⟨g, 2, none⟩ = some (.int .i64 (p : Int)) := HP0.out.cell 2
  have q2 : w0.frozen? ⟨g, 2, none⟩ = false := HP0.out.frozen 2
  go_upto_region 4 with fail
  have HP1 : Hid (Blk (w0.setCell ⟨g, 2, none⟩ (.int .i64 ((p : Int) + 1))) g 97 (PnC A N c a (p + 1))) := by
    have := HP0.out.set_ 2 (.int .i64 ((p : Int) + 1))
    exact this
  have HR1 : Hid (Blk (w0.setCell ⟨g, 2, none⟩ (.int .i64 ((p : Int) + 1))) W.heap.size 30 #[.int .i64 0, .int .i64 0, .float .f64 0, .string ⟨#[]⟩, .slice none 0 0, .slice none 0 0]) := HR0.out.far (by have := HLT.out; simp only; omega) _
  have HG1 : Hid (W.grownBy (w0.setCell ⟨g, 2, none⟩ (.int .i64 ((p : Int) + 1))) (some g)) := only_setCell HG0.out (.inl rfl) _
  generalize w0.setCell ⟨g, 2, none⟩ (.int .i64 ((p : Int) + 1)) = w1 at *
  clear p1 p2 q2 HP0 HR0 HG0
  have p1 : w1.cell? ⟨g, 1, none⟩ = some (.int .i64 (a : Int)) := HP1.out.cell 1
  have p2 : w1.cell? ⟨g, 2, none⟩ = some (.int .i64 ((p : Int) + 1)) := HP1.out.cell 2
  have hpe : ¬ (65536 : Int) < (p : Int) + 1 := by omega
  go_wp2_with fail
  clear p1 p2
  have HR1' := Lib.hid (Reads.grown HPA.out.rd HG1.out (Nat.le_of_lt HLT.out) (fun _ h => by injection h with h; omega))
  refine (c_take g A N c a (p + 1) 1 xs w1 HP1.out HR1'.out hN HPA.out.hc HPA.out.hm hka).mono ?_; rintro e w2 ⟨A2, c2, rfl, hc2, hr2, hb2, hg2⟩
  rw [sub_one (by rw [HL.out]; omega), HKG.out] at hr2
  obtain ⟨b2, o2, hA2, _, _, hk2⟩ := hr2.form (by omega)
  subst hA2
  have k2 : w2.cell? ⟨b2, o2, none⟩ = some (.int .u8 k) := hk2 0 (by omega)
  have HP2 := Lib.hid hb2
  have HG2 := Lib.hid (only_trans HG1.out hg2)
  have HR2 : Hid (Blk w2 W.heap.size 30 #[.int .i64 0, .int .i64 0, .float .f64 0, .string ⟨#[]⟩, .slice none 0 0, .slice none 0 0]) := HR1.out.grown hg2 (by have := HLT.out; intro e; injection e with e; omega)
  have h01 : (0 : Int) < (1 : Int) := by omega
  clear hr2 hk2 hb2 hg2 HP1 HR1 HG1 HR1'
  have HVA := Lib.hid (Blk.new w2 30 #[.int .i64 0, .int .i64 0, .float .f64 0, .string ⟨#[]⟩, .slice none 0 0, .slice none 0 0])
  have HGA : Hid (w2.grownBy (w2.alloc (.cells #[.int .i64 0, .int .i64 0, .float .f64 0, .string ⟨#[]⟩, .slice none 0 0, .slice none 0 0] 30)) none) := only_alloc (World.grownBy.refl w2 none) _
  have HZ3 : Hid (W.heap.size < w2.heap.size) := HR2.out.lt
  go_upto_region 8 with (refine wpList_storeB rfl 30 (.tmp 6) (.tmp 48) rfl rfl w2.heap.size #[.int .i64 k, .int .i64 0, .float .f64 0, .string ⟨#[]⟩, .slice none 0 0, .slice none 0 0] (by first | rfl | simp [Act.eval]) (by first | rfl | simp [Act.eval]) HVA.out v_info rfl rfl ?_; intro w3 hb3 hg3 hz3)
  have HV3 := Lib.hid hb3
  have HG23 : Hid (w2.grownBy w3 none) := ⟨hg3.os, hg3.tape, hg3.output, Nat.le_trans HGA.out.size hg3.size, fun i hi _ => (hg3.block i (Nat.lt_of_lt_of_le hi HGA.out.size) (by intro e; injection e with e; omega)).trans (HGA.out.block i hi (by simp))⟩
  have HP3 : Hid (Blk w3 g 97 (PnC A N c (a + 1) (p + 1))) := HP2.out.grown HG23.out (by simp)
  have HR3 : Hid (Blk w3 W.heap.size 30 #[.int .i64 0, .int .i64 0, .float .f64 0, .string ⟨#[]⟩, .slice none 0 0, .slice none 0 0]) := HR2.out.grown HG23.out (by simp)
  have HG3 : Hid (W.grownBy w3 (some g)) := only_trans HG2.out ⟨HG23.out.os, HG23.out.tape, HG23.out.output, HG23.out.size, fun i hi _ => HG23.out.block i hi (by simp)⟩
  clear hb3 hg3 hz3 HVA HGA HG23
  clear k2 HP2 HR2 HG2
  have p1 : w3.cell? ⟨g, 1, none⟩ = some (.int .i64 ((a + 1 : Nat) : Int)) := HP3.out.cell 1
  have v0 : w3.cell? ⟨w2.heap.size, 0, none⟩ = some (.int .i64 k) := HV3.out.cell 0
  have HR3' := Lib.hid (Reads.grown HPA.out.rd HG3.out (Nat.le_of_lt HLT.out) (fun _ h => by injection h with h; omega))
  have e0 : (k == 0) = false := by simp; omega
  have e1 : (k == 1) = false := by simp; omega
  have e2 : (k == 2) = false := by simp; omega
  have e3 : (k == 3) = false := by simp; omega
  have e4 : (k == 4) = false := by simp; omega
  have e5 : (k == 5) = false := by simp; omega
  have e6 : (k == 6) = false := by simp; omega
  have e7 : (k == 7) = false := by simp; omega
  have e8 : (k == 8) = false := by simp; omega
  go_wp2_with fail
  refine (c_pfail g a 4 _).mono ?_; rintro e w6 ⟨rfl, rfl⟩
  exact ⟨rfl, rfl, HG3.out⟩
set_option maxRecDepth 100000 in
set_option maxHeartbeats 4000000 in
theorem c_v_6s (xs : List Int) (A : Option Addr) (N c d g a p : Nat) (W : World) (E : Int) (hE : E = 65 - ((d + 1 : Nat) : Int)) (hP : PenAt W g xs A N c a p) (hm : ¬ 65536 ≤ p) (hka : a + 1 ≤ N) (hkg : xs.getD a 0 = 6) (hs : N < a + 5) :
    Calls Tryz.prog 65 #[.pointer (some ⟨g, 0, none⟩), .int .i64 E] W (DPost W g A N c (.bad (a + 1) 3)) := by
  have hl := hP.len
  have hle : ¬ 64 < E := by omega
  have HLT : Hid (g < W.heap.size) := hP.bk.lt
  have HP0 : Hid (Blk (W.alloc (.cells vz 30)) g 97 (PnC A N c a p)) := hP.bk.alloc _
  have HR0 := Lib.hid (Blk.new W 30 vz)
  have HG0 : Hid (W.grownBy (W.alloc (.cells vz 30)) (some g)) := only_alloc (World.grownBy.refl W _) _
  have HPA := Lib.hid hP
  have HL := Lib.hid hl
  have ha := hP.ha
  have hN := hP.hN
  have hpp := hP.hp
  have HKG := Lib.hid hkg
  clear hkg
  clear hl hP hE
  go_enter Tryz.func65, Tryz.ntmps65
  go_upto_region 1 with fail
  unfold vz at *
  generalize W.alloc (.cells #[.int .i64 0, .int .i64 0, .float .f64 0, .string ⟨#[]⟩, .slice none 0 0, .slice none 0 0] 30) = w0 at *
  have p1 : w0.cell? ⟨g, 1, none⟩ = some (.int .i64 (a : Int)) := HP0.out.cell 1
  have p2 : w0.cell? ⟨g, 2, none⟩ = some (.int .i64 (p : Int)) := HP0.out.cell 2
  have q2 : w0.frozen? ⟨g, 2, none⟩ = false := HP0.out.frozen 2
  go_upto_region 4 with fail
  have HP1 : Hid (Blk (w0.setCell ⟨g, 2, none⟩ (.int .i64 ((p : Int) + 1))) g 97 (PnC A N c a (p + 1))) := by
    have := HP0.out.set_ 2 (.int .i64 ((p : Int) + 1))
    exact this
  have HR1 : Hid (Blk (w0.setCell ⟨g, 2, none⟩ (.int .i64 ((p : Int) + 1))) W.heap.size 30 #[.int .i64 0, .int .i64 0, .float .f64 0, .string ⟨#[]⟩, .slice none 0 0, .slice none 0 0]) := HR0.out.far (by have := HLT.out; simp only; omega) _
  have HG1 : Hid (W.grownBy (w0.setCell ⟨g, 2, none⟩ (.int .i64 ((p : Int) + 1))) (some g)) := only_setCell HG0.out (.inl rfl) _
  generalize w0.setCell ⟨g, 2, none⟩ (.int .i64 ((p : Int) + 1)) = w1 at *
  clear p1 p2 q2 HP0 HR0 HG0
  have p1 : w1.cell? ⟨g, 1, none⟩ = some (.int .i64 (a : Int)) := HP1.out.cell 1
  have p2 : w1.cell? ⟨g, 2, none⟩ = some (.int .i64 ((p : Int) + 1)) := HP1.out.cell 2
  have hpe : ¬ (65536 : Int) < (p : Int) + 1 := by omega
  go_wp2_with fail
  clear p1 p2
  have HR1' := Lib.hid (Reads.grown HPA.out.rd HG1.out (Nat.le_of_lt HLT.out) (fun _ h => by injection h with h; omega))
  refine (c_take g A N c a (p + 1) 1 xs w1 HP1.out HR1'.out hN HPA.out.hc HPA.out.hm hka).mono ?_; rintro e w2 ⟨A2, c2, rfl, hc2, hr2, hb2, hg2⟩
  rw [sub_one (by rw [HL.out]; omega), HKG.out] at hr2
  obtain ⟨b2, o2, hA2, _, _, hk2⟩ := hr2.form (by omega)
  subst hA2
  have k2 : w2.cell? ⟨b2, o2, none⟩ = some (.int .u8 6) := hk2 0 (by omega)
  have HP2 := Lib.hid hb2
  have HG2 := Lib.hid (only_trans HG1.out hg2)
  have HR2 : Hid (Blk w2 W.heap.size 30 #[.int .i64 0, .int .i64 0, .float .f64 0, .string ⟨#[]⟩, .slice none 0 0, .slice none 0 0]) := HR1.out.grown hg2 (by have := HLT.out; intro e; injection e with e; omega)
  have h01 : (0 : Int) < (1 : Int) := by omega
  clear hr2 hk2 hb2 hg2 HP1 HR1 HG1 HR1'
  have HVA := Lib.hid (Blk.new w2 30 #[.int .i64 0, .int .i64 0, .float .f64 0, .string ⟨#[]⟩, .slice none 0 0, .slice none 0 0])
  have HGA : Hid (w2.grownBy (w2.alloc (.cells #[.int .i64 0, .int .i64 0, .float .f64 0, .string ⟨#[]⟩, .slice none 0 0, .slice none 0 0] 30)) none) := only_alloc (World.grownBy.refl w2 none) _
  have HZ3 : Hid (W.heap.size < w2.heap.size) := HR2.out.lt
  go_upto_region 8 with (refine wpList_storeB rfl 30 (.tmp 6) (.tmp 48) rfl rfl w2.heap.size #[.int .i64 6, .int .i64 0, .float .f64 0, .string ⟨#[]⟩, .slice none 0 0, .slice none 0 0] (by first | rfl | simp [Act.eval]) (by first | rfl | simp [Act.eval]) HVA.out v_info rfl rfl ?_; intro w3 hb3 hg3 hz3)
  have HV3 := Lib.hid hb3
  have HG23 : Hid (w2.grownBy w3 none) := ⟨hg3.os, hg3.tape, hg3.output, Nat.le_trans HGA.out.size hg3.size, fun i hi _ => (hg3.block i (Nat.lt_of_lt_of_le hi HGA.out.size) (by intro e; injection e with e; omega)).trans (HGA.out.block i hi (by simp))⟩
  have HP3 : Hid (Blk w3 g 97 (PnC A N c (a + 1) (p + 1))) := HP2.out.grown HG23.out (by simp)
  have HR3 : Hid (Blk w3 W.heap.size 30 #[.int .i64 0, .int .i64 0, .float .f64 0, .string ⟨#[]⟩, .slice none 0 0, .slice none 0 0]) := HR2.out.grown HG23.out (by simp)
  have HG3 : Hid (W.grownBy w3 (some g)) := only_trans HG2.out ⟨HG23.out.os, HG23.out.tape, HG23.out.output, HG23.out.size, fun i hi _ => HG23.out.block i hi (by simp)⟩
  clear hb3 hg3 hz3 HVA HGA HG23
  clear k2 HP2 HR2 HG2
  have p1 : w3.cell? ⟨g, 1, none⟩ = some (.int .i64 ((a + 1 : Nat) : Int)) := HP3.out.cell 1
  have v0 : w3.cell? ⟨w2.heap.size, 0, none⟩ = some (.int .i64 6) := HV3.out.cell 0
  have HR3' := Lib.hid (Reads.grown HPA.out.rd HG3.out (Nat.le_of_lt HLT.out) (fun _ h => by injection h with h; omega))
  go_wp2_with fail
  refine (c_items_bad g w2.heap.size A N c (a + 1) (p + 1) E w3 HP3.out (by omega) hN (by omega)).mono ?_; rintro e w4 ⟨rfl, hg4⟩
  exact ⟨rfl, rfl, only_trans HG3.out hg4⟩
set_option maxRecDepth 100000 in
set_option maxHeartbeats 4000000 in
theorem c_v_6b (xs : List Int) (A : Option Addr) (N c d g a p : Nat) (W : World) (E : Int) (hE : E = 65 - ((d + 1 : Nat) : Int)) (hP : PenAt W g xs A N c a p) (hm : ¬ 65536 ≤ p) (hka : a + 1 ≤ N) (hkg : xs.getD a 0 = 6) (a4 : Nat) (e4 : Int) (hit : ∀ (gv : Nat) (w : World), Blk w g 97 (PnC A N c (a + 1) (p + 1)) → Reads w g 1 A N (u8s xs) → Blk w gv 30 (vkC 6 none 0 0 none 0 0) → g < gv → Calls Tryz.prog 96 #[.pointer (some ⟨g, 0, none⟩), .pointer (some ⟨gv, 0, none⟩), .int .i64 E] w (IPost w g gv A N c (decI (decV xs d) xs 6 (numL (sub xs (a + 1) 4)) (a + 1 + 4) (p + 1) [] []))) (hri : decI (decV xs d) xs 6 (numL (sub xs (a + 1) 4)) (a + 1 + 4) (p + 1) [] [] = .bad a4 e4) :
    Calls Tryz.prog 65 #[.pointer (some ⟨g, 0, none⟩), .int .i64 E] W (DPost W g A N c (.bad a4 e4)) := by
  have hl := hP.len
  have hle : ¬ 64 < E := by omega
  have HLT : Hid (g < W.heap.size) := hP.bk.lt
  have HP0 : Hid (Blk (W.alloc (.cells vz 30)) g 97 (PnC A N c a p)) := hP.bk.alloc _
  have HR0 := Lib.hid (Blk.new W 30 vz)
  have HG0 : Hid (W.grownBy (W.alloc (.cells vz 30)) (some g)) := only_alloc (World.grownBy.refl W _) _
  have HPA := Lib.hid hP
  have HL := Lib.hid hl
  have ha := hP.ha
  have hN := hP.hN
  have hpp := hP.hp
  have HKG := Lib.hid hkg
  have HIT : Hid (∀ (gv : Nat) (w : World), Blk w g 97 (PnC A N c (a + 1) (p + 1)) → Reads w g 1 A N (u8s xs) → Blk w gv 30 (vkC 6 none 0 0 none 0 0) → g < gv → Calls Tryz.prog 96 #[.pointer (some ⟨g, 0, none⟩), .pointer (some ⟨gv, 0, none⟩), .int .i64 E] w (IPost w g gv A N c (decI (decV xs d) xs 6 (numL (sub xs (a + 1) 4)) (a + 1 + 4) (p + 1) [] []))) := hit
  have HRI : Hid (decI (decV xs d) xs 6 (numL (sub xs (a + 1) 4)) (a + 1 + 4) (p + 1) [] [] = .bad a4 e4) := hri
  clear hit hri
  clear hkg
  clear hl hP hE
  go_enter Tryz.func65, Tryz.ntmps65
  go_upto_region 1 with fail
  unfold vz at *
  generalize W.alloc (.cells #[.int .i64 0, .int .i64 0, .float .f64 0, .string ⟨#[]⟩, .slice none 0 0, .slice none 0 0] 30) = w0 at *
  have p1 : w0.cell? ⟨g, 1, none⟩ = some (.int .i64 (a : Int)) := HP0.out.cell 1
  have p2 : w0.cell? ⟨g, 2, none⟩ = some (.int .i64 (p : Int)) := HP0.out.cell 2
  have q2 : w0.frozen? ⟨g, 2, none⟩ = false := HP0.out.frozen 2
  go_upto_region 4 with fail
  have HP1 : Hid (Blk (w0.setCell ⟨g, 2, none⟩ (.int .i64 ((p : Int) + 1))) g 97 (PnC A N c a (p + 1))) := by
    have := HP0.out.set_ 2 (.int .i64 ((p : Int) + 1))
    exact this
  have HR1 : Hid (Blk (w0.setCell ⟨g, 2, none⟩ (.int .i64 ((p : Int) + 1))) W.heap.size 30 #[.int .i64 0, .int .i64 0, .float .f64 0, .string ⟨#[]⟩, .slice none 0 0, .slice none 0 0]) := HR0.out.far (by have := HLT.out; simp only; omega) _
  have HG1 : Hid (W.grownBy (w0.setCell ⟨g, 2, none⟩ (.int .i64 ((p : Int) + 1))) (some g)) := only_setCell HG0.out (.inl rfl) _
  generalize w0.setCell ⟨g, 2, none⟩ (.int .i64 ((p : Int) + 1)) = w1 at *
  clear p1 p2 q2 HP0 HR0 HG0
  have p1 : w1.cell? ⟨g, 1, none⟩ = some (.int .i64 (a : Int)) := HP1.out.cell 1
  have p2 : w1.cell? ⟨g, 2, none⟩ = some (.int .i64 ((p : Int) + 1)) := HP1.out.cell 2
  have hpe : ¬ (65536 : Int) < (p : Int) + 1 := by omega
  go_wp2_with fail
  clear p1 p2
  have HR1' := Lib.hid (Reads.grown HPA.out.rd HG1.out (Nat.le_of_lt HLT.out) (fun _ h => by injection h with h; omega))
  refine (c_take g A N c a (p + 1) 1 xs w1 HP1.out HR1'.out hN HPA.out.hc HPA.out.hm hka).mono ?_; rintro e w2 ⟨A2, c2, rfl, hc2, hr2, hb2, hg2⟩
  rw [sub_one (by rw [HL.out]; omega), HKG.out] at hr2
  obtain ⟨b2, o2, hA2, _, _, hk2⟩ := hr2.form (by omega)
  subst hA2
  have k2 : w2.cell? ⟨b2, o2, none⟩ = some (.int .u8 6) := hk2 0 (by omega)
  have HP2 := Lib.hid hb2
  have HG2 := Lib.hid (only_trans HG1.out hg2)
  have HR2 : Hid (Blk w2 W.heap.size 30 #[.int .i64 0, .int .i64 0, .float .f64 0, .string ⟨#[]⟩, .slice none 0 0, .slice none 0 0]) := HR1.out.grown hg2 (by have := HLT.out; intro e; injection e with e; omega)
  have h01 : (0 : Int) < (1 : Int) := by omega
  clear hr2 hk2 hb2 hg2 HP1 HR1 HG1 HR1'
  have HVA := Lib.hid (Blk.new w2 30 #[.int .i64 0, .int .i64 0, .float .f64 0, .string ⟨#[]⟩, .slice none 0 0, .slice none 0 0])
  have HGA : Hid (w2.grownBy (w2.alloc (.cells #[.int .i64 0, .int .i64 0, .float .f64 0, .string ⟨#[]⟩, .slice none 0 0, .slice none 0 0] 30)) none) := only_alloc (World.grownBy.refl w2 none) _
  have HZ3 : Hid (W.heap.size < w2.heap.size) := HR2.out.lt
  go_upto_region 8 with (refine wpList_storeB rfl 30 (.tmp 6) (.tmp 48) rfl rfl w2.heap.size #[.int .i64 6, .int .i64 0, .float .f64 0, .string ⟨#[]⟩, .slice none 0 0, .slice none 0 0] (by first | rfl | simp [Act.eval]) (by first | rfl | simp [Act.eval]) HVA.out v_info rfl rfl ?_; intro w3 hb3 hg3 hz3)
  have HV3 := Lib.hid hb3
  have HG23 : Hid (w2.grownBy w3 none) := ⟨hg3.os, hg3.tape, hg3.output, Nat.le_trans HGA.out.size hg3.size, fun i hi _ => (hg3.block i (Nat.lt_of_lt_of_le hi HGA.out.size) (by intro e; injection e with e; omega)).trans (HGA.out.block i hi (by simp))⟩
  have HP3 : Hid (Blk w3 g 97 (PnC A N c (a + 1) (p + 1))) := HP2.out.grown HG23.out (by simp)
  have HR3 : Hid (Blk w3 W.heap.size 30 #[.int .i64 0, .int .i64 0, .float .f64 0, .string ⟨#[]⟩, .slice none 0 0, .slice none 0 0]) := HR2.out.grown HG23.out (by simp)
  have HG3 : Hid (W.grownBy w3 (some g)) := only_trans HG2.out ⟨HG23.out.os, HG23.out.tape, HG23.out.output, HG23.out.size, fun i hi _ => HG23.out.block i hi (by simp)⟩
  clear hb3 hg3 hz3 HVA HGA HG23
  clear k2 HP2 HR2 HG2
  have p1 : w3.cell? ⟨g, 1, none⟩ = some (.int .i64 ((a + 1 : Nat) : Int)) := HP3.out.cell 1
  have v0 : w3.cell? ⟨w2.heap.size, 0, none⟩ = some (.int .i64 6) := HV3.out.cell 0
  have HR3' := Lib.hid (Reads.grown HPA.out.rd HG3.out (Nat.le_of_lt HLT.out) (fun _ h => by injection h with h; omega))
  have hgz : g < w2.heap.size := Nat.lt_trans HLT.out HZ3.out
  go_wp2_with fail
  refine (HIT.out w2.heap.size w3 HP3.out HR3'.out HV3.out hgz).mono ?_
  rw [HRI.out]
  rintro e w4 ⟨rfl, hk4⟩
  exact ⟨rfl, rfl, Kept2.one (lo := 0) hk4 HG3.out (Nat.le_of_lt HZ3.out)⟩
set_option maxRecDepth 100000 in
set_option maxHeartbeats 4000000 in
theorem c_v_6 (xs : List Int) (A : Option Addr) (N c d g a p : Nat) (W : World) (E : Int) (hE : E = 65 - ((d + 1 : Nat) : Int)) (hP : PenAt W g xs A N c a p) (hm : ¬ 65536 ≤ p) (hka : a + 1 ≤ N) (hkg : xs.getD a 0 = 6) (v4 : Val) (a4 p4 : Nat) (hit : ∀ (gv : Nat) (w : World), Blk w g 97 (PnC A N c (a + 1) (p + 1)) → Reads w g 1 A N (u8s xs) → Blk w gv 30 (vkC 6 none 0 0 none 0 0) → g < gv → Calls Tryz.prog 96 #[.pointer (some ⟨g, 0, none⟩), .pointer (some ⟨gv, 0, none⟩), .int .i64 E] w (IPost w g gv A N c (decI (decV xs d) xs 6 (numL (sub xs (a + 1) 4)) (a + 1 + 4) (p + 1) [] []))) (hri : decI (decV xs d) xs 6 (numL (sub xs (a + 1) 4)) (a + 1 + 4) (p + 1) [] [] = .ok v4 a4 p4) :
    Calls Tryz.prog 65 #[.pointer (some ⟨g, 0, none⟩), .int .i64 E] W (DPost W g A N c (.ok v4 a4 p4)) := by
  have hl := hP.len
  have hle : ¬ 64 < E := by omega
  have HLT : Hid (g < W.heap.size) := hP.bk.lt
  have HP0 : Hid (Blk (W.alloc (.cells vz 30)) g 97 (PnC A N c a p)) := hP.bk.alloc _
  have HR0 := Lib.hid (Blk.new W 30 vz)
  have HG0 : Hid (W.grownBy (W.alloc (.cells vz 30)) (some g)) := only_alloc (World.grownBy.refl W _) _
  have HPA := Lib.hid hP
  have HL := Lib.hid hl
  have ha := hP.ha
  have hN := hP.hN
  have hpp := hP.hp
  have HKG := Lib.hid hkg
  have HIT : Hid (∀ (gv : Nat) (w : World), Blk w g 97 (PnC A N c (a + 1) (p + 1)) → Reads w g 1 A N (u8s xs) → Blk w gv 30 (vkC 6 none 0 0 none 0 0) → g < gv → Calls Tryz.prog 96 #[.pointer (some ⟨g, 0, none⟩), .pointer (some ⟨gv, 0, none⟩), .int .i64 E] w (IPost w g gv A N c (decI (decV xs d) xs 6 (numL (sub xs (a + 1) 4)) (a + 1 + 4) (p + 1) [] []))) := hit
  have HRI : Hid (decI (decV xs d) xs 6 (numL (sub xs (a + 1) 4)) (a + 1 + 4) (p + 1) [] [] = .ok v4 a4 p4) := hri
  clear hit hri
  clear hkg
  clear hl hP hE
  go_enter Tryz.func65, Tryz.ntmps65
  go_upto_region 1 with fail
  unfold vz at *
  generalize W.alloc (.cells #[.int .i64 0, .int .i64 0, .float .f64 0, .string ⟨#[]⟩, .slice none 0 0, .slice none 0 0] 30) = w0 at *
  have p1 : w0.cell? ⟨g, 1, none⟩ = some (.int .i64 (a : Int)) := HP0.out.cell 1
  have p2 : w0.cell? ⟨g, 2, none⟩ = some (.int .i64 (p : Int)) := HP0.out.cell 2
  have q2 : w0.frozen? ⟨g, 2, none⟩ = false := HP0.out.frozen 2
  go_upto_region 4 with fail
  have HP1 : Hid (Blk (w0.setCell ⟨g, 2, none⟩ (.int .i64 ((p : Int) + 1))) g 97 (PnC A N c a (p + 1))) := by
    have := HP0.out.set_ 2 (.int .i64 ((p : Int) + 1))
    exact this
  have HR1 : Hid (Blk (w0.setCell ⟨g, 2, none⟩ (.int .i64 ((p : Int) + 1))) W.heap.size 30 #[.int .i64 0, .int .i64 0, .float .f64 0, .string ⟨#[]⟩, .slice none 0 0, .slice none 0 0]) := HR0.out.far (by have := HLT.out; simp only; omega) _
  have HG1 : Hid (W.grownBy (w0.setCell ⟨g, 2, none⟩ (.int .i64 ((p : Int) + 1))) (some g)) := only_setCell HG0.out (.inl rfl) _
  generalize w0.setCell ⟨g, 2, none⟩ (.int .i64 ((p : Int) + 1)) = w1 at *
  clear p1 p2 q2 HP0 HR0 HG0
  have p1 : w1.cell? ⟨g, 1, none⟩ = some (.int .i64 (a : Int)) := HP1.out.cell 1
  have p2 : w1.cell? ⟨g, 2, none⟩ = some (.int .i64 ((p : Int) + 1)) := HP1.out.cell 2
  have hpe : ¬ (65536 : Int) < (p : Int) + 1 := by omega
  go_wp2_with fail
  clear p1 p2
  have HR1' := Lib.hid (Reads.grown HPA.out.rd HG1.out (Nat.le_of_lt HLT.out) (fun _ h => by injection h with h; omega))
  refine (c_take g A N c a (p + 1) 1 xs w1 HP1.out HR1'.out hN HPA.out.hc HPA.out.hm hka).mono ?_; rintro e w2 ⟨A2, c2, rfl, hc2, hr2, hb2, hg2⟩
  rw [sub_one (by rw [HL.out]; omega), HKG.out] at hr2
  obtain ⟨b2, o2, hA2, _, _, hk2⟩ := hr2.form (by omega)
  subst hA2
  have k2 : w2.cell? ⟨b2, o2, none⟩ = some (.int .u8 6) := hk2 0 (by omega)
  have HP2 := Lib.hid hb2
  have HG2 := Lib.hid (only_trans HG1.out hg2)
  have HR2 : Hid (Blk w2 W.heap.size 30 #[.int .i64 0, .int .i64 0, .float .f64 0, .string ⟨#[]⟩, .slice none 0 0, .slice none 0 0]) := HR1.out.grown hg2 (by have := HLT.out; intro e; injection e with e; omega)
  have h01 : (0 : Int) < (1 : Int) := by omega
  clear hr2 hk2 hb2 hg2 HP1 HR1 HG1 HR1'
  have HVA := Lib.hid (Blk.new w2 30 #[.int .i64 0, .int .i64 0, .float .f64 0, .string ⟨#[]⟩, .slice none 0 0, .slice none 0 0])
  have HGA : Hid (w2.grownBy (w2.alloc (.cells #[.int .i64 0, .int .i64 0, .float .f64 0, .string ⟨#[]⟩, .slice none 0 0, .slice none 0 0] 30)) none) := only_alloc (World.grownBy.refl w2 none) _
  have HZ3 : Hid (W.heap.size < w2.heap.size) := HR2.out.lt
  go_upto_region 8 with (refine wpList_storeB rfl 30 (.tmp 6) (.tmp 48) rfl rfl w2.heap.size #[.int .i64 6, .int .i64 0, .float .f64 0, .string ⟨#[]⟩, .slice none 0 0, .slice none 0 0] (by first | rfl | simp [Act.eval]) (by first | rfl | simp [Act.eval]) HVA.out v_info rfl rfl ?_; intro w3 hb3 hg3 hz3)
  have HV3 := Lib.hid hb3
  have HG23 : Hid (w2.grownBy w3 none) := ⟨hg3.os, hg3.tape, hg3.output, Nat.le_trans HGA.out.size hg3.size, fun i hi _ => (hg3.block i (Nat.lt_of_lt_of_le hi HGA.out.size) (by intro e; injection e with e; omega)).trans (HGA.out.block i hi (by simp))⟩
  have HP3 : Hid (Blk w3 g 97 (PnC A N c (a + 1) (p + 1))) := HP2.out.grown HG23.out (by simp)
  have HR3 : Hid (Blk w3 W.heap.size 30 #[.int .i64 0, .int .i64 0, .float .f64 0, .string ⟨#[]⟩, .slice none 0 0, .slice none 0 0]) := HR2.out.grown HG23.out (by simp)
  have HG3 : Hid (W.grownBy w3 (some g)) := only_trans HG2.out ⟨HG23.out.os, HG23.out.tape, HG23.out.output, HG23.out.size, fun i hi _ => HG23.out.block i hi (by simp)⟩
  clear hb3 hg3 hz3 HVA HGA HG23
  clear k2 HP2 HR2 HG2
  have p1 : w3.cell? ⟨g, 1, none⟩ = some (.int .i64 ((a + 1 : Nat) : Int)) := HP3.out.cell 1
  have v0 : w3.cell? ⟨w2.heap.size, 0, none⟩ = some (.int .i64 6) := HV3.out.cell 0
  have HR3' := Lib.hid (Reads.grown HPA.out.rd HG3.out (Nat.le_of_lt HLT.out) (fun _ h => by injection h with h; omega))
  have hgz : g < w2.heap.size := Nat.lt_trans HLT.out HZ3.out
  go_wp2_with fail
  refine (HIT.out w2.heap.size w3 HP3.out HR3'.out HV3.out hgz).mono ?_
  rw [HRI.out]
  rintro e w4 ⟨rfl, cs4, hv4, hf4, hb4, hk4⟩
  have HP4 := Lib.hid hb4
  have HV4 := Lib.hid hv4
  have HG4 := Lib.hid (Kept2.one (lo := 0) hk4 HG3.out (Nat.le_of_lt HZ3.out))
  have HR4 : Hid (Blk w4 W.heap.size 30 _) := (hk4.block W.heap.size HR3.out.lt (by have := HLT.out; omega) (by have := HZ3.out; omega)).trans HR3.out
  have HF4 := Lib.hid (hf4.lo_ (lo' := W.heap.size + 1) (Nat.le_trans (Nat.succ_le_of_lt HZ3.out) (Nat.le_of_lt HV3.out.lt)))
  clear hv4 hf4 hb4 hk4 HP3 HV3 HG3 HR3 p1 v0
  have hneq : W.heap.size ≠ w2.heap.size := Nat.ne_of_lt HZ3.out
  have HFE := Lib.hid (HF4.out)
  go_wp2_with (first
    | (refine wpList_load_row rfl 30 (.tmp 6) rfl w2.heap.size rfl 30 _ (0, 0) _ HV4.out Tryz.underlying30 rfl (by first | exact v_info | (simp only [List.size_toArray, (six_of (HFE.out.rd)).1]; exact v_info)) ?_)
    | (refine wpList_storeB rfl 30 (.tmp 4) (.tmp 134) rfl rfl W.heap.size cs4.toArray rfl rfl HR4.out (by first | exact v_info | (simp only [List.size_toArray, (six_of (HFE.out.rd)).1]; exact v_info)) (by first | rfl | (simp only [List.size_toArray, (six_of (HFE.out.rd)).1]; rfl)) (by first | rfl | exact (six_of (HFE.out.rd)).2) ?_; intro w9 hB9 hg9 hz9))
  exact bodyPost_ret (results_cellB (p := 4) rfl _ hB9 _ rfl Tryz.underlying30 rfl (by first | exact v_info | (simp only [List.size_toArray, (six_of (HFE.out.rd)).1]; exact v_info))) rfl ⟨_, rfl, (HFE.out.on (by rw [hz9]; exact Nat.le_refl _) (fun i hi hj => hg9.block i hj (by intro e; injection e with e; omega))).lo_ (Nat.le_succ _), HP4.out.grown hg9 (by have := HLT.out; intro e; injection e with e; omega), only_new_ HG4.out hg9 (Nat.le_refl _)⟩
set_option maxRecDepth 100000 in
set_option maxHeartbeats 4000000 in
theorem c_v_7s (xs : List Int) (A : Option Addr) (N c d g a p : Nat) (W : World) (E : Int) (hE : E = 65 - ((d + 1 : Nat) : Int)) (hP : PenAt W g xs A N c a p) (hm : ¬ 65536 ≤ p) (hka : a + 1 ≤ N) (hkg : xs.getD a 0 = 7) (hs : N < a + 5) :
    Calls Tryz.prog 65 #[.pointer (some ⟨g, 0, none⟩), .int .i64 E] W (DPost W g A N c (.bad (a + 1) 3)) := by
  have hl := hP.len
  have hle : ¬ 64 < E := by omega
  have HLT : Hid (g < W.heap.size) := hP.bk.lt
  have HP0 : Hid (Blk (W.alloc (.cells vz 30)) g 97 (PnC A N c a p)) := hP.bk.alloc _
  have HR0 := Lib.hid (Blk.new W 30 vz)
  have HG0 : Hid (W.grownBy (W.alloc (.cells vz 30)) (some g)) := only_alloc (World.grownBy.refl W _) _
  have HPA := Lib.hid hP
  have HL := Lib.hid hl
  have ha := hP.ha
  have hN := hP.hN
  have hpp := hP.hp
  have HKG := Lib.hid hkg
  clear hkg
  clear hl hP hE
  go_enter Tryz.func65, Tryz.ntmps65
  go_upto_region 1 with fail
  unfold vz at *
  generalize W.alloc (.cells #[.int .i64 0, .int .i64 0, .float .f64 0, .string ⟨#[]⟩, .slice none 0 0, .slice none 0 0] 30) = w0 at *
  have p1 : w0.cell? ⟨g, 1, none⟩ = some (.int .i64 (a : Int)) := HP0.out.cell 1
  have p2 : w0.cell? ⟨g, 2, none⟩ = some (.int .i64 (p : Int)) := HP0.out.cell 2
  have q2 : w0.frozen? ⟨g, 2, none⟩ = false := HP0.out.frozen 2
  go_upto_region 4 with fail
  have HP1 : Hid (Blk (w0.setCell ⟨g, 2, none⟩ (.int .i64 ((p : Int) + 1))) g 97 (PnC A N c a (p + 1))) := by
    have := HP0.out.set_ 2 (.int .i64 ((p : Int) + 1))
    exact this
  have HR1 : Hid (Blk (w0.setCell ⟨g, 2, none⟩ (.int .i64 ((p : Int) + 1))) W.heap.size 30 #[.int .i64 0, .int .i64 0, .float .f64 0, .string ⟨#[]⟩, .slice none 0 0, .slice none 0 0]) := HR0.out.far (by have := HLT.out; simp only; omega) _
  have HG1 : Hid (W.grownBy (w0.setCell ⟨g, 2, none⟩ (.int .i64 ((p : Int) + 1))) (some g)) := only_setCell HG0.out (.inl rfl) _
  generalize w0.setCell ⟨g, 2, none⟩ (.int .i64 ((p : Int) + 1)) = w1 at *
  clear p1 p2 q2 HP0 HR0 HG0
  have p1 : w1.cell? ⟨g, 1, none⟩ = some (.int .i64 (a : Int)) := HP1.out.cell 1
  have p2 : w1.cell? ⟨g, 2, none⟩ = some (.int .i64 ((p : Int) + 1)) := HP1.out.cell 2
  have hpe : ¬ (65536 : Int) < (p : Int) + 1 := by omega
  go_wp2_with fail
  clear p1 p2
  have HR1' := Lib.hid (Reads.grown HPA.out.rd HG1.out (Nat.le_of_lt HLT.out) (fun _ h => by injection h with h; omega))
  refine (c_take g A N c a (p + 1) 1 xs w1 HP1.out HR1'.out hN HPA.out.hc HPA.out.hm hka).mono ?_; rintro e w2 ⟨A2, c2, rfl, hc2, hr2, hb2, hg2⟩
  rw [sub_one (by rw [HL.out]; omega), HKG.out] at hr2
  obtain ⟨b2, o2, hA2, _, _, hk2⟩ := hr2.form (by omega)
  subst hA2
  have k2 : w2.cell? ⟨b2, o2, none⟩ = some (.int .u8 7) := hk2 0 (by omega)
  have HP2 := Lib.hid hb2
  have HG2 := Lib.hid (only_trans HG1.out hg2)
  have HR2 : Hid (Blk w2 W.heap.size 30 #[.int .i64 0, .int .i64 0, .float .f64 0, .string ⟨#[]⟩, .slice none 0 0, .slice none 0 0]) := HR1.out.grown hg2 (by have := HLT.out; intro e; injection e with e; omega)
  have h01 : (0 : Int) < (1 : Int) := by omega
  clear hr2 hk2 hb2 hg2 HP1 HR1 HG1 HR1'
  have HVA := Lib.hid (Blk.new w2 30 #[.int .i64 0, .int .i64 0, .float .f64 0, .string ⟨#[]⟩, .slice none 0 0, .slice none 0 0])
  have HGA : Hid (w2.grownBy (w2.alloc (.cells #[.int .i64 0, .int .i64 0, .float .f64 0, .string ⟨#[]⟩, .slice none 0 0, .slice none 0 0] 30)) none) := only_alloc (World.grownBy.refl w2 none) _
  have HZ3 : Hid (W.heap.size < w2.heap.size) := HR2.out.lt
  go_upto_region 8 with (refine wpList_storeB rfl 30 (.tmp 6) (.tmp 48) rfl rfl w2.heap.size #[.int .i64 7, .int .i64 0, .float .f64 0, .string ⟨#[]⟩, .slice none 0 0, .slice none 0 0] (by first | rfl | simp [Act.eval]) (by first | rfl | simp [Act.eval]) HVA.out v_info rfl rfl ?_; intro w3 hb3 hg3 hz3)
  have HV3 := Lib.hid hb3
  have HG23 : Hid (w2.grownBy w3 none) := ⟨hg3.os, hg3.tape, hg3.output, Nat.le_trans HGA.out.size hg3.size, fun i hi _ => (hg3.block i (Nat.lt_of_lt_of_le hi HGA.out.size) (by intro e; injection e with e; omega)).trans (HGA.out.block i hi (by simp))⟩
  have HP3 : Hid (Blk w3 g 97 (PnC A N c (a + 1) (p + 1))) := HP2.out.grown HG23.out (by simp)
  have HR3 : Hid (Blk w3 W.heap.size 30 #[.int .i64 0, .int .i64 0, .float .f64 0, .string ⟨#[]⟩, .slice none 0 0, .slice none 0 0]) := HR2.out.grown HG23.out (by simp)
  have HG3 : Hid (W.grownBy w3 (some g)) := only_trans HG2.out ⟨HG23.out.os, HG23.out.tape, HG23.out.output, HG23.out.size, fun i hi _ => HG23.out.block i hi (by simp)⟩
  clear hb3 hg3 hz3 HVA HGA HG23
  clear k2 HP2 HR2 HG2
  have p1 : w3.cell? ⟨g, 1, none⟩ = some (.int .i64 ((a + 1 : Nat) : Int)) := HP3.out.cell 1
  have v0 : w3.cell? ⟨w2.heap.size, 0, none⟩ = some (.int .i64 7) := HV3.out.cell 0
  have HR3' := Lib.hid (Reads.grown HPA.out.rd HG3.out (Nat.le_of_lt HLT.out) (fun _ h => by injection h with h; omega))
  go_wp2_with fail
  refine (c_items_bad g w2.heap.size A N c (a + 1) (p + 1) E w3 HP3.out (by omega) hN (by omega)).mono ?_; rintro e w4 ⟨rfl, hg4⟩
  exact ⟨rfl, rfl, only_trans HG3.out hg4⟩
set_option maxRecDepth 100000 in
set_option maxHeartbeats 4000000 in
theorem c_v_7b (xs : List Int) (A : Option Addr) (N c d g a p : Nat) (W : World) (E : Int) (hE : E = 65 - ((d + 1 : Nat) : Int)) (hP : PenAt W g xs A N c a p) (hm : ¬ 65536 ≤ p) (hka : a + 1 ≤ N) (hkg : xs.getD a 0 = 7) (a4 : Nat) (e4 : Int) (hit : ∀ (gv : Nat) (w : World), Blk w g 97 (PnC A N c (a + 1) (p + 1)) → Reads w g 1 A N (u8s xs) → Blk w gv 30 (vkC 7 none 0 0 none 0 0) → g < gv → Calls Tryz.prog 96 #[.pointer (some ⟨g, 0, none⟩), .pointer (some ⟨gv, 0, none⟩), .int .i64 E] w (IPost w g gv A N c (decI (decV xs d) xs 7 (numL (sub xs (a + 1) 4)) (a + 1 + 4) (p + 1) [] []))) (hri : decI (decV xs d) xs 7 (numL (sub xs (a + 1) 4)) (a + 1 + 4) (p + 1) [] [] = .bad a4 e4) :
    Calls Tryz.prog 65 #[.pointer (some ⟨g, 0, none⟩), .int .i64 E] W (DPost W g A N c (.bad a4 e4)) := by
  have hl := hP.len
  have hle : ¬ 64 < E := by omega
  have HLT : Hid (g < W.heap.size) := hP.bk.lt
  have HP0 : Hid (Blk (W.alloc (.cells vz 30)) g 97 (PnC A N c a p)) := hP.bk.alloc _
  have HR0 := Lib.hid (Blk.new W 30 vz)
  have HG0 : Hid (W.grownBy (W.alloc (.cells vz 30)) (some g)) := only_alloc (World.grownBy.refl W _) _
  have HPA := Lib.hid hP
  have HL := Lib.hid hl
  have ha := hP.ha
  have hN := hP.hN
  have hpp := hP.hp
  have HKG := Lib.hid hkg
  have HIT : Hid (∀ (gv : Nat) (w : World), Blk w g 97 (PnC A N c (a + 1) (p + 1)) → Reads w g 1 A N (u8s xs) → Blk w gv 30 (vkC 7 none 0 0 none 0 0) → g < gv → Calls Tryz.prog 96 #[.pointer (some ⟨g, 0, none⟩), .pointer (some ⟨gv, 0, none⟩), .int .i64 E] w (IPost w g gv A N c (decI (decV xs d) xs 7 (numL (sub xs (a + 1) 4)) (a + 1 + 4) (p + 1) [] []))) := hit
  have HRI : Hid (decI (decV xs d) xs 7 (numL (sub xs (a + 1) 4)) (a + 1 + 4) (p + 1) [] [] = .bad a4 e4) := hri
  clear hit hri
  clear hkg
  clear hl hP hE
  go_enter Tryz.func65, Tryz.ntmps65
  go_upto_region 1 with fail
  unfold vz at *
  generalize W.alloc (.cells #[.int .i64 0, .int .i64 0, .float .f64 0, .string ⟨#[]⟩, .slice none 0 0, .slice none 0 0] 30) = w0 at *
  have p1 : w0.cell? ⟨g, 1, none⟩ = some (.int .i64 (a : Int)) := HP0.out.cell 1
  have p2 : w0.cell? ⟨g, 2, none⟩ = some (.int .i64 (p : Int)) := HP0.out.cell 2
  have q2 : w0.frozen? ⟨g, 2, none⟩ = false := HP0.out.frozen 2
  go_upto_region 4 with fail
  have HP1 : Hid (Blk (w0.setCell ⟨g, 2, none⟩ (.int .i64 ((p : Int) + 1))) g 97 (PnC A N c a (p + 1))) := by
    have := HP0.out.set_ 2 (.int .i64 ((p : Int) + 1))
    exact this
  have HR1 : Hid (Blk (w0.setCell ⟨g, 2, none⟩ (.int .i64 ((p : Int) + 1))) W.heap.size 30 #[.int .i64 0, .int .i64 0, .float .f64 0, .string ⟨#[]⟩, .slice none 0 0, .slice none 0 0]) := HR0.out.far (by have := HLT.out; simp only; omega) _
  have HG1 : Hid (W.grownBy (w0.setCell ⟨g, 2, none⟩ (.int .i64 ((p : Int) + 1))) (some g)) := only_setCell HG0.out (.inl rfl) _
  generalize w0.setCell ⟨g, 2, none⟩ (.int .i64 ((p : Int) + 1)) = w1 at *
  clear p1 p2 q2 HP0 HR0 HG0
  have p1 : w1.cell? ⟨g, 1, none⟩ = some (.int .i64 (a : Int)) := HP1.out.cell 1
  have p2 : w1.cell? ⟨g, 2, none⟩ = some (.int .i64 ((p : Int) + 1)) := HP1.out.cell 2
  have hpe : ¬ (65536 : Int) < (p : Int) + 1 := by omega
  go_wp2_with fail
  clear p1 p2
  have HR1' := Lib.hid (Reads.grown HPA.out.rd HG1.out (Nat.le_of_lt HLT.out) (fun _ h => by injection h with h; omega))
  refine (c_take g A N c a (p + 1) 1 xs w1 HP1.out HR1'.out hN HPA.out.hc HPA.out.hm hka).mono ?_; rintro e w2 ⟨A2, c2, rfl, hc2, hr2, hb2, hg2⟩
  rw [sub_one (by rw [HL.out]; omega), HKG.out] at hr2
  obtain ⟨b2, o2, hA2, _, _, hk2⟩ := hr2.form (by omega)
  subst hA2
  have k2 : w2.cell? ⟨b2, o2, none⟩ = some (.int .u8 7) := hk2 0 (by omega)
  have HP2 := Lib.hid hb2
  have HG2 := Lib.hid (only_trans HG1.out hg2)
  have HR2 : Hid (Blk w2 W.heap.size 30 #[.int .i64 0, .int .i64 0, .float .f64 0, .string ⟨#[]⟩, .slice none 0 0, .slice none 0 0]) := HR1.out.grown hg2 (by have := HLT.out; intro e; injection e with e; omega)
  have h01 : (0 : Int) < (1 : Int) := by omega
  clear hr2 hk2 hb2 hg2 HP1 HR1 HG1 HR1'
  have HVA := Lib.hid (Blk.new w2 30 #[.int .i64 0, .int .i64 0, .float .f64 0, .string ⟨#[]⟩, .slice none 0 0, .slice none 0 0])
  have HGA : Hid (w2.grownBy (w2.alloc (.cells #[.int .i64 0, .int .i64 0, .float .f64 0, .string ⟨#[]⟩, .slice none 0 0, .slice none 0 0] 30)) none) := only_alloc (World.grownBy.refl w2 none) _
  have HZ3 : Hid (W.heap.size < w2.heap.size) := HR2.out.lt
  go_upto_region 8 with (refine wpList_storeB rfl 30 (.tmp 6) (.tmp 48) rfl rfl w2.heap.size #[.int .i64 7, .int .i64 0, .float .f64 0, .string ⟨#[]⟩, .slice none 0 0, .slice none 0 0] (by first | rfl | simp [Act.eval]) (by first | rfl | simp [Act.eval]) HVA.out v_info rfl rfl ?_; intro w3 hb3 hg3 hz3)
  have HV3 := Lib.hid hb3
  have HG23 : Hid (w2.grownBy w3 none) := ⟨hg3.os, hg3.tape, hg3.output, Nat.le_trans HGA.out.size hg3.size, fun i hi _ => (hg3.block i (Nat.lt_of_lt_of_le hi HGA.out.size) (by intro e; injection e with e; omega)).trans (HGA.out.block i hi (by simp))⟩
  have HP3 : Hid (Blk w3 g 97 (PnC A N c (a + 1) (p + 1))) := HP2.out.grown HG23.out (by simp)
  have HR3 : Hid (Blk w3 W.heap.size 30 #[.int .i64 0, .int .i64 0, .float .f64 0, .string ⟨#[]⟩, .slice none 0 0, .slice none 0 0]) := HR2.out.grown HG23.out (by simp)
  have HG3 : Hid (W.grownBy w3 (some g)) := only_trans HG2.out ⟨HG23.out.os, HG23.out.tape, HG23.out.output, HG23.out.size, fun i hi _ => HG23.out.block i hi (by simp)⟩
  clear hb3 hg3 hz3 HVA HGA HG23
  clear k2 HP2 HR2 HG2
  have p1 : w3.cell? ⟨g, 1, none⟩ = some (.int .i64 ((a + 1 : Nat) : Int)) := HP3.out.cell 1
  have v0 : w3.cell? ⟨w2.heap.size, 0, none⟩ = some (.int .i64 7) := HV3.out.cell 0
  have HR3' := Lib.hid (Reads.grown HPA.out.rd HG3.out (Nat.le_of_lt HLT.out) (fun _ h => by injection h with h; omega))
  have hgz : g < w2.heap.size := Nat.lt_trans HLT.out HZ3.out
  go_wp2_with fail
  refine (HIT.out w2.heap.size w3 HP3.out HR3'.out HV3.out hgz).mono ?_
  rw [HRI.out]
  rintro e w4 ⟨rfl, hk4⟩
  exact ⟨rfl, rfl, Kept2.one (lo := 0) hk4 HG3.out (Nat.le_of_lt HZ3.out)⟩
set_option maxRecDepth 100000 in
set_option maxHeartbeats 4000000 in
theorem c_v_7 (xs : List Int) (A : Option Addr) (N c d g a p : Nat) (W : World) (E : Int) (hE : E = 65 - ((d + 1 : Nat) : Int)) (hP : PenAt W g xs A N c a p) (hm : ¬ 65536 ≤ p) (hka : a + 1 ≤ N) (hkg : xs.getD a 0 = 7) (v4 : Val) (a4 p4 : Nat) (hit : ∀ (gv : Nat) (w : World), Blk w g 97 (PnC A N c (a + 1) (p + 1)) → Reads w g 1 A N (u8s xs) → Blk w gv 30 (vkC 7 none 0 0 none 0 0) → g < gv → Calls Tryz.prog 96 #[.pointer (some ⟨g, 0, none⟩), .pointer (some ⟨gv, 0, none⟩), .int .i64 E] w (IPost w g gv A N c (decI (decV xs d) xs 7 (numL (sub xs (a + 1) 4)) (a + 1 + 4) (p + 1) [] []))) (hri : decI (decV xs d) xs 7 (numL (sub xs (a + 1) 4)) (a + 1 + 4) (p + 1) [] [] = .ok v4 a4 p4) :
    Calls Tryz.prog 65 #[.pointer (some ⟨g, 0, none⟩), .int .i64 E] W (DPost W g A N c (.ok v4 a4 p4)) := by
  have hl := hP.len
  have hle : ¬ 64 < E := by omega
  have HLT : Hid (g < W.heap.size) := hP.bk.lt
  have HP0 : Hid (Blk (W.alloc (.cells vz 30)) g 97 (PnC A N c a p)) := hP.bk.alloc _
  have HR0 := Lib.hid (Blk.new W 30 vz)
  have HG0 : Hid (W.grownBy (W.alloc (.cells vz 30)) (some g)) := only_alloc (World.grownBy.refl W _) _
  have HPA := Lib.hid hP
  have HL := Lib.hid hl
  have ha := hP.ha
  have hN := hP.hN
  have hpp := hP.hp
  have HKG := Lib.hid hkg
  have HIT : Hid (∀ (gv : Nat) (w : World), Blk w g 97 (PnC A N c (a + 1) (p + 1)) → Reads w g 1 A N (u8s xs) → Blk w gv 30 (vkC 7 none 0 0 none 0 0) → g < gv → Calls Tryz.prog 96 #[.pointer (some ⟨g, 0, none⟩), .pointer (some ⟨gv, 0, none⟩), .int .i64 E] w (IPost w g gv A N c (decI (decV xs d) xs 7 (numL (sub xs (a + 1) 4)) (a + 1 + 4) (p + 1) [] []))) := hit
  have HRI : Hid (decI (decV xs d) xs 7 (numL (sub xs (a + 1) 4)) (a + 1 + 4) (p + 1) [] [] = .ok v4 a4 p4) := hri
  clear hit hri
  clear hkg
  clear hl hP hE
  go_enter Tryz.func65, Tryz.ntmps65
  go_upto_region 1 with fail
  unfold vz at *
  generalize W.alloc (.cells #[.int .i64 0, .int .i64 0, .float .f64 0, .string ⟨#[]⟩, .slice none 0 0, .slice none 0 0] 30) = w0 at *
  have p1 : w0.cell? ⟨g, 1, none⟩ = some (.int .i64 (a : Int)) := HP0.out.cell 1
  have p2 : w0.cell? ⟨g, 2, none⟩ = some (.int .i64 (p : Int)) := HP0.out.cell 2
  have q2 : w0.frozen? ⟨g, 2, none⟩ = false := HP0.out.frozen 2
  go_upto_region 4 with fail
  have HP1 : Hid (Blk (w0.setCell ⟨g, 2, none⟩ (.int .i64 ((p : Int) + 1))) g 97 (PnC A N c a (p + 1))) := by
    have := HP0.out.set_ 2 (.int .i64 ((p : Int) + 1))
    exact this
  have HR1 : Hid (Blk (w0.setCell ⟨g, 2, none⟩ (.int .i64 ((p : Int) + 1))) W.heap.size 30 #[.int .i64 0, .int .i64 0, .float .f64 0, .string ⟨#[]⟩, .slice none 0 0, .slice none 0 0]) := HR0.out.far (by have := HLT.out; simp only; omega) _
  have HG1 : Hid (W.grownBy (w0.setCell ⟨g, 2, none⟩ (.int .i64 ((p : Int) + 1))) (some g)) := only_setCell HG0.out (.inl rfl) _
  generalize w0.setCell ⟨g, 2, none⟩ (.int .i64 ((p : Int) + 1)) = w1 at *
  clear p1 p2 q2 HP0 HR0 HG0
  have p1 : w1.cell? ⟨g, 1, none⟩ = some (.int .i64 (a : Int)) := HP1.out.cell 1
  have p2 : w1.cell? ⟨g, 2, none⟩ = some (.int .i64 ((p : Int) + 1)) := HP1.out.cell 2
  have hpe : ¬ (65536 : Int) < (p : Int) + 1 := by omega
  go_wp2_with fail
  clear p1 p2
  have HR1' := Lib.hid (Reads.grown HPA.out.rd HG1.out (Nat.le_of_lt HLT.out) (fun _ h => by injection h with h; omega))
  refine (c_take g A N c a (p + 1) 1 xs w1 HP1.out HR1'.out hN HPA.out.hc HPA.out.hm hka).mono ?_; rintro e w2 ⟨A2, c2, rfl, hc2, hr2, hb2, hg2⟩
  rw [sub_one (by rw [HL.out]; omega), HKG.out] at hr2
  obtain ⟨b2, o2, hA2, _, _, hk2⟩ := hr2.form (by omega)
  subst hA2
  have k2 : w2.cell? ⟨b2, o2, none⟩ = some (.int .u8 7) := hk2 0 (by omega)
  have HP2 := Lib.hid hb2
  have HG2 := Lib.hid (only_trans HG1.out hg2)
  have HR2 : Hid (Blk w2 W.heap.size 30 #[.int .i64 0, .int .i64 0, .float .f64 0, .string ⟨#[]⟩, .slice none 0 0, .slice none 0 0]) := HR1.out.grown hg2 (by have := HLT.out; intro e; injection e with e; omega)
  have h01 : (0 : Int) < (1 : Int) := by omega
  clear hr2 hk2 hb2 hg2 HP1 HR1 HG1 HR1'
  have HVA := Lib.hid (Blk.new w2 30 #[.int .i64 0, .int .i64 0, .float .f64 0, .string ⟨#[]⟩, .slice none 0 0, .slice none 0 0])
  have HGA : Hid (w2.grownBy (w2.alloc (.cells #[.int .i64 0, .int .i64 0, .float .f64 0, .string ⟨#[]⟩, .slice none 0 0, .slice none 0 0] 30)) none) := only_alloc (World.grownBy.refl w2 none) _
  have HZ3 : Hid (W.heap.size < w2.heap.size) := HR2.out.lt
  go_upto_region 8 with (refine wpList_storeB rfl 30 (.tmp 6) (.tmp 48) rfl rfl w2.heap.size #[.int .i64 7, .int .i64 0, .float .f64 0, .string ⟨#[]⟩, .slice none 0 0, .slice none 0 0] (by first | rfl | simp [Act.eval]) (by first | rfl | simp [Act.eval]) HVA.out v_info rfl rfl ?_; intro w3 hb3 hg3 hz3)
  have HV3 := Lib.hid hb3
  have HG23 : Hid (w2.grownBy w3 none) := ⟨hg3.os, hg3.tape, hg3.output, Nat.le_trans HGA.out.size hg3.size, fun i hi _ => (hg3.block i (Nat.lt_of_lt_of_le hi HGA.out.size) (by intro e; injection e with e; omega)).trans (HGA.out.block i hi (by simp))⟩
  have HP3 : Hid (Blk w3 g 97 (PnC A N c (a + 1) (p + 1))) := HP2.out.grown HG23.out (by simp)
  have HR3 : Hid (Blk w3 W.heap.size 30 #[.int .i64 0, .int .i64 0, .float .f64 0, .string ⟨#[]⟩, .slice none 0 0, .slice none 0 0]) := HR2.out.grown HG23.out (by simp)
  have HG3 : Hid (W.grownBy w3 (some g)) := only_trans HG2.out ⟨HG23.out.os, HG23.out.tape, HG23.out.output, HG23.out.size, fun i hi _ => HG23.out.block i hi (by simp)⟩
  clear hb3 hg3 hz3 HVA HGA HG23
  clear k2 HP2 HR2 HG2
  have p1 : w3.cell? ⟨g, 1, none⟩ = some (.int .i64 ((a + 1 : Nat) : Int)) := HP3.out.cell 1
  have v0 : w3.cell? ⟨w2.heap.size, 0, none⟩ = some (.int .i64 7) := HV3.out.cell 0
  have HR3' := Lib.hid (Reads.grown HPA.out.rd HG3.out (Nat.le_of_lt HLT.out) (fun _ h => by injection h with h; omega))
  have hgz : g < w2.heap.size := Nat.lt_trans HLT.out HZ3.out
  go_wp2_with fail
  refine (HIT.out w2.heap.size w3 HP3.out HR3'.out HV3.out hgz).mono ?_
  rw [HRI.out]
  rintro e w4 ⟨rfl, cs4, hv4, hf4, hb4, hk4⟩
  have HP4 := Lib.hid hb4
  have HV4 := Lib.hid hv4
  have HG4 := Lib.hid (Kept2.one (lo := 0) hk4 HG3.out (Nat.le_of_lt HZ3.out))
  have HR4 : Hid (Blk w4 W.heap.size 30 _) := (hk4.block W.heap.size HR3.out.lt (by have := HLT.out; omega) (by have := HZ3.out; omega)).trans HR3.out
  have HF4 := Lib.hid (hf4.lo_ (lo' := W.heap.size + 1) (Nat.le_trans (Nat.succ_le_of_lt HZ3.out) (Nat.le_of_lt HV3.out.lt)))
  clear hv4 hf4 hb4 hk4 HP3 HV3 HG3 HR3 p1 v0
  have hneq : W.heap.size ≠ w2.heap.size := Nat.ne_of_lt HZ3.out
  have HFE := Lib.hid (HF4.out)
  go_wp2_with (first
    | (refine wpList_load_row rfl 30 (.tmp 6) rfl w2.heap.size rfl 30 _ (0, 0) _ HV4.out Tryz.underlying30 rfl (by first | exact v_info | (simp only [List.size_toArray, (six_of (HFE.out.rd)).1]; exact v_info)) ?_)
    | (refine wpList_storeB rfl 30 (.tmp 4) (.tmp 134) rfl rfl W.heap.size cs4.toArray rfl rfl HR4.out (by first | exact v_info | (simp only [List.size_toArray, (six_of (HFE.out.rd)).1]; exact v_info)) (by first | rfl | (simp only [List.size_toArray, (six_of (HFE.out.rd)).1]; rfl)) (by first | rfl | exact (six_of (HFE.out.rd)).2) ?_; intro w9 hB9 hg9 hz9))
  exact bodyPost_ret (results_cellB (p := 4) rfl _ hB9 _ rfl Tryz.underlying30 rfl (by first | exact v_info | (simp only [List.size_toArray, (six_of (HFE.out.rd)).1]; exact v_info))) rfl ⟨_, rfl, (HFE.out.on (by rw [hz9]; exact Nat.le_refl _) (fun i hi hj => hg9.block i hj (by intro e; injection e with e; omega))).lo_ (Nat.le_succ _), HP4.out.grown hg9 (by have := HLT.out; intro e; injection e with e; omega), only_new_ HG4.out hg9 (Nat.le_refl _)⟩
end Go.Proofs.YtacnoedhpamdmaaGreatDoor
