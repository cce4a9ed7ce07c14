/- Walk: one value read out of bytes by the document ((*quernref23.bytesIn).value). Conditions: as in the items' walk. -/
import Derived.Test.YtacnoedhpamdmaaGreatDoorZm
namespace Go.Proofs.YtacnoedhpamdmaaGreatDoor
open Go.RowKit
set_option linter.unusedVariables false
set_option linter.unusedSimpArgs false
attribute [local go_sem ↓] Go.wp_at_zero Go.wp_at_succ

theorem run_store_flt_ {P : Program} {w : World} {a : Addr} {m : Mode} (k : FloatKind) (f : Nat) : (store a (.float k f) m).run P w = stored P w a (.float k f) m := run_store P w a _ m rfl
attribute [local go_sem] run_store_flt_
theorem sub_one_ {xs : List Int} {a : Nat} (h : a < xs.length) : numL (sub xs a 1) = (xs.getD a 0).toNat := by
  unfold sub
  rw [List.drop_eq_getElem_cons h, List.take_succ_cons, List.take_zero, numL, numL]
  simp [List.getD, List.getElem?_eq_getElem h]
theorem only_newZ {a b c : World} {g x : Nat} (h : a.grownBy b (some g)) (k : b.grownBy c (some x)) (hx : a.heap.size ≤ x) : a.grownBy c (some g) :=
  ⟨k.os.trans h.os, k.tape.trans h.tape, k.output.trans h.output, Nat.le_trans h.size k.size, fun i hi hne => (k.block i (Nat.lt_of_lt_of_le hi h.size) (fun e => by injection e with e; omega)).trans (h.block i hi hne)⟩
/-- The reader and what it reads. -/
structure RinAt (W : World) (g : Nat) (xs : List Int) (A : Option Addr) (N c a p : Nat) : Prop where
  bk : Blk W g 102 (RnC A N c a (p : Int) 0 0)
  rd : Reads W g 1 A N (u8s xs)
  ha : a ≤ N
  hp : p ≤ 65536
  bt : Bts xs
  hN : N ≤ 1048576
  hc : N ≤ c
  hm : c ≤ 9223372036854775807
theorem RinAt.len {W : World} {g : Nat} {xs : List Int} {A : Option Addr} {N c a p : Nat} (h : RinAt W g xs A N c a p) : xs.length = N := by simpa using h.rd.1
set_option maxHeartbeats 1000000 in
theorem c_rfloat_bad (g a : Nat) (A : Option Addr) (N c : Nat) (q pl : Int) (w : World) (hB : Blk w g 102 (RnC A N c a q pl 0)) (ha : a ≤ N) (hN : N ≤ 1048576) (hn : N < a + 8) :
    Calls Tryz.prog 98 #[.pointer (some ⟨g, 0, none⟩)] w fun e w' => e = .returned (.float .f64 (fone 0)) ∧ Blk w' g 102 (RnC A N c a q (a : Int) 3) ∧ w.grownBy w' (some g) := by
  have HW := Lib.hid (c_rword_bad g a 8 A N c q pl w hB ha hN hn (by decide) (by decide))
  have HOF : Hid (∀ W, Calls Tryz.prog 121 #[.int .u64 0] W fun e w' => e = .returned (.float .f64 (fone 0)) ∧ W = w') := fun W => c_rOfZ 0 W
  have c1 : w.cell? ⟨g, 1, none⟩ = some (.int .i64 (a : Int)) := hB.cell 1
  clear hB
  generalize fone 0 = F at *
  go_enter Tryz.func98, Tryz.ntmps98
  go_wp2_with fail
  refine HW.out.mono ?_; rintro e w2 ⟨rfl, hb2, hg2⟩
  have HB2 := Lib.hid hb2
  have HG2 := Lib.hid hg2
  have d4 : w2.cell? ⟨g, 4, none⟩ = some (.int .i64 3) := hb2.cell 4
  clear hb2 hg2 HW c1
  go_wp2_with fail
  refine (HOF.out _).mono ?_; rintro e w3 ⟨rfl, rfl⟩
  go_wp2_with fail
  go_ret
  exact ⟨rfl, HB2.out, HG2.out⟩
theorem textD_rtx {xs : List Int} {k : Int} {a p : Nat} {hd : Bool} (h : hd = true ↔ k = 8) : textD xs k a p = match rtx xs hd (a + 1) with | .bad a4 e4 => .bad a4 e4 | .ok s a' => .ok (.mk k 0 0 s [] []) a' p := by
  unfold textD rtx
  rw [show a + 1 + 4 = a + 5 by omega]
  simp only [h]
  by_cases h1 : xs.length < a + 5
  · simp only [if_pos h1]
  simp only [if_neg h1]
  by_cases h2 : k = 8 ∧ (numL (sub xs (a + 1) 4) < 1 ∨ 64 < numL (sub xs (a + 1) 4))
  · simp only [if_pos h2]
  simp only [if_neg h2]
  by_cases h3 : xs.length < a + 5 + numL (sub xs (a + 1) 4)
  · simp only [if_pos h3]
  simp only [if_neg h3]
set_option maxRecDepth 100000 in
set_option maxHeartbeats 4000000 in
theorem c_ritems_bad (k : Int) (A : Option Addr) (N c g a : Nat) (q D : Int) (w : World) (hk : k = 6 ∨ k = 7) (hB : Blk w g 102 (RnC A N c a q 0 0)) (ha : a ≤ N) (hN : N ≤ 1048576) (hn : N < a + 4) :
    Calls Tryz.prog 100 #[.pointer (some ⟨g, 0, none⟩), .agg (vkC k none 0 0 none 0 0), .int .i64 D] w (RPost w g A N c (.bad a 3)) := by
  have HC : Hid (∀ W, Blk W g 102 (RnC A N c a q 0 0) → _) := fun W h1 => c_rword_bad g a 4 A N c q 0 W h1 ha hN hn (by decide) (by decide)
  have HB := Lib.hid hB
  have hgs : g < w.heap.size := hB.lt
  clear hB
  go_enter Tryz.func100, Tryz.ntmps100
  go_wp2_with fail
  refine (HC.out _ ((HB.out.alloc _).alloc _)).mono ?_
  rintro e w1 ⟨rfl, hb1, hg1⟩
  have HRr : Hid (RowB w w1 g k none 0 0 none 0 0 [] []) := by
    have hv : Blk ((w.alloc (.cells (vkC k none 0 0 none 0 0) 30)).alloc (.cells vz 30)) w.heap.size 30 (vkC k none 0 0 none 0 0) := (Blk.new w 30 _).alloc _
    have hr : Blk ((w.alloc (.cells (vkC k none 0 0 none 0 0) 30)).alloc (.cells vz 30)) (w.heap.size + 1) 30 vz := by
      have := Blk.new (w.alloc (.cells (vkC k none 0 0 none 0 0) 30)) 30 vz
      rw [World.size_alloc] at this
      exact this
    exact ⟨hv.grown hg1 (by intro e; injection e with e; omega), hr.grown hg1 (by intro e; injection e with e; omega), World.ownsRow_nil _ _ _ _, World.ownsRow_nil _ _ _ _, only_trans (only_alloc (only_alloc (World.grownBy.refl w _) _) _) hg1, hgs, by have := hg1.size; simp at this; omega⟩
  have HK := Lib.hid hb1
  clear hb1 hg1 HC HB
  go_wp2_with fail
  go_loopw [8] (fun vi wr => vi = .int .i64 0 ∧ wr = w1) (fun _ _ => 0)
  case atStart => exact ⟨rfl, rfl⟩
  case round =>
    obtain ⟨rfl, rfl⟩ := hrel
    have t0 : ¬ (0 : Int) < 0 := by omega
    go_wp2_with (first
      | (refine wpList_load_row rfl 30 (.tmp 4) rfl w.heap.size rfl 30 _ (0, 0) _ HRr.out.bv Tryz.underlying30 rfl v_info ?_)
      | (refine wpList_storeB rfl 30 (.tmp 6) (.tmp 101) rfl rfl (w.heap.size + 1) (vkC k none 0 0 none 0 0) rfl rfl HRr.out.br v_info rfl rfl ?_; intro w3 hB3 hg3 hz3))
    refine bodyPost_ret (results_cellB (p := 6) rfl _ hB3 _ rfl Tryz.underlying30 rfl v_info) rfl ?_
    exact HRr.out.retB HK.out hg3
set_option maxRecDepth 100000 in
set_option maxHeartbeats 4000000 in
theorem c_rv_e (A : Option Addr) (N c : Nat) : RVE A N c := by
  intro g a q pl e W E he h0 h66 hB
  have HB0 := Lib.hid hB
  have HE := Lib.hid he
  have b1 : (e == 0) = false := by simpa using he
  have b2 : (e != 0) = true := by simpa using he
  clear hB he
  have HLT : Hid (g < W.heap.size) := HB0.out.lt
  have HP0 : Hid (Blk (W.alloc (.cells vz 30)) g 102 (RnC A N c a (q) (pl) (e))) := HB0.out.alloc _
  have HR0 := Lib.hid (Blk.new W 30 vz)
  have HG0 : Hid (W.grownBy (W.alloc (.cells vz 30)) (some g)) := only_alloc (World.grownBy.refl W _) _
  clear HB0
  go_enter Tryz.func67, Tryz.ntmps67
  go_upto_region 1 with fail
  unfold vz at *
  generalize W.alloc (.cells #[.int .i64 0, .int .i64 0, .float .f64 0, .string ⟨#[]⟩, .slice none 0 0, .slice none 0 0] 30) = w0 at *
  have p1 : w0.cell? ⟨g, 1, none⟩ = some (.int .i64 (a : Int)) := HP0.out.cell 1
  have p2 : w0.cell? ⟨g, 2, none⟩ = some (.int .i64 (q)) := HP0.out.cell 2
  have q2 : w0.frozen? ⟨g, 2, none⟩ = false := HP0.out.frozen 2
  go_upto_region 3 with fail
  have HP1 : Hid (Blk (w0.setCell ⟨g, 2, none⟩ (.int .i64 (wrap64 (q + 1)))) g 102 (RnC A N c a (wrap64 (q + 1)) (pl) (e))) := HP0.out.set_ 2 (.int .i64 (wrap64 (q + 1)))
  have HR1 : Hid (Blk (w0.setCell ⟨g, 2, none⟩ (.int .i64 (wrap64 (q + 1)))) W.heap.size 30 #[.int .i64 0, .int .i64 0, .float .f64 0, .string ⟨#[]⟩, .slice none 0 0, .slice none 0 0]) := HR0.out.far (by have := HLT.out; simp only; omega) _
  have HG1 : Hid (W.grownBy (w0.setCell ⟨g, 2, none⟩ (.int .i64 (wrap64 (q + 1)))) (some g)) := only_setCell HG0.out (.inl rfl) _
  generalize w0.setCell ⟨g, 2, none⟩ (.int .i64 (wrap64 (q + 1))) = w1 at *
  clear p1 p2 q2 HP0 HR0 HG0
  have p2 : w1.cell? ⟨g, 2, none⟩ = some (.int .i64 (wrap64 (q + 1))) := HP1.out.cell 2
  have p4 : w1.cell? ⟨g, 4, none⟩ = some (.int .i64 (e)) := HP1.out.cell 4
  have HGA := HG1
  have HRA := HR1
  clear HG1 HR1
  go_wp2_with fail
  refine (c_rword_e g a 1 A N c _ pl e w1 HP1.out HE.out (by decide) (by decide)).mono ?_; rintro e' w2 ⟨rfl, hb2, hg2⟩
  clear p2 p4 HP1
  have HP2 := Lib.hid hb2
  have HG2 := Lib.hid (only_trans HGA.out hg2)
  have HR2 : Hid (Blk w2 W.heap.size 30 #[.int .i64 0, .int .i64 0, .float .f64 0, .string ⟨#[]⟩, .slice none 0 0, .slice none 0 0]) := HRA.out.grown hg2 (by have := HLT.out; intro e; injection e with e; omega)
  clear hb2 hg2
  have HVA := Lib.hid (Blk.new w2 30 #[.int .i64 0, .int .i64 0, .float .f64 0, .string ⟨#[]⟩, .slice none 0 0, .slice none 0 0])
  have HGN : Hid (w2.grownBy (w2.alloc (.cells #[.int .i64 0, .int .i64 0, .float .f64 0, .string ⟨#[]⟩, .slice none 0 0, .slice none 0 0] 30)) none) := only_alloc (World.grownBy.refl w2 none) _
  have HZ3 : Hid (W.heap.size < w2.heap.size) := HR2.out.lt
  go_upto_region 8 with (refine wpList_storeB rfl 30 (.tmp 6) (.tmp 48) rfl rfl w2.heap.size #[.int .i64 (0), .int .i64 0, .float .f64 0, .string ⟨#[]⟩, .slice none 0 0, .slice none 0 0] (by first | rfl | simp [Act.eval]) (by first | rfl | simp [Act.eval]) HVA.out v_info rfl rfl ?_; intro w3 hb3 hg3 hz3)
  have HV3 := Lib.hid hb3
  have HG23 : Hid (w2.grownBy w3 none) := ⟨hg3.os, hg3.tape, hg3.output, Nat.le_trans HGN.out.size hg3.size, fun i hi _ => (hg3.block i (Nat.lt_of_lt_of_le hi HGN.out.size) (by intro e; injection e with e; omega)).trans (HGN.out.block i hi (by simp))⟩
  have HP3 : Hid (Blk w3 g 102 (RnC A N c (a) (wrap64 (q + 1)) (pl) (e))) := HP2.out.grown HG23.out (by simp)
  have HR3 : Hid (Blk w3 W.heap.size 30 #[.int .i64 0, .int .i64 0, .float .f64 0, .string ⟨#[]⟩, .slice none 0 0, .slice none 0 0]) := HR2.out.grown HG23.out (by simp)
  have HG3 : Hid (W.grownBy w3 (some g)) := only_trans HG2.out ⟨HG23.out.os, HG23.out.tape, HG23.out.output, HG23.out.size, fun i hi _ => HG23.out.block i hi (by simp)⟩
  clear hb3 hg3 hz3 HVA HGN HG23 HP2 HR2 HG2
  have p1 : w3.cell? ⟨g, 1, none⟩ = some (.int .i64 ((a : Nat) : Int)) := HP3.out.cell 1
  have p4 : w3.cell? ⟨g, 4, none⟩ = some (.int .i64 (e)) := HP3.out.cell 4
  have v0 : w3.cell? ⟨w2.heap.size, 0, none⟩ = some (.int .i64 (0)) := HV3.out.cell 0
  have hneq : W.heap.size ≠ w2.heap.size := Nat.ne_of_lt HZ3.out
  go_wp2_with (first
    | (refine wpList_load_row rfl 30 (.tmp 6) rfl w2.heap.size rfl 30 _ (0, 0) _ HV3.out Tryz.underlying30 rfl v_info ?_)
    | (refine wpList_storeB rfl 30 (.tmp 4) (.tmp 67) rfl rfl W.heap.size #[.int .i64 (0), .int .i64 (0), .float .f64 (0), .string ⟨#[]⟩, .slice none 0 0, .slice none 0 0] rfl rfl HR3.out v_info rfl rfl ?_; intro w9 hB9 hg9 hz9))
  exact bodyPost_ret (results_cellB (p := 4) rfl _ hB9 _ rfl Tryz.underlying30 rfl v_info) rfl (⟨rfl, ⟨_, HP3.out.grown hg9 (by have := HLT.out; intro e; injection e with e; omega)⟩, only_newZ HG3.out hg9 (Nat.le_refl _)⟩)
set_option maxRecDepth 100000 in
set_option maxHeartbeats 4000000 in
theorem c_rv_deep (xs : List Int) (A : Option Addr) (N c g a p : Nat) (W : World) (E : Int) (hE : E = 65 - 0) (hP : RinAt W g xs A N c a p) :
    Calls Tryz.prog 67 #[.pointer (some ⟨g, 0, none⟩), .int .i64 E] W (RPost W g A N c (.bad a 231)) := by
  have HB0 := Lib.hid hP.bk
  have hl := hP.len
  have HPA := Lib.hid hP
  have HL := Lib.hid hl
  have ha := hP.ha
  have hN := hP.hN
  have hpp := hP.hp
  have hle : 64 < E := by omega
  clear hl hP hE
  have HLT : Hid (g < W.heap.size) := HB0.out.lt
  have HP0 : Hid (Blk (W.alloc (.cells vz 30)) g 102 (RnC A N c a ((p : Int)) (0) (0))) := HB0.out.alloc _
  have HR0 := Lib.hid (Blk.new W 30 vz)
  have HG0 : Hid (W.grownBy (W.alloc (.cells vz 30)) (some g)) := only_alloc (World.grownBy.refl W _) _
  clear HB0
  go_enter Tryz.func67, Tryz.ntmps67
  go_upto_region 1 with fail
  unfold vz at *
  generalize W.alloc (.cells #[.int .i64 0, .int .i64 0, .float .f64 0, .string ⟨#[]⟩, .slice none 0 0, .slice none 0 0] 30) = w0 at *
  have p1 : w0.cell? ⟨g, 1, none⟩ = some (.int .i64 (a : Int)) := HP0.out.cell 1
  have p2 : w0.cell? ⟨g, 2, none⟩ = some (.int .i64 ((p : Int))) := HP0.out.cell 2
  have q2 : w0.frozen? ⟨g, 2, none⟩ = false := HP0.out.frozen 2
  go_upto_region 3 with fail
  have HP1 : Hid (Blk (w0.setCell ⟨g, 2, none⟩ (.int .i64 ((p : Int) + 1))) g 102 (RnC A N c a ((p : Int) + 1) (0) (0))) := HP0.out.set_ 2 (.int .i64 ((p : Int) + 1))
  have HR1 : Hid (Blk (w0.setCell ⟨g, 2, none⟩ (.int .i64 ((p : Int) + 1))) W.heap.size 30 #[.int .i64 0, .int .i64 0, .float .f64 0, .string ⟨#[]⟩, .slice none 0 0, .slice none 0 0]) := HR0.out.far (by have := HLT.out; simp only; omega) _
  have HG1 : Hid (W.grownBy (w0.setCell ⟨g, 2, none⟩ (.int .i64 ((p : Int) + 1))) (some g)) := only_setCell HG0.out (.inl rfl) _
  generalize w0.setCell ⟨g, 2, none⟩ (.int .i64 ((p : Int) + 1)) = w1 at *
  clear p1 p2 q2 HP0 HR0 HG0
  have p2 : w1.cell? ⟨g, 2, none⟩ = some (.int .i64 ((p : Int) + 1)) := HP1.out.cell 2
  have p4 : w1.cell? ⟨g, 4, none⟩ = some (.int .i64 (0)) := HP1.out.cell 4
  go_wp2_with fail
  refine (c_rfail g a A N c _ 0 (a : Int) 231 w1 HP1.out).mono ?_; rintro e' w6 ⟨rfl, hb6, hg6⟩
  have HP6 := Lib.hid hb6
  have HGA := Lib.hid (only_trans HG1.out hg6)
  have HRA := Lib.hid (HR1.out.grown hg6 (by have := HLT.out; intro e; injection e with e; omega))
  have p4 : w6.cell? ⟨g, 4, none⟩ = some (.int .i64 231) := HP6.out.cell 4
  clear hb6 hg6 HP1 HG1 HR1 p2
  go_wp2_with fail
  refine (c_rword_e g a 1 A N c _ _ 231 w6 HP6.out (by decide) (by decide) (by decide)).mono ?_; rintro e' w2 ⟨rfl, hb2, hg2⟩
  clear p4 HP6
  have HP2 := Lib.hid hb2
  have HG2 := Lib.hid (only_trans HGA.out hg2)
  have HR2 : Hid (Blk w2 W.heap.size 30 #[.int .i64 0, .int .i64 0, .float .f64 0, .string ⟨#[]⟩, .slice none 0 0, .slice none 0 0]) := HRA.out.grown hg2 (by have := HLT.out; intro e; injection e with e; omega)
  clear hb2 hg2
  have HVA := Lib.hid (Blk.new w2 30 #[.int .i64 0, .int .i64 0, .float .f64 0, .string ⟨#[]⟩, .slice none 0 0, .slice none 0 0])
  have HGN : Hid (w2.grownBy (w2.alloc (.cells #[.int .i64 0, .int .i64 0, .float .f64 0, .string ⟨#[]⟩, .slice none 0 0, .slice none 0 0] 30)) none) := only_alloc (World.grownBy.refl w2 none) _
  have HZ3 : Hid (W.heap.size < w2.heap.size) := HR2.out.lt
  go_upto_region 8 with (refine wpList_storeB rfl 30 (.tmp 6) (.tmp 48) rfl rfl w2.heap.size #[.int .i64 (0), .int .i64 0, .float .f64 0, .string ⟨#[]⟩, .slice none 0 0, .slice none 0 0] (by first | rfl | simp [Act.eval]) (by first | rfl | simp [Act.eval]) HVA.out v_info rfl rfl ?_; intro w3 hb3 hg3 hz3)
  have HV3 := Lib.hid hb3
  have HG23 : Hid (w2.grownBy w3 none) := ⟨hg3.os, hg3.tape, hg3.output, Nat.le_trans HGN.out.size hg3.size, fun i hi _ => (hg3.block i (Nat.lt_of_lt_of_le hi HGN.out.size) (by intro e; injection e with e; omega)).trans (HGN.out.block i hi (by simp))⟩
  have HP3 : Hid (Blk w3 g 102 (RnC A N c (a) ((p : Int) + 1) ((a : Int)) (231))) := HP2.out.grown HG23.out (by simp)
  have HR3 : Hid (Blk w3 W.heap.size 30 #[.int .i64 0, .int .i64 0, .float .f64 0, .string ⟨#[]⟩, .slice none 0 0, .slice none 0 0]) := HR2.out.grown HG23.out (by simp)
  have HG3 : Hid (W.grownBy w3 (some g)) := only_trans HG2.out ⟨HG23.out.os, HG23.out.tape, HG23.out.output, HG23.out.size, fun i hi _ => HG23.out.block i hi (by simp)⟩
  clear hb3 hg3 hz3 HVA HGN HG23 HP2 HR2 HG2
  have p1 : w3.cell? ⟨g, 1, none⟩ = some (.int .i64 ((a : Nat) : Int)) := HP3.out.cell 1
  have p4 : w3.cell? ⟨g, 4, none⟩ = some (.int .i64 (231)) := HP3.out.cell 4
  have v0 : w3.cell? ⟨w2.heap.size, 0, none⟩ = some (.int .i64 (0)) := HV3.out.cell 0
  have hneq : W.heap.size ≠ w2.heap.size := Nat.ne_of_lt HZ3.out
  go_wp2_with (first
    | (refine wpList_load_row rfl 30 (.tmp 6) rfl w2.heap.size rfl 30 _ (0, 0) _ HV3.out Tryz.underlying30 rfl v_info ?_)
    | (refine wpList_storeB rfl 30 (.tmp 4) (.tmp 67) rfl rfl W.heap.size #[.int .i64 (0), .int .i64 (0), .float .f64 (0), .string ⟨#[]⟩, .slice none 0 0, .slice none 0 0] rfl rfl HR3.out v_info rfl rfl ?_; intro w9 hB9 hg9 hz9))
  exact bodyPost_ret (results_cellB (p := 4) rfl _ hB9 _ rfl Tryz.underlying30 rfl v_info) rfl (⟨⟨_, _, _, rfl, rfl, rfl, HP3.out.grown hg9 (by have := HLT.out; intro e; injection e with e; omega)⟩, only_newZ HG3.out hg9 (Nat.le_refl _)⟩)
set_option maxRecDepth 100000 in
set_option maxHeartbeats 4000000 in
theorem c_rv_many (xs : List Int) (A : Option Addr) (N c d g a p : Nat) (W : World) (E : Int) (hE : E = 65 - ((d + 1 : Nat) : Int)) (hP : RinAt W g xs A N c a p) (hm : 65536 ≤ p) :
    Calls Tryz.prog 67 #[.pointer (some ⟨g, 0, none⟩), .int .i64 E] W (RPost W g A N c (.bad a 2)) := by
  have HB0 := Lib.hid hP.bk
  have hl := hP.len
  have HPA := Lib.hid hP
  have HL := Lib.hid hl
  have ha := hP.ha
  have hN := hP.hN
  have hpp := hP.hp
  have hle : ¬ 64 < E := by omega
  clear hl hP hE
  have HLT : Hid (g < W.heap.size) := HB0.out.lt
  have HP0 : Hid (Blk (W.alloc (.cells vz 30)) g 102 (RnC A N c a ((p : Int)) (0) (0))) := HB0.out.alloc _
  have HR0 := Lib.hid (Blk.new W 30 vz)
  have HG0 : Hid (W.grownBy (W.alloc (.cells vz 30)) (some g)) := only_alloc (World.grownBy.refl W _) _
  clear HB0
  go_enter Tryz.func67, Tryz.ntmps67
  go_upto_region 1 with fail
  unfold vz at *
  generalize W.alloc (.cells #[.int .i64 0, .int .i64 0, .float .f64 0, .string ⟨#[]⟩, .slice none 0 0, .slice none 0 0] 30) = w0 at *
  have p1 : w0.cell? ⟨g, 1, none⟩ = some (.int .i64 (a : Int)) := HP0.out.cell 1
  have p2 : w0.cell? ⟨g, 2, none⟩ = some (.int .i64 ((p : Int))) := HP0.out.cell 2
  have q2 : w0.frozen? ⟨g, 2, none⟩ = false := HP0.out.frozen 2
  go_upto_region 3 with fail
  have HP1 : Hid (Blk (w0.setCell ⟨g, 2, none⟩ (.int .i64 ((p : Int) + 1))) g 102 (RnC A N c a ((p : Int) + 1) (0) (0))) := HP0.out.set_ 2 (.int .i64 ((p : Int) + 1))
  have HR1 : Hid (Blk (w0.setCell ⟨g, 2, none⟩ (.int .i64 ((p : Int) + 1))) W.heap.size 30 #[.int .i64 0, .int .i64 0, .float .f64 0, .string ⟨#[]⟩, .slice none 0 0, .slice none 0 0]) := HR0.out.far (by have := HLT.out; simp only; omega) _
  have HG1 : Hid (W.grownBy (w0.setCell ⟨g, 2, none⟩ (.int .i64 ((p : Int) + 1))) (some g)) := only_setCell HG0.out (.inl rfl) _
  generalize w0.setCell ⟨g, 2, none⟩ (.int .i64 ((p : Int) + 1)) = w1 at *
  clear p1 p2 q2 HP0 HR0 HG0
  have p2 : w1.cell? ⟨g, 2, none⟩ = some (.int .i64 ((p : Int) + 1)) := HP1.out.cell 2
  have p4 : w1.cell? ⟨g, 4, none⟩ = some (.int .i64 (0)) := HP1.out.cell 4
  have hpe : (65536 : Int) < (p : Int) + 1 := by omega
  go_wp2_with fail
  refine (c_rfail g a A N c _ 0 (a : Int) 2 w1 HP1.out).mono ?_; rintro e' w6 ⟨rfl, hb6, hg6⟩
  have HP6 := Lib.hid hb6
  have HGA := Lib.hid (only_trans HG1.out hg6)
  have HRA := Lib.hid (HR1.out.grown hg6 (by have := HLT.out; intro e; injection e with e; omega))
  have p4 : w6.cell? ⟨g, 4, none⟩ = some (.int .i64 2) := HP6.out.cell 4
  clear hb6 hg6 HP1 HG1 HR1 p2
  go_wp2_with fail
  refine (c_rword_e g a 1 A N c _ _ 2 w6 HP6.out (by decide) (by decide) (by decide)).mono ?_; rintro e' w2 ⟨rfl, hb2, hg2⟩
  clear p4 HP6
  have HP2 := Lib.hid hb2
  have HG2 := Lib.hid (only_trans HGA.out hg2)
  have HR2 : Hid (Blk w2 W.heap.size 30 #[.int .i64 0, .int .i64 0, .float .f64 0, .string ⟨#[]⟩, .slice none 0 0, .slice none 0 0]) := HRA.out.grown hg2 (by have := HLT.out; intro e; injection e with e; omega)
  clear hb2 hg2
  have HVA := Lib.hid (Blk.new w2 30 #[.int .i64 0, .int .i64 0, .float .f64 0, .string ⟨#[]⟩, .slice none 0 0, .slice none 0 0])
  have HGN : Hid (w2.grownBy (w2.alloc (.cells #[.int .i64 0, .int .i64 0, .float .f64 0, .string ⟨#[]⟩, .slice none 0 0, .slice none 0 0] 30)) none) := only_alloc (World.grownBy.refl w2 none) _
  have HZ3 : Hid (W.heap.size < w2.heap.size) := HR2.out.lt
  go_upto_region 8 with (refine wpList_storeB rfl 30 (.tmp 6) (.tmp 48) rfl rfl w2.heap.size #[.int .i64 (0), .int .i64 0, .float .f64 0, .string ⟨#[]⟩, .slice none 0 0, .slice none 0 0] (by first | rfl | simp [Act.eval]) (by first | rfl | simp [Act.eval]) HVA.out v_info rfl rfl ?_; intro w3 hb3 hg3 hz3)
  have HV3 := Lib.hid hb3
  have HG23 : Hid (w2.grownBy w3 none) := ⟨hg3.os, hg3.tape, hg3.output, Nat.le_trans HGN.out.size hg3.size, fun i hi _ => (hg3.block i (Nat.lt_of_lt_of_le hi HGN.out.size) (by intro e; injection e with e; omega)).trans (HGN.out.block i hi (by simp))⟩
  have HP3 : Hid (Blk w3 g 102 (RnC A N c (a) ((p : Int) + 1) ((a : Int)) (2))) := HP2.out.grown HG23.out (by simp)
  have HR3 : Hid (Blk w3 W.heap.size 30 #[.int .i64 0, .int .i64 0, .float .f64 0, .string ⟨#[]⟩, .slice none 0 0, .slice none 0 0]) := HR2.out.grown HG23.out (by simp)
  have HG3 : Hid (W.grownBy w3 (some g)) := only_trans HG2.out ⟨HG23.out.os, HG23.out.tape, HG23.out.output, HG23.out.size, fun i hi _ => HG23.out.block i hi (by simp)⟩
  clear hb3 hg3 hz3 HVA HGN HG23 HP2 HR2 HG2
  have p1 : w3.cell? ⟨g, 1, none⟩ = some (.int .i64 ((a : Nat) : Int)) := HP3.out.cell 1
  have p4 : w3.cell? ⟨g, 4, none⟩ = some (.int .i64 (2)) := HP3.out.cell 4
  have v0 : w3.cell? ⟨w2.heap.size, 0, none⟩ = some (.int .i64 (0)) := HV3.out.cell 0
  have hneq : W.heap.size ≠ w2.heap.size := Nat.ne_of_lt HZ3.out
  go_wp2_with (first
    | (refine wpList_load_row rfl 30 (.tmp 6) rfl w2.heap.size rfl 30 _ (0, 0) _ HV3.out Tryz.underlying30 rfl v_info ?_)
    | (refine wpList_storeB rfl 30 (.tmp 4) (.tmp 67) rfl rfl W.heap.size #[.int .i64 (0), .int .i64 (0), .float .f64 (0), .string ⟨#[]⟩, .slice none 0 0, .slice none 0 0] rfl rfl HR3.out v_info rfl rfl ?_; intro w9 hB9 hg9 hz9))
  exact bodyPost_ret (results_cellB (p := 4) rfl _ hB9 _ rfl Tryz.underlying30 rfl v_info) rfl (⟨⟨_, _, _, rfl, rfl, rfl, HP3.out.grown hg9 (by have := HLT.out; intro e; injection e with e; omega)⟩, only_newZ HG3.out hg9 (Nat.le_refl _)⟩)
set_option maxRecDepth 100000 in
set_option maxHeartbeats 4000000 in
theorem c_rv_end (xs : List Int) (A : Option Addr) (N c d g a p : Nat) (W : World) (E : Int) (hE : E = 65 - ((d + 1 : Nat) : Int)) (hP : RinAt W g xs A N c a p) (hm : ¬ 65536 ≤ p) (hka : N < a + 1) :
    Calls Tryz.prog 67 #[.pointer (some ⟨g, 0, none⟩), .int .i64 E] W (RPost W g A N c (.bad a 3)) := by
  have HB0 := Lib.hid hP.bk
  have hl := hP.len
  have HPA := Lib.hid hP
  have HL := Lib.hid hl
  have ha := hP.ha
  have hN := hP.hN
  have hpp := hP.hp
  have hle : ¬ 64 < E := by omega
  clear hl hP hE
  have HLT : Hid (g < W.heap.size) := HB0.out.lt
  have HP0 : Hid (Blk (W.alloc (.cells vz 30)) g 102 (RnC A N c a ((p : Int)) (0) (0))) := HB0.out.alloc _
  have HR0 := Lib.hid (Blk.new W 30 vz)
  have HG0 : Hid (W.grownBy (W.alloc (.cells vz 30)) (some g)) := only_alloc (World.grownBy.refl W _) _
  clear HB0
  go_enter Tryz.func67, Tryz.ntmps67
  go_upto_region 1 with fail
  unfold vz at *
  generalize W.alloc (.cells #[.int .i64 0, .int .i64 0, .float .f64 0, .string ⟨#[]⟩, .slice none 0 0, .slice none 0 0] 30) = w0 at *
  have p1 : w0.cell? ⟨g, 1, none⟩ = some (.int .i64 (a : Int)) := HP0.out.cell 1
  have p2 : w0.cell? ⟨g, 2, none⟩ = some (.int .i64 ((p : Int))) := HP0.out.cell 2
  have q2 : w0.frozen? ⟨g, 2, none⟩ = false := HP0.out.frozen 2
  go_upto_region 3 with fail
  have HP1 : Hid (Blk (w0.setCell ⟨g, 2, none⟩ (.int .i64 ((p : Int) + 1))) g 102 (RnC A N c a ((p : Int) + 1) (0) (0))) := HP0.out.set_ 2 (.int .i64 ((p : Int) + 1))
  have HR1 : Hid (Blk (w0.setCell ⟨g, 2, none⟩ (.int .i64 ((p : Int) + 1))) W.heap.size 30 #[.int .i64 0, .int .i64 0, .float .f64 0, .string ⟨#[]⟩, .slice none 0 0, .slice none 0 0]) := HR0.out.far (by have := HLT.out; simp only; omega) _
  have HG1 : Hid (W.grownBy (w0.setCell ⟨g, 2, none⟩ (.int .i64 ((p : Int) + 1))) (some g)) := only_setCell HG0.out (.inl rfl) _
  generalize w0.setCell ⟨g, 2, none⟩ (.int .i64 ((p : Int) + 1)) = w1 at *
  clear p1 p2 q2 HP0 HR0 HG0
  have p2 : w1.cell? ⟨g, 2, none⟩ = some (.int .i64 ((p : Int) + 1)) := HP1.out.cell 2
  have p4 : w1.cell? ⟨g, 4, none⟩ = some (.int .i64 (0)) := HP1.out.cell 4
  have hpe : ¬ (65536 : Int) < (p : Int) + 1 := by omega
  go_wp2_with fail
  refine (c_rword_bad g a 1 A N c _ 0 w1 HP1.out ha hN hka (by decide) (by decide)).mono ?_; rintro e' w2 ⟨rfl, hb2, hg2⟩
  clear p2 p4 HP1
  have HGA := HG1
  have HRA := HR1
  clear HG1 HR1
  have HP2 := Lib.hid hb2
  have HG2 := Lib.hid (only_trans HGA.out hg2)
  have HR2 : Hid (Blk w2 W.heap.size 30 #[.int .i64 0, .int .i64 0, .float .f64 0, .string ⟨#[]⟩, .slice none 0 0, .slice none 0 0]) := HRA.out.grown hg2 (by have := HLT.out; intro e; injection e with e; omega)
  clear hb2 hg2
  have HVA := Lib.hid (Blk.new w2 30 #[.int .i64 0, .int .i64 0, .float .f64 0, .string ⟨#[]⟩, .slice none 0 0, .slice none 0 0])
  have HGN : Hid (w2.grownBy (w2.alloc (.cells #[.int .i64 0, .int .i64 0, .float .f64 0, .string ⟨#[]⟩, .slice none 0 0, .slice none 0 0] 30)) none) := only_alloc (World.grownBy.refl w2 none) _
  have HZ3 : Hid (W.heap.size < w2.heap.size) := HR2.out.lt
  go_upto_region 8 with (refine wpList_storeB rfl 30 (.tmp 6) (.tmp 48) rfl rfl w2.heap.size #[.int .i64 (0), .int .i64 0, .float .f64 0, .string ⟨#[]⟩, .slice none 0 0, .slice none 0 0] (by first | rfl | simp [Act.eval]) (by first | rfl | simp [Act.eval]) HVA.out v_info rfl rfl ?_; intro w3 hb3 hg3 hz3)
  have HV3 := Lib.hid hb3
  have HG23 : Hid (w2.grownBy w3 none) := ⟨hg3.os, hg3.tape, hg3.output, Nat.le_trans HGN.out.size hg3.size, fun i hi _ => (hg3.block i (Nat.lt_of_lt_of_le hi HGN.out.size) (by intro e; injection e with e; omega)).trans (HGN.out.block i hi (by simp))⟩
  have HP3 : Hid (Blk w3 g 102 (RnC A N c (a) ((p : Int) + 1) ((a : Int)) (3))) := HP2.out.grown HG23.out (by simp)
  have HR3 : Hid (Blk w3 W.heap.size 30 #[.int .i64 0, .int .i64 0, .float .f64 0, .string ⟨#[]⟩, .slice none 0 0, .slice none 0 0]) := HR2.out.grown HG23.out (by simp)
  have HG3 : Hid (W.grownBy w3 (some g)) := only_trans HG2.out ⟨HG23.out.os, HG23.out.tape, HG23.out.output, HG23.out.size, fun i hi _ => HG23.out.block i hi (by simp)⟩
  clear hb3 hg3 hz3 HVA HGN HG23 HP2 HR2 HG2
  have p1 : w3.cell? ⟨g, 1, none⟩ = some (.int .i64 ((a : Nat) : Int)) := HP3.out.cell 1
  have p4 : w3.cell? ⟨g, 4, none⟩ = some (.int .i64 (3)) := HP3.out.cell 4
  have v0 : w3.cell? ⟨w2.heap.size, 0, none⟩ = some (.int .i64 (0)) := HV3.out.cell 0
  have hneq : W.heap.size ≠ w2.heap.size := Nat.ne_of_lt HZ3.out
  go_wp2_with (first
    | (refine wpList_load_row rfl 30 (.tmp 6) rfl w2.heap.size rfl 30 _ (0, 0) _ HV3.out Tryz.underlying30 rfl v_info ?_)
    | (refine wpList_storeB rfl 30 (.tmp 4) (.tmp 67) rfl rfl W.heap.size #[.int .i64 (0), .int .i64 (0), .float .f64 (0), .string ⟨#[]⟩, .slice none 0 0, .slice none 0 0] rfl rfl HR3.out v_info rfl rfl ?_; intro w9 hB9 hg9 hz9))
  exact bodyPost_ret (results_cellB (p := 4) rfl _ hB9 _ rfl Tryz.underlying30 rfl v_info) rfl (⟨⟨_, _, _, rfl, rfl, rfl, HP3.out.grown hg9 (by have := HLT.out; intro e; injection e with e; omega)⟩, only_newZ HG3.out hg9 (Nat.le_refl _)⟩)
set_option maxRecDepth 100000 in
set_option maxHeartbeats 4000000 in
theorem c_rv_d (xs : List Int) (A : Option Addr) (N c d g a p : Nat) (W : World) (E : Int) (hE : E = 65 - ((d + 1 : Nat) : Int)) (hP : RinAt W g xs A N c a p) (hm : ¬ 65536 ≤ p) (hka : a + 1 ≤ N) (k : Int) (hk8 : 8 < k) (hk9 : k < 256) (hkg : xs.getD a 0 = k) :
    Calls Tryz.prog 67 #[.pointer (some ⟨g, 0, none⟩), .int .i64 E] W (RPost W g A N c (.bad a 4)) := by
  have HB0 := Lib.hid hP.bk
  have hl := hP.len
  have HPA := Lib.hid hP
  have HL := Lib.hid hl
  have ha := hP.ha
  have hN := hP.hN
  have hpp := hP.hp
  have hle : ¬ 64 < E := by omega
  have HK1 : Hid (((numL (sub xs a 1) : Nat) : Int) = k) := by show _ = _; rw [sub_one_ (by omega), hkg]; omega
  clear hkg
  clear hl hP hE
  have HLT : Hid (g < W.heap.size) := HB0.out.lt
  have HP0 : Hid (Blk (W.alloc (.cells vz 30)) g 102 (RnC A N c a ((p : Int)) (0) (0))) := HB0.out.alloc _
  have HR0 := Lib.hid (Blk.new W 30 vz)
  have HG0 : Hid (W.grownBy (W.alloc (.cells vz 30)) (some g)) := only_alloc (World.grownBy.refl W _) _
  clear HB0
  go_enter Tryz.func67, Tryz.ntmps67
  go_upto_region 1 with fail
  unfold vz at *
  generalize W.alloc (.cells #[.int .i64 0, .int .i64 0, .float .f64 0, .string ⟨#[]⟩, .slice none 0 0, .slice none 0 0] 30) = w0 at *
  have p1 : w0.cell? ⟨g, 1, none⟩ = some (.int .i64 (a : Int)) := HP0.out.cell 1
  have p2 : w0.cell? ⟨g, 2, none⟩ = some (.int .i64 ((p : Int))) := HP0.out.cell 2
  have q2 : w0.frozen? ⟨g, 2, none⟩ = false := HP0.out.frozen 2
  go_upto_region 3 with fail
  have HP1 : Hid (Blk (w0.setCell ⟨g, 2, none⟩ (.int .i64 ((p : Int) + 1))) g 102 (RnC A N c a ((p : Int) + 1) (0) (0))) := HP0.out.set_ 2 (.int .i64 ((p : Int) + 1))
  have HR1 : Hid (Blk (w0.setCell ⟨g, 2, none⟩ (.int .i64 ((p : Int) + 1))) W.heap.size 30 #[.int .i64 0, .int .i64 0, .float .f64 0, .string ⟨#[]⟩, .slice none 0 0, .slice none 0 0]) := HR0.out.far (by have := HLT.out; simp only; omega) _
  have HG1 : Hid (W.grownBy (w0.setCell ⟨g, 2, none⟩ (.int .i64 ((p : Int) + 1))) (some g)) := only_setCell HG0.out (.inl rfl) _
  generalize w0.setCell ⟨g, 2, none⟩ (.int .i64 ((p : Int) + 1)) = w1 at *
  clear p1 p2 q2 HP0 HR0 HG0
  have p2 : w1.cell? ⟨g, 2, none⟩ = some (.int .i64 ((p : Int) + 1)) := HP1.out.cell 2
  have p4 : w1.cell? ⟨g, 4, none⟩ = some (.int .i64 (0)) := HP1.out.cell 4
  have hpe : ¬ (65536 : Int) < (p : Int) + 1 := by omega
  go_wp2_with fail
  have HR1' := Lib.hid (Reads.grown HPA.out.rd HG1.out (Nat.le_of_lt HLT.out) (fun _ h => by injection h with h; omega))
  refine (c_rword g a 1 A N c ((p : Int) + 1) 0 xs w1 HP1.out HR1'.out HPA.out.bt hN HPA.out.hc HPA.out.hm hka (by decide)).mono ?_; rintro e' w2 ⟨rfl, hb2, hg2⟩
  rw [HK1.out]
  clear p2 p4 HP1 HR1'
  have HGA := HG1
  have HRA := HR1
  clear HG1 HR1
  have HP2 := Lib.hid hb2
  have HG2 := Lib.hid (only_trans HGA.out hg2)
  have HR2 : Hid (Blk w2 W.heap.size 30 #[.int .i64 0, .int .i64 0, .float .f64 0, .string ⟨#[]⟩, .slice none 0 0, .slice none 0 0]) := HRA.out.grown hg2 (by have := HLT.out; intro e; injection e with e; omega)
  clear hb2 hg2
  have HVA := Lib.hid (Blk.new w2 30 #[.int .i64 0, .int .i64 0, .float .f64 0, .string ⟨#[]⟩, .slice none 0 0, .slice none 0 0])
  have HGN : Hid (w2.grownBy (w2.alloc (.cells #[.int .i64 0, .int .i64 0, .float .f64 0, .string ⟨#[]⟩, .slice none 0 0, .slice none 0 0] 30)) none) := only_alloc (World.grownBy.refl w2 none) _
  have HZ3 : Hid (W.heap.size < w2.heap.size) := HR2.out.lt
  go_upto_region 8 with (refine wpList_storeB rfl 30 (.tmp 6) (.tmp 48) rfl rfl w2.heap.size #[.int .i64 (k), .int .i64 0, .float .f64 0, .string ⟨#[]⟩, .slice none 0 0, .slice none 0 0] (by first | rfl | simp [Act.eval]) (by first | rfl | simp [Act.eval]) HVA.out v_info rfl rfl ?_; intro w3 hb3 hg3 hz3)
  have HV3 := Lib.hid hb3
  have HG23 : Hid (w2.grownBy w3 none) := ⟨hg3.os, hg3.tape, hg3.output, Nat.le_trans HGN.out.size hg3.size, fun i hi _ => (hg3.block i (Nat.lt_of_lt_of_le hi HGN.out.size) (by intro e; injection e with e; omega)).trans (HGN.out.block i hi (by simp))⟩
  have HP3 : Hid (Blk w3 g 102 (RnC A N c (a + 1) ((p : Int) + 1) (0) (0))) := HP2.out.grown HG23.out (by simp)
  have HR3 : Hid (Blk w3 W.heap.size 30 #[.int .i64 0, .int .i64 0, .float .f64 0, .string ⟨#[]⟩, .slice none 0 0, .slice none 0 0]) := HR2.out.grown HG23.out (by simp)
  have HG3 : Hid (W.grownBy w3 (some g)) := only_trans HG2.out ⟨HG23.out.os, HG23.out.tape, HG23.out.output, HG23.out.size, fun i hi _ => HG23.out.block i hi (by simp)⟩
  clear hb3 hg3 hz3 HVA HGN HG23 HP2 HR2 HG2
  have p1 : w3.cell? ⟨g, 1, none⟩ = some (.int .i64 ((a + 1 : Nat) : Int)) := HP3.out.cell 1
  have p4 : w3.cell? ⟨g, 4, none⟩ = some (.int .i64 (0)) := HP3.out.cell 4
  have v0 : w3.cell? ⟨w2.heap.size, 0, none⟩ = some (.int .i64 (k)) := HV3.out.cell 0
  have HR3' := Lib.hid (Reads.grown HPA.out.rd HG3.out (Nat.le_of_lt HLT.out) (fun _ h => by injection h with h; omega))
  go_wp2_with fail
  refine (c_rfail g (a + 1) A N c _ 0 (a : Int) 4 w3 HP3.out).mono ?_; rintro e' w4 ⟨rfl, hb4, hg4⟩
  have HP4 := Lib.hid hb4
  have HG4 := Lib.hid (only_trans HG3.out hg4)
  have HR4 := Lib.hid (HR3.out.grown hg4 (by have := HLT.out; intro e; injection e with e; omega))
  have HV4 := Lib.hid (HV3.out.grown hg4 (by have := HLT.out; have := HZ3.out; intro e; injection e with e; omega))
  have p4 : w4.cell? ⟨g, 4, none⟩ = some (.int .i64 4) := HP4.out.cell 4
  clear hb4 hg4 p1 HP3 HG3 HR3 HV3 v0
  have hneq : W.heap.size ≠ w2.heap.size := Nat.ne_of_lt HZ3.out
  go_wp2_with (first
    | (refine wpList_load_row rfl 30 (.tmp 6) rfl w2.heap.size rfl 30 _ (0, 0) _ HV4.out Tryz.underlying30 rfl v_info ?_)
    | (refine wpList_storeB rfl 30 (.tmp 4) (.tmp 67) rfl rfl W.heap.size #[.int .i64 (k), .int .i64 (0), .float .f64 (0), .string ⟨#[]⟩, .slice none 0 0, .slice none 0 0] rfl rfl HR4.out v_info rfl rfl ?_; intro w9 hB9 hg9 hz9))
  exact bodyPost_ret (results_cellB (p := 4) rfl _ hB9 _ rfl Tryz.underlying30 rfl v_info) rfl (⟨⟨_, _, _, rfl, rfl, rfl, HP4.out.grown hg9 (by have := HLT.out; intro e; injection e with e; omega)⟩, only_newZ HG4.out hg9 (Nat.le_refl _)⟩)
set_option maxRecDepth 100000 in
set_option maxHeartbeats 4000000 in
theorem c_rv_0 (xs : List Int) (A : Option Addr) (N c d g a p : Nat) (W : World) (E : Int) (hE : E = 65 - ((d + 1 : Nat) : Int)) (hP : RinAt W g xs A N c a p) (hm : ¬ 65536 ≤ p) (hka : a + 1 ≤ N) (hkg : xs.getD a 0 = 0) :
    Calls Tryz.prog 67 #[.pointer (some ⟨g, 0, none⟩), .int .i64 E] W (RPost W g A N c (.ok (.mk 0 0 0 ⟨#[]⟩ [] []) (a + 1) (p + 1))) := by
  have HB0 := Lib.hid hP.bk
  have hl := hP.len
  have HPA := Lib.hid hP
  have HL := Lib.hid hl
  have ha := hP.ha
  have hN := hP.hN
  have hpp := hP.hp
  have hle : ¬ 64 < E := by omega
  have HK1 : Hid (((numL (sub xs a 1) : Nat) : Int) = 0) := by show _ = _; rw [sub_one_ (by omega), hkg]; rfl
  clear hkg
  clear hl hP hE
  have HLT : Hid (g < W.heap.size) := HB0.out.lt
  have HP0 : Hid (Blk (W.alloc (.cells vz 30)) g 102 (RnC A N c a ((p : Int)) (0) (0))) := HB0.out.alloc _
  have HR0 := Lib.hid (Blk.new W 30 vz)
  have HG0 : Hid (W.grownBy (W.alloc (.cells vz 30)) (some g)) := only_alloc (World.grownBy.refl W _) _
  clear HB0
  go_enter Tryz.func67, Tryz.ntmps67
  go_upto_region 1 with fail
  unfold vz at *
  generalize W.alloc (.cells #[.int .i64 0, .int .i64 0, .float .f64 0, .string ⟨#[]⟩, .slice none 0 0, .slice none 0 0] 30) = w0 at *
  have p1 : w0.cell? ⟨g, 1, none⟩ = some (.int .i64 (a : Int)) := HP0.out.cell 1
  have p2 : w0.cell? ⟨g, 2, none⟩ = some (.int .i64 ((p : Int))) := HP0.out.cell 2
  have q2 : w0.frozen? ⟨g, 2, none⟩ = false := HP0.out.frozen 2
  go_upto_region 3 with fail
  have HP1 : Hid (Blk (w0.setCell ⟨g, 2, none⟩ (.int .i64 ((p : Int) + 1))) g 102 (RnC A N c a ((p : Int) + 1) (0) (0))) := HP0.out.set_ 2 (.int .i64 ((p : Int) + 1))
  have HR1 : Hid (Blk (w0.setCell ⟨g, 2, none⟩ (.int .i64 ((p : Int) + 1))) W.heap.size 30 #[.int .i64 0, .int .i64 0, .float .f64 0, .string ⟨#[]⟩, .slice none 0 0, .slice none 0 0]) := HR0.out.far (by have := HLT.out; simp only; omega) _
  have HG1 : Hid (W.grownBy (w0.setCell ⟨g, 2, none⟩ (.int .i64 ((p : Int) + 1))) (some g)) := only_setCell HG0.out (.inl rfl) _
  generalize w0.setCell ⟨g, 2, none⟩ (.int .i64 ((p : Int) + 1)) = w1 at *
  clear p1 p2 q2 HP0 HR0 HG0
  have p2 : w1.cell? ⟨g, 2, none⟩ = some (.int .i64 ((p : Int) + 1)) := HP1.out.cell 2
  have p4 : w1.cell? ⟨g, 4, none⟩ = some (.int .i64 (0)) := HP1.out.cell 4
  have hpe : ¬ (65536 : Int) < (p : Int) + 1 := by omega
  go_wp2_with fail
  have HR1' := Lib.hid (Reads.grown HPA.out.rd HG1.out (Nat.le_of_lt HLT.out) (fun _ h => by injection h with h; omega))
  refine (c_rword g a 1 A N c ((p : Int) + 1) 0 xs w1 HP1.out HR1'.out HPA.out.bt hN HPA.out.hc HPA.out.hm hka (by decide)).mono ?_; rintro e' w2 ⟨rfl, hb2, hg2⟩
  rw [HK1.out]
  clear p2 p4 HP1 HR1'
  have HGA := HG1
  have HRA := HR1
  clear HG1 HR1
  have HP2 := Lib.hid hb2
  have HG2 := Lib.hid (only_trans HGA.out hg2)
  have HR2 : Hid (Blk w2 W.heap.size 30 #[.int .i64 0, .int .i64 0, .float .f64 0, .string ⟨#[]⟩, .slice none 0 0, .slice none 0 0]) := HRA.out.grown hg2 (by have := HLT.out; intro e; injection e with e; omega)
  clear hb2 hg2
  have HVA := Lib.hid (Blk.new w2 30 #[.int .i64 0, .int .i64 0, .float .f64 0, .string ⟨#[]⟩, .slice none 0 0, .slice none 0 0])
  have HGN : Hid (w2.grownBy (w2.alloc (.cells #[.int .i64 0, .int .i64 0, .float .f64 0, .string ⟨#[]⟩, .slice none 0 0, .slice none 0 0] 30)) none) := only_alloc (World.grownBy.refl w2 none) _
  have HZ3 : Hid (W.heap.size < w2.heap.size) := HR2.out.lt
  go_upto_region 8 with (refine wpList_storeB rfl 30 (.tmp 6) (.tmp 48) rfl rfl w2.heap.size #[.int .i64 (0), .int .i64 0, .float .f64 0, .string ⟨#[]⟩, .slice none 0 0, .slice none 0 0] (by first | rfl | simp [Act.eval]) (by first | rfl | simp [Act.eval]) HVA.out v_info rfl rfl ?_; intro w3 hb3 hg3 hz3)
  have HV3 := Lib.hid hb3
  have HG23 : Hid (w2.grownBy w3 none) := ⟨hg3.os, hg3.tape, hg3.output, Nat.le_trans HGN.out.size hg3.size, fun i hi _ => (hg3.block i (Nat.lt_of_lt_of_le hi HGN.out.size) (by intro e; injection e with e; omega)).trans (HGN.out.block i hi (by simp))⟩
  have HP3 : Hid (Blk w3 g 102 (RnC A N c (a + 1) ((p : Int) + 1) (0) (0))) := HP2.out.grown HG23.out (by simp)
  have HR3 : Hid (Blk w3 W.heap.size 30 #[.int .i64 0, .int .i64 0, .float .f64 0, .string ⟨#[]⟩, .slice none 0 0, .slice none 0 0]) := HR2.out.grown HG23.out (by simp)
  have HG3 : Hid (W.grownBy w3 (some g)) := only_trans HG2.out ⟨HG23.out.os, HG23.out.tape, HG23.out.output, HG23.out.size, fun i hi _ => HG23.out.block i hi (by simp)⟩
  clear hb3 hg3 hz3 HVA HGN HG23 HP2 HR2 HG2
  have p1 : w3.cell? ⟨g, 1, none⟩ = some (.int .i64 ((a + 1 : Nat) : Int)) := HP3.out.cell 1
  have p4 : w3.cell? ⟨g, 4, none⟩ = some (.int .i64 (0)) := HP3.out.cell 4
  have v0 : w3.cell? ⟨w2.heap.size, 0, none⟩ = some (.int .i64 (0)) := HV3.out.cell 0
  have HR3' := Lib.hid (Reads.grown HPA.out.rd HG3.out (Nat.le_of_lt HLT.out) (fun _ h => by injection h with h; omega))
  have hneq : W.heap.size ≠ w2.heap.size := Nat.ne_of_lt HZ3.out
  go_wp2_with (first
    | (refine wpList_load_row rfl 30 (.tmp 6) rfl w2.heap.size rfl 30 _ (0, 0) _ HV3.out Tryz.underlying30 rfl v_info ?_)
    | (refine wpList_storeB rfl 30 (.tmp 4) (.tmp 118) rfl rfl W.heap.size #[.int .i64 (0), .int .i64 (0), .float .f64 (0), .string ⟨#[]⟩, .slice none 0 0, .slice none 0 0] rfl rfl HR3.out v_info rfl rfl ?_; intro w9 hB9 hg9 hz9))
  exact bodyPost_ret (results_cellB (p := 4) rfl _ hB9 _ rfl Tryz.underlying30 rfl v_info) rfl (⟨_, rfl, ((Fresh.leaf (W.heap.size + 1) w3 (k := 0) (i := 0) (f := 0) (t := ⟨#[]⟩)).on (by rw [hz9]; exact Nat.le_refl _) (fun i hi hj => hg9.block i hj (by intro e; injection e with e; omega))).lo_ (Nat.le_succ _), HP3.out.grown hg9 (by have := HLT.out; intro e; injection e with e; omega), only_newZ HG3.out hg9 (Nat.le_refl _)⟩)
set_option maxRecDepth 100000 in
set_option maxHeartbeats 4000000 in
theorem c_rv_1s (xs : List Int) (A : Option Addr) (N c d g a p : Nat) (W : World) (E : Int) (hE : E = 65 - ((d + 1 : Nat) : Int)) (hP : RinAt W g xs A N c a p) (hm : ¬ 65536 ≤ p) (hka : a + 1 ≤ N) (hkg : xs.getD a 0 = 1) (hs : N < a + 2) :
    Calls Tryz.prog 67 #[.pointer (some ⟨g, 0, none⟩), .int .i64 E] W (RPost W g A N c (.bad (a + 1) 3)) := by
  have HB0 := Lib.hid hP.bk
  have hl := hP.len
  have HPA := Lib.hid hP
  have HL := Lib.hid hl
  have ha := hP.ha
  have hN := hP.hN
  have hpp := hP.hp
  have hle : ¬ 64 < E := by omega
  have HK1 : Hid (((numL (sub xs a 1) : Nat) : Int) = 1) := by show _ = _; rw [sub_one_ (by omega), hkg]; rfl
  clear hkg
  clear hl hP hE
  have HLT : Hid (g < W.heap.size) := HB0.out.lt
  have HP0 : Hid (Blk (W.alloc (.cells vz 30)) g 102 (RnC A N c a ((p : Int)) (0) (0))) := HB0.out.alloc _
  have HR0 := Lib.hid (Blk.new W 30 vz)
  have HG0 : Hid (W.grownBy (W.alloc (.cells vz 30)) (some g)) := only_alloc (World.grownBy.refl W _) _
  clear HB0
  go_enter Tryz.func67, Tryz.ntmps67
  go_upto_region 1 with fail
  unfold vz at *
  generalize W.alloc (.cells #[.int .i64 0, .int .i64 0, .float .f64 0, .string ⟨#[]⟩, .slice none 0 0, .slice none 0 0] 30) = w0 at *
  have p1 : w0.cell? ⟨g, 1, none⟩ = some (.int .i64 (a : Int)) := HP0.out.cell 1
  have p2 : w0.cell? ⟨g, 2, none⟩ = some (.int .i64 ((p : Int))) := HP0.out.cell 2
  have q2 : w0.frozen? ⟨g, 2, none⟩ = false := HP0.out.frozen 2
  go_upto_region 3 with fail
  have HP1 : Hid (Blk (w0.setCell ⟨g, 2, none⟩ (.int .i64 ((p : Int) + 1))) g 102 (RnC A N c a ((p : Int) + 1) (0) (0))) := HP0.out.set_ 2 (.int .i64 ((p : Int) + 1))
  have HR1 : Hid (Blk (w0.setCell ⟨g, 2, none⟩ (.int .i64 ((p : Int) + 1))) W.heap.size 30 #[.int .i64 0, .int .i64 0, .float .f64 0, .string ⟨#[]⟩, .slice none 0 0, .slice none 0 0]) := HR0.out.far (by have := HLT.out; simp only; omega) _
  have HG1 : Hid (W.grownBy (w0.setCell ⟨g, 2, none⟩ (.int .i64 ((p : Int) + 1))) (some g)) := only_setCell HG0.out (.inl rfl) _
  generalize w0.setCell ⟨g, 2, none⟩ (.int .i64 ((p : Int) + 1)) = w1 at *
  clear p1 p2 q2 HP0 HR0 HG0
  have p2 : w1.cell? ⟨g, 2, none⟩ = some (.int .i64 ((p : Int) + 1)) := HP1.out.cell 2
  have p4 : w1.cell? ⟨g, 4, none⟩ = some (.int .i64 (0)) := HP1.out.cell 4
  have hpe : ¬ (65536 : Int) < (p : Int) + 1 := by omega
  go_wp2_with fail
  have HR1' := Lib.hid (Reads.grown HPA.out.rd HG1.out (Nat.le_of_lt HLT.out) (fun _ h => by injection h with h; omega))
  refine (c_rword g a 1 A N c ((p : Int) + 1) 0 xs w1 HP1.out HR1'.out HPA.out.bt hN HPA.out.hc HPA.out.hm hka (by decide)).mono ?_; rintro e' w2 ⟨rfl, hb2, hg2⟩
  rw [HK1.out]
  clear p2 p4 HP1 HR1'
  have HGA := HG1
  have HRA := HR1
  clear HG1 HR1
  have HP2 := Lib.hid hb2
  have HG2 := Lib.hid (only_trans HGA.out hg2)
  have HR2 : Hid (Blk w2 W.heap.size 30 #[.int .i64 0, .int .i64 0, .float .f64 0, .string ⟨#[]⟩, .slice none 0 0, .slice none 0 0]) := HRA.out.grown hg2 (by have := HLT.out; intro e; injection e with e; omega)
  clear hb2 hg2
  have HVA := Lib.hid (Blk.new w2 30 #[.int .i64 0, .int .i64 0, .float .f64 0, .string ⟨#[]⟩, .slice none 0 0, .slice none 0 0])
  have HGN : Hid (w2.grownBy (w2.alloc (.cells #[.int .i64 0, .int .i64 0, .float .f64 0, .string ⟨#[]⟩, .slice none 0 0, .slice none 0 0] 30)) none) := only_alloc (World.grownBy.refl w2 none) _
  have HZ3 : Hid (W.heap.size < w2.heap.size) := HR2.out.lt
  go_upto_region 8 with (refine wpList_storeB rfl 30 (.tmp 6) (.tmp 48) rfl rfl w2.heap.size #[.int .i64 (1), .int .i64 0, .float .f64 0, .string ⟨#[]⟩, .slice none 0 0, .slice none 0 0] (by first | rfl | simp [Act.eval]) (by first | rfl | simp [Act.eval]) HVA.out v_info rfl rfl ?_; intro w3 hb3 hg3 hz3)
  have HV3 := Lib.hid hb3
  have HG23 : Hid (w2.grownBy w3 none) := ⟨hg3.os, hg3.tape, hg3.output, Nat.le_trans HGN.out.size hg3.size, fun i hi _ => (hg3.block i (Nat.lt_of_lt_of_le hi HGN.out.size) (by intro e; injection e with e; omega)).trans (HGN.out.block i hi (by simp))⟩
  have HP3 : Hid (Blk w3 g 102 (RnC A N c (a + 1) ((p : Int) + 1) (0) (0))) := HP2.out.grown HG23.out (by simp)
  have HR3 : Hid (Blk w3 W.heap.size 30 #[.int .i64 0, .int .i64 0, .float .f64 0, .string ⟨#[]⟩, .slice none 0 0, .slice none 0 0]) := HR2.out.grown HG23.out (by simp)
  have HG3 : Hid (W.grownBy w3 (some g)) := only_trans HG2.out ⟨HG23.out.os, HG23.out.tape, HG23.out.output, HG23.out.size, fun i hi _ => HG23.out.block i hi (by simp)⟩
  clear hb3 hg3 hz3 HVA HGN HG23 HP2 HR2 HG2
  have p1 : w3.cell? ⟨g, 1, none⟩ = some (.int .i64 ((a + 1 : Nat) : Int)) := HP3.out.cell 1
  have p4 : w3.cell? ⟨g, 4, none⟩ = some (.int .i64 (0)) := HP3.out.cell 4
  have v0 : w3.cell? ⟨w2.heap.size, 0, none⟩ = some (.int .i64 (1)) := HV3.out.cell 0
  have HR3' := Lib.hid (Reads.grown HPA.out.rd HG3.out (Nat.le_of_lt HLT.out) (fun _ h => by injection h with h; omega))
  go_wp2_with fail
  refine (c_rword_bad g (a + 1) 1 A N c _ 0 w3 HP3.out (by omega) hN (by omega) (by decide) (by decide)).mono ?_; rintro e' w4 ⟨rfl, hb4, hg4⟩
  have HP4 := Lib.hid hb4
  have HG4 := Lib.hid (only_trans HG3.out hg4)
  have HR4 := Lib.hid (HR3.out.grown hg4 (by have := HLT.out; intro e; injection e with e; omega))
  have HV4 := Lib.hid (HV3.out.grown hg4 (by have := HLT.out; have := HZ3.out; intro e; injection e with e; omega))
  have v1 : w4.frozen? ⟨w2.heap.size, 1, none⟩ = false := HV4.out.frozen 1
  have x1 : w4.cell? ⟨w2.heap.size, 1, none⟩ = some (.int .i64 0) := HV4.out.cell 1
  clear p1 p4 hb4 hg4 HP3 HG3 HR3 HV3 HR3'
  go_upto_region 15 with fail
  have HP5 : Hid (Blk (w4.setCell ⟨w2.heap.size, 1, none⟩ (.int .i64 0)) g 102 _) := HP4.out.far (by have := HLT.out; have := HZ3.out; simp only; omega) _
  have HR5 : Hid (Blk (w4.setCell ⟨w2.heap.size, 1, none⟩ (.int .i64 0)) W.heap.size 30 _) := HR4.out.far (by have := HZ3.out; simp only; omega) _
  have HV5 : Hid (Blk (w4.setCell ⟨w2.heap.size, 1, none⟩ (.int .i64 0)) w2.heap.size 30 #[.int .i64 (1), .int .i64 (0), .float .f64 (0), .string ⟨#[]⟩, .slice none 0 0, .slice none 0 0]) := HV4.out.set_ 1 _
  have HG5 : Hid (W.grownBy (w4.setCell ⟨w2.heap.size, 1, none⟩ (.int .i64 0)) (some g)) := only_setCell HG4.out (.inr (by have := HZ3.out; simp only; omega)) _
  generalize w4.setCell ⟨w2.heap.size, 1, none⟩ (.int .i64 0) = w5 at *
  clear HP4 HR4 HV4 HG4 v1 x1
  have p4 : w5.cell? ⟨g, 4, none⟩ = some (.int .i64 3) := HP5.out.cell 4
  have y1 : w5.cell? ⟨w2.heap.size, 1, none⟩ = some (.int .i64 (0)) := HV5.out.cell 1
  have hneq : W.heap.size ≠ w2.heap.size := Nat.ne_of_lt HZ3.out
  go_wp2_with (first
    | (refine wpList_load_row rfl 30 (.tmp 6) rfl w2.heap.size rfl 30 _ (0, 0) _ HV5.out Tryz.underlying30 rfl v_info ?_)
    | (refine wpList_storeB rfl 30 (.tmp 4) (.tmp 118) rfl rfl W.heap.size #[.int .i64 (1), .int .i64 (0), .float .f64 (0), .string ⟨#[]⟩, .slice none 0 0, .slice none 0 0] rfl rfl HR5.out v_info rfl rfl ?_; intro w9 hB9 hg9 hz9))
  exact bodyPost_ret (results_cellB (p := 4) rfl _ hB9 _ rfl Tryz.underlying30 rfl v_info) rfl (⟨⟨_, _, _, rfl, rfl, rfl, HP5.out.grown hg9 (by have := HLT.out; intro e; injection e with e; omega)⟩, only_newZ HG5.out hg9 (Nat.le_refl _)⟩)
set_option maxRecDepth 100000 in
set_option maxHeartbeats 4000000 in
theorem c_rv_1b (xs : List Int) (A : Option Addr) (N c d g a p : Nat) (W : World) (E : Int) (hE : E = 65 - ((d + 1 : Nat) : Int)) (hP : RinAt W g xs A N c a p) (hm : ¬ 65536 ≤ p) (hka : a + 1 ≤ N) (hkg : xs.getD a 0 = 1) (hs : a + 2 ≤ N) (b : Int) (hbg : xs.getD (a + 1) 0 = b) (hb : 1 < b) (hb2 : b < 256) :
    Calls Tryz.prog 67 #[.pointer (some ⟨g, 0, none⟩), .int .i64 E] W (RPost W g A N c (.bad (a + 1) 4)) := by
  have HB0 := Lib.hid hP.bk
  have hl := hP.len
  have HPA := Lib.hid hP
  have HL := Lib.hid hl
  have ha := hP.ha
  have hN := hP.hN
  have hpp := hP.hp
  have hle : ¬ 64 < E := by omega
  have HK1 : Hid (((numL (sub xs a 1) : Nat) : Int) = 1) := by show _ = _; rw [sub_one_ (by omega), hkg]; rfl
  have HBG : Hid (((numL (sub xs (a + 1) 1) : Nat) : Int) = b) := by show _ = _; rw [sub_one_ (by omega), hbg]; omega
  clear hbg
  clear hkg
  clear hl hP hE
  have HLT : Hid (g < W.heap.size) := HB0.out.lt
  have HP0 : Hid (Blk (W.alloc (.cells vz 30)) g 102 (RnC A N c a ((p : Int)) (0) (0))) := HB0.out.alloc _
  have HR0 := Lib.hid (Blk.new W 30 vz)
  have HG0 : Hid (W.grownBy (W.alloc (.cells vz 30)) (some g)) := only_alloc (World.grownBy.refl W _) _
  clear HB0
  go_enter Tryz.func67, Tryz.ntmps67
  go_upto_region 1 with fail
  unfold vz at *
  generalize W.alloc (.cells #[.int .i64 0, .int .i64 0, .float .f64 0, .string ⟨#[]⟩, .slice none 0 0, .slice none 0 0] 30) = w0 at *
  have p1 : w0.cell? ⟨g, 1, none⟩ = some (.int .i64 (a : Int)) := HP0.out.cell 1
  have p2 : w0.cell? ⟨g, 2, none⟩ = some (.int .i64 ((p : Int))) := HP0.out.cell 2
  have q2 : w0.frozen? ⟨g, 2, none⟩ = false := HP0.out.frozen 2
  go_upto_region 3 with fail
  have HP1 : Hid (Blk (w0.setCell ⟨g, 2, none⟩ (.int .i64 ((p : Int) + 1))) g 102 (RnC A N c a ((p : Int) + 1) (0) (0))) := HP0.out.set_ 2 (.int .i64 ((p : Int) + 1))
  have HR1 : Hid (Blk (w0.setCell ⟨g, 2, none⟩ (.int .i64 ((p : Int) + 1))) W.heap.size 30 #[.int .i64 0, .int .i64 0, .float .f64 0, .string ⟨#[]⟩, .slice none 0 0, .slice none 0 0]) := HR0.out.far (by have := HLT.out; simp only; omega) _
  have HG1 : Hid (W.grownBy (w0.setCell ⟨g, 2, none⟩ (.int .i64 ((p : Int) + 1))) (some g)) := only_setCell HG0.out (.inl rfl) _
  generalize w0.setCell ⟨g, 2, none⟩ (.int .i64 ((p : Int) + 1)) = w1 at *
  clear p1 p2 q2 HP0 HR0 HG0
  have p2 : w1.cell? ⟨g, 2, none⟩ = some (.int .i64 ((p : Int) + 1)) := HP1.out.cell 2
  have p4 : w1.cell? ⟨g, 4, none⟩ = some (.int .i64 (0)) := HP1.out.cell 4
  have hpe : ¬ (65536 : Int) < (p : Int) + 1 := by omega
  go_wp2_with fail
  have HR1' := Lib.hid (Reads.grown HPA.out.rd HG1.out (Nat.le_of_lt HLT.out) (fun _ h => by injection h with h; omega))
  refine (c_rword g a 1 A N c ((p : Int) + 1) 0 xs w1 HP1.out HR1'.out HPA.out.bt hN HPA.out.hc HPA.out.hm hka (by decide)).mono ?_; rintro e' w2 ⟨rfl, hb2, hg2⟩
  rw [HK1.out]
  clear p2 p4 HP1 HR1'
  have HGA := HG1
  have HRA := HR1
  clear HG1 HR1
  have HP2 := Lib.hid hb2
  have HG2 := Lib.hid (only_trans HGA.out hg2)
  have HR2 : Hid (Blk w2 W.heap.size 30 #[.int .i64 0, .int .i64 0, .float .f64 0, .string ⟨#[]⟩, .slice none 0 0, .slice none 0 0]) := HRA.out.grown hg2 (by have := HLT.out; intro e; injection e with e; omega)
  clear hb2 hg2
  have HVA := Lib.hid (Blk.new w2 30 #[.int .i64 0, .int .i64 0, .float .f64 0, .string ⟨#[]⟩, .slice none 0 0, .slice none 0 0])
  have HGN : Hid (w2.grownBy (w2.alloc (.cells #[.int .i64 0, .int .i64 0, .float .f64 0, .string ⟨#[]⟩, .slice none 0 0, .slice none 0 0] 30)) none) := only_alloc (World.grownBy.refl w2 none) _
  have HZ3 : Hid (W.heap.size < w2.heap.size) := HR2.out.lt
  go_upto_region 8 with (refine wpList_storeB rfl 30 (.tmp 6) (.tmp 48) rfl rfl w2.heap.size #[.int .i64 (1), .int .i64 0, .float .f64 0, .string ⟨#[]⟩, .slice none 0 0, .slice none 0 0] (by first | rfl | simp [Act.eval]) (by first | rfl | simp [Act.eval]) HVA.out v_info rfl rfl ?_; intro w3 hb3 hg3 hz3)
  have HV3 := Lib.hid hb3
  have HG23 : Hid (w2.grownBy w3 none) := ⟨hg3.os, hg3.tape, hg3.output, Nat.le_trans HGN.out.size hg3.size, fun i hi _ => (hg3.block i (Nat.lt_of_lt_of_le hi HGN.out.size) (by intro e; injection e with e; omega)).trans (HGN.out.block i hi (by simp))⟩
  have HP3 : Hid (Blk w3 g 102 (RnC A N c (a + 1) ((p : Int) + 1) (0) (0))) := HP2.out.grown HG23.out (by simp)
  have HR3 : Hid (Blk w3 W.heap.size 30 #[.int .i64 0, .int .i64 0, .float .f64 0, .string ⟨#[]⟩, .slice none 0 0, .slice none 0 0]) := HR2.out.grown HG23.out (by simp)
  have HG3 : Hid (W.grownBy w3 (some g)) := only_trans HG2.out ⟨HG23.out.os, HG23.out.tape, HG23.out.output, HG23.out.size, fun i hi _ => HG23.out.block i hi (by simp)⟩
  clear hb3 hg3 hz3 HVA HGN HG23 HP2 HR2 HG2
  have p1 : w3.cell? ⟨g, 1, none⟩ = some (.int .i64 ((a + 1 : Nat) : Int)) := HP3.out.cell 1
  have p4 : w3.cell? ⟨g, 4, none⟩ = some (.int .i64 (0)) := HP3.out.cell 4
  have v0 : w3.cell? ⟨w2.heap.size, 0, none⟩ = some (.int .i64 (1)) := HV3.out.cell 0
  have HR3' := Lib.hid (Reads.grown HPA.out.rd HG3.out (Nat.le_of_lt HLT.out) (fun _ h => by injection h with h; omega))
  go_wp2_with fail
  refine (c_rword g (a + 1) 1 A N c _ 0 xs w3 HP3.out HR3'.out HPA.out.bt hN HPA.out.hc HPA.out.hm (by omega) (by decide)).mono ?_; rintro e' w4 ⟨rfl, hb4, hg4⟩
  rw [HBG.out]
  have HP4 := Lib.hid hb4
  have HG4 := Lib.hid (only_trans HG3.out hg4)
  have HR4 := Lib.hid (HR3.out.grown hg4 (by have := HLT.out; intro e; injection e with e; omega))
  have HV4 := Lib.hid (HV3.out.grown hg4 (by have := HLT.out; have := HZ3.out; intro e; injection e with e; omega))
  have v1 : w4.frozen? ⟨w2.heap.size, 1, none⟩ = false := HV4.out.frozen 1
  have x1 : w4.cell? ⟨w2.heap.size, 1, none⟩ = some (.int .i64 0) := HV4.out.cell 1
  clear p1 p4 hb4 hg4 HP3 HG3 HR3 HV3 HR3'
  go_upto_region 15 with fail
  have HP5 : Hid (Blk (w4.setCell ⟨w2.heap.size, 1, none⟩ (.int .i64 b)) g 102 _) := HP4.out.far (by have := HLT.out; have := HZ3.out; simp only; omega) _
  have HR5 : Hid (Blk (w4.setCell ⟨w2.heap.size, 1, none⟩ (.int .i64 b)) W.heap.size 30 _) := HR4.out.far (by have := HZ3.out; simp only; omega) _
  have HV5 : Hid (Blk (w4.setCell ⟨w2.heap.size, 1, none⟩ (.int .i64 b)) w2.heap.size 30 #[.int .i64 (1), .int .i64 (b), .float .f64 (0), .string ⟨#[]⟩, .slice none 0 0, .slice none 0 0]) := HV4.out.set_ 1 _
  have HG5 : Hid (W.grownBy (w4.setCell ⟨w2.heap.size, 1, none⟩ (.int .i64 b)) (some g)) := only_setCell HG4.out (.inr (by have := HZ3.out; simp only; omega)) _
  generalize w4.setCell ⟨w2.heap.size, 1, none⟩ (.int .i64 b) = w5 at *
  clear HP4 HR4 HV4 HG4 v1 x1
  have p4 : w5.cell? ⟨g, 4, none⟩ = some (.int .i64 0) := HP5.out.cell 4
  have y1 : w5.cell? ⟨w2.heap.size, 1, none⟩ = some (.int .i64 (b)) := HV5.out.cell 1
  go_wp2_with fail
  refine (c_rfail g (a + 1 + 1) A N c _ 0 ((a + 1 : Nat) : Int) 4 w5 HP5.out).mono ?_; rintro e' w6 ⟨rfl, hb6, hg6⟩
  have HP6 := Lib.hid hb6
  have HG6 := Lib.hid (only_trans HG5.out hg6)
  have HR6 := Lib.hid (HR5.out.grown hg6 (by have := HLT.out; intro e; injection e with e; omega))
  have HV6 := Lib.hid (HV5.out.grown hg6 (by have := HLT.out; have := HZ3.out; intro e; injection e with e; omega))
  clear hb6 hg6 HP5 HG5 HR5 HV5 p4 y1
  have hneq : W.heap.size ≠ w2.heap.size := Nat.ne_of_lt HZ3.out
  go_wp2_with (first
    | (refine wpList_load_row rfl 30 (.tmp 6) rfl w2.heap.size rfl 30 _ (0, 0) _ HV6.out Tryz.underlying30 rfl v_info ?_)
    | (refine wpList_storeB rfl 30 (.tmp 4) (.tmp 118) rfl rfl W.heap.size #[.int .i64 (1), .int .i64 (b), .float .f64 (0), .string ⟨#[]⟩, .slice none 0 0, .slice none 0 0] rfl rfl HR6.out v_info rfl rfl ?_; intro w9 hB9 hg9 hz9))
  exact bodyPost_ret (results_cellB (p := 4) rfl _ hB9 _ rfl Tryz.underlying30 rfl v_info) rfl (⟨⟨_, _, _, rfl, rfl, rfl, HP6.out.grown hg9 (by have := HLT.out; intro e; injection e with e; omega)⟩, only_newZ HG6.out hg9 (Nat.le_refl _)⟩)
set_option maxRecDepth 100000 in
set_option maxHeartbeats 4000000 in
theorem c_rv_10 (xs : List Int) (A : Option Addr) (N c d g a p : Nat) (W : World) (E : Int) (hE : E = 65 - ((d + 1 : Nat) : Int)) (hP : RinAt W g xs A N c a p) (hm : ¬ 65536 ≤ p) (hka : a + 1 ≤ N) (hkg : xs.getD a 0 = 1) (hs : a + 2 ≤ N) (hbg : xs.getD (a + 1) 0 = 0) :
    Calls Tryz.prog 67 #[.pointer (some ⟨g, 0, none⟩), .int .i64 E] W (RPost W g A N c (.ok (.mk 1 0 0 ⟨#[]⟩ [] []) (a + 2) (p + 1))) := by
  have HB0 := Lib.hid hP.bk
  have hl := hP.len
  have HPA := Lib.hid hP
  have HL := Lib.hid hl
  have ha := hP.ha
  have hN := hP.hN
  have hpp := hP.hp
  have hle : ¬ 64 < E := by omega
  have HK1 : Hid (((numL (sub xs a 1) : Nat) : Int) = 1) := by show _ = _; rw [sub_one_ (by omega), hkg]; rfl
  have HBG : Hid (((numL (sub xs (a + 1) 1) : Nat) : Int) = 0) := by show _ = _; rw [sub_one_ (by omega), hbg]; rfl
  clear hbg
  clear hkg
  clear hl hP hE
  have HLT : Hid (g < W.heap.size) := HB0.out.lt
  have HP0 : Hid (Blk (W.alloc (.cells vz 30)) g 102 (RnC A N c a ((p : Int)) (0) (0))) := HB0.out.alloc _
  have HR0 := Lib.hid (Blk.new W 30 vz)
  have HG0 : Hid (W.grownBy (W.alloc (.cells vz 30)) (some g)) := only_alloc (World.grownBy.refl W _) _
  clear HB0
  go_enter Tryz.func67, Tryz.ntmps67
  go_upto_region 1 with fail
  unfold vz at *
  generalize W.alloc (.cells #[.int .i64 0, .int .i64 0, .float .f64 0, .string ⟨#[]⟩, .slice none 0 0, .slice none 0 0] 30) = w0 at *
  have p1 : w0.cell? ⟨g, 1, none⟩ = some (.int .i64 (a : Int)) := HP0.out.cell 1
  have p2 : w0.cell? ⟨g, 2, none⟩ = some (.int .i64 ((p : Int))) := HP0.out.cell 2
  have q2 : w0.frozen? ⟨g, 2, none⟩ = false := HP0.out.frozen 2
  go_upto_region 3 with fail
  have HP1 : Hid (Blk (w0.setCell ⟨g, 2, none⟩ (.int .i64 ((p : Int) + 1))) g 102 (RnC A N c a ((p : Int) + 1) (0) (0))) := HP0.out.set_ 2 (.int .i64 ((p : Int) + 1))
  have HR1 : Hid (Blk (w0.setCell ⟨g, 2, none⟩ (.int .i64 ((p : Int) + 1))) W.heap.size 30 #[.int .i64 0, .int .i64 0, .float .f64 0, .string ⟨#[]⟩, .slice none 0 0, .slice none 0 0]) := HR0.out.far (by have := HLT.out; simp only; omega) _
  have HG1 : Hid (W.grownBy (w0.setCell ⟨g, 2, none⟩ (.int .i64 ((p : Int) + 1))) (some g)) := only_setCell HG0.out (.inl rfl) _
  generalize w0.setCell ⟨g, 2, none⟩ (.int .i64 ((p : Int) + 1)) = w1 at *
  clear p1 p2 q2 HP0 HR0 HG0
  have p2 : w1.cell? ⟨g, 2, none⟩ = some (.int .i64 ((p : Int) + 1)) := HP1.out.cell 2
  have p4 : w1.cell? ⟨g, 4, none⟩ = some (.int .i64 (0)) := HP1.out.cell 4
  have hpe : ¬ (65536 : Int) < (p : Int) + 1 := by omega
  go_wp2_with fail
  have HR1' := Lib.hid (Reads.grown HPA.out.rd HG1.out (Nat.le_of_lt HLT.out) (fun _ h => by injection h with h; omega))
  refine (c_rword g a 1 A N c ((p : Int) + 1) 0 xs w1 HP1.out HR1'.out HPA.out.bt hN HPA.out.hc HPA.out.hm hka (by decide)).mono ?_; rintro e' w2 ⟨rfl, hb2, hg2⟩
  rw [HK1.out]
  clear p2 p4 HP1 HR1'
  have HGA := HG1
  have HRA := HR1
  clear HG1 HR1
  have HP2 := Lib.hid hb2
  have HG2 := Lib.hid (only_trans HGA.out hg2)
  have HR2 : Hid (Blk w2 W.heap.size 30 #[.int .i64 0, .int .i64 0, .float .f64 0, .string ⟨#[]⟩, .slice none 0 0, .slice none 0 0]) := HRA.out.grown hg2 (by have := HLT.out; intro e; injection e with e; omega)
  clear hb2 hg2
  have HVA := Lib.hid (Blk.new w2 30 #[.int .i64 0, .int .i64 0, .float .f64 0, .string ⟨#[]⟩, .slice none 0 0, .slice none 0 0])
  have HGN : Hid (w2.grownBy (w2.alloc (.cells #[.int .i64 0, .int .i64 0, .float .f64 0, .string ⟨#[]⟩, .slice none 0 0, .slice none 0 0] 30)) none) := only_alloc (World.grownBy.refl w2 none) _
  have HZ3 : Hid (W.heap.size < w2.heap.size) := HR2.out.lt
  go_upto_region 8 with (refine wpList_storeB rfl 30 (.tmp 6) (.tmp 48) rfl rfl w2.heap.size #[.int .i64 (1), .int .i64 0, .float .f64 0, .string ⟨#[]⟩, .slice none 0 0, .slice none 0 0] (by first | rfl | simp [Act.eval]) (by first | rfl | simp [Act.eval]) HVA.out v_info rfl rfl ?_; intro w3 hb3 hg3 hz3)
  have HV3 := Lib.hid hb3
  have HG23 : Hid (w2.grownBy w3 none) := ⟨hg3.os, hg3.tape, hg3.output, Nat.le_trans HGN.out.size hg3.size, fun i hi _ => (hg3.block i (Nat.lt_of_lt_of_le hi HGN.out.size) (by intro e; injection e with e; omega)).trans (HGN.out.block i hi (by simp))⟩
  have HP3 : Hid (Blk w3 g 102 (RnC A N c (a + 1) ((p : Int) + 1) (0) (0))) := HP2.out.grown HG23.out (by simp)
  have HR3 : Hid (Blk w3 W.heap.size 30 #[.int .i64 0, .int .i64 0, .float .f64 0, .string ⟨#[]⟩, .slice none 0 0, .slice none 0 0]) := HR2.out.grown HG23.out (by simp)
  have HG3 : Hid (W.grownBy w3 (some g)) := only_trans HG2.out ⟨HG23.out.os, HG23.out.tape, HG23.out.output, HG23.out.size, fun i hi _ => HG23.out.block i hi (by simp)⟩
  clear hb3 hg3 hz3 HVA HGN HG23 HP2 HR2 HG2
  have p1 : w3.cell? ⟨g, 1, none⟩ = some (.int .i64 ((a + 1 : Nat) : Int)) := HP3.out.cell 1
  have p4 : w3.cell? ⟨g, 4, none⟩ = some (.int .i64 (0)) := HP3.out.cell 4
  have v0 : w3.cell? ⟨w2.heap.size, 0, none⟩ = some (.int .i64 (1)) := HV3.out.cell 0
  have HR3' := Lib.hid (Reads.grown HPA.out.rd HG3.out (Nat.le_of_lt HLT.out) (fun _ h => by injection h with h; omega))
  go_wp2_with fail
  refine (c_rword g (a + 1) 1 A N c _ 0 xs w3 HP3.out HR3'.out HPA.out.bt hN HPA.out.hc HPA.out.hm (by omega) (by decide)).mono ?_; rintro e' w4 ⟨rfl, hb4, hg4⟩
  rw [HBG.out]
  have HP4 := Lib.hid hb4
  have HG4 := Lib.hid (only_trans HG3.out hg4)
  have HR4 := Lib.hid (HR3.out.grown hg4 (by have := HLT.out; intro e; injection e with e; omega))
  have HV4 := Lib.hid (HV3.out.grown hg4 (by have := HLT.out; have := HZ3.out; intro e; injection e with e; omega))
  have v1 : w4.frozen? ⟨w2.heap.size, 1, none⟩ = false := HV4.out.frozen 1
  have x1 : w4.cell? ⟨w2.heap.size, 1, none⟩ = some (.int .i64 0) := HV4.out.cell 1
  clear p1 p4 hb4 hg4 HP3 HG3 HR3 HV3 HR3'
  go_upto_region 15 with fail
  have HP5 : Hid (Blk (w4.setCell ⟨w2.heap.size, 1, none⟩ (.int .i64 0)) g 102 _) := HP4.out.far (by have := HLT.out; have := HZ3.out; simp only; omega) _
  have HR5 : Hid (Blk (w4.setCell ⟨w2.heap.size, 1, none⟩ (.int .i64 0)) W.heap.size 30 _) := HR4.out.far (by have := HZ3.out; simp only; omega) _
  have HV5 : Hid (Blk (w4.setCell ⟨w2.heap.size, 1, none⟩ (.int .i64 0)) w2.heap.size 30 #[.int .i64 (1), .int .i64 (0), .float .f64 (0), .string ⟨#[]⟩, .slice none 0 0, .slice none 0 0]) := HV4.out.set_ 1 _
  have HG5 : Hid (W.grownBy (w4.setCell ⟨w2.heap.size, 1, none⟩ (.int .i64 0)) (some g)) := only_setCell HG4.out (.inr (by have := HZ3.out; simp only; omega)) _
  generalize w4.setCell ⟨w2.heap.size, 1, none⟩ (.int .i64 0) = w5 at *
  clear HP4 HR4 HV4 HG4 v1 x1
  have p4 : w5.cell? ⟨g, 4, none⟩ = some (.int .i64 0) := HP5.out.cell 4
  have y1 : w5.cell? ⟨w2.heap.size, 1, none⟩ = some (.int .i64 (0)) := HV5.out.cell 1
  have hneq : W.heap.size ≠ w2.heap.size := Nat.ne_of_lt HZ3.out
  go_wp2_with (first
    | (refine wpList_load_row rfl 30 (.tmp 6) rfl w2.heap.size rfl 30 _ (0, 0) _ HV5.out Tryz.underlying30 rfl v_info ?_)
    | (refine wpList_storeB rfl 30 (.tmp 4) (.tmp 118) rfl rfl W.heap.size #[.int .i64 (1), .int .i64 (0), .float .f64 (0), .string ⟨#[]⟩, .slice none 0 0, .slice none 0 0] rfl rfl HR5.out v_info rfl rfl ?_; intro w9 hB9 hg9 hz9))
  exact bodyPost_ret (results_cellB (p := 4) rfl _ hB9 _ rfl Tryz.underlying30 rfl v_info) rfl (⟨_, rfl, ((Fresh.leaf (W.heap.size + 1) w5 (k := 1) (i := 0) (f := 0) (t := ⟨#[]⟩)).on (by rw [hz9]; exact Nat.le_refl _) (fun i hi hj => hg9.block i hj (by intro e; injection e with e; omega))).lo_ (Nat.le_succ _), HP5.out.grown hg9 (by have := HLT.out; intro e; injection e with e; omega), only_newZ HG5.out hg9 (Nat.le_refl _)⟩)
set_option maxRecDepth 100000 in
set_option maxHeartbeats 4000000 in
theorem c_rv_11 (xs : List Int) (A : Option Addr) (N c d g a p : Nat) (W : World) (E : Int) (hE : E = 65 - ((d + 1 : Nat) : Int)) (hP : RinAt W g xs A N c a p) (hm : ¬ 65536 ≤ p) (hka : a + 1 ≤ N) (hkg : xs.getD a 0 = 1) (hs : a + 2 ≤ N) (hbg : xs.getD (a + 1) 0 = 1) :
    Calls Tryz.prog 67 #[.pointer (some ⟨g, 0, none⟩), .int .i64 E] W (RPost W g A N c (.ok (.mk 1 1 0 ⟨#[]⟩ [] []) (a + 2) (p + 1))) := by
  have HB0 := Lib.hid hP.bk
  have hl := hP.len
  have HPA := Lib.hid hP
  have HL := Lib.hid hl
  have ha := hP.ha
  have hN := hP.hN
  have hpp := hP.hp
  have hle : ¬ 64 < E := by omega
  have HK1 : Hid (((numL (sub xs a 1) : Nat) : Int) = 1) := by show _ = _; rw [sub_one_ (by omega), hkg]; rfl
  have HBG : Hid (((numL (sub xs (a + 1) 1) : Nat) : Int) = 1) := by show _ = _; rw [sub_one_ (by omega), hbg]; rfl
  clear hbg
  clear hkg
  clear hl hP hE
  have HLT : Hid (g < W.heap.size) := HB0.out.lt
  have HP0 : Hid (Blk (W.alloc (.cells vz 30)) g 102 (RnC A N c a ((p : Int)) (0) (0))) := HB0.out.alloc _
  have HR0 := Lib.hid (Blk.new W 30 vz)
  have HG0 : Hid (W.grownBy (W.alloc (.cells vz 30)) (some g)) := only_alloc (World.grownBy.refl W _) _
  clear HB0
  go_enter Tryz.func67, Tryz.ntmps67
  go_upto_region 1 with fail
  unfold vz at *
  generalize W.alloc (.cells #[.int .i64 0, .int .i64 0, .float .f64 0, .string ⟨#[]⟩, .slice none 0 0, .slice none 0 0] 30) = w0 at *
  have p1 : w0.cell? ⟨g, 1, none⟩ = some (.int .i64 (a : Int)) := HP0.out.cell 1
  have p2 : w0.cell? ⟨g, 2, none⟩ = some (.int .i64 ((p : Int))) := HP0.out.cell 2
  have q2 : w0.frozen? ⟨g, 2, none⟩ = false := HP0.out.frozen 2
  go_upto_region 3 with fail
  have HP1 : Hid (Blk (w0.setCell ⟨g, 2, none⟩ (.int .i64 ((p : Int) + 1))) g 102 (RnC A N c a ((p : Int) + 1) (0) (0))) := HP0.out.set_ 2 (.int .i64 ((p : Int) + 1))
  have HR1 : Hid (Blk (w0.setCell ⟨g, 2, none⟩ (.int .i64 ((p : Int) + 1))) W.heap.size 30 #[.int .i64 0, .int .i64 0, .float .f64 0, .string ⟨#[]⟩, .slice none 0 0, .slice none 0 0]) := HR0.out.far (by have := HLT.out; simp only; omega) _
  have HG1 : Hid (W.grownBy (w0.setCell ⟨g, 2, none⟩ (.int .i64 ((p : Int) + 1))) (some g)) := only_setCell HG0.out (.inl rfl) _
  generalize w0.setCell ⟨g, 2, none⟩ (.int .i64 ((p : Int) + 1)) = w1 at *
  clear p1 p2 q2 HP0 HR0 HG0
  have p2 : w1.cell? ⟨g, 2, none⟩ = some (.int .i64 ((p : Int) + 1)) := HP1.out.cell 2
  have p4 : w1.cell? ⟨g, 4, none⟩ = some (.int .i64 (0)) := HP1.out.cell 4
  have hpe : ¬ (65536 : Int) < (p : Int) + 1 := by omega
  go_wp2_with fail
  have HR1' := Lib.hid (Reads.grown HPA.out.rd HG1.out (Nat.le_of_lt HLT.out) (fun _ h => by injection h with h; omega))
  refine (c_rword g a 1 A N c ((p : Int) + 1) 0 xs w1 HP1.out HR1'.out HPA.out.bt hN HPA.out.hc HPA.out.hm hka (by decide)).mono ?_; rintro e' w2 ⟨rfl, hb2, hg2⟩
  rw [HK1.out]
  clear p2 p4 HP1 HR1'
  have HGA := HG1
  have HRA := HR1
  clear HG1 HR1
  have HP2 := Lib.hid hb2
  have HG2 := Lib.hid (only_trans HGA.out hg2)
  have HR2 : Hid (Blk w2 W.heap.size 30 #[.int .i64 0, .int .i64 0, .float .f64 0, .string ⟨#[]⟩, .slice none 0 0, .slice none 0 0]) := HRA.out.grown hg2 (by have := HLT.out; intro e; injection e with e; omega)
  clear hb2 hg2
  have HVA := Lib.hid (Blk.new w2 30 #[.int .i64 0, .int .i64 0, .float .f64 0, .string ⟨#[]⟩, .slice none 0 0, .slice none 0 0])
  have HGN : Hid (w2.grownBy (w2.alloc (.cells #[.int .i64 0, .int .i64 0, .float .f64 0, .string ⟨#[]⟩, .slice none 0 0, .slice none 0 0] 30)) none) := only_alloc (World.grownBy.refl w2 none) _
  have HZ3 : Hid (W.heap.size < w2.heap.size) := HR2.out.lt
  go_upto_region 8 with (refine wpList_storeB rfl 30 (.tmp 6) (.tmp 48) rfl rfl w2.heap.size #[.int .i64 (1), .int .i64 0, .float .f64 0, .string ⟨#[]⟩, .slice none 0 0, .slice none 0 0] (by first | rfl | simp [Act.eval]) (by first | rfl | simp [Act.eval]) HVA.out v_info rfl rfl ?_; intro w3 hb3 hg3 hz3)
  have HV3 := Lib.hid hb3
  have HG23 : Hid (w2.grownBy w3 none) := ⟨hg3.os, hg3.tape, hg3.output, Nat.le_trans HGN.out.size hg3.size, fun i hi _ => (hg3.block i (Nat.lt_of_lt_of_le hi HGN.out.size) (by intro e; injection e with e; omega)).trans (HGN.out.block i hi (by simp))⟩
  have HP3 : Hid (Blk w3 g 102 (RnC A N c (a + 1) ((p : Int) + 1) (0) (0))) := HP2.out.grown HG23.out (by simp)
  have HR3 : Hid (Blk w3 W.heap.size 30 #[.int .i64 0, .int .i64 0, .float .f64 0, .string ⟨#[]⟩, .slice none 0 0, .slice none 0 0]) := HR2.out.grown HG23.out (by simp)
  have HG3 : Hid (W.grownBy w3 (some g)) := only_trans HG2.out ⟨HG23.out.os, HG23.out.tape, HG23.out.output, HG23.out.size, fun i hi _ => HG23.out.block i hi (by simp)⟩
  clear hb3 hg3 hz3 HVA HGN HG23 HP2 HR2 HG2
  have p1 : w3.cell? ⟨g, 1, none⟩ = some (.int .i64 ((a + 1 : Nat) : Int)) := HP3.out.cell 1
  have p4 : w3.cell? ⟨g, 4, none⟩ = some (.int .i64 (0)) := HP3.out.cell 4
  have v0 : w3.cell? ⟨w2.heap.size, 0, none⟩ = some (.int .i64 (1)) := HV3.out.cell 0
  have HR3' := Lib.hid (Reads.grown HPA.out.rd HG3.out (Nat.le_of_lt HLT.out) (fun _ h => by injection h with h; omega))
  go_wp2_with fail
  refine (c_rword g (a + 1) 1 A N c _ 0 xs w3 HP3.out HR3'.out HPA.out.bt hN HPA.out.hc HPA.out.hm (by omega) (by decide)).mono ?_; rintro e' w4 ⟨rfl, hb4, hg4⟩
  rw [HBG.out]
  have HP4 := Lib.hid hb4
  have HG4 := Lib.hid (only_trans HG3.out hg4)
  have HR4 := Lib.hid (HR3.out.grown hg4 (by have := HLT.out; intro e; injection e with e; omega))
  have HV4 := Lib.hid (HV3.out.grown hg4 (by have := HLT.out; have := HZ3.out; intro e; injection e with e; omega))
  have v1 : w4.frozen? ⟨w2.heap.size, 1, none⟩ = false := HV4.out.frozen 1
  have x1 : w4.cell? ⟨w2.heap.size, 1, none⟩ = some (.int .i64 0) := HV4.out.cell 1
  clear p1 p4 hb4 hg4 HP3 HG3 HR3 HV3 HR3'
  go_upto_region 15 with fail
  have HP5 : Hid (Blk (w4.setCell ⟨w2.heap.size, 1, none⟩ (.int .i64 1)) g 102 _) := HP4.out.far (by have := HLT.out; have := HZ3.out; simp only; omega) _
  have HR5 : Hid (Blk (w4.setCell ⟨w2.heap.size, 1, none⟩ (.int .i64 1)) W.heap.size 30 _) := HR4.out.far (by have := HZ3.out; simp only; omega) _
  have HV5 : Hid (Blk (w4.setCell ⟨w2.heap.size, 1, none⟩ (.int .i64 1)) w2.heap.size 30 #[.int .i64 (1), .int .i64 (1), .float .f64 (0), .string ⟨#[]⟩, .slice none 0 0, .slice none 0 0]) := HV4.out.set_ 1 _
  have HG5 : Hid (W.grownBy (w4.setCell ⟨w2.heap.size, 1, none⟩ (.int .i64 1)) (some g)) := only_setCell HG4.out (.inr (by have := HZ3.out; simp only; omega)) _
  generalize w4.setCell ⟨w2.heap.size, 1, none⟩ (.int .i64 1) = w5 at *
  clear HP4 HR4 HV4 HG4 v1 x1
  have p4 : w5.cell? ⟨g, 4, none⟩ = some (.int .i64 0) := HP5.out.cell 4
  have y1 : w5.cell? ⟨w2.heap.size, 1, none⟩ = some (.int .i64 (1)) := HV5.out.cell 1
  have hneq : W.heap.size ≠ w2.heap.size := Nat.ne_of_lt HZ3.out
  go_wp2_with (first
    | (refine wpList_load_row rfl 30 (.tmp 6) rfl w2.heap.size rfl 30 _ (0, 0) _ HV5.out Tryz.underlying30 rfl v_info ?_)
    | (refine wpList_storeB rfl 30 (.tmp 4) (.tmp 118) rfl rfl W.heap.size #[.int .i64 (1), .int .i64 (1), .float .f64 (0), .string ⟨#[]⟩, .slice none 0 0, .slice none 0 0] rfl rfl HR5.out v_info rfl rfl ?_; intro w9 hB9 hg9 hz9))
  exact bodyPost_ret (results_cellB (p := 4) rfl _ hB9 _ rfl Tryz.underlying30 rfl v_info) rfl (⟨_, rfl, ((Fresh.leaf (W.heap.size + 1) w5 (k := 1) (i := 1) (f := 0) (t := ⟨#[]⟩)).on (by rw [hz9]; exact Nat.le_refl _) (fun i hi hj => hg9.block i hj (by intro e; injection e with e; omega))).lo_ (Nat.le_succ _), HP5.out.grown hg9 (by have := HLT.out; intro e; injection e with e; omega), only_newZ HG5.out hg9 (Nat.le_refl _)⟩)
set_option maxRecDepth 100000 in
set_option maxHeartbeats 4000000 in
theorem c_rv_2s (xs : List Int) (A : Option Addr) (N c d g a p : Nat) (W : World) (E : Int) (hE : E = 65 - ((d + 1 : Nat) : Int)) (hP : RinAt W g xs A N c a p) (hm : ¬ 65536 ≤ p) (hka : a + 1 ≤ N) (hkg : xs.getD a 0 = 2) (hs : N < a + 9) :
    Calls Tryz.prog 67 #[.pointer (some ⟨g, 0, none⟩), .int .i64 E] W (RPost W g A N c (.bad (a + 1) 3)) := by
  have HB0 := Lib.hid hP.bk
  have hl := hP.len
  have HPA := Lib.hid hP
  have HL := Lib.hid hl
  have ha := hP.ha
  have hN := hP.hN
  have hpp := hP.hp
  have hle : ¬ 64 < E := by omega
  have HK1 : Hid (((numL (sub xs a 1) : Nat) : Int) = 2) := by show _ = _; rw [sub_one_ (by omega), hkg]; rfl
  clear hkg
  clear hl hP hE
  have HLT : Hid (g < W.heap.size) := HB0.out.lt
  have HP0 : Hid (Blk (W.alloc (.cells vz 30)) g 102 (RnC A N c a ((p : Int)) (0) (0))) := HB0.out.alloc _
  have HR0 := Lib.hid (Blk.new W 30 vz)
  have HG0 : Hid (W.grownBy (W.alloc (.cells vz 30)) (some g)) := only_alloc (World.grownBy.refl W _) _
  clear HB0
  go_enter Tryz.func67, Tryz.ntmps67
  go_upto_region 1 with fail
  unfold vz at *
  generalize W.alloc (.cells #[.int .i64 0, .int .i64 0, .float .f64 0, .string ⟨#[]⟩, .slice none 0 0, .slice none 0 0] 30) = w0 at *
  have p1 : w0.cell? ⟨g, 1, none⟩ = some (.int .i64 (a : Int)) := HP0.out.cell 1
  have p2 : w0.cell? ⟨g, 2, none⟩ = some (.int .i64 ((p : Int))) := HP0.out.cell 2
  have q2 : w0.frozen? ⟨g, 2, none⟩ = false := HP0.out.frozen 2
  go_upto_region 3 with fail
  have HP1 : Hid (Blk (w0.setCell ⟨g, 2, none⟩ (.int .i64 ((p : Int) + 1))) g 102 (RnC A N c a ((p : Int) + 1) (0) (0))) := HP0.out.set_ 2 (.int .i64 ((p : Int) + 1))
  have HR1 : Hid (Blk (w0.setCell ⟨g, 2, none⟩ (.int .i64 ((p : Int) + 1))) W.heap.size 30 #[.int .i64 0, .int .i64 0, .float .f64 0, .string ⟨#[]⟩, .slice none 0 0, .slice none 0 0]) := HR0.out.far (by have := HLT.out; simp only; omega) _
  have HG1 : Hid (W.grownBy (w0.setCell ⟨g, 2, none⟩ (.int .i64 ((p : Int) + 1))) (some g)) := only_setCell HG0.out (.inl rfl) _
  generalize w0.setCell ⟨g, 2, none⟩ (.int .i64 ((p : Int) + 1)) = w1 at *
  clear p1 p2 q2 HP0 HR0 HG0
  have p2 : w1.cell? ⟨g, 2, none⟩ = some (.int .i64 ((p : Int) + 1)) := HP1.out.cell 2
  have p4 : w1.cell? ⟨g, 4, none⟩ = some (.int .i64 (0)) := HP1.out.cell 4
  have hpe : ¬ (65536 : Int) < (p : Int) + 1 := by omega
  go_wp2_with fail
  have HR1' := Lib.hid (Reads.grown HPA.out.rd HG1.out (Nat.le_of_lt HLT.out) (fun _ h => by injection h with h; omega))
  refine (c_rword g a 1 A N c ((p : Int) + 1) 0 xs w1 HP1.out HR1'.out HPA.out.bt hN HPA.out.hc HPA.out.hm hka (by decide)).mono ?_; rintro e' w2 ⟨rfl, hb2, hg2⟩
  rw [HK1.out]
  clear p2 p4 HP1 HR1'
  have HGA := HG1
  have HRA := HR1
  clear HG1 HR1
  have HP2 := Lib.hid hb2
  have HG2 := Lib.hid (only_trans HGA.out hg2)
  have HR2 : Hid (Blk w2 W.heap.size 30 #[.int .i64 0, .int .i64 0, .float .f64 0, .string ⟨#[]⟩, .slice none 0 0, .slice none 0 0]) := HRA.out.grown hg2 (by have := HLT.out; intro e; injection e with e; omega)
  clear hb2 hg2
  have HVA := Lib.hid (Blk.new w2 30 #[.int .i64 0, .int .i64 0, .float .f64 0, .string ⟨#[]⟩, .slice none 0 0, .slice none 0 0])
  have HGN : Hid (w2.grownBy (w2.alloc (.cells #[.int .i64 0, .int .i64 0, .float .f64 0, .string ⟨#[]⟩, .slice none 0 0, .slice none 0 0] 30)) none) := only_alloc (World.grownBy.refl w2 none) _
  have HZ3 : Hid (W.heap.size < w2.heap.size) := HR2.out.lt
  go_upto_region 8 with (refine wpList_storeB rfl 30 (.tmp 6) (.tmp 48) rfl rfl w2.heap.size #[.int .i64 (2), .int .i64 0, .float .f64 0, .string ⟨#[]⟩, .slice none 0 0, .slice none 0 0] (by first | rfl | simp [Act.eval]) (by first | rfl | simp [Act.eval]) HVA.out v_info rfl rfl ?_; intro w3 hb3 hg3 hz3)
  have HV3 := Lib.hid hb3
  have HG23 : Hid (w2.grownBy w3 none) := ⟨hg3.os, hg3.tape, hg3.output, Nat.le_trans HGN.out.size hg3.size, fun i hi _ => (hg3.block i (Nat.lt_of_lt_of_le hi HGN.out.size) (by intro e; injection e with e; omega)).trans (HGN.out.block i hi (by simp))⟩
  have HP3 : Hid (Blk w3 g 102 (RnC A N c (a + 1) ((p : Int) + 1) (0) (0))) := HP2.out.grown HG23.out (by simp)
  have HR3 : Hid (Blk w3 W.heap.size 30 #[.int .i64 0, .int .i64 0, .float .f64 0, .string ⟨#[]⟩, .slice none 0 0, .slice none 0 0]) := HR2.out.grown HG23.out (by simp)
  have HG3 : Hid (W.grownBy w3 (some g)) := only_trans HG2.out ⟨HG23.out.os, HG23.out.tape, HG23.out.output, HG23.out.size, fun i hi _ => HG23.out.block i hi (by simp)⟩
  clear hb3 hg3 hz3 HVA HGN HG23 HP2 HR2 HG2
  have p1 : w3.cell? ⟨g, 1, none⟩ = some (.int .i64 ((a + 1 : Nat) : Int)) := HP3.out.cell 1
  have p4 : w3.cell? ⟨g, 4, none⟩ = some (.int .i64 (0)) := HP3.out.cell 4
  have v0 : w3.cell? ⟨w2.heap.size, 0, none⟩ = some (.int .i64 (2)) := HV3.out.cell 0
  have HR3' := Lib.hid (Reads.grown HPA.out.rd HG3.out (Nat.le_of_lt HLT.out) (fun _ h => by injection h with h; omega))
  go_wp2_with fail
  refine (c_rword_bad g (a + 1) 8 A N c _ 0 w3 HP3.out (by omega) hN (by omega) (by decide) (by decide)).mono ?_; rintro e' w4 ⟨rfl, hb4, hg4⟩
  have HP4 := Lib.hid hb4
  have HG4 := Lib.hid (only_trans HG3.out hg4)
  have HR4 := Lib.hid (HR3.out.grown hg4 (by have := HLT.out; intro e; injection e with e; omega))
  have HV4 := Lib.hid (HV3.out.grown hg4 (by have := HLT.out; have := HZ3.out; intro e; injection e with e; omega))
  have v1 : w4.frozen? ⟨w2.heap.size, 1, none⟩ = false := HV4.out.frozen 1
  have x1 : w4.cell? ⟨w2.heap.size, 1, none⟩ = some (.int .i64 0) := HV4.out.cell 1
  clear p1 p4 hb4 hg4 HP3 HG3 HR3 HV3 HR3'
  go_upto_region 28 with fail
  have HP5 : Hid (Blk (w4.setCell ⟨w2.heap.size, 1, none⟩ (.int .i64 0)) g 102 _) := HP4.out.far (by have := HLT.out; have := HZ3.out; simp only; omega) _
  have HR5 : Hid (Blk (w4.setCell ⟨w2.heap.size, 1, none⟩ (.int .i64 0)) W.heap.size 30 _) := HR4.out.far (by have := HZ3.out; simp only; omega) _
  have HV5 : Hid (Blk (w4.setCell ⟨w2.heap.size, 1, none⟩ (.int .i64 0)) w2.heap.size 30 #[.int .i64 (2), .int .i64 (0), .float .f64 (0), .string ⟨#[]⟩, .slice none 0 0, .slice none 0 0]) := HV4.out.set_ 1 _
  have HG5 : Hid (W.grownBy (w4.setCell ⟨w2.heap.size, 1, none⟩ (.int .i64 0)) (some g)) := only_setCell HG4.out (.inr (by have := HZ3.out; simp only; omega)) _
  generalize w4.setCell ⟨w2.heap.size, 1, none⟩ (.int .i64 0) = w5 at *
  clear HP4 HR4 HV4 HG4 v1 x1
  have hneq : W.heap.size ≠ w2.heap.size := Nat.ne_of_lt HZ3.out
  go_wp2_with (first
    | (refine wpList_load_row rfl 30 (.tmp 6) rfl w2.heap.size rfl 30 _ (0, 0) _ HV5.out Tryz.underlying30 rfl v_info ?_)
    | (refine wpList_storeB rfl 30 (.tmp 4) (.tmp 118) rfl rfl W.heap.size #[.int .i64 (2), .int .i64 (0), .float .f64 (0), .string ⟨#[]⟩, .slice none 0 0, .slice none 0 0] rfl rfl HR5.out v_info rfl rfl ?_; intro w9 hB9 hg9 hz9))
  exact bodyPost_ret (results_cellB (p := 4) rfl _ hB9 _ rfl Tryz.underlying30 rfl v_info) rfl (⟨⟨_, _, _, rfl, rfl, rfl, HP5.out.grown hg9 (by have := HLT.out; intro e; injection e with e; omega)⟩, only_newZ HG5.out hg9 (Nat.le_refl _)⟩)
set_option maxRecDepth 100000 in
set_option maxHeartbeats 4000000 in
theorem c_rv_2 (xs : List Int) (A : Option Addr) (N c d g a p : Nat) (W : World) (E : Int) (hE : E = 65 - ((d + 1 : Nat) : Int)) (hP : RinAt W g xs A N c a p) (hm : ¬ 65536 ≤ p) (hka : a + 1 ≤ N) (hkg : xs.getD a 0 = 2) (hs : a + 9 ≤ N) (M : Nat) (hM : numL (sub xs (a + 1) 8) = M) (Z : Int) (hZ : IntKind.i64.wrap (M : Nat) = Z) :
    Calls Tryz.prog 67 #[.pointer (some ⟨g, 0, none⟩), .int .i64 E] W (RPost W g A N c (.ok (.mk 2 Z 0 ⟨#[]⟩ [] []) (a + 9) (p + 1))) := by
  have HB0 := Lib.hid hP.bk
  have hl := hP.len
  have HPA := Lib.hid hP
  have HL := Lib.hid hl
  have ha := hP.ha
  have hN := hP.hN
  have hpp := hP.hp
  have hle : ¬ 64 < E := by omega
  have HK1 : Hid (((numL (sub xs a 1) : Nat) : Int) = 2) := by show _ = _; rw [sub_one_ (by omega), hkg]; rfl
  have HM := Lib.hid hM
  have HZZ := Lib.hid hZ
  clear hM hZ
  clear hkg
  clear hl hP hE
  have HLT : Hid (g < W.heap.size) := HB0.out.lt
  have HP0 : Hid (Blk (W.alloc (.cells vz 30)) g 102 (RnC A N c a ((p : Int)) (0) (0))) := HB0.out.alloc _
  have HR0 := Lib.hid (Blk.new W 30 vz)
  have HG0 : Hid (W.grownBy (W.alloc (.cells vz 30)) (some g)) := only_alloc (World.grownBy.refl W _) _
  clear HB0
  go_enter Tryz.func67, Tryz.ntmps67
  go_upto_region 1 with fail
  unfold vz at *
  generalize W.alloc (.cells #[.int .i64 0, .int .i64 0, .float .f64 0, .string ⟨#[]⟩, .slice none 0 0, .slice none 0 0] 30) = w0 at *
  have p1 : w0.cell? ⟨g, 1, none⟩ = some (.int .i64 (a : Int)) := HP0.out.cell 1
  have p2 : w0.cell? ⟨g, 2, none⟩ = some (.int .i64 ((p : Int))) := HP0.out.cell 2
  have q2 : w0.frozen? ⟨g, 2, none⟩ = false := HP0.out.frozen 2
  go_upto_region 3 with fail
  have HP1 : Hid (Blk (w0.setCell ⟨g, 2, none⟩ (.int .i64 ((p : Int) + 1))) g 102 (RnC A N c a ((p : Int) + 1) (0) (0))) := HP0.out.set_ 2 (.int .i64 ((p : Int) + 1))
  have HR1 : Hid (Blk (w0.setCell ⟨g, 2, none⟩ (.int .i64 ((p : Int) + 1))) W.heap.size 30 #[.int .i64 0, .int .i64 0, .float .f64 0, .string ⟨#[]⟩, .slice none 0 0, .slice none 0 0]) := HR0.out.far (by have := HLT.out; simp only; omega) _
  have HG1 : Hid (W.grownBy (w0.setCell ⟨g, 2, none⟩ (.int .i64 ((p : Int) + 1))) (some g)) := only_setCell HG0.out (.inl rfl) _
  generalize w0.setCell ⟨g, 2, none⟩ (.int .i64 ((p : Int) + 1)) = w1 at *
  clear p1 p2 q2 HP0 HR0 HG0
  have p2 : w1.cell? ⟨g, 2, none⟩ = some (.int .i64 ((p : Int) + 1)) := HP1.out.cell 2
  have p4 : w1.cell? ⟨g, 4, none⟩ = some (.int .i64 (0)) := HP1.out.cell 4
  have hpe : ¬ (65536 : Int) < (p : Int) + 1 := by omega
  go_wp2_with fail
  have HR1' := Lib.hid (Reads.grown HPA.out.rd HG1.out (Nat.le_of_lt HLT.out) (fun _ h => by injection h with h; omega))
  refine (c_rword g a 1 A N c ((p : Int) + 1) 0 xs w1 HP1.out HR1'.out HPA.out.bt hN HPA.out.hc HPA.out.hm hka (by decide)).mono ?_; rintro e' w2 ⟨rfl, hb2, hg2⟩
  rw [HK1.out]
  clear p2 p4 HP1 HR1'
  have HGA := HG1
  have HRA := HR1
  clear HG1 HR1
  have HP2 := Lib.hid hb2
  have HG2 := Lib.hid (only_trans HGA.out hg2)
  have HR2 : Hid (Blk w2 W.heap.size 30 #[.int .i64 0, .int .i64 0, .float .f64 0, .string ⟨#[]⟩, .slice none 0 0, .slice none 0 0]) := HRA.out.grown hg2 (by have := HLT.out; intro e; injection e with e; omega)
  clear hb2 hg2
  have HVA := Lib.hid (Blk.new w2 30 #[.int .i64 0, .int .i64 0, .float .f64 0, .string ⟨#[]⟩, .slice none 0 0, .slice none 0 0])
  have HGN : Hid (w2.grownBy (w2.alloc (.cells #[.int .i64 0, .int .i64 0, .float .f64 0, .string ⟨#[]⟩, .slice none 0 0, .slice none 0 0] 30)) none) := only_alloc (World.grownBy.refl w2 none) _
  have HZ3 : Hid (W.heap.size < w2.heap.size) := HR2.out.lt
  go_upto_region 8 with (refine wpList_storeB rfl 30 (.tmp 6) (.tmp 48) rfl rfl w2.heap.size #[.int .i64 (2), .int .i64 0, .float .f64 0, .string ⟨#[]⟩, .slice none 0 0, .slice none 0 0] (by first | rfl | simp [Act.eval]) (by first | rfl | simp [Act.eval]) HVA.out v_info rfl rfl ?_; intro w3 hb3 hg3 hz3)
  have HV3 := Lib.hid hb3
  have HG23 : Hid (w2.grownBy w3 none) := ⟨hg3.os, hg3.tape, hg3.output, Nat.le_trans HGN.out.size hg3.size, fun i hi _ => (hg3.block i (Nat.lt_of_lt_of_le hi HGN.out.size) (by intro e; injection e with e; omega)).trans (HGN.out.block i hi (by simp))⟩
  have HP3 : Hid (Blk w3 g 102 (RnC A N c (a + 1) ((p : Int) + 1) (0) (0))) := HP2.out.grown HG23.out (by simp)
  have HR3 : Hid (Blk w3 W.heap.size 30 #[.int .i64 0, .int .i64 0, .float .f64 0, .string ⟨#[]⟩, .slice none 0 0, .slice none 0 0]) := HR2.out.grown HG23.out (by simp)
  have HG3 : Hid (W.grownBy w3 (some g)) := only_trans HG2.out ⟨HG23.out.os, HG23.out.tape, HG23.out.output, HG23.out.size, fun i hi _ => HG23.out.block i hi (by simp)⟩
  clear hb3 hg3 hz3 HVA HGN HG23 HP2 HR2 HG2
  have p1 : w3.cell? ⟨g, 1, none⟩ = some (.int .i64 ((a + 1 : Nat) : Int)) := HP3.out.cell 1
  have p4 : w3.cell? ⟨g, 4, none⟩ = some (.int .i64 (0)) := HP3.out.cell 4
  have v0 : w3.cell? ⟨w2.heap.size, 0, none⟩ = some (.int .i64 (2)) := HV3.out.cell 0
  have HR3' := Lib.hid (Reads.grown HPA.out.rd HG3.out (Nat.le_of_lt HLT.out) (fun _ h => by injection h with h; omega))
  go_wp2_with fail
  refine (c_rword g (a + 1) 8 A N c _ 0 xs w3 HP3.out HR3'.out HPA.out.bt hN HPA.out.hc HPA.out.hm (by omega) (by decide)).mono ?_; rintro e' w4 ⟨rfl, hb4, hg4⟩
  rw [HM.out]
  have HP4 := Lib.hid hb4
  have HG4 := Lib.hid (only_trans HG3.out hg4)
  have HR4 := Lib.hid (HR3.out.grown hg4 (by have := HLT.out; intro e; injection e with e; omega))
  have HV4 := Lib.hid (HV3.out.grown hg4 (by have := HLT.out; have := HZ3.out; intro e; injection e with e; omega))
  have v1 : w4.frozen? ⟨w2.heap.size, 1, none⟩ = false := HV4.out.frozen 1
  have x1 : w4.cell? ⟨w2.heap.size, 1, none⟩ = some (.int .i64 0) := HV4.out.cell 1
  clear p1 p4 hb4 hg4 HP3 HG3 HR3 HV3 HR3'
  have hz1 : wrap64 ((M : Nat) : Int) = Z := (IntWalk.i64_left _).symm.trans HZZ.out
  go_upto_region 28 with fail
  have HP5 : Hid (Blk (w4.setCell ⟨w2.heap.size, 1, none⟩ (.int .i64 Z)) g 102 _) := HP4.out.far (by have := HLT.out; have := HZ3.out; simp only; omega) _
  have HR5 : Hid (Blk (w4.setCell ⟨w2.heap.size, 1, none⟩ (.int .i64 Z)) W.heap.size 30 _) := HR4.out.far (by have := HZ3.out; simp only; omega) _
  have HV5 : Hid (Blk (w4.setCell ⟨w2.heap.size, 1, none⟩ (.int .i64 Z)) w2.heap.size 30 #[.int .i64 (2), .int .i64 (Z), .float .f64 (0), .string ⟨#[]⟩, .slice none 0 0, .slice none 0 0]) := HV4.out.set_ 1 _
  have HG5 : Hid (W.grownBy (w4.setCell ⟨w2.heap.size, 1, none⟩ (.int .i64 Z)) (some g)) := only_setCell HG4.out (.inr (by have := HZ3.out; simp only; omega)) _
  generalize w4.setCell ⟨w2.heap.size, 1, none⟩ (.int .i64 Z) = w5 at *
  clear HP4 HR4 HV4 HG4 v1 x1
  have hneq : W.heap.size ≠ w2.heap.size := Nat.ne_of_lt HZ3.out
  go_wp2_with (first
    | (refine wpList_load_row rfl 30 (.tmp 6) rfl w2.heap.size rfl 30 _ (0, 0) _ HV5.out Tryz.underlying30 rfl v_info ?_)
    | (refine wpList_storeB rfl 30 (.tmp 4) (.tmp 118) rfl rfl W.heap.size #[.int .i64 (2), .int .i64 (Z), .float .f64 (0), .string ⟨#[]⟩, .slice none 0 0, .slice none 0 0] rfl rfl HR5.out v_info rfl rfl ?_; intro w9 hB9 hg9 hz9))
  exact bodyPost_ret (results_cellB (p := 4) rfl _ hB9 _ rfl Tryz.underlying30 rfl v_info) rfl (⟨_, rfl, ((Fresh.leaf (W.heap.size + 1) w5 (k := 2) (i := Z) (f := 0) (t := ⟨#[]⟩)).on (by rw [hz9]; exact Nat.le_refl _) (fun i hi hj => hg9.block i hj (by intro e; injection e with e; omega))).lo_ (Nat.le_succ _), HP5.out.grown hg9 (by have := HLT.out; intro e; injection e with e; omega), only_newZ HG5.out hg9 (Nat.le_refl _)⟩)
set_option maxRecDepth 100000 in
set_option maxHeartbeats 4000000 in
theorem c_rv_3s (xs : List Int) (A : Option Addr) (N c d g a p : Nat) (W : World) (E : Int) (hE : E = 65 - ((d + 1 : Nat) : Int)) (hP : RinAt W g xs A N c a p) (hm : ¬ 65536 ≤ p) (hka : a + 1 ≤ N) (hkg : xs.getD a 0 = 3) (hs : N < a + 9) :
    Calls Tryz.prog 67 #[.pointer (some ⟨g, 0, none⟩), .int .i64 E] W (RPost W g A N c (.bad (a + 1) 3)) := by
  have HB0 := Lib.hid hP.bk
  have hl := hP.len
  have HPA := Lib.hid hP
  have HL := Lib.hid hl
  have ha := hP.ha
  have hN := hP.hN
  have hpp := hP.hp
  have hle : ¬ 64 < E := by omega
  have HK1 : Hid (((numL (sub xs a 1) : Nat) : Int) = 3) := by show _ = _; rw [sub_one_ (by omega), hkg]; rfl
  clear hkg
  clear hl hP hE
  have HLT : Hid (g < W.heap.size) := HB0.out.lt
  have HP0 : Hid (Blk (W.alloc (.cells vz 30)) g 102 (RnC A N c a ((p : Int)) (0) (0))) := HB0.out.alloc _
  have HR0 := Lib.hid (Blk.new W 30 vz)
  have HG0 : Hid (W.grownBy (W.alloc (.cells vz 30)) (some g)) := only_alloc (World.grownBy.refl W _) _
  clear HB0
  go_enter Tryz.func67, Tryz.ntmps67
  go_upto_region 1 with fail
  unfold vz at *
  generalize W.alloc (.cells #[.int .i64 0, .int .i64 0, .float .f64 0, .string ⟨#[]⟩, .slice none 0 0, .slice none 0 0] 30) = w0 at *
  have p1 : w0.cell? ⟨g, 1, none⟩ = some (.int .i64 (a : Int)) := HP0.out.cell 1
  have p2 : w0.cell? ⟨g, 2, none⟩ = some (.int .i64 ((p : Int))) := HP0.out.cell 2
  have q2 : w0.frozen? ⟨g, 2, none⟩ = false := HP0.out.frozen 2
  go_upto_region 3 with fail
  have HP1 : Hid (Blk (w0.setCell ⟨g, 2, none⟩ (.int .i64 ((p : Int) + 1))) g 102 (RnC A N c a ((p : Int) + 1) (0) (0))) := HP0.out.set_ 2 (.int .i64 ((p : Int) + 1))
  have HR1 : Hid (Blk (w0.setCell ⟨g, 2, none⟩ (.int .i64 ((p : Int) + 1))) W.heap.size 30 #[.int .i64 0, .int .i64 0, .float .f64 0, .string ⟨#[]⟩, .slice none 0 0, .slice none 0 0]) := HR0.out.far (by have := HLT.out; simp only; omega) _
  have HG1 : Hid (W.grownBy (w0.setCell ⟨g, 2, none⟩ (.int .i64 ((p : Int) + 1))) (some g)) := only_setCell HG0.out (.inl rfl) _
  generalize w0.setCell ⟨g, 2, none⟩ (.int .i64 ((p : Int) + 1)) = w1 at *
  clear p1 p2 q2 HP0 HR0 HG0
  have p2 : w1.cell? ⟨g, 2, none⟩ = some (.int .i64 ((p : Int) + 1)) := HP1.out.cell 2
  have p4 : w1.cell? ⟨g, 4, none⟩ = some (.int .i64 (0)) := HP1.out.cell 4
  have hpe : ¬ (65536 : Int) < (p : Int) + 1 := by omega
  go_wp2_with fail
  have HR1' := Lib.hid (Reads.grown HPA.out.rd HG1.out (Nat.le_of_lt HLT.out) (fun _ h => by injection h with h; omega))
  refine (c_rword g a 1 A N c ((p : Int) + 1) 0 xs w1 HP1.out HR1'.out HPA.out.bt hN HPA.out.hc HPA.out.hm hka (by decide)).mono ?_; rintro e' w2 ⟨rfl, hb2, hg2⟩
  rw [HK1.out]
  clear p2 p4 HP1 HR1'
  have HGA := HG1
  have HRA := HR1
  clear HG1 HR1
  have HP2 := Lib.hid hb2
  have HG2 := Lib.hid (only_trans HGA.out hg2)
  have HR2 : Hid (Blk w2 W.heap.size 30 #[.int .i64 0, .int .i64 0, .float .f64 0, .string ⟨#[]⟩, .slice none 0 0, .slice none 0 0]) := HRA.out.grown hg2 (by have := HLT.out; intro e; injection e with e; omega)
  clear hb2 hg2
  have HVA := Lib.hid (Blk.new w2 30 #[.int .i64 0, .int .i64 0, .float .f64 0, .string ⟨#[]⟩, .slice none 0 0, .slice none 0 0])
  have HGN : Hid (w2.grownBy (w2.alloc (.cells #[.int .i64 0, .int .i64 0, .float .f64 0, .string ⟨#[]⟩, .slice none 0 0, .slice none 0 0] 30)) none) := only_alloc (World.grownBy.refl w2 none) _
  have HZ3 : Hid (W.heap.size < w2.heap.size) := HR2.out.lt
  go_upto_region 8 with (refine wpList_storeB rfl 30 (.tmp 6) (.tmp 48) rfl rfl w2.heap.size #[.int .i64 (3), .int .i64 0, .float .f64 0, .string ⟨#[]⟩, .slice none 0 0, .slice none 0 0] (by first | rfl | simp [Act.eval]) (by first | rfl | simp [Act.eval]) HVA.out v_info rfl rfl ?_; intro w3 hb3 hg3 hz3)
  have HV3 := Lib.hid hb3
  have HG23 : Hid (w2.grownBy w3 none) := ⟨hg3.os, hg3.tape, hg3.output, Nat.le_trans HGN.out.size hg3.size, fun i hi _ => (hg3.block i (Nat.lt_of_lt_of_le hi HGN.out.size) (by intro e; injection e with e; omega)).trans (HGN.out.block i hi (by simp))⟩
  have HP3 : Hid (Blk w3 g 102 (RnC A N c (a + 1) ((p : Int) + 1) (0) (0))) := HP2.out.grown HG23.out (by simp)
  have HR3 : Hid (Blk w3 W.heap.size 30 #[.int .i64 0, .int .i64 0, .float .f64 0, .string ⟨#[]⟩, .slice none 0 0, .slice none 0 0]) := HR2.out.grown HG23.out (by simp)
  have HG3 : Hid (W.grownBy w3 (some g)) := only_trans HG2.out ⟨HG23.out.os, HG23.out.tape, HG23.out.output, HG23.out.size, fun i hi _ => HG23.out.block i hi (by simp)⟩
  clear hb3 hg3 hz3 HVA HGN HG23 HP2 HR2 HG2
  have p1 : w3.cell? ⟨g, 1, none⟩ = some (.int .i64 ((a + 1 : Nat) : Int)) := HP3.out.cell 1
  have p4 : w3.cell? ⟨g, 4, none⟩ = some (.int .i64 (0)) := HP3.out.cell 4
  have v0 : w3.cell? ⟨w2.heap.size, 0, none⟩ = some (.int .i64 (3)) := HV3.out.cell 0
  have HR3' := Lib.hid (Reads.grown HPA.out.rd HG3.out (Nat.le_of_lt HLT.out) (fun _ h => by injection h with h; omega))
  obtain ⟨F, hF⟩ : ∃ F, fone 0 = F := ⟨_, rfl⟩
  go_wp2_with fail
  refine (c_rfloat_bad g (a + 1) A N c _ 0 w3 HP3.out (by omega) hN (by omega)).mono ?_; rintro e' w4 ⟨rfl, hb4, hg4⟩
  rw [hF]
  clear hF
  have HP4 := Lib.hid hb4
  have HG4 := Lib.hid (only_trans HG3.out hg4)
  have HR4 := Lib.hid (HR3.out.grown hg4 (by have := HLT.out; intro e; injection e with e; omega))
  have HV4 := Lib.hid (HV3.out.grown hg4 (by have := HLT.out; have := HZ3.out; intro e; injection e with e; omega))
  have v1 : w4.frozen? ⟨w2.heap.size, 2, none⟩ = false := HV4.out.frozen 2
  have x1 : w4.cell? ⟨w2.heap.size, 2, none⟩ = some (.float .f64 0) := HV4.out.cell 2
  clear p1 p4 hb4 hg4 HP3 HG3 HR3 HV3 HR3'
  go_upto_region 28 with fail
  have HP5 : Hid (Blk (w4.setCell ⟨w2.heap.size, 2, none⟩ (.float .f64 F)) g 102 _) := HP4.out.far (by have := HLT.out; have := HZ3.out; simp only; omega) _
  have HR5 : Hid (Blk (w4.setCell ⟨w2.heap.size, 2, none⟩ (.float .f64 F)) W.heap.size 30 _) := HR4.out.far (by have := HZ3.out; simp only; omega) _
  have HV5 : Hid (Blk (w4.setCell ⟨w2.heap.size, 2, none⟩ (.float .f64 F)) w2.heap.size 30 #[.int .i64 (3), .int .i64 (0), .float .f64 (F), .string ⟨#[]⟩, .slice none 0 0, .slice none 0 0]) := HV4.out.set_ 2 _
  have HG5 : Hid (W.grownBy (w4.setCell ⟨w2.heap.size, 2, none⟩ (.float .f64 F)) (some g)) := only_setCell HG4.out (.inr (by have := HZ3.out; simp only; omega)) _
  generalize w4.setCell ⟨w2.heap.size, 2, none⟩ (.float .f64 F) = w5 at *
  clear HP4 HR4 HV4 HG4 v1 x1
  have hneq : W.heap.size ≠ w2.heap.size := Nat.ne_of_lt HZ3.out
  go_wp2_with (first
    | (refine wpList_load_row rfl 30 (.tmp 6) rfl w2.heap.size rfl 30 _ (0, 0) _ HV5.out Tryz.underlying30 rfl v_info ?_)
    | (refine wpList_storeB rfl 30 (.tmp 4) (.tmp 118) rfl rfl W.heap.size #[.int .i64 (3), .int .i64 (0), .float .f64 (F), .string ⟨#[]⟩, .slice none 0 0, .slice none 0 0] rfl rfl HR5.out v_info rfl rfl ?_; intro w9 hB9 hg9 hz9))
  exact bodyPost_ret (results_cellB (p := 4) rfl _ hB9 _ rfl Tryz.underlying30 rfl v_info) rfl (⟨⟨_, _, _, rfl, rfl, rfl, HP5.out.grown hg9 (by have := HLT.out; intro e; injection e with e; omega)⟩, only_newZ HG5.out hg9 (Nat.le_refl _)⟩)
set_option maxRecDepth 100000 in
set_option maxHeartbeats 4000000 in
theorem c_rv_3b (xs : List Int) (A : Option Addr) (N c d g a p : Nat) (W : World) (E : Int) (hE : E = 65 - ((d + 1 : Nat) : Int)) (hP : RinAt W g xs A N c a p) (hm : ¬ 65536 ≤ p) (hka : a + 1 ≤ N) (hkg : xs.getD a 0 = 3) (hs : a + 9 ≤ N) (M : Nat) (hM : numL (sub xs (a + 1) 8) = M) (hF : fone M ≠ M) :
    Calls Tryz.prog 67 #[.pointer (some ⟨g, 0, none⟩), .int .i64 E] W (RPost W g A N c (.bad (a + 1) 4)) := by
  have HB0 := Lib.hid hP.bk
  have hl := hP.len
  have HPA := Lib.hid hP
  have HL := Lib.hid hl
  have ha := hP.ha
  have hN := hP.hN
  have hpp := hP.hp
  have hle : ¬ 64 < E := by omega
  have HK1 : Hid (((numL (sub xs a 1) : Nat) : Int) = 3) := by show _ = _; rw [sub_one_ (by omega), hkg]; rfl
  have HM := Lib.hid hM
  have HFF := Lib.hid hF
  clear hM hF
  clear hkg
  clear hl hP hE
  have HLT : Hid (g < W.heap.size) := HB0.out.lt
  have HP0 : Hid (Blk (W.alloc (.cells vz 30)) g 102 (RnC A N c a ((p : Int)) (0) (0))) := HB0.out.alloc _
  have HR0 := Lib.hid (Blk.new W 30 vz)
  have HG0 : Hid (W.grownBy (W.alloc (.cells vz 30)) (some g)) := only_alloc (World.grownBy.refl W _) _
  clear HB0
  go_enter Tryz.func67, Tryz.ntmps67
  go_upto_region 1 with fail
  unfold vz at *
  generalize W.alloc (.cells #[.int .i64 0, .int .i64 0, .float .f64 0, .string ⟨#[]⟩, .slice none 0 0, .slice none 0 0] 30) = w0 at *
  have p1 : w0.cell? ⟨g, 1, none⟩ = some (.int .i64 (a : Int)) := HP0.out.cell 1
  have p2 : w0.cell? ⟨g, 2, none⟩ = some (.int .i64 ((p : Int))) := HP0.out.cell 2
  have q2 : w0.frozen? ⟨g, 2, none⟩ = false := HP0.out.frozen 2
  go_upto_region 3 with fail
  have HP1 : Hid (Blk (w0.setCell ⟨g, 2, none⟩ (.int .i64 ((p : Int) + 1))) g 102 (RnC A N c a ((p : Int) + 1) (0) (0))) := HP0.out.set_ 2 (.int .i64 ((p : Int) + 1))
  have HR1 : Hid (Blk (w0.setCell ⟨g, 2, none⟩ (.int .i64 ((p : Int) + 1))) W.heap.size 30 #[.int .i64 0, .int .i64 0, .float .f64 0, .string ⟨#[]⟩, .slice none 0 0, .slice none 0 0]) := HR0.out.far (by have := HLT.out; simp only; omega) _
  have HG1 : Hid (W.grownBy (w0.setCell ⟨g, 2, none⟩ (.int .i64 ((p : Int) + 1))) (some g)) := only_setCell HG0.out (.inl rfl) _
  generalize w0.setCell ⟨g, 2, none⟩ (.int .i64 ((p : Int) + 1)) = w1 at *
  clear p1 p2 q2 HP0 HR0 HG0
  have p2 : w1.cell? ⟨g, 2, none⟩ = some (.int .i64 ((p : Int) + 1)) := HP1.out.cell 2
  have p4 : w1.cell? ⟨g, 4, none⟩ = some (.int .i64 (0)) := HP1.out.cell 4
  have hpe : ¬ (65536 : Int) < (p : Int) + 1 := by omega
  go_wp2_with fail
  have HR1' := Lib.hid (Reads.grown HPA.out.rd HG1.out (Nat.le_of_lt HLT.out) (fun _ h => by injection h with h; omega))
  refine (c_rword g a 1 A N c ((p : Int) + 1) 0 xs w1 HP1.out HR1'.out HPA.out.bt hN HPA.out.hc HPA.out.hm hka (by decide)).mono ?_; rintro e' w2 ⟨rfl, hb2, hg2⟩
  rw [HK1.out]
  clear p2 p4 HP1 HR1'
  have HGA := HG1
  have HRA := HR1
  clear HG1 HR1
  have HP2 := Lib.hid hb2
  have HG2 := Lib.hid (only_trans HGA.out hg2)
  have HR2 : Hid (Blk w2 W.heap.size 30 #[.int .i64 0, .int .i64 0, .float .f64 0, .string ⟨#[]⟩, .slice none 0 0, .slice none 0 0]) := HRA.out.grown hg2 (by have := HLT.out; intro e; injection e with e; omega)
  clear hb2 hg2
  have HVA := Lib.hid (Blk.new w2 30 #[.int .i64 0, .int .i64 0, .float .f64 0, .string ⟨#[]⟩, .slice none 0 0, .slice none 0 0])
  have HGN : Hid (w2.grownBy (w2.alloc (.cells #[.int .i64 0, .int .i64 0, .float .f64 0, .string ⟨#[]⟩, .slice none 0 0, .slice none 0 0] 30)) none) := only_alloc (World.grownBy.refl w2 none) _
  have HZ3 : Hid (W.heap.size < w2.heap.size) := HR2.out.lt
  go_upto_region 8 with (refine wpList_storeB rfl 30 (.tmp 6) (.tmp 48) rfl rfl w2.heap.size #[.int .i64 (3), .int .i64 0, .float .f64 0, .string ⟨#[]⟩, .slice none 0 0, .slice none 0 0] (by first | rfl | simp [Act.eval]) (by first | rfl | simp [Act.eval]) HVA.out v_info rfl rfl ?_; intro w3 hb3 hg3 hz3)
  have HV3 := Lib.hid hb3
  have HG23 : Hid (w2.grownBy w3 none) := ⟨hg3.os, hg3.tape, hg3.output, Nat.le_trans HGN.out.size hg3.size, fun i hi _ => (hg3.block i (Nat.lt_of_lt_of_le hi HGN.out.size) (by intro e; injection e with e; omega)).trans (HGN.out.block i hi (by simp))⟩
  have HP3 : Hid (Blk w3 g 102 (RnC A N c (a + 1) ((p : Int) + 1) (0) (0))) := HP2.out.grown HG23.out (by simp)
  have HR3 : Hid (Blk w3 W.heap.size 30 #[.int .i64 0, .int .i64 0, .float .f64 0, .string ⟨#[]⟩, .slice none 0 0, .slice none 0 0]) := HR2.out.grown HG23.out (by simp)
  have HG3 : Hid (W.grownBy w3 (some g)) := only_trans HG2.out ⟨HG23.out.os, HG23.out.tape, HG23.out.output, HG23.out.size, fun i hi _ => HG23.out.block i hi (by simp)⟩
  clear hb3 hg3 hz3 HVA HGN HG23 HP2 HR2 HG2
  have p1 : w3.cell? ⟨g, 1, none⟩ = some (.int .i64 ((a + 1 : Nat) : Int)) := HP3.out.cell 1
  have p4 : w3.cell? ⟨g, 4, none⟩ = some (.int .i64 (0)) := HP3.out.cell 4
  have v0 : w3.cell? ⟨w2.heap.size, 0, none⟩ = some (.int .i64 (3)) := HV3.out.cell 0
  have HR3' := Lib.hid (Reads.grown HPA.out.rd HG3.out (Nat.le_of_lt HLT.out) (fun _ h => by injection h with h; omega))
  obtain ⟨F, hF⟩ : ∃ F, fone M = F := ⟨_, rfl⟩
  go_wp2_with fail
  refine (c_rfloat g (a + 1) A N c _ 0 xs w3 HP3.out HR3'.out HPA.out.bt hN HPA.out.hc HPA.out.hm (by omega) M HM.out).mono ?_; rintro e' w4 ⟨rfl, _, hb4, hg4⟩
  replace hb4 := hb4 HFF.out
  rw [hF]
  clear hF
  have HP4 := Lib.hid hb4
  have HG4 := Lib.hid (only_trans HG3.out hg4)
  have HR4 := Lib.hid (HR3.out.grown hg4 (by have := HLT.out; intro e; injection e with e; omega))
  have HV4 := Lib.hid (HV3.out.grown hg4 (by have := HLT.out; have := HZ3.out; intro e; injection e with e; omega))
  have v1 : w4.frozen? ⟨w2.heap.size, 2, none⟩ = false := HV4.out.frozen 2
  have x1 : w4.cell? ⟨w2.heap.size, 2, none⟩ = some (.float .f64 0) := HV4.out.cell 2
  clear p1 p4 hb4 hg4 HP3 HG3 HR3 HV3 HR3'
  go_upto_region 28 with fail
  have HP5 : Hid (Blk (w4.setCell ⟨w2.heap.size, 2, none⟩ (.float .f64 F)) g 102 _) := HP4.out.far (by have := HLT.out; have := HZ3.out; simp only; omega) _
  have HR5 : Hid (Blk (w4.setCell ⟨w2.heap.size, 2, none⟩ (.float .f64 F)) W.heap.size 30 _) := HR4.out.far (by have := HZ3.out; simp only; omega) _
  have HV5 : Hid (Blk (w4.setCell ⟨w2.heap.size, 2, none⟩ (.float .f64 F)) w2.heap.size 30 #[.int .i64 (3), .int .i64 (0), .float .f64 (F), .string ⟨#[]⟩, .slice none 0 0, .slice none 0 0]) := HV4.out.set_ 2 _
  have HG5 : Hid (W.grownBy (w4.setCell ⟨w2.heap.size, 2, none⟩ (.float .f64 F)) (some g)) := only_setCell HG4.out (.inr (by have := HZ3.out; simp only; omega)) _
  generalize w4.setCell ⟨w2.heap.size, 2, none⟩ (.float .f64 F) = w5 at *
  clear HP4 HR4 HV4 HG4 v1 x1
  have hneq : W.heap.size ≠ w2.heap.size := Nat.ne_of_lt HZ3.out
  go_wp2_with (first
    | (refine wpList_load_row rfl 30 (.tmp 6) rfl w2.heap.size rfl 30 _ (0, 0) _ HV5.out Tryz.underlying30 rfl v_info ?_)
    | (refine wpList_storeB rfl 30 (.tmp 4) (.tmp 118) rfl rfl W.heap.size #[.int .i64 (3), .int .i64 (0), .float .f64 (F), .string ⟨#[]⟩, .slice none 0 0, .slice none 0 0] rfl rfl HR5.out v_info rfl rfl ?_; intro w9 hB9 hg9 hz9))
  exact bodyPost_ret (results_cellB (p := 4) rfl _ hB9 _ rfl Tryz.underlying30 rfl v_info) rfl (⟨⟨_, _, _, rfl, rfl, rfl, HP5.out.grown hg9 (by have := HLT.out; intro e; injection e with e; omega)⟩, only_newZ HG5.out hg9 (Nat.le_refl _)⟩)
set_option maxRecDepth 100000 in
set_option maxHeartbeats 4000000 in
theorem c_rv_3 (xs : List Int) (A : Option Addr) (N c d g a p : Nat) (W : World) (E : Int) (hE : E = 65 - ((d + 1 : Nat) : Int)) (hP : RinAt W g xs A N c a p) (hm : ¬ 65536 ≤ p) (hka : a + 1 ≤ N) (hkg : xs.getD a 0 = 3) (hs : a + 9 ≤ N) (M : Nat) (hM : numL (sub xs (a + 1) 8) = M) (hF : fone M = M) :
    Calls Tryz.prog 67 #[.pointer (some ⟨g, 0, none⟩), .int .i64 E] W (RPost W g A N c (.ok (.mk 3 0 M ⟨#[]⟩ [] []) (a + 9) (p + 1))) := by
  have HB0 := Lib.hid hP.bk
  have hl := hP.len
  have HPA := Lib.hid hP
  have HL := Lib.hid hl
  have ha := hP.ha
  have hN := hP.hN
  have hpp := hP.hp
  have hle : ¬ 64 < E := by omega
  have HK1 : Hid (((numL (sub xs a 1) : Nat) : Int) = 3) := by show _ = _; rw [sub_one_ (by omega), hkg]; rfl
  have HM := Lib.hid hM
  have HFF := Lib.hid hF
  clear hM hF
  clear hkg
  clear hl hP hE
  have HLT : Hid (g < W.heap.size) := HB0.out.lt
  have HP0 : Hid (Blk (W.alloc (.cells vz 30)) g 102 (RnC A N c a ((p : Int)) (0) (0))) := HB0.out.alloc _
  have HR0 := Lib.hid (Blk.new W 30 vz)
  have HG0 : Hid (W.grownBy (W.alloc (.cells vz 30)) (some g)) := only_alloc (World.grownBy.refl W _) _
  clear HB0
  go_enter Tryz.func67, Tryz.ntmps67
  go_upto_region 1 with fail
  unfold vz at *
  generalize W.alloc (.cells #[.int .i64 0, .int .i64 0, .float .f64 0, .string ⟨#[]⟩, .slice none 0 0, .slice none 0 0] 30) = w0 at *
  have p1 : w0.cell? ⟨g, 1, none⟩ = some (.int .i64 (a : Int)) := HP0.out.cell 1
  have p2 : w0.cell? ⟨g, 2, none⟩ = some (.int .i64 ((p : Int))) := HP0.out.cell 2
  have q2 : w0.frozen? ⟨g, 2, none⟩ = false := HP0.out.frozen 2
  go_upto_region 3 with fail
  have HP1 : Hid (Blk (w0.setCell ⟨g, 2, none⟩ (.int .i64 ((p : Int) + 1))) g 102 (RnC A N c a ((p : Int) + 1) (0) (0))) := HP0.out.set_ 2 (.int .i64 ((p : Int) + 1))
  have HR1 : Hid (Blk (w0.setCell ⟨g, 2, none⟩ (.int .i64 ((p : Int) + 1))) W.heap.size 30 #[.int .i64 0, .int .i64 0, .float .f64 0, .string ⟨#[]⟩, .slice none 0 0, .slice none 0 0]) := HR0.out.far (by have := HLT.out; simp only; omega) _
  have HG1 : Hid (W.grownBy (w0.setCell ⟨g, 2, none⟩ (.int .i64 ((p : Int) + 1))) (some g)) := only_setCell HG0.out (.inl rfl) _
  generalize w0.setCell ⟨g, 2, none⟩ (.int .i64 ((p : Int) + 1)) = w1 at *
  clear p1 p2 q2 HP0 HR0 HG0
  have p2 : w1.cell? ⟨g, 2, none⟩ = some (.int .i64 ((p : Int) + 1)) := HP1.out.cell 2
  have p4 : w1.cell? ⟨g, 4, none⟩ = some (.int .i64 (0)) := HP1.out.cell 4
  have hpe : ¬ (65536 : Int) < (p : Int) + 1 := by omega
  go_wp2_with fail
  have HR1' := Lib.hid (Reads.grown HPA.out.rd HG1.out (Nat.le_of_lt HLT.out) (fun _ h => by injection h with h; omega))
  refine (c_rword g a 1 A N c ((p : Int) + 1) 0 xs w1 HP1.out HR1'.out HPA.out.bt hN HPA.out.hc HPA.out.hm hka (by decide)).mono ?_; rintro e' w2 ⟨rfl, hb2, hg2⟩
  rw [HK1.out]
  clear p2 p4 HP1 HR1'
  have HGA := HG1
  have HRA := HR1
  clear HG1 HR1
  have HP2 := Lib.hid hb2
  have HG2 := Lib.hid (only_trans HGA.out hg2)
  have HR2 : Hid (Blk w2 W.heap.size 30 #[.int .i64 0, .int .i64 0, .float .f64 0, .string ⟨#[]⟩, .slice none 0 0, .slice none 0 0]) := HRA.out.grown hg2 (by have := HLT.out; intro e; injection e with e; omega)
  clear hb2 hg2
  have HVA := Lib.hid (Blk.new w2 30 #[.int .i64 0, .int .i64 0, .float .f64 0, .string ⟨#[]⟩, .slice none 0 0, .slice none 0 0])
  have HGN : Hid (w2.grownBy (w2.alloc (.cells #[.int .i64 0, .int .i64 0, .float .f64 0, .string ⟨#[]⟩, .slice none 0 0, .slice none 0 0] 30)) none) := only_alloc (World.grownBy.refl w2 none) _
  have HZ3 : Hid (W.heap.size < w2.heap.size) := HR2.out.lt
  go_upto_region 8 with (refine wpList_storeB rfl 30 (.tmp 6) (.tmp 48) rfl rfl w2.heap.size #[.int .i64 (3), .int .i64 0, .float .f64 0, .string ⟨#[]⟩, .slice none 0 0, .slice none 0 0] (by first | rfl | simp [Act.eval]) (by first | rfl | simp [Act.eval]) HVA.out v_info rfl rfl ?_; intro w3 hb3 hg3 hz3)
  have HV3 := Lib.hid hb3
  have HG23 : Hid (w2.grownBy w3 none) := ⟨hg3.os, hg3.tape, hg3.output, Nat.le_trans HGN.out.size hg3.size, fun i hi _ => (hg3.block i (Nat.lt_of_lt_of_le hi HGN.out.size) (by intro e; injection e with e; omega)).trans (HGN.out.block i hi (by simp))⟩
  have HP3 : Hid (Blk w3 g 102 (RnC A N c (a + 1) ((p : Int) + 1) (0) (0))) := HP2.out.grown HG23.out (by simp)
  have HR3 : Hid (Blk w3 W.heap.size 30 #[.int .i64 0, .int .i64 0, .float .f64 0, .string ⟨#[]⟩, .slice none 0 0, .slice none 0 0]) := HR2.out.grown HG23.out (by simp)
  have HG3 : Hid (W.grownBy w3 (some g)) := only_trans HG2.out ⟨HG23.out.os, HG23.out.tape, HG23.out.output, HG23.out.size, fun i hi _ => HG23.out.block i hi (by simp)⟩
  clear hb3 hg3 hz3 HVA HGN HG23 HP2 HR2 HG2
  have p1 : w3.cell? ⟨g, 1, none⟩ = some (.int .i64 ((a + 1 : Nat) : Int)) := HP3.out.cell 1
  have p4 : w3.cell? ⟨g, 4, none⟩ = some (.int .i64 (0)) := HP3.out.cell 4
  have v0 : w3.cell? ⟨w2.heap.size, 0, none⟩ = some (.int .i64 (3)) := HV3.out.cell 0
  have HR3' := Lib.hid (Reads.grown HPA.out.rd HG3.out (Nat.le_of_lt HLT.out) (fun _ h => by injection h with h; omega))
  go_wp2_with fail
  refine (c_rfloat g (a + 1) A N c _ 0 xs w3 HP3.out HR3'.out HPA.out.bt hN HPA.out.hc HPA.out.hm (by omega) M HM.out).mono ?_; rintro e' w4 ⟨rfl, hb4, _, hg4⟩
  replace hb4 := hb4 HFF.out
  rw [HFF.out]
  have HP4 := Lib.hid hb4
  have HG4 := Lib.hid (only_trans HG3.out hg4)
  have HR4 := Lib.hid (HR3.out.grown hg4 (by have := HLT.out; intro e; injection e with e; omega))
  have HV4 := Lib.hid (HV3.out.grown hg4 (by have := HLT.out; have := HZ3.out; intro e; injection e with e; omega))
  have v1 : w4.frozen? ⟨w2.heap.size, 2, none⟩ = false := HV4.out.frozen 2
  have x1 : w4.cell? ⟨w2.heap.size, 2, none⟩ = some (.float .f64 0) := HV4.out.cell 2
  clear p1 p4 hb4 hg4 HP3 HG3 HR3 HV3 HR3'
  go_upto_region 28 with fail
  have HP5 : Hid (Blk (w4.setCell ⟨w2.heap.size, 2, none⟩ (.float .f64 M)) g 102 _) := HP4.out.far (by have := HLT.out; have := HZ3.out; simp only; omega) _
  have HR5 : Hid (Blk (w4.setCell ⟨w2.heap.size, 2, none⟩ (.float .f64 M)) W.heap.size 30 _) := HR4.out.far (by have := HZ3.out; simp only; omega) _
  have HV5 : Hid (Blk (w4.setCell ⟨w2.heap.size, 2, none⟩ (.float .f64 M)) w2.heap.size 30 #[.int .i64 (3), .int .i64 (0), .float .f64 (M), .string ⟨#[]⟩, .slice none 0 0, .slice none 0 0]) := HV4.out.set_ 2 _
  have HG5 : Hid (W.grownBy (w4.setCell ⟨w2.heap.size, 2, none⟩ (.float .f64 M)) (some g)) := only_setCell HG4.out (.inr (by have := HZ3.out; simp only; omega)) _
  generalize w4.setCell ⟨w2.heap.size, 2, none⟩ (.float .f64 M) = w5 at *
  clear HP4 HR4 HV4 HG4 v1 x1
  have hneq : W.heap.size ≠ w2.heap.size := Nat.ne_of_lt HZ3.out
  go_wp2_with (first
    | (refine wpList_load_row rfl 30 (.tmp 6) rfl w2.heap.size rfl 30 _ (0, 0) _ HV5.out Tryz.underlying30 rfl v_info ?_)
    | (refine wpList_storeB rfl 30 (.tmp 4) (.tmp 118) rfl rfl W.heap.size #[.int .i64 (3), .int .i64 (0), .float .f64 (M), .string ⟨#[]⟩, .slice none 0 0, .slice none 0 0] rfl rfl HR5.out v_info rfl rfl ?_; intro w9 hB9 hg9 hz9))
  exact bodyPost_ret (results_cellB (p := 4) rfl _ hB9 _ rfl Tryz.underlying30 rfl v_info) rfl (⟨_, rfl, ((Fresh.leaf (W.heap.size + 1) w5 (k := 3) (i := 0) (f := M) (t := ⟨#[]⟩)).on (by rw [hz9]; exact Nat.le_refl _) (fun i hi hj => hg9.block i hj (by intro e; injection e with e; omega))).lo_ (Nat.le_succ _), HP5.out.grown hg9 (by have := HLT.out; intro e; injection e with e; omega), only_newZ HG5.out hg9 (Nat.le_refl _)⟩)
set_option maxRecDepth 100000 in
set_option maxHeartbeats 4000000 in
theorem c_rv_4b (xs : List Int) (A : Option Addr) (N c d g a p : Nat) (W : World) (E : Int) (hE : E = 65 - ((d + 1 : Nat) : Int)) (hP : RinAt W g xs A N c a p) (hm : ¬ 65536 ≤ p) (hka : a + 1 ≤ N) (hkg : xs.getD a 0 = 4) (a4 : Nat) (e4 : Int) (htx : rtx xs false (a + 1) = .bad a4 e4) :
    Calls Tryz.prog 67 #[.pointer (some ⟨g, 0, none⟩), .int .i64 E] W (RPost W g A N c (.bad a4 e4)) := by
  have HB0 := Lib.hid hP.bk
  have hl := hP.len
  have HPA := Lib.hid hP
  have HL := Lib.hid hl
  have ha := hP.ha
  have hN := hP.hN
  have hpp := hP.hp
  have hle : ¬ 64 < E := by omega
  have HK1 : Hid (((numL (sub xs a 1) : Nat) : Int) = 4) := by show _ = _; rw [sub_one_ (by omega), hkg]; rfl
  have HTX := Lib.hid htx
  clear htx
  clear hkg
  clear hl hP hE
  have HLT : Hid (g < W.heap.size) := HB0.out.lt
  have HP0 : Hid (Blk (W.alloc (.cells vz 30)) g 102 (RnC A N c a ((p : Int)) (0) (0))) := HB0.out.alloc _
  have HR0 := Lib.hid (Blk.new W 30 vz)
  have HG0 : Hid (W.grownBy (W.alloc (.cells vz 30)) (some g)) := only_alloc (World.grownBy.refl W _) _
  clear HB0
  go_enter Tryz.func67, Tryz.ntmps67
  go_upto_region 1 with fail
  unfold vz at *
  generalize W.alloc (.cells #[.int .i64 0, .int .i64 0, .float .f64 0, .string ⟨#[]⟩, .slice none 0 0, .slice none 0 0] 30) = w0 at *
  have p1 : w0.cell? ⟨g, 1, none⟩ = some (.int .i64 (a : Int)) := HP0.out.cell 1
  have p2 : w0.cell? ⟨g, 2, none⟩ = some (.int .i64 ((p : Int))) := HP0.out.cell 2
  have q2 : w0.frozen? ⟨g, 2, none⟩ = false := HP0.out.frozen 2
  go_upto_region 3 with fail
  have HP1 : Hid (Blk (w0.setCell ⟨g, 2, none⟩ (.int .i64 ((p : Int) + 1))) g 102 (RnC A N c a ((p : Int) + 1) (0) (0))) := HP0.out.set_ 2 (.int .i64 ((p : Int) + 1))
  have HR1 : Hid (Blk (w0.setCell ⟨g, 2, none⟩ (.int .i64 ((p : Int) + 1))) W.heap.size 30 #[.int .i64 0, .int .i64 0, .float .f64 0, .string ⟨#[]⟩, .slice none 0 0, .slice none 0 0]) := HR0.out.far (by have := HLT.out; simp only; omega) _
  have HG1 : Hid (W.grownBy (w0.setCell ⟨g, 2, none⟩ (.int .i64 ((p : Int) + 1))) (some g)) := only_setCell HG0.out (.inl rfl) _
  generalize w0.setCell ⟨g, 2, none⟩ (.int .i64 ((p : Int) + 1)) = w1 at *
  clear p1 p2 q2 HP0 HR0 HG0
  have p2 : w1.cell? ⟨g, 2, none⟩ = some (.int .i64 ((p : Int) + 1)) := HP1.out.cell 2
  have p4 : w1.cell? ⟨g, 4, none⟩ = some (.int .i64 (0)) := HP1.out.cell 4
  have hpe : ¬ (65536 : Int) < (p : Int) + 1 := by omega
  go_wp2_with fail
  have HR1' := Lib.hid (Reads.grown HPA.out.rd HG1.out (Nat.le_of_lt HLT.out) (fun _ h => by injection h with h; omega))
  refine (c_rword g a 1 A N c ((p : Int) + 1) 0 xs w1 HP1.out HR1'.out HPA.out.bt hN HPA.out.hc HPA.out.hm hka (by decide)).mono ?_; rintro e' w2 ⟨rfl, hb2, hg2⟩
  rw [HK1.out]
  clear p2 p4 HP1 HR1'
  have HGA := HG1
  have HRA := HR1
  clear HG1 HR1
  have HP2 := Lib.hid hb2
  have HG2 := Lib.hid (only_trans HGA.out hg2)
  have HR2 : Hid (Blk w2 W.heap.size 30 #[.int .i64 0, .int .i64 0, .float .f64 0, .string ⟨#[]⟩, .slice none 0 0, .slice none 0 0]) := HRA.out.grown hg2 (by have := HLT.out; intro e; injection e with e; omega)
  clear hb2 hg2
  have HVA := Lib.hid (Blk.new w2 30 #[.int .i64 0, .int .i64 0, .float .f64 0, .string ⟨#[]⟩, .slice none 0 0, .slice none 0 0])
  have HGN : Hid (w2.grownBy (w2.alloc (.cells #[.int .i64 0, .int .i64 0, .float .f64 0, .string ⟨#[]⟩, .slice none 0 0, .slice none 0 0] 30)) none) := only_alloc (World.grownBy.refl w2 none) _
  have HZ3 : Hid (W.heap.size < w2.heap.size) := HR2.out.lt
  go_upto_region 8 with (refine wpList_storeB rfl 30 (.tmp 6) (.tmp 48) rfl rfl w2.heap.size #[.int .i64 (4), .int .i64 0, .float .f64 0, .string ⟨#[]⟩, .slice none 0 0, .slice none 0 0] (by first | rfl | simp [Act.eval]) (by first | rfl | simp [Act.eval]) HVA.out v_info rfl rfl ?_; intro w3 hb3 hg3 hz3)
  have HV3 := Lib.hid hb3
  have HG23 : Hid (w2.grownBy w3 none) := ⟨hg3.os, hg3.tape, hg3.output, Nat.le_trans HGN.out.size hg3.size, fun i hi _ => (hg3.block i (Nat.lt_of_lt_of_le hi HGN.out.size) (by intro e; injection e with e; omega)).trans (HGN.out.block i hi (by simp))⟩
  have HP3 : Hid (Blk w3 g 102 (RnC A N c (a + 1) ((p : Int) + 1) (0) (0))) := HP2.out.grown HG23.out (by simp)
  have HR3 : Hid (Blk w3 W.heap.size 30 #[.int .i64 0, .int .i64 0, .float .f64 0, .string ⟨#[]⟩, .slice none 0 0, .slice none 0 0]) := HR2.out.grown HG23.out (by simp)
  have HG3 : Hid (W.grownBy w3 (some g)) := only_trans HG2.out ⟨HG23.out.os, HG23.out.tape, HG23.out.output, HG23.out.size, fun i hi _ => HG23.out.block i hi (by simp)⟩
  clear hb3 hg3 hz3 HVA HGN HG23 HP2 HR2 HG2
  have p1 : w3.cell? ⟨g, 1, none⟩ = some (.int .i64 ((a + 1 : Nat) : Int)) := HP3.out.cell 1
  have p4 : w3.cell? ⟨g, 4, none⟩ = some (.int .i64 (0)) := HP3.out.cell 4
  have v0 : w3.cell? ⟨w2.heap.size, 0, none⟩ = some (.int .i64 (4)) := HV3.out.cell 0
  have HR3' := Lib.hid (Reads.grown HPA.out.rd HG3.out (Nat.le_of_lt HLT.out) (fun _ h => by injection h with h; omega))
  have htx := c_rtext g (a + 1) false A N c ((p : Int) + 1) 0 xs w3 HP3.out HR3'.out HPA.out.bt (by omega) hN HPA.out.hc HPA.out.hm
  rw [HTX.out] at htx
  have HTC := Lib.hid htx
  clear htx
  go_wp2_with fail
  refine HTC.out.mono ?_
  rintro e' w4 ⟨⟨s, a2, rfl, hb4⟩, hg4⟩
  clear HTC
  have HP4 := Lib.hid hb4
  have HG4 := Lib.hid (only_trans HG3.out hg4)
  have HR4 := Lib.hid (HR3.out.grown hg4 (by have := HLT.out; intro e; injection e with e; omega))
  have HV4 := Lib.hid (HV3.out.grown hg4 (by have := HLT.out; have := HZ3.out; intro e; injection e with e; omega))
  have v1 : w4.frozen? ⟨w2.heap.size, 3, none⟩ = false := HV4.out.frozen 3
  have x1 : w4.cell? ⟨w2.heap.size, 3, none⟩ = some (.string ⟨#[]⟩) := HV4.out.cell 3
  clear p1 p4 hb4 hg4 HP3 HG3 HR3 HV3 HR3'
  go_upto_region 28 with fail
  have HP5 : Hid (Blk (w4.setCell ⟨w2.heap.size, 3, none⟩ (.string s)) g 102 _) := HP4.out.far (by have := HLT.out; have := HZ3.out; simp only; omega) _
  have HR5 : Hid (Blk (w4.setCell ⟨w2.heap.size, 3, none⟩ (.string s)) W.heap.size 30 _) := HR4.out.far (by have := HZ3.out; simp only; omega) _
  have HV5 : Hid (Blk (w4.setCell ⟨w2.heap.size, 3, none⟩ (.string s)) w2.heap.size 30 #[.int .i64 (4), .int .i64 (0), .float .f64 (0), .string (s), .slice none 0 0, .slice none 0 0]) := HV4.out.set_ 3 _
  have HG5 : Hid (W.grownBy (w4.setCell ⟨w2.heap.size, 3, none⟩ (.string s)) (some g)) := only_setCell HG4.out (.inr (by have := HZ3.out; simp only; omega)) _
  generalize w4.setCell ⟨w2.heap.size, 3, none⟩ (.string s) = w5 at *
  clear HP4 HR4 HV4 HG4 v1 x1
  have hneq : W.heap.size ≠ w2.heap.size := Nat.ne_of_lt HZ3.out
  go_wp2_with (first
    | (refine wpList_load_row rfl 30 (.tmp 6) rfl w2.heap.size rfl 30 _ (0, 0) _ HV5.out Tryz.underlying30 rfl v_info ?_)
    | (refine wpList_storeB rfl 30 (.tmp 4) (.tmp 118) rfl rfl W.heap.size #[.int .i64 (4), .int .i64 (0), .float .f64 (0), .string (s), .slice none 0 0, .slice none 0 0] rfl rfl HR5.out v_info rfl rfl ?_; intro w9 hB9 hg9 hz9))
  exact bodyPost_ret (results_cellB (p := 4) rfl _ hB9 _ rfl Tryz.underlying30 rfl v_info) rfl (⟨⟨_, _, _, rfl, rfl, rfl, HP5.out.grown hg9 (by have := HLT.out; intro e; injection e with e; omega)⟩, only_newZ HG5.out hg9 (Nat.le_refl _)⟩)
set_option maxRecDepth 100000 in
set_option maxHeartbeats 4000000 in
theorem c_rv_4 (xs : List Int) (A : Option Addr) (N c d g a p : Nat) (W : World) (E : Int) (hE : E = 65 - ((d + 1 : Nat) : Int)) (hP : RinAt W g xs A N c a p) (hm : ¬ 65536 ≤ p) (hka : a + 1 ≤ N) (hkg : xs.getD a 0 = 4) (s : ByteArray) (a4 : Nat) (htx : rtx xs false (a + 1) = .ok s a4) :
    Calls Tryz.prog 67 #[.pointer (some ⟨g, 0, none⟩), .int .i64 E] W (RPost W g A N c (.ok (.mk 4 0 0 s [] []) a4 (p + 1))) := by
  have HB0 := Lib.hid hP.bk
  have hl := hP.len
  have HPA := Lib.hid hP
  have HL := Lib.hid hl
  have ha := hP.ha
  have hN := hP.hN
  have hpp := hP.hp
  have hle : ¬ 64 < E := by omega
  have HK1 : Hid (((numL (sub xs a 1) : Nat) : Int) = 4) := by show _ = _; rw [sub_one_ (by omega), hkg]; rfl
  have HTX := Lib.hid htx
  clear htx
  clear hkg
  clear hl hP hE
  have HLT : Hid (g < W.heap.size) := HB0.out.lt
  have HP0 : Hid (Blk (W.alloc (.cells vz 30)) g 102 (RnC A N c a ((p : Int)) (0) (0))) := HB0.out.alloc _
  have HR0 := Lib.hid (Blk.new W 30 vz)
  have HG0 : Hid (W.grownBy (W.alloc (.cells vz 30)) (some g)) := only_alloc (World.grownBy.refl W _) _
  clear HB0
  go_enter Tryz.func67, Tryz.ntmps67
  go_upto_region 1 with fail
  unfold vz at *
  generalize W.alloc (.cells #[.int .i64 0, .int .i64 0, .float .f64 0, .string ⟨#[]⟩, .slice none 0 0, .slice none 0 0] 30) = w0 at *
  have p1 : w0.cell? ⟨g, 1, none⟩ = some (.int .i64 (a : Int)) := HP0.out.cell 1
  have p2 : w0.cell? ⟨g, 2, none⟩ = some (.int .i64 ((p : Int))) := HP0.out.cell 2
  have q2 : w0.frozen? ⟨g, 2, none⟩ = false := HP0.out.frozen 2
  go_upto_region 3 with fail
  have HP1 : Hid (Blk (w0.setCell ⟨g, 2, none⟩ (.int .i64 ((p : Int) + 1))) g 102 (RnC A N c a ((p : Int) + 1) (0) (0))) := HP0.out.set_ 2 (.int .i64 ((p : Int) + 1))
  have HR1 : Hid (Blk (w0.setCell ⟨g, 2, none⟩ (.int .i64 ((p : Int) + 1))) W.heap.size 30 #[.int .i64 0, .int .i64 0, .float .f64 0, .string ⟨#[]⟩, .slice none 0 0, .slice none 0 0]) := HR0.out.far (by have := HLT.out; simp only; omega) _
  have HG1 : Hid (W.grownBy (w0.setCell ⟨g, 2, none⟩ (.int .i64 ((p : Int) + 1))) (some g)) := only_setCell HG0.out (.inl rfl) _
  generalize w0.setCell ⟨g, 2, none⟩ (.int .i64 ((p : Int) + 1)) = w1 at *
  clear p1 p2 q2 HP0 HR0 HG0
  have p2 : w1.cell? ⟨g, 2, none⟩ = some (.int .i64 ((p : Int) + 1)) := HP1.out.cell 2
  have p4 : w1.cell? ⟨g, 4, none⟩ = some (.int .i64 (0)) := HP1.out.cell 4
  have hpe : ¬ (65536 : Int) < (p : Int) + 1 := by omega
  go_wp2_with fail
  have HR1' := Lib.hid (Reads.grown HPA.out.rd HG1.out (Nat.le_of_lt HLT.out) (fun _ h => by injection h with h; omega))
  refine (c_rword g a 1 A N c ((p : Int) + 1) 0 xs w1 HP1.out HR1'.out HPA.out.bt hN HPA.out.hc HPA.out.hm hka (by decide)).mono ?_; rintro e' w2 ⟨rfl, hb2, hg2⟩
  rw [HK1.out]
  clear p2 p4 HP1 HR1'
  have HGA := HG1
  have HRA := HR1
  clear HG1 HR1
  have HP2 := Lib.hid hb2
  have HG2 := Lib.hid (only_trans HGA.out hg2)
  have HR2 : Hid (Blk w2 W.heap.size 30 #[.int .i64 0, .int .i64 0, .float .f64 0, .string ⟨#[]⟩, .slice none 0 0, .slice none 0 0]) := HRA.out.grown hg2 (by have := HLT.out; intro e; injection e with e; omega)
  clear hb2 hg2
  have HVA := Lib.hid (Blk.new w2 30 #[.int .i64 0, .int .i64 0, .float .f64 0, .string ⟨#[]⟩, .slice none 0 0, .slice none 0 0])
  have HGN : Hid (w2.grownBy (w2.alloc (.cells #[.int .i64 0, .int .i64 0, .float .f64 0, .string ⟨#[]⟩, .slice none 0 0, .slice none 0 0] 30)) none) := only_alloc (World.grownBy.refl w2 none) _
  have HZ3 : Hid (W.heap.size < w2.heap.size) := HR2.out.lt
  go_upto_region 8 with (refine wpList_storeB rfl 30 (.tmp 6) (.tmp 48) rfl rfl w2.heap.size #[.int .i64 (4), .int .i64 0, .float .f64 0, .string ⟨#[]⟩, .slice none 0 0, .slice none 0 0] (by first | rfl | simp [Act.eval]) (by first | rfl | simp [Act.eval]) HVA.out v_info rfl rfl ?_; intro w3 hb3 hg3 hz3)
  have HV3 := Lib.hid hb3
  have HG23 : Hid (w2.grownBy w3 none) := ⟨hg3.os, hg3.tape, hg3.output, Nat.le_trans HGN.out.size hg3.size, fun i hi _ => (hg3.block i (Nat.lt_of_lt_of_le hi HGN.out.size) (by intro e; injection e with e; omega)).trans (HGN.out.block i hi (by simp))⟩
  have HP3 : Hid (Blk w3 g 102 (RnC A N c (a + 1) ((p : Int) + 1) (0) (0))) := HP2.out.grown HG23.out (by simp)
  have HR3 : Hid (Blk w3 W.heap.size 30 #[.int .i64 0, .int .i64 0, .float .f64 0, .string ⟨#[]⟩, .slice none 0 0, .slice none 0 0]) := HR2.out.grown HG23.out (by simp)
  have HG3 : Hid (W.grownBy w3 (some g)) := only_trans HG2.out ⟨HG23.out.os, HG23.out.tape, HG23.out.output, HG23.out.size, fun i hi _ => HG23.out.block i hi (by simp)⟩
  clear hb3 hg3 hz3 HVA HGN HG23 HP2 HR2 HG2
  have p1 : w3.cell? ⟨g, 1, none⟩ = some (.int .i64 ((a + 1 : Nat) : Int)) := HP3.out.cell 1
  have p4 : w3.cell? ⟨g, 4, none⟩ = some (.int .i64 (0)) := HP3.out.cell 4
  have v0 : w3.cell? ⟨w2.heap.size, 0, none⟩ = some (.int .i64 (4)) := HV3.out.cell 0
  have HR3' := Lib.hid (Reads.grown HPA.out.rd HG3.out (Nat.le_of_lt HLT.out) (fun _ h => by injection h with h; omega))
  have htx := c_rtext g (a + 1) false A N c ((p : Int) + 1) 0 xs w3 HP3.out HR3'.out HPA.out.bt (by omega) hN HPA.out.hc HPA.out.hm
  rw [HTX.out] at htx
  have HTC := Lib.hid htx
  clear htx
  go_wp2_with fail
  refine HTC.out.mono ?_
  rintro e' w4 ⟨rfl, hb4, hg4⟩
  clear HTC
  have HP4 := Lib.hid hb4
  have HG4 := Lib.hid (only_trans HG3.out hg4)
  have HR4 := Lib.hid (HR3.out.grown hg4 (by have := HLT.out; intro e; injection e with e; omega))
  have HV4 := Lib.hid (HV3.out.grown hg4 (by have := HLT.out; have := HZ3.out; intro e; injection e with e; omega))
  have v1 : w4.frozen? ⟨w2.heap.size, 3, none⟩ = false := HV4.out.frozen 3
  have x1 : w4.cell? ⟨w2.heap.size, 3, none⟩ = some (.string ⟨#[]⟩) := HV4.out.cell 3
  clear p1 p4 hb4 hg4 HP3 HG3 HR3 HV3 HR3'
  go_upto_region 28 with fail
  have HP5 : Hid (Blk (w4.setCell ⟨w2.heap.size, 3, none⟩ (.string s)) g 102 _) := HP4.out.far (by have := HLT.out; have := HZ3.out; simp only; omega) _
  have HR5 : Hid (Blk (w4.setCell ⟨w2.heap.size, 3, none⟩ (.string s)) W.heap.size 30 _) := HR4.out.far (by have := HZ3.out; simp only; omega) _
  have HV5 : Hid (Blk (w4.setCell ⟨w2.heap.size, 3, none⟩ (.string s)) w2.heap.size 30 #[.int .i64 (4), .int .i64 (0), .float .f64 (0), .string (s), .slice none 0 0, .slice none 0 0]) := HV4.out.set_ 3 _
  have HG5 : Hid (W.grownBy (w4.setCell ⟨w2.heap.size, 3, none⟩ (.string s)) (some g)) := only_setCell HG4.out (.inr (by have := HZ3.out; simp only; omega)) _
  generalize w4.setCell ⟨w2.heap.size, 3, none⟩ (.string s) = w5 at *
  clear HP4 HR4 HV4 HG4 v1 x1
  have hneq : W.heap.size ≠ w2.heap.size := Nat.ne_of_lt HZ3.out
  go_wp2_with (first
    | (refine wpList_load_row rfl 30 (.tmp 6) rfl w2.heap.size rfl 30 _ (0, 0) _ HV5.out Tryz.underlying30 rfl v_info ?_)
    | (refine wpList_storeB rfl 30 (.tmp 4) (.tmp 118) rfl rfl W.heap.size #[.int .i64 (4), .int .i64 (0), .float .f64 (0), .string (s), .slice none 0 0, .slice none 0 0] rfl rfl HR5.out v_info rfl rfl ?_; intro w9 hB9 hg9 hz9))
  exact bodyPost_ret (results_cellB (p := 4) rfl _ hB9 _ rfl Tryz.underlying30 rfl v_info) rfl (⟨_, rfl, ((Fresh.leaf (W.heap.size + 1) w5 (k := 4) (i := 0) (f := 0) (t := s)).on (by rw [hz9]; exact Nat.le_refl _) (fun i hi hj => hg9.block i hj (by intro e; injection e with e; omega))).lo_ (Nat.le_succ _), HP5.out.grown hg9 (by have := HLT.out; intro e; injection e with e; omega), only_newZ HG5.out hg9 (Nat.le_refl _)⟩)
set_option maxRecDepth 100000 in
set_option maxHeartbeats 4000000 in
theorem c_rv_5b (xs : List Int) (A : Option Addr) (N c d g a p : Nat) (W : World) (E : Int) (hE : E = 65 - ((d + 1 : Nat) : Int)) (hP : RinAt W g xs A N c a p) (hm : ¬ 65536 ≤ p) (hka : a + 1 ≤ N) (hkg : xs.getD a 0 = 5) (a4 : Nat) (e4 : Int) (htx : rtx xs false (a + 1) = .bad a4 e4) :
    Calls Tryz.prog 67 #[.pointer (some ⟨g, 0, none⟩), .int .i64 E] W (RPost W g A N c (.bad a4 e4)) := by
  have HB0 := Lib.hid hP.bk
  have hl := hP.len
  have HPA := Lib.hid hP
  have HL := Lib.hid hl
  have ha := hP.ha
  have hN := hP.hN
  have hpp := hP.hp
  have hle : ¬ 64 < E := by omega
  have HK1 : Hid (((numL (sub xs a 1) : Nat) : Int) = 5) := by show _ = _; rw [sub_one_ (by omega), hkg]; rfl
  have HTX := Lib.hid htx
  clear htx
  clear hkg
  clear hl hP hE
  have HLT : Hid (g < W.heap.size) := HB0.out.lt
  have HP0 : Hid (Blk (W.alloc (.cells vz 30)) g 102 (RnC A N c a ((p : Int)) (0) (0))) := HB0.out.alloc _
  have HR0 := Lib.hid (Blk.new W 30 vz)
  have HG0 : Hid (W.grownBy (W.alloc (.cells vz 30)) (some g)) := only_alloc (World.grownBy.refl W _) _
  clear HB0
  go_enter Tryz.func67, Tryz.ntmps67
  go_upto_region 1 with fail
  unfold vz at *
  generalize W.alloc (.cells #[.int .i64 0, .int .i64 0, .float .f64 0, .string ⟨#[]⟩, .slice none 0 0, .slice none 0 0] 30) = w0 at *
  have p1 : w0.cell? ⟨g, 1, none⟩ = some (.int .i64 (a : Int)) := HP0.out.cell 1
  have p2 : w0.cell? ⟨g, 2, none⟩ = some (.int .i64 ((p : Int))) := HP0.out.cell 2
  have q2 : w0.frozen? ⟨g, 2, none⟩ = false := HP0.out.frozen 2
  go_upto_region 3 with fail
  have HP1 : Hid (Blk (w0.setCell ⟨g, 2, none⟩ (.int .i64 ((p : Int) + 1))) g 102 (RnC A N c a ((p : Int) + 1) (0) (0))) := HP0.out.set_ 2 (.int .i64 ((p : Int) + 1))
  have HR1 : Hid (Blk (w0.setCell ⟨g, 2, none⟩ (.int .i64 ((p : Int) + 1))) W.heap.size 30 #[.int .i64 0, .int .i64 0, .float .f64 0, .string ⟨#[]⟩, .slice none 0 0, .slice none 0 0]) := HR0.out.far (by have := HLT.out; simp only; omega) _
  have HG1 : Hid (W.grownBy (w0.setCell ⟨g, 2, none⟩ (.int .i64 ((p : Int) + 1))) (some g)) := only_setCell HG0.out (.inl rfl) _
  generalize w0.setCell ⟨g, 2, none⟩ (.int .i64 ((p : Int) + 1)) = w1 at *
  clear p1 p2 q2 HP0 HR0 HG0
  have p2 : w1.cell? ⟨g, 2, none⟩ = some (.int .i64 ((p : Int) + 1)) := HP1.out.cell 2
  have p4 : w1.cell? ⟨g, 4, none⟩ = some (.int .i64 (0)) := HP1.out.cell 4
  have hpe : ¬ (65536 : Int) < (p : Int) + 1 := by omega
  go_wp2_with fail
  have HR1' := Lib.hid (Reads.grown HPA.out.rd HG1.out (Nat.le_of_lt HLT.out) (fun _ h => by injection h with h; omega))
  refine (c_rword g a 1 A N c ((p : Int) + 1) 0 xs w1 HP1.out HR1'.out HPA.out.bt hN HPA.out.hc HPA.out.hm hka (by decide)).mono ?_; rintro e' w2 ⟨rfl, hb2, hg2⟩
  rw [HK1.out]
  clear p2 p4 HP1 HR1'
  have HGA := HG1
  have HRA := HR1
  clear HG1 HR1
  have HP2 := Lib.hid hb2
  have HG2 := Lib.hid (only_trans HGA.out hg2)
  have HR2 : Hid (Blk w2 W.heap.size 30 #[.int .i64 0, .int .i64 0, .float .f64 0, .string ⟨#[]⟩, .slice none 0 0, .slice none 0 0]) := HRA.out.grown hg2 (by have := HLT.out; intro e; injection e with e; omega)
  clear hb2 hg2
  have HVA := Lib.hid (Blk.new w2 30 #[.int .i64 0, .int .i64 0, .float .f64 0, .string ⟨#[]⟩, .slice none 0 0, .slice none 0 0])
  have HGN : Hid (w2.grownBy (w2.alloc (.cells #[.int .i64 0, .int .i64 0, .float .f64 0, .string ⟨#[]⟩, .slice none 0 0, .slice none 0 0] 30)) none) := only_alloc (World.grownBy.refl w2 none) _
  have HZ3 : Hid (W.heap.size < w2.heap.size) := HR2.out.lt
  go_upto_region 8 with (refine wpList_storeB rfl 30 (.tmp 6) (.tmp 48) rfl rfl w2.heap.size #[.int .i64 (5), .int .i64 0, .float .f64 0, .string ⟨#[]⟩, .slice none 0 0, .slice none 0 0] (by first | rfl | simp [Act.eval]) (by first | rfl | simp [Act.eval]) HVA.out v_info rfl rfl ?_; intro w3 hb3 hg3 hz3)
  have HV3 := Lib.hid hb3
  have HG23 : Hid (w2.grownBy w3 none) := ⟨hg3.os, hg3.tape, hg3.output, Nat.le_trans HGN.out.size hg3.size, fun i hi _ => (hg3.block i (Nat.lt_of_lt_of_le hi HGN.out.size) (by intro e; injection e with e; omega)).trans (HGN.out.block i hi (by simp))⟩
  have HP3 : Hid (Blk w3 g 102 (RnC A N c (a + 1) ((p : Int) + 1) (0) (0))) := HP2.out.grown HG23.out (by simp)
  have HR3 : Hid (Blk w3 W.heap.size 30 #[.int .i64 0, .int .i64 0, .float .f64 0, .string ⟨#[]⟩, .slice none 0 0, .slice none 0 0]) := HR2.out.grown HG23.out (by simp)
  have HG3 : Hid (W.grownBy w3 (some g)) := only_trans HG2.out ⟨HG23.out.os, HG23.out.tape, HG23.out.output, HG23.out.size, fun i hi _ => HG23.out.block i hi (by simp)⟩
  clear hb3 hg3 hz3 HVA HGN HG23 HP2 HR2 HG2
  have p1 : w3.cell? ⟨g, 1, none⟩ = some (.int .i64 ((a + 1 : Nat) : Int)) := HP3.out.cell 1
  have p4 : w3.cell? ⟨g, 4, none⟩ = some (.int .i64 (0)) := HP3.out.cell 4
  have v0 : w3.cell? ⟨w2.heap.size, 0, none⟩ = some (.int .i64 (5)) := HV3.out.cell 0
  have HR3' := Lib.hid (Reads.grown HPA.out.rd HG3.out (Nat.le_of_lt HLT.out) (fun _ h => by injection h with h; omega))
  have htx := c_rtext g (a + 1) false A N c ((p : Int) + 1) 0 xs w3 HP3.out HR3'.out HPA.out.bt (by omega) hN HPA.out.hc HPA.out.hm
  rw [HTX.out] at htx
  have HTC := Lib.hid htx
  clear htx
  go_wp2_with fail
  refine HTC.out.mono ?_
  rintro e' w4 ⟨⟨s, a2, rfl, hb4⟩, hg4⟩
  clear HTC
  have HP4 := Lib.hid hb4
  have HG4 := Lib.hid (only_trans HG3.out hg4)
  have HR4 := Lib.hid (HR3.out.grown hg4 (by have := HLT.out; intro e; injection e with e; omega))
  have HV4 := Lib.hid (HV3.out.grown hg4 (by have := HLT.out; have := HZ3.out; intro e; injection e with e; omega))
  have v1 : w4.frozen? ⟨w2.heap.size, 3, none⟩ = false := HV4.out.frozen 3
  have x1 : w4.cell? ⟨w2.heap.size, 3, none⟩ = some (.string ⟨#[]⟩) := HV4.out.cell 3
  clear p1 p4 hb4 hg4 HP3 HG3 HR3 HV3 HR3'
  go_upto_region 28 with fail
  have HP5 : Hid (Blk (w4.setCell ⟨w2.heap.size, 3, none⟩ (.string s)) g 102 _) := HP4.out.far (by have := HLT.out; have := HZ3.out; simp only; omega) _
  have HR5 : Hid (Blk (w4.setCell ⟨w2.heap.size, 3, none⟩ (.string s)) W.heap.size 30 _) := HR4.out.far (by have := HZ3.out; simp only; omega) _
  have HV5 : Hid (Blk (w4.setCell ⟨w2.heap.size, 3, none⟩ (.string s)) w2.heap.size 30 #[.int .i64 (5), .int .i64 (0), .float .f64 (0), .string (s), .slice none 0 0, .slice none 0 0]) := HV4.out.set_ 3 _
  have HG5 : Hid (W.grownBy (w4.setCell ⟨w2.heap.size, 3, none⟩ (.string s)) (some g)) := only_setCell HG4.out (.inr (by have := HZ3.out; simp only; omega)) _
  generalize w4.setCell ⟨w2.heap.size, 3, none⟩ (.string s) = w5 at *
  clear HP4 HR4 HV4 HG4 v1 x1
  have hneq : W.heap.size ≠ w2.heap.size := Nat.ne_of_lt HZ3.out
  go_wp2_with (first
    | (refine wpList_load_row rfl 30 (.tmp 6) rfl w2.heap.size rfl 30 _ (0, 0) _ HV5.out Tryz.underlying30 rfl v_info ?_)
    | (refine wpList_storeB rfl 30 (.tmp 4) (.tmp 118) rfl rfl W.heap.size #[.int .i64 (5), .int .i64 (0), .float .f64 (0), .string (s), .slice none 0 0, .slice none 0 0] rfl rfl HR5.out v_info rfl rfl ?_; intro w9 hB9 hg9 hz9))
  exact bodyPost_ret (results_cellB (p := 4) rfl _ hB9 _ rfl Tryz.underlying30 rfl v_info) rfl (⟨⟨_, _, _, rfl, rfl, rfl, HP5.out.grown hg9 (by have := HLT.out; intro e; injection e with e; omega)⟩, only_newZ HG5.out hg9 (Nat.le_refl _)⟩)
set_option maxRecDepth 100000 in
set_option maxHeartbeats 4000000 in
theorem c_rv_5 (xs : List Int) (A : Option Addr) (N c d g a p : Nat) (W : World) (E : Int) (hE : E = 65 - ((d + 1 : Nat) : Int)) (hP : RinAt W g xs A N c a p) (hm : ¬ 65536 ≤ p) (hka : a + 1 ≤ N) (hkg : xs.getD a 0 = 5) (s : ByteArray) (a4 : Nat) (htx : rtx xs false (a + 1) = .ok s a4) :
    Calls Tryz.prog 67 #[.pointer (some ⟨g, 0, none⟩), .int .i64 E] W (RPost W g A N c (.ok (.mk 5 0 0 s [] []) a4 (p + 1))) := by
  have HB0 := Lib.hid hP.bk
  have hl := hP.len
  have HPA := Lib.hid hP
  have HL := Lib.hid hl
  have ha := hP.ha
  have hN := hP.hN
  have hpp := hP.hp
  have hle : ¬ 64 < E := by omega
  have HK1 : Hid (((numL (sub xs a 1) : Nat) : Int) = 5) := by show _ = _; rw [sub_one_ (by omega), hkg]; rfl
  have HTX := Lib.hid htx
  clear htx
  clear hkg
  clear hl hP hE
  have HLT : Hid (g < W.heap.size) := HB0.out.lt
  have HP0 : Hid (Blk (W.alloc (.cells vz 30)) g 102 (RnC A N c a ((p : Int)) (0) (0))) := HB0.out.alloc _
  have HR0 := Lib.hid (Blk.new W 30 vz)
  have HG0 : Hid (W.grownBy (W.alloc (.cells vz 30)) (some g)) := only_alloc (World.grownBy.refl W _) _
  clear HB0
  go_enter Tryz.func67, Tryz.ntmps67
  go_upto_region 1 with fail
  unfold vz at *
  generalize W.alloc (.cells #[.int .i64 0, .int .i64 0, .float .f64 0, .string ⟨#[]⟩, .slice none 0 0, .slice none 0 0] 30) = w0 at *
  have p1 : w0.cell? ⟨g, 1, none⟩ = some (.int .i64 (a : Int)) := HP0.out.cell 1
  have p2 : w0.cell? ⟨g, 2, none⟩ = some (.int .i64 ((p : Int))) := HP0.out.cell 2
  have q2 : w0.frozen? ⟨g, 2, none⟩ = false := HP0.out.frozen 2
  go_upto_region 3 with fail
  have HP1 : Hid (Blk (w0.setCell ⟨g, 2, none⟩ (.int .i64 ((p : Int) + 1))) g 102 (RnC A N c a ((p : Int) + 1) (0) (0))) := HP0.out.set_ 2 (.int .i64 ((p : Int) + 1))
  have HR1 : Hid (Blk (w0.setCell ⟨g, 2, none⟩ (.int .i64 ((p : Int) + 1))) W.heap.size 30 #[.int .i64 0, .int .i64 0, .float .f64 0, .string ⟨#[]⟩, .slice none 0 0, .slice none 0 0]) := HR0.out.far (by have := HLT.out; simp only; omega) _
  have HG1 : Hid (W.grownBy (w0.setCell ⟨g, 2, none⟩ (.int .i64 ((p : Int) + 1))) (some g)) := only_setCell HG0.out (.inl rfl) _
  generalize w0.setCell ⟨g, 2, none⟩ (.int .i64 ((p : Int) + 1)) = w1 at *
  clear p1 p2 q2 HP0 HR0 HG0
  have p2 : w1.cell? ⟨g, 2, none⟩ = some (.int .i64 ((p : Int) + 1)) := HP1.out.cell 2
  have p4 : w1.cell? ⟨g, 4, none⟩ = some (.int .i64 (0)) := HP1.out.cell 4
  have hpe : ¬ (65536 : Int) < (p : Int) + 1 := by omega
  go_wp2_with fail
  have HR1' := Lib.hid (Reads.grown HPA.out.rd HG1.out (Nat.le_of_lt HLT.out) (fun _ h => by injection h with h; omega))
  refine (c_rword g a 1 A N c ((p : Int) + 1) 0 xs w1 HP1.out HR1'.out HPA.out.bt hN HPA.out.hc HPA.out.hm hka (by decide)).mono ?_; rintro e' w2 ⟨rfl, hb2, hg2⟩
  rw [HK1.out]
  clear p2 p4 HP1 HR1'
  have HGA := HG1
  have HRA := HR1
  clear HG1 HR1
  have HP2 := Lib.hid hb2
  have HG2 := Lib.hid (only_trans HGA.out hg2)
  have HR2 : Hid (Blk w2 W.heap.size 30 #[.int .i64 0, .int .i64 0, .float .f64 0, .string ⟨#[]⟩, .slice none 0 0, .slice none 0 0]) := HRA.out.grown hg2 (by have := HLT.out; intro e; injection e with e; omega)
  clear hb2 hg2
  have HVA := Lib.hid (Blk.new w2 30 #[.int .i64 0, .int .i64 0, .float .f64 0, .string ⟨#[]⟩, .slice none 0 0, .slice none 0 0])
  have HGN : Hid (w2.grownBy (w2.alloc (.cells #[.int .i64 0, .int .i64 0, .float .f64 0, .string ⟨#[]⟩, .slice none 0 0, .slice none 0 0] 30)) none) := only_alloc (World.grownBy.refl w2 none) _
  have HZ3 : Hid (W.heap.size < w2.heap.size) := HR2.out.lt
  go_upto_region 8 with (refine wpList_storeB rfl 30 (.tmp 6) (.tmp 48) rfl rfl w2.heap.size #[.int .i64 (5), .int .i64 0, .float .f64 0, .string ⟨#[]⟩, .slice none 0 0, .slice none 0 0] (by first | rfl | simp [Act.eval]) (by first | rfl | simp [Act.eval]) HVA.out v_info rfl rfl ?_; intro w3 hb3 hg3 hz3)
  have HV3 := Lib.hid hb3
  have HG23 : Hid (w2.grownBy w3 none) := ⟨hg3.os, hg3.tape, hg3.output, Nat.le_trans HGN.out.size hg3.size, fun i hi _ => (hg3.block i (Nat.lt_of_lt_of_le hi HGN.out.size) (by intro e; injection e with e; omega)).trans (HGN.out.block i hi (by simp))⟩
  have HP3 : Hid (Blk w3 g 102 (RnC A N c (a + 1) ((p : Int) + 1) (0) (0))) := HP2.out.grown HG23.out (by simp)
  have HR3 : Hid (Blk w3 W.heap.size 30 #[.int .i64 0, .int .i64 0, .float .f64 0, .string ⟨#[]⟩, .slice none 0 0, .slice none 0 0]) := HR2.out.grown HG23.out (by simp)
  have HG3 : Hid (W.grownBy w3 (some g)) := only_trans HG2.out ⟨HG23.out.os, HG23.out.tape, HG23.out.output, HG23.out.size, fun i hi _ => HG23.out.block i hi (by simp)⟩
  clear hb3 hg3 hz3 HVA HGN HG23 HP2 HR2 HG2
  have p1 : w3.cell? ⟨g, 1, none⟩ = some (.int .i64 ((a + 1 : Nat) : Int)) := HP3.out.cell 1
  have p4 : w3.cell? ⟨g, 4, none⟩ = some (.int .i64 (0)) := HP3.out.cell 4
  have v0 : w3.cell? ⟨w2.heap.size, 0, none⟩ = some (.int .i64 (5)) := HV3.out.cell 0
  have HR3' := Lib.hid (Reads.grown HPA.out.rd HG3.out (Nat.le_of_lt HLT.out) (fun _ h => by injection h with h; omega))
  have htx := c_rtext g (a + 1) false A N c ((p : Int) + 1) 0 xs w3 HP3.out HR3'.out HPA.out.bt (by omega) hN HPA.out.hc HPA.out.hm
  rw [HTX.out] at htx
  have HTC := Lib.hid htx
  clear htx
  go_wp2_with fail
  refine HTC.out.mono ?_
  rintro e' w4 ⟨rfl, hb4, hg4⟩
  clear HTC
  have HP4 := Lib.hid hb4
  have HG4 := Lib.hid (only_trans HG3.out hg4)
  have HR4 := Lib.hid (HR3.out.grown hg4 (by have := HLT.out; intro e; injection e with e; omega))
  have HV4 := Lib.hid (HV3.out.grown hg4 (by have := HLT.out; have := HZ3.out; intro e; injection e with e; omega))
  have v1 : w4.frozen? ⟨w2.heap.size, 3, none⟩ = false := HV4.out.frozen 3
  have x1 : w4.cell? ⟨w2.heap.size, 3, none⟩ = some (.string ⟨#[]⟩) := HV4.out.cell 3
  clear p1 p4 hb4 hg4 HP3 HG3 HR3 HV3 HR3'
  go_upto_region 28 with fail
  have HP5 : Hid (Blk (w4.setCell ⟨w2.heap.size, 3, none⟩ (.string s)) g 102 _) := HP4.out.far (by have := HLT.out; have := HZ3.out; simp only; omega) _
  have HR5 : Hid (Blk (w4.setCell ⟨w2.heap.size, 3, none⟩ (.string s)) W.heap.size 30 _) := HR4.out.far (by have := HZ3.out; simp only; omega) _
  have HV5 : Hid (Blk (w4.setCell ⟨w2.heap.size, 3, none⟩ (.string s)) w2.heap.size 30 #[.int .i64 (5), .int .i64 (0), .float .f64 (0), .string (s), .slice none 0 0, .slice none 0 0]) := HV4.out.set_ 3 _
  have HG5 : Hid (W.grownBy (w4.setCell ⟨w2.heap.size, 3, none⟩ (.string s)) (some g)) := only_setCell HG4.out (.inr (by have := HZ3.out; simp only; omega)) _
  generalize w4.setCell ⟨w2.heap.size, 3, none⟩ (.string s) = w5 at *
  clear HP4 HR4 HV4 HG4 v1 x1
  have hneq : W.heap.size ≠ w2.heap.size := Nat.ne_of_lt HZ3.out
  go_wp2_with (first
    | (refine wpList_load_row rfl 30 (.tmp 6) rfl w2.heap.size rfl 30 _ (0, 0) _ HV5.out Tryz.underlying30 rfl v_info ?_)
    | (refine wpList_storeB rfl 30 (.tmp 4) (.tmp 118) rfl rfl W.heap.size #[.int .i64 (5), .int .i64 (0), .float .f64 (0), .string (s), .slice none 0 0, .slice none 0 0] rfl rfl HR5.out v_info rfl rfl ?_; intro w9 hB9 hg9 hz9))
  exact bodyPost_ret (results_cellB (p := 4) rfl _ hB9 _ rfl Tryz.underlying30 rfl v_info) rfl (⟨_, rfl, ((Fresh.leaf (W.heap.size + 1) w5 (k := 5) (i := 0) (f := 0) (t := s)).on (by rw [hz9]; exact Nat.le_refl _) (fun i hi hj => hg9.block i hj (by intro e; injection e with e; omega))).lo_ (Nat.le_succ _), HP5.out.grown hg9 (by have := HLT.out; intro e; injection e with e; omega), only_newZ HG5.out hg9 (Nat.le_refl _)⟩)
set_option maxRecDepth 100000 in
set_option maxHeartbeats 4000000 in
theorem c_rv_8b (xs : List Int) (A : Option Addr) (N c d g a p : Nat) (W : World) (E : Int) (hE : E = 65 - ((d + 1 : Nat) : Int)) (hP : RinAt W g xs A N c a p) (hm : ¬ 65536 ≤ p) (hka : a + 1 ≤ N) (hkg : xs.getD a 0 = 8) (a4 : Nat) (e4 : Int) (htx : rtx xs true (a + 1) = .bad a4 e4) :
    Calls Tryz.prog 67 #[.pointer (some ⟨g, 0, none⟩), .int .i64 E] W (RPost W g A N c (.bad a4 e4)) := by
  have HB0 := Lib.hid hP.bk
  have hl := hP.len
  have HPA := Lib.hid hP
  have HL := Lib.hid hl
  have ha := hP.ha
  have hN := hP.hN
  have hpp := hP.hp
  have hle : ¬ 64 < E := by omega
  have HK1 : Hid (((numL (sub xs a 1) : Nat) : Int) = 8) := by show _ = _; rw [sub_one_ (by omega), hkg]; rfl
  have HTX := Lib.hid htx
  clear htx
  clear hkg
  clear hl hP hE
  have HLT : Hid (g < W.heap.size) := HB0.out.lt
  have HP0 : Hid (Blk (W.alloc (.cells vz 30)) g 102 (RnC A N c a ((p : Int)) (0) (0))) := HB0.out.alloc _
  have HR0 := Lib.hid (Blk.new W 30 vz)
  have HG0 : Hid (W.grownBy (W.alloc (.cells vz 30)) (some g)) := only_alloc (World.grownBy.refl W _) _
  clear HB0
  go_enter Tryz.func67, Tryz.ntmps67
  go_upto_region 1 with fail
  unfold vz at *
  generalize W.alloc (.cells #[.int .i64 0, .int .i64 0, .float .f64 0, .string ⟨#[]⟩, .slice none 0 0, .slice none 0 0] 30) = w0 at *
  have p1 : w0.cell? ⟨g, 1, none⟩ = some (.int .i64 (a : Int)) := HP0.out.cell 1
  have p2 : w0.cell? ⟨g, 2, none⟩ = some (.int .i64 ((p : Int))) := HP0.out.cell 2
  have q2 : w0.frozen? ⟨g, 2, none⟩ = false := HP0.out.frozen 2
  go_upto_region 3 with fail
  have HP1 : Hid (Blk (w0.setCell ⟨g, 2, none⟩ (.int .i64 ((p : Int) + 1))) g 102 (RnC A N c a ((p : Int) + 1) (0) (0))) := HP0.out.set_ 2 (.int .i64 ((p : Int) + 1))
  have HR1 : Hid (Blk (w0.setCell ⟨g, 2, none⟩ (.int .i64 ((p : Int) + 1))) W.heap.size 30 #[.int .i64 0, .int .i64 0, .float .f64 0, .string ⟨#[]⟩, .slice none 0 0, .slice none 0 0]) := HR0.out.far (by have := HLT.out; simp only; omega) _
  have HG1 : Hid (W.grownBy (w0.setCell ⟨g, 2, none⟩ (.int .i64 ((p : Int) + 1))) (some g)) := only_setCell HG0.out (.inl rfl) _
  generalize w0.setCell ⟨g, 2, none⟩ (.int .i64 ((p : Int) + 1)) = w1 at *
  clear p1 p2 q2 HP0 HR0 HG0
  have p2 : w1.cell? ⟨g, 2, none⟩ = some (.int .i64 ((p : Int) + 1)) := HP1.out.cell 2
  have p4 : w1.cell? ⟨g, 4, none⟩ = some (.int .i64 (0)) := HP1.out.cell 4
  have hpe : ¬ (65536 : Int) < (p : Int) + 1 := by omega
  go_wp2_with fail
  have HR1' := Lib.hid (Reads.grown HPA.out.rd HG1.out (Nat.le_of_lt HLT.out) (fun _ h => by injection h with h; omega))
  refine (c_rword g a 1 A N c ((p : Int) + 1) 0 xs w1 HP1.out HR1'.out HPA.out.bt hN HPA.out.hc HPA.out.hm hka (by decide)).mono ?_; rintro e' w2 ⟨rfl, hb2, hg2⟩
  rw [HK1.out]
  clear p2 p4 HP1 HR1'
  have HGA := HG1
  have HRA := HR1
  clear HG1 HR1
  have HP2 := Lib.hid hb2
  have HG2 := Lib.hid (only_trans HGA.out hg2)
  have HR2 : Hid (Blk w2 W.heap.size 30 #[.int .i64 0, .int .i64 0, .float .f64 0, .string ⟨#[]⟩, .slice none 0 0, .slice none 0 0]) := HRA.out.grown hg2 (by have := HLT.out; intro e; injection e with e; omega)
  clear hb2 hg2
  have HVA := Lib.hid (Blk.new w2 30 #[.int .i64 0, .int .i64 0, .float .f64 0, .string ⟨#[]⟩, .slice none 0 0, .slice none 0 0])
  have HGN : Hid (w2.grownBy (w2.alloc (.cells #[.int .i64 0, .int .i64 0, .float .f64 0, .string ⟨#[]⟩, .slice none 0 0, .slice none 0 0] 30)) none) := only_alloc (World.grownBy.refl w2 none) _
  have HZ3 : Hid (W.heap.size < w2.heap.size) := HR2.out.lt
  go_upto_region 8 with (refine wpList_storeB rfl 30 (.tmp 6) (.tmp 48) rfl rfl w2.heap.size #[.int .i64 (8), .int .i64 0, .float .f64 0, .string ⟨#[]⟩, .slice none 0 0, .slice none 0 0] (by first | rfl | simp [Act.eval]) (by first | rfl | simp [Act.eval]) HVA.out v_info rfl rfl ?_; intro w3 hb3 hg3 hz3)
  have HV3 := Lib.hid hb3
  have HG23 : Hid (w2.grownBy w3 none) := ⟨hg3.os, hg3.tape, hg3.output, Nat.le_trans HGN.out.size hg3.size, fun i hi _ => (hg3.block i (Nat.lt_of_lt_of_le hi HGN.out.size) (by intro e; injection e with e; omega)).trans (HGN.out.block i hi (by simp))⟩
  have HP3 : Hid (Blk w3 g 102 (RnC A N c (a + 1) ((p : Int) + 1) (0) (0))) := HP2.out.grown HG23.out (by simp)
  have HR3 : Hid (Blk w3 W.heap.size 30 #[.int .i64 0, .int .i64 0, .float .f64 0, .string ⟨#[]⟩, .slice none 0 0, .slice none 0 0]) := HR2.out.grown HG23.out (by simp)
  have HG3 : Hid (W.grownBy w3 (some g)) := only_trans HG2.out ⟨HG23.out.os, HG23.out.tape, HG23.out.output, HG23.out.size, fun i hi _ => HG23.out.block i hi (by simp)⟩
  clear hb3 hg3 hz3 HVA HGN HG23 HP2 HR2 HG2
  have p1 : w3.cell? ⟨g, 1, none⟩ = some (.int .i64 ((a + 1 : Nat) : Int)) := HP3.out.cell 1
  have p4 : w3.cell? ⟨g, 4, none⟩ = some (.int .i64 (0)) := HP3.out.cell 4
  have v0 : w3.cell? ⟨w2.heap.size, 0, none⟩ = some (.int .i64 (8)) := HV3.out.cell 0
  have HR3' := Lib.hid (Reads.grown HPA.out.rd HG3.out (Nat.le_of_lt HLT.out) (fun _ h => by injection h with h; omega))
  have htx := c_rtext g (a + 1) true A N c ((p : Int) + 1) 0 xs w3 HP3.out HR3'.out HPA.out.bt (by omega) hN HPA.out.hc HPA.out.hm
  rw [HTX.out] at htx
  have HTC := Lib.hid htx
  clear htx
  go_wp2_with fail
  refine HTC.out.mono ?_
  rintro e' w4 ⟨⟨s, a2, rfl, hb4⟩, hg4⟩
  clear HTC
  have HP4 := Lib.hid hb4
  have HG4 := Lib.hid (only_trans HG3.out hg4)
  have HR4 := Lib.hid (HR3.out.grown hg4 (by have := HLT.out; intro e; injection e with e; omega))
  have HV4 := Lib.hid (HV3.out.grown hg4 (by have := HLT.out; have := HZ3.out; intro e; injection e with e; omega))
  have v1 : w4.frozen? ⟨w2.heap.size, 3, none⟩ = false := HV4.out.frozen 3
  have x1 : w4.cell? ⟨w2.heap.size, 3, none⟩ = some (.string ⟨#[]⟩) := HV4.out.cell 3
  clear p1 p4 hb4 hg4 HP3 HG3 HR3 HV3 HR3'
  go_upto_region 28 with fail
  have HP5 : Hid (Blk (w4.setCell ⟨w2.heap.size, 3, none⟩ (.string s)) g 102 _) := HP4.out.far (by have := HLT.out; have := HZ3.out; simp only; omega) _
  have HR5 : Hid (Blk (w4.setCell ⟨w2.heap.size, 3, none⟩ (.string s)) W.heap.size 30 _) := HR4.out.far (by have := HZ3.out; simp only; omega) _
  have HV5 : Hid (Blk (w4.setCell ⟨w2.heap.size, 3, none⟩ (.string s)) w2.heap.size 30 #[.int .i64 (8), .int .i64 (0), .float .f64 (0), .string (s), .slice none 0 0, .slice none 0 0]) := HV4.out.set_ 3 _
  have HG5 : Hid (W.grownBy (w4.setCell ⟨w2.heap.size, 3, none⟩ (.string s)) (some g)) := only_setCell HG4.out (.inr (by have := HZ3.out; simp only; omega)) _
  generalize w4.setCell ⟨w2.heap.size, 3, none⟩ (.string s) = w5 at *
  clear HP4 HR4 HV4 HG4 v1 x1
  have hneq : W.heap.size ≠ w2.heap.size := Nat.ne_of_lt HZ3.out
  go_wp2_with (first
    | (refine wpList_load_row rfl 30 (.tmp 6) rfl w2.heap.size rfl 30 _ (0, 0) _ HV5.out Tryz.underlying30 rfl v_info ?_)
    | (refine wpList_storeB rfl 30 (.tmp 4) (.tmp 118) rfl rfl W.heap.size #[.int .i64 (8), .int .i64 (0), .float .f64 (0), .string (s), .slice none 0 0, .slice none 0 0] rfl rfl HR5.out v_info rfl rfl ?_; intro w9 hB9 hg9 hz9))
  exact bodyPost_ret (results_cellB (p := 4) rfl _ hB9 _ rfl Tryz.underlying30 rfl v_info) rfl (⟨⟨_, _, _, rfl, rfl, rfl, HP5.out.grown hg9 (by have := HLT.out; intro e; injection e with e; omega)⟩, only_newZ HG5.out hg9 (Nat.le_refl _)⟩)
set_option maxRecDepth 100000 in
set_option maxHeartbeats 4000000 in
theorem c_rv_8 (xs : List Int) (A : Option Addr) (N c d g a p : Nat) (W : World) (E : Int) (hE : E = 65 - ((d + 1 : Nat) : Int)) (hP : RinAt W g xs A N c a p) (hm : ¬ 65536 ≤ p) (hka : a + 1 ≤ N) (hkg : xs.getD a 0 = 8) (s : ByteArray) (a4 : Nat) (htx : rtx xs true (a + 1) = .ok s a4) :
    Calls Tryz.prog 67 #[.pointer (some ⟨g, 0, none⟩), .int .i64 E] W (RPost W g A N c (.ok (.mk 8 0 0 s [] []) a4 (p + 1))) := by
  have HB0 := Lib.hid hP.bk
  have hl := hP.len
  have HPA := Lib.hid hP
  have HL := Lib.hid hl
  have ha := hP.ha
  have hN := hP.hN
  have hpp := hP.hp
  have hle : ¬ 64 < E := by omega
  have HK1 : Hid (((numL (sub xs a 1) : Nat) : Int) = 8) := by show _ = _; rw [sub_one_ (by omega), hkg]; rfl
  have HTX := Lib.hid htx
  clear htx
  clear hkg
  clear hl hP hE
  have HLT : Hid (g < W.heap.size) := HB0.out.lt
  have HP0 : Hid (Blk (W.alloc (.cells vz 30)) g 102 (RnC A N c a ((p : Int)) (0) (0))) := HB0.out.alloc _
  have HR0 := Lib.hid (Blk.new W 30 vz)
  have HG0 : Hid (W.grownBy (W.alloc (.cells vz 30)) (some g)) := only_alloc (World.grownBy.refl W _) _
  clear HB0
  go_enter Tryz.func67, Tryz.ntmps67
  go_upto_region 1 with fail
  unfold vz at *
  generalize W.alloc (.cells #[.int .i64 0, .int .i64 0, .float .f64 0, .string ⟨#[]⟩, .slice none 0 0, .slice none 0 0] 30) = w0 at *
  have p1 : w0.cell? ⟨g, 1, none⟩ = some (.int .i64 (a : Int)) := HP0.out.cell 1
  have p2 : w0.cell? ⟨g, 2, none⟩ = some (.int .i64 ((p : Int))) := HP0.out.cell 2
  have q2 : w0.frozen? ⟨g, 2, none⟩ = false := HP0.out.frozen 2
  go_upto_region 3 with fail
  have HP1 : Hid (Blk (w0.setCell ⟨g, 2, none⟩ (.int .i64 ((p : Int) + 1))) g 102 (RnC A N c a ((p : Int) + 1) (0) (0))) := HP0.out.set_ 2 (.int .i64 ((p : Int) + 1))
  have HR1 : Hid (Blk (w0.setCell ⟨g, 2, none⟩ (.int .i64 ((p : Int) + 1))) W.heap.size 30 #[.int .i64 0, .int .i64 0, .float .f64 0, .string ⟨#[]⟩, .slice none 0 0, .slice none 0 0]) := HR0.out.far (by have := HLT.out; simp only; omega) _
  have HG1 : Hid (W.grownBy (w0.setCell ⟨g, 2, none⟩ (.int .i64 ((p : Int) + 1))) (some g)) := only_setCell HG0.out (.inl rfl) _
  generalize w0.setCell ⟨g, 2, none⟩ (.int .i64 ((p : Int) + 1)) = w1 at *
  clear p1 p2 q2 HP0 HR0 HG0
  have p2 : w1.cell? ⟨g, 2, none⟩ = some (.int .i64 ((p : Int) + 1)) := HP1.out.cell 2
  have p4 : w1.cell? ⟨g, 4, none⟩ = some (.int .i64 (0)) := HP1.out.cell 4
  have hpe : ¬ (65536 : Int) < (p : Int) + 1 := by omega
  go_wp2_with fail
  have HR1' := Lib.hid (Reads.grown HPA.out.rd HG1.out (Nat.le_of_lt HLT.out) (fun _ h => by injection h with h; omega))
  refine (c_rword g a 1 A N c ((p : Int) + 1) 0 xs w1 HP1.out HR1'.out HPA.out.bt hN HPA.out.hc HPA.out.hm hka (by decide)).mono ?_; rintro e' w2 ⟨rfl, hb2, hg2⟩
  rw [HK1.out]
  clear p2 p4 HP1 HR1'
  have HGA := HG1
  have HRA := HR1
  clear HG1 HR1
  have HP2 := Lib.hid hb2
  have HG2 := Lib.hid (only_trans HGA.out hg2)
  have HR2 : Hid (Blk w2 W.heap.size 30 #[.int .i64 0, .int .i64 0, .float .f64 0, .string ⟨#[]⟩, .slice none 0 0, .slice none 0 0]) := HRA.out.grown hg2 (by have := HLT.out; intro e; injection e with e; omega)
  clear hb2 hg2
  have HVA := Lib.hid (Blk.new w2 30 #[.int .i64 0, .int .i64 0, .float .f64 0, .string ⟨#[]⟩, .slice none 0 0, .slice none 0 0])
  have HGN : Hid (w2.grownBy (w2.alloc (.cells #[.int .i64 0, .int .i64 0, .float .f64 0, .string ⟨#[]⟩, .slice none 0 0, .slice none 0 0] 30)) none) := only_alloc (World.grownBy.refl w2 none) _
  have HZ3 : Hid (W.heap.size < w2.heap.size) := HR2.out.lt
  go_upto_region 8 with (refine wpList_storeB rfl 30 (.tmp 6) (.tmp 48) rfl rfl w2.heap.size #[.int .i64 (8), .int .i64 0, .float .f64 0, .string ⟨#[]⟩, .slice none 0 0, .slice none 0 0] (by first | rfl | simp [Act.eval]) (by first | rfl | simp [Act.eval]) HVA.out v_info rfl rfl ?_; intro w3 hb3 hg3 hz3)
  have HV3 := Lib.hid hb3
  have HG23 : Hid (w2.grownBy w3 none) := ⟨hg3.os, hg3.tape, hg3.output, Nat.le_trans HGN.out.size hg3.size, fun i hi _ => (hg3.block i (Nat.lt_of_lt_of_le hi HGN.out.size) (by intro e; injection e with e; omega)).trans (HGN.out.block i hi (by simp))⟩
  have HP3 : Hid (Blk w3 g 102 (RnC A N c (a + 1) ((p : Int) + 1) (0) (0))) := HP2.out.grown HG23.out (by simp)
  have HR3 : Hid (Blk w3 W.heap.size 30 #[.int .i64 0, .int .i64 0, .float .f64 0, .string ⟨#[]⟩, .slice none 0 0, .slice none 0 0]) := HR2.out.grown HG23.out (by simp)
  have HG3 : Hid (W.grownBy w3 (some g)) := only_trans HG2.out ⟨HG23.out.os, HG23.out.tape, HG23.out.output, HG23.out.size, fun i hi _ => HG23.out.block i hi (by simp)⟩
  clear hb3 hg3 hz3 HVA HGN HG23 HP2 HR2 HG2
  have p1 : w3.cell? ⟨g, 1, none⟩ = some (.int .i64 ((a + 1 : Nat) : Int)) := HP3.out.cell 1
  have p4 : w3.cell? ⟨g, 4, none⟩ = some (.int .i64 (0)) := HP3.out.cell 4
  have v0 : w3.cell? ⟨w2.heap.size, 0, none⟩ = some (.int .i64 (8)) := HV3.out.cell 0
  have HR3' := Lib.hid (Reads.grown HPA.out.rd HG3.out (Nat.le_of_lt HLT.out) (fun _ h => by injection h with h; omega))
  have htx := c_rtext g (a + 1) true A N c ((p : Int) + 1) 0 xs w3 HP3.out HR3'.out HPA.out.bt (by omega) hN HPA.out.hc HPA.out.hm
  rw [HTX.out] at htx
  have HTC := Lib.hid htx
  clear htx
  go_wp2_with fail
  refine HTC.out.mono ?_
  rintro e' w4 ⟨rfl, hb4, hg4⟩
  clear HTC
  have HP4 := Lib.hid hb4
  have HG4 := Lib.hid (only_trans HG3.out hg4)
  have HR4 := Lib.hid (HR3.out.grown hg4 (by have := HLT.out; intro e; injection e with e; omega))
  have HV4 := Lib.hid (HV3.out.grown hg4 (by have := HLT.out; have := HZ3.out; intro e; injection e with e; omega))
  have v1 : w4.frozen? ⟨w2.heap.size, 3, none⟩ = false := HV4.out.frozen 3
  have x1 : w4.cell? ⟨w2.heap.size, 3, none⟩ = some (.string ⟨#[]⟩) := HV4.out.cell 3
  clear p1 p4 hb4 hg4 HP3 HG3 HR3 HV3 HR3'
  go_upto_region 28 with fail
  have HP5 : Hid (Blk (w4.setCell ⟨w2.heap.size, 3, none⟩ (.string s)) g 102 _) := HP4.out.far (by have := HLT.out; have := HZ3.out; simp only; omega) _
  have HR5 : Hid (Blk (w4.setCell ⟨w2.heap.size, 3, none⟩ (.string s)) W.heap.size 30 _) := HR4.out.far (by have := HZ3.out; simp only; omega) _
  have HV5 : Hid (Blk (w4.setCell ⟨w2.heap.size, 3, none⟩ (.string s)) w2.heap.size 30 #[.int .i64 (8), .int .i64 (0), .float .f64 (0), .string (s), .slice none 0 0, .slice none 0 0]) := HV4.out.set_ 3 _
  have HG5 : Hid (W.grownBy (w4.setCell ⟨w2.heap.size, 3, none⟩ (.string s)) (some g)) := only_setCell HG4.out (.inr (by have := HZ3.out; simp only; omega)) _
  generalize w4.setCell ⟨w2.heap.size, 3, none⟩ (.string s) = w5 at *
  clear HP4 HR4 HV4 HG4 v1 x1
  have hneq : W.heap.size ≠ w2.heap.size := Nat.ne_of_lt HZ3.out
  go_wp2_with (first
    | (refine wpList_load_row rfl 30 (.tmp 6) rfl w2.heap.size rfl 30 _ (0, 0) _ HV5.out Tryz.underlying30 rfl v_info ?_)
    | (refine wpList_storeB rfl 30 (.tmp 4) (.tmp 118) rfl rfl W.heap.size #[.int .i64 (8), .int .i64 (0), .float .f64 (0), .string (s), .slice none 0 0, .slice none 0 0] rfl rfl HR5.out v_info rfl rfl ?_; intro w9 hB9 hg9 hz9))
  exact bodyPost_ret (results_cellB (p := 4) rfl _ hB9 _ rfl Tryz.underlying30 rfl v_info) rfl (⟨_, rfl, ((Fresh.leaf (W.heap.size + 1) w5 (k := 8) (i := 0) (f := 0) (t := s)).on (by rw [hz9]; exact Nat.le_refl _) (fun i hi hj => hg9.block i hj (by intro e; injection e with e; omega))).lo_ (Nat.le_succ _), HP5.out.grown hg9 (by have := HLT.out; intro e; injection e with e; omega), only_newZ HG5.out hg9 (Nat.le_refl _)⟩)
set_option maxRecDepth 100000 in
set_option maxHeartbeats 4000000 in
theorem c_rv_6b (xs : List Int) (A : Option Addr) (N c d g a p : Nat) (W : World) (E : Int) (hE : E = 65 - ((d + 1 : Nat) : Int)) (hP : RinAt W g xs A N c a p) (hm : ¬ 65536 ≤ p) (hka : a + 1 ≤ N) (hkg : xs.getD a 0 = 6) (a4 : Nat) (e4 : Int) (hit : ∀ w : World, Blk w g 102 (RnC A N c (a + 1) ((p : Int) + 1) 0 0) → Reads w g 1 A N (u8s xs) → Calls Tryz.prog 100 #[.pointer (some ⟨g, 0, none⟩), .agg (vkC 6 none 0 0 none 0 0), .int .i64 E] w (RPost w g A N c (.bad a4 e4))) :
    Calls Tryz.prog 67 #[.pointer (some ⟨g, 0, none⟩), .int .i64 E] W (RPost W g A N c (.bad a4 e4)) := by
  have HB0 := Lib.hid hP.bk
  have hl := hP.len
  have HPA := Lib.hid hP
  have HL := Lib.hid hl
  have ha := hP.ha
  have hN := hP.hN
  have hpp := hP.hp
  have hle : ¬ 64 < E := by omega
  have HK1 : Hid (((numL (sub xs a 1) : Nat) : Int) = 6) := by show _ = _; rw [sub_one_ (by omega), hkg]; rfl
  have HIT : Hid (∀ w : World, Blk w g 102 (RnC A N c (a + 1) ((p : Int) + 1) 0 0) → Reads w g 1 A N (u8s xs) → Calls Tryz.prog 100 #[.pointer (some ⟨g, 0, none⟩), .agg (vkC 6 none 0 0 none 0 0), .int .i64 E] w (RPost w g A N c (.bad a4 e4))) := hit
  clear hit
  clear hkg
  clear hl hP hE
  have HLT : Hid (g < W.heap.size) := HB0.out.lt
  have HP0 : Hid (Blk (W.alloc (.cells vz 30)) g 102 (RnC A N c a ((p : Int)) (0) (0))) := HB0.out.alloc _
  have HR0 := Lib.hid (Blk.new W 30 vz)
  have HG0 : Hid (W.grownBy (W.alloc (.cells vz 30)) (some g)) := only_alloc (World.grownBy.refl W _) _
  clear HB0
  go_enter Tryz.func67, Tryz.ntmps67
  go_upto_region 1 with fail
  unfold vz at *
  generalize W.alloc (.cells #[.int .i64 0, .int .i64 0, .float .f64 0, .string ⟨#[]⟩, .slice none 0 0, .slice none 0 0] 30) = w0 at *
  have p1 : w0.cell? ⟨g, 1, none⟩ = some (.int .i64 (a : Int)) := HP0.out.cell 1
  have p2 : w0.cell? ⟨g, 2, none⟩ = some (.int .i64 ((p : Int))) := HP0.out.cell 2
  have q2 : w0.frozen? ⟨g, 2, none⟩ = false := HP0.out.frozen 2
  go_upto_region 3 with fail
  have HP1 : Hid (Blk (w0.setCell ⟨g, 2, none⟩ (.int .i64 ((p : Int) + 1))) g 102 (RnC A N c a ((p : Int) + 1) (0) (0))) := HP0.out.set_ 2 (.int .i64 ((p : Int) + 1))
  have HR1 : Hid (Blk (w0.setCell ⟨g, 2, none⟩ (.int .i64 ((p : Int) + 1))) W.heap.size 30 #[.int .i64 0, .int .i64 0, .float .f64 0, .string ⟨#[]⟩, .slice none 0 0, .slice none 0 0]) := HR0.out.far (by have := HLT.out; simp only; omega) _
  have HG1 : Hid (W.grownBy (w0.setCell ⟨g, 2, none⟩ (.int .i64 ((p : Int) + 1))) (some g)) := only_setCell HG0.out (.inl rfl) _
  generalize w0.setCell ⟨g, 2, none⟩ (.int .i64 ((p : Int) + 1)) = w1 at *
  clear p1 p2 q2 HP0 HR0 HG0
  have p2 : w1.cell? ⟨g, 2, none⟩ = some (.int .i64 ((p : Int) + 1)) := HP1.out.cell 2
  have p4 : w1.cell? ⟨g, 4, none⟩ = some (.int .i64 (0)) := HP1.out.cell 4
  have hpe : ¬ (65536 : Int) < (p : Int) + 1 := by omega
  go_wp2_with fail
  have HR1' := Lib.hid (Reads.grown HPA.out.rd HG1.out (Nat.le_of_lt HLT.out) (fun _ h => by injection h with h; omega))
  refine (c_rword g a 1 A N c ((p : Int) + 1) 0 xs w1 HP1.out HR1'.out HPA.out.bt hN HPA.out.hc HPA.out.hm hka (by decide)).mono ?_; rintro e' w2 ⟨rfl, hb2, hg2⟩
  rw [HK1.out]
  clear p2 p4 HP1 HR1'
  have HGA := HG1
  have HRA := HR1
  clear HG1 HR1
  have HP2 := Lib.hid hb2
  have HG2 := Lib.hid (only_trans HGA.out hg2)
  have HR2 : Hid (Blk w2 W.heap.size 30 #[.int .i64 0, .int .i64 0, .float .f64 0, .string ⟨#[]⟩, .slice none 0 0, .slice none 0 0]) := HRA.out.grown hg2 (by have := HLT.out; intro e; injection e with e; omega)
  clear hb2 hg2
  have HVA := Lib.hid (Blk.new w2 30 #[.int .i64 0, .int .i64 0, .float .f64 0, .string ⟨#[]⟩, .slice none 0 0, .slice none 0 0])
  have HGN : Hid (w2.grownBy (w2.alloc (.cells #[.int .i64 0, .int .i64 0, .float .f64 0, .string ⟨#[]⟩, .slice none 0 0, .slice none 0 0] 30)) none) := only_alloc (World.grownBy.refl w2 none) _
  have HZ3 : Hid (W.heap.size < w2.heap.size) := HR2.out.lt
  go_upto_region 8 with (refine wpList_storeB rfl 30 (.tmp 6) (.tmp 48) rfl rfl w2.heap.size #[.int .i64 (6), .int .i64 0, .float .f64 0, .string ⟨#[]⟩, .slice none 0 0, .slice none 0 0] (by first | rfl | simp [Act.eval]) (by first | rfl | simp [Act.eval]) HVA.out v_info rfl rfl ?_; intro w3 hb3 hg3 hz3)
  have HV3 := Lib.hid hb3
  have HG23 : Hid (w2.grownBy w3 none) := ⟨hg3.os, hg3.tape, hg3.output, Nat.le_trans HGN.out.size hg3.size, fun i hi _ => (hg3.block i (Nat.lt_of_lt_of_le hi HGN.out.size) (by intro e; injection e with e; omega)).trans (HGN.out.block i hi (by simp))⟩
  have HP3 : Hid (Blk w3 g 102 (RnC A N c (a + 1) ((p : Int) + 1) (0) (0))) := HP2.out.grown HG23.out (by simp)
  have HR3 : Hid (Blk w3 W.heap.size 30 #[.int .i64 0, .int .i64 0, .float .f64 0, .string ⟨#[]⟩, .slice none 0 0, .slice none 0 0]) := HR2.out.grown HG23.out (by simp)
  have HG3 : Hid (W.grownBy w3 (some g)) := only_trans HG2.out ⟨HG23.out.os, HG23.out.tape, HG23.out.output, HG23.out.size, fun i hi _ => HG23.out.block i hi (by simp)⟩
  clear hb3 hg3 hz3 HVA HGN HG23 HP2 HR2 HG2
  have p1 : w3.cell? ⟨g, 1, none⟩ = some (.int .i64 ((a + 1 : Nat) : Int)) := HP3.out.cell 1
  have p4 : w3.cell? ⟨g, 4, none⟩ = some (.int .i64 (0)) := HP3.out.cell 4
  have v0 : w3.cell? ⟨w2.heap.size, 0, none⟩ = some (.int .i64 (6)) := HV3.out.cell 0
  have HR3' := Lib.hid (Reads.grown HPA.out.rd HG3.out (Nat.le_of_lt HLT.out) (fun _ h => by injection h with h; omega))
  go_wp2_with (refine wpList_load_row rfl 30 (.tmp 6) rfl w2.heap.size rfl 30 _ (0, 0) _ HV3.out Tryz.underlying30 rfl v_info ?_)
  refine (HIT.out w3 HP3.out HR3'.out).mono ?_
  rintro e' w4 ⟨⟨cs4, a2, q2, rfl, h6, hall, hb4⟩, hg4⟩
  obtain ⟨x0, x1, x2, x3, x4, x5, rfl⟩ := l_six6 h6
  have HAL := Lib.hid hall
  clear h6 hall
  have HG4 := Lib.hid (only_trans HG3.out hg4)
  have HR4 := Lib.hid (HR3.out.grown hg4 (by have := HLT.out; intro e; injection e with e; omega))
  have HP4 := Lib.hid hb4
  have HZ4 : Hid (W.heap.size + 1 ≤ w3.heap.size) := Nat.le_trans HZ3.out (Nat.le_of_lt HV3.out.lt)
  clear hb4 hg4 p1 p4 HP3 HG3 HR3 HV3 HR3' v0
  go_wp2_with (refine wpList_storeB rfl 30 (.tmp 4) (.tmp 117) rfl rfl W.heap.size #[x0, x1, x2, x3, x4, x5] rfl rfl HR4.out v_info rfl (by exact HAL.out) ?_; intro w9 hB9 hg9 hz9)
  exact bodyPost_ret (results_cellB (p := 4) rfl _ hB9 _ rfl Tryz.underlying30 rfl v_info) rfl (⟨⟨[x0, x1, x2, x3, x4, x5], _, _, rfl, rfl, HAL.out, HP4.out.grown hg9 (by have := HLT.out; intro e; injection e with e; omega)⟩, only_newZ HG4.out hg9 (Nat.le_refl _)⟩)
set_option maxRecDepth 100000 in
set_option maxHeartbeats 4000000 in
theorem c_rv_6 (xs : List Int) (A : Option Addr) (N c d g a p : Nat) (W : World) (E : Int) (hE : E = 65 - ((d + 1 : Nat) : Int)) (hP : RinAt W g xs A N c a p) (hm : ¬ 65536 ≤ p) (hka : a + 1 ≤ N) (hkg : xs.getD a 0 = 6) (v4 : Val) (a4 p4 : Nat) (hit : ∀ w : World, Blk w g 102 (RnC A N c (a + 1) ((p : Int) + 1) 0 0) → Reads w g 1 A N (u8s xs) → Calls Tryz.prog 100 #[.pointer (some ⟨g, 0, none⟩), .agg (vkC 6 none 0 0 none 0 0), .int .i64 E] w (RPost w g A N c (.ok v4 a4 p4))) :
    Calls Tryz.prog 67 #[.pointer (some ⟨g, 0, none⟩), .int .i64 E] W (RPost W g A N c (.ok v4 a4 p4)) := by
  have HB0 := Lib.hid hP.bk
  have hl := hP.len
  have HPA := Lib.hid hP
  have HL := Lib.hid hl
  have ha := hP.ha
  have hN := hP.hN
  have hpp := hP.hp
  have hle : ¬ 64 < E := by omega
  have HK1 : Hid (((numL (sub xs a 1) : Nat) : Int) = 6) := by show _ = _; rw [sub_one_ (by omega), hkg]; rfl
  have HIT : Hid (∀ w : World, Blk w g 102 (RnC A N c (a + 1) ((p : Int) + 1) 0 0) → Reads w g 1 A N (u8s xs) → Calls Tryz.prog 100 #[.pointer (some ⟨g, 0, none⟩), .agg (vkC 6 none 0 0 none 0 0), .int .i64 E] w (RPost w g A N c (.ok v4 a4 p4))) := hit
  clear hit
  clear hkg
  clear hl hP hE
  have HLT : Hid (g < W.heap.size) := HB0.out.lt
  have HP0 : Hid (Blk (W.alloc (.cells vz 30)) g 102 (RnC A N c a ((p : Int)) (0) (0))) := HB0.out.alloc _
  have HR0 := Lib.hid (Blk.new W 30 vz)
  have HG0 : Hid (W.grownBy (W.alloc (.cells vz 30)) (some g)) := only_alloc (World.grownBy.refl W _) _
  clear HB0
  go_enter Tryz.func67, Tryz.ntmps67
  go_upto_region 1 with fail
  unfold vz at *
  generalize W.alloc (.cells #[.int .i64 0, .int .i64 0, .float .f64 0, .string ⟨#[]⟩, .slice none 0 0, .slice none 0 0] 30) = w0 at *
  have p1 : w0.cell? ⟨g, 1, none⟩ = some (.int .i64 (a : Int)) := HP0.out.cell 1
  have p2 : w0.cell? ⟨g, 2, none⟩ = some (.int .i64 ((p : Int))) := HP0.out.cell 2
  have q2 : w0.frozen? ⟨g, 2, none⟩ = false := HP0.out.frozen 2
  go_upto_region 3 with fail
  have HP1 : Hid (Blk (w0.setCell ⟨g, 2, none⟩ (.int .i64 ((p : Int) + 1))) g 102 (RnC A N c a ((p : Int) + 1) (0) (0))) := HP0.out.set_ 2 (.int .i64 ((p : Int) + 1))
  have HR1 : Hid (Blk (w0.setCell ⟨g, 2, none⟩ (.int .i64 ((p : Int) + 1))) W.heap.size 30 #[.int .i64 0, .int .i64 0, .float .f64 0, .string ⟨#[]⟩, .slice none 0 0, .slice none 0 0]) := HR0.out.far (by have := HLT.out; simp only; omega) _
  have HG1 : Hid (W.grownBy (w0.setCell ⟨g, 2, none⟩ (.int .i64 ((p : Int) + 1))) (some g)) := only_setCell HG0.out (.inl rfl) _
  generalize w0.setCell ⟨g, 2, none⟩ (.int .i64 ((p : Int) + 1)) = w1 at *
  clear p1 p2 q2 HP0 HR0 HG0
  have p2 : w1.cell? ⟨g, 2, none⟩ = some (.int .i64 ((p : Int) + 1)) := HP1.out.cell 2
  have p4 : w1.cell? ⟨g, 4, none⟩ = some (.int .i64 (0)) := HP1.out.cell 4
  have hpe : ¬ (65536 : Int) < (p : Int) + 1 := by omega
  go_wp2_with fail
  have HR1' := Lib.hid (Reads.grown HPA.out.rd HG1.out (Nat.le_of_lt HLT.out) (fun _ h => by injection h with h; omega))
  refine (c_rword g a 1 A N c ((p : Int) + 1) 0 xs w1 HP1.out HR1'.out HPA.out.bt hN HPA.out.hc HPA.out.hm hka (by decide)).mono ?_; rintro e' w2 ⟨rfl, hb2, hg2⟩
  rw [HK1.out]
  clear p2 p4 HP1 HR1'
  have HGA := HG1
  have HRA := HR1
  clear HG1 HR1
  have HP2 := Lib.hid hb2
  have HG2 := Lib.hid (only_trans HGA.out hg2)
  have HR2 : Hid (Blk w2 W.heap.size 30 #[.int .i64 0, .int .i64 0, .float .f64 0, .string ⟨#[]⟩, .slice none 0 0, .slice none 0 0]) := HRA.out.grown hg2 (by have := HLT.out; intro e; injection e with e; omega)
  clear hb2 hg2
  have HVA := Lib.hid (Blk.new w2 30 #[.int .i64 0, .int .i64 0, .float .f64 0, .string ⟨#[]⟩, .slice none 0 0, .slice none 0 0])
  have HGN : Hid (w2.grownBy (w2.alloc (.cells #[.int .i64 0, .int .i64 0, .float .f64 0, .string ⟨#[]⟩, .slice none 0 0, .slice none 0 0] 30)) none) := only_alloc (World.grownBy.refl w2 none) _
  have HZ3 : Hid (W.heap.size < w2.heap.size) := HR2.out.lt
  go_upto_region 8 with (refine wpList_storeB rfl 30 (.tmp 6) (.tmp 48) rfl rfl w2.heap.size #[.int .i64 (6), .int .i64 0, .float .f64 0, .string ⟨#[]⟩, .slice none 0 0, .slice none 0 0] (by first | rfl | simp [Act.eval]) (by first | rfl | simp [Act.eval]) HVA.out v_info rfl rfl ?_; intro w3 hb3 hg3 hz3)
  have HV3 := Lib.hid hb3
  have HG23 : Hid (w2.grownBy w3 none) := ⟨hg3.os, hg3.tape, hg3.output, Nat.le_trans HGN.out.size hg3.size, fun i hi _ => (hg3.block i (Nat.lt_of_lt_of_le hi HGN.out.size) (by intro e; injection e with e; omega)).trans (HGN.out.block i hi (by simp))⟩
  have HP3 : Hid (Blk w3 g 102 (RnC A N c (a + 1) ((p : Int) + 1) (0) (0))) := HP2.out.grown HG23.out (by simp)
  have HR3 : Hid (Blk w3 W.heap.size 30 #[.int .i64 0, .int .i64 0, .float .f64 0, .string ⟨#[]⟩, .slice none 0 0, .slice none 0 0]) := HR2.out.grown HG23.out (by simp)
  have HG3 : Hid (W.grownBy w3 (some g)) := only_trans HG2.out ⟨HG23.out.os, HG23.out.tape, HG23.out.output, HG23.out.size, fun i hi _ => HG23.out.block i hi (by simp)⟩
  clear hb3 hg3 hz3 HVA HGN HG23 HP2 HR2 HG2
  have p1 : w3.cell? ⟨g, 1, none⟩ = some (.int .i64 ((a + 1 : Nat) : Int)) := HP3.out.cell 1
  have p4 : w3.cell? ⟨g, 4, none⟩ = some (.int .i64 (0)) := HP3.out.cell 4
  have v0 : w3.cell? ⟨w2.heap.size, 0, none⟩ = some (.int .i64 (6)) := HV3.out.cell 0
  have HR3' := Lib.hid (Reads.grown HPA.out.rd HG3.out (Nat.le_of_lt HLT.out) (fun _ h => by injection h with h; omega))
  go_wp2_with (refine wpList_load_row rfl 30 (.tmp 6) rfl w2.heap.size rfl 30 _ (0, 0) _ HV3.out Tryz.underlying30 rfl v_info ?_)
  refine (HIT.out w3 HP3.out HR3'.out).mono ?_
  rintro e' w4 ⟨cs4, rfl, hf4, hb4, hg4⟩
  have h6 := (six_of hf4.rd).1
  have HAL := Lib.hid (six_of hf4.rd).2
  obtain ⟨x0, x1, x2, x3, x4, x5, rfl⟩ := l_six6 h6
  have HF4 := Lib.hid hf4
  clear h6 hf4
  have HG4 := Lib.hid (only_trans HG3.out hg4)
  have HR4 := Lib.hid (HR3.out.grown hg4 (by have := HLT.out; intro e; injection e with e; omega))
  have HP4 := Lib.hid hb4
  have HZ4 : Hid (W.heap.size + 1 ≤ w3.heap.size) := Nat.le_trans HZ3.out (Nat.le_of_lt HV3.out.lt)
  clear hb4 hg4 p1 p4 HP3 HG3 HR3 HV3 HR3' v0
  go_wp2_with (refine wpList_storeB rfl 30 (.tmp 4) (.tmp 117) rfl rfl W.heap.size #[x0, x1, x2, x3, x4, x5] rfl rfl HR4.out v_info rfl (by exact HAL.out) ?_; intro w9 hB9 hg9 hz9)
  exact bodyPost_ret (results_cellB (p := 4) rfl _ hB9 _ rfl Tryz.underlying30 rfl v_info) rfl (⟨[x0, x1, x2, x3, x4, x5], rfl, ((HF4.out.lo_ HZ4.out).on (by rw [hz9]; exact Nat.le_refl _) (fun i hi hj => hg9.block i hj (by intro e; injection e with e; omega))).lo_ (Nat.le_succ _), HP4.out.grown hg9 (by have := HLT.out; intro e; injection e with e; omega), only_newZ HG4.out hg9 (Nat.le_refl _)⟩)
set_option maxRecDepth 100000 in
set_option maxHeartbeats 4000000 in
theorem c_rv_7b (xs : List Int) (A : Option Addr) (N c d g a p : Nat) (W : World) (E : Int) (hE : E = 65 - ((d + 1 : Nat) : Int)) (hP : RinAt W g xs A N c a p) (hm : ¬ 65536 ≤ p) (hka : a + 1 ≤ N) (hkg : xs.getD a 0 = 7) (a4 : Nat) (e4 : Int) (hit : ∀ w : World, Blk w g 102 (RnC A N c (a + 1) ((p : Int) + 1) 0 0) → Reads w g 1 A N (u8s xs) → Calls Tryz.prog 100 #[.pointer (some ⟨g, 0, none⟩), .agg (vkC 7 none 0 0 none 0 0), .int .i64 E] w (RPost w g A N c (.bad a4 e4))) :
    Calls Tryz.prog 67 #[.pointer (some ⟨g, 0, none⟩), .int .i64 E] W (RPost W g A N c (.bad a4 e4)) := by
  have HB0 := Lib.hid hP.bk
  have hl := hP.len
  have HPA := Lib.hid hP
  have HL := Lib.hid hl
  have ha := hP.ha
  have hN := hP.hN
  have hpp := hP.hp
  have hle : ¬ 64 < E := by omega
  have HK1 : Hid (((numL (sub xs a 1) : Nat) : Int) = 7) := by show _ = _; rw [sub_one_ (by omega), hkg]; rfl
  have HIT : Hid (∀ w : World, Blk w g 102 (RnC A N c (a + 1) ((p : Int) + 1) 0 0) → Reads w g 1 A N (u8s xs) → Calls Tryz.prog 100 #[.pointer (some ⟨g, 0, none⟩), .agg (vkC 7 none 0 0 none 0 0), .int .i64 E] w (RPost w g A N c (.bad a4 e4))) := hit
  clear hit
  clear hkg
  clear hl hP hE
  have HLT : Hid (g < W.heap.size) := HB0.out.lt
  have HP0 : Hid (Blk (W.alloc (.cells vz 30)) g 102 (RnC A N c a ((p : Int)) (0) (0))) := HB0.out.alloc _
  have HR0 := Lib.hid (Blk.new W 30 vz)
  have HG0 : Hid (W.grownBy (W.alloc (.cells vz 30)) (some g)) := only_alloc (World.grownBy.refl W _) _
  clear HB0
  go_enter Tryz.func67, Tryz.ntmps67
  go_upto_region 1 with fail
  unfold vz at *
  generalize W.alloc (.cells #[.int .i64 0, .int .i64 0, .float .f64 0, .string ⟨#[]⟩, .slice none 0 0, .slice none 0 0] 30) = w0 at *
  have p1 : w0.cell? ⟨g, 1, none⟩ = some (.int .i64 (a : Int)) := HP0.out.cell 1
  have p2 : w0.cell? ⟨g, 2, none⟩ = some (.int .i64 ((p : Int))) := HP0.out.cell 2
  have q2 : w0.frozen? ⟨g, 2, none⟩ = false := HP0.out.frozen 2
  go_upto_region 3 with fail
  have HP1 : Hid (Blk (w0.setCell ⟨g, 2, none⟩ (.int .i64 ((p : Int) + 1))) g 102 (RnC A N c a ((p : Int) + 1) (0) (0))) := HP0.out.set_ 2 (.int .i64 ((p : Int) + 1))
  have HR1 : Hid (Blk (w0.setCell ⟨g, 2, none⟩ (.int .i64 ((p : Int) + 1))) W.heap.size 30 #[.int .i64 0, .int .i64 0, .float .f64 0, .string ⟨#[]⟩, .slice none 0 0, .slice none 0 0]) := HR0.out.far (by have := HLT.out; simp only; omega) _
  have HG1 : Hid (W.grownBy (w0.setCell ⟨g, 2, none⟩ (.int .i64 ((p : Int) + 1))) (some g)) := only_setCell HG0.out (.inl rfl) _
  generalize w0.setCell ⟨g, 2, none⟩ (.int .i64 ((p : Int) + 1)) = w1 at *
  clear p1 p2 q2 HP0 HR0 HG0
  have p2 : w1.cell? ⟨g, 2, none⟩ = some (.int .i64 ((p : Int) + 1)) := HP1.out.cell 2
  have p4 : w1.cell? ⟨g, 4, none⟩ = some (.int .i64 (0)) := HP1.out.cell 4
  have hpe : ¬ (65536 : Int) < (p : Int) + 1 := by omega
  go_wp2_with fail
  have HR1' := Lib.hid (Reads.grown HPA.out.rd HG1.out (Nat.le_of_lt HLT.out) (fun _ h => by injection h with h; omega))
  refine (c_rword g a 1 A N c ((p : Int) + 1) 0 xs w1 HP1.out HR1'.out HPA.out.bt hN HPA.out.hc HPA.out.hm hka (by decide)).mono ?_; rintro e' w2 ⟨rfl, hb2, hg2⟩
  rw [HK1.out]
  clear p2 p4 HP1 HR1'
  have HGA := HG1
  have HRA := HR1
  clear HG1 HR1
  have HP2 := Lib.hid hb2
  have HG2 := Lib.hid (only_trans HGA.out hg2)
  have HR2 : Hid (Blk w2 W.heap.size 30 #[.int .i64 0, .int .i64 0, .float .f64 0, .string ⟨#[]⟩, .slice none 0 0, .slice none 0 0]) := HRA.out.grown hg2 (by have := HLT.out; intro e; injection e with e; omega)
  clear hb2 hg2
  have HVA := Lib.hid (Blk.new w2 30 #[.int .i64 0, .int .i64 0, .float .f64 0, .string ⟨#[]⟩, .slice none 0 0, .slice none 0 0])
  have HGN : Hid (w2.grownBy (w2.alloc (.cells #[.int .i64 0, .int .i64 0, .float .f64 0, .string ⟨#[]⟩, .slice none 0 0, .slice none 0 0] 30)) none) := only_alloc (World.grownBy.refl w2 none) _
  have HZ3 : Hid (W.heap.size < w2.heap.size) := HR2.out.lt
  go_upto_region 8 with (refine wpList_storeB rfl 30 (.tmp 6) (.tmp 48) rfl rfl w2.heap.size #[.int .i64 (7), .int .i64 0, .float .f64 0, .string ⟨#[]⟩, .slice none 0 0, .slice none 0 0] (by first | rfl | simp [Act.eval]) (by first | rfl | simp [Act.eval]) HVA.out v_info rfl rfl ?_; intro w3 hb3 hg3 hz3)
  have HV3 := Lib.hid hb3
  have HG23 : Hid (w2.grownBy w3 none) := ⟨hg3.os, hg3.tape, hg3.output, Nat.le_trans HGN.out.size hg3.size, fun i hi _ => (hg3.block i (Nat.lt_of_lt_of_le hi HGN.out.size) (by intro e; injection e with e; omega)).trans (HGN.out.block i hi (by simp))⟩
  have HP3 : Hid (Blk w3 g 102 (RnC A N c (a + 1) ((p : Int) + 1) (0) (0))) := HP2.out.grown HG23.out (by simp)
  have HR3 : Hid (Blk w3 W.heap.size 30 #[.int .i64 0, .int .i64 0, .float .f64 0, .string ⟨#[]⟩, .slice none 0 0, .slice none 0 0]) := HR2.out.grown HG23.out (by simp)
  have HG3 : Hid (W.grownBy w3 (some g)) := only_trans HG2.out ⟨HG23.out.os, HG23.out.tape, HG23.out.output, HG23.out.size, fun i hi _ => HG23.out.block i hi (by simp)⟩
  clear hb3 hg3 hz3 HVA HGN HG23 HP2 HR2 HG2
  have p1 : w3.cell? ⟨g, 1, none⟩ = some (.int .i64 ((a + 1 : Nat) : Int)) := HP3.out.cell 1
  have p4 : w3.cell? ⟨g, 4, none⟩ = some (.int .i64 (0)) := HP3.out.cell 4
  have v0 : w3.cell? ⟨w2.heap.size, 0, none⟩ = some (.int .i64 (7)) := HV3.out.cell 0
  have HR3' := Lib.hid (Reads.grown HPA.out.rd HG3.out (Nat.le_of_lt HLT.out) (fun _ h => by injection h with h; omega))
  go_wp2_with (refine wpList_load_row rfl 30 (.tmp 6) rfl w2.heap.size rfl 30 _ (0, 0) _ HV3.out Tryz.underlying30 rfl v_info ?_)
  refine (HIT.out w3 HP3.out HR3'.out).mono ?_
  rintro e' w4 ⟨⟨cs4, a2, q2, rfl, h6, hall, hb4⟩, hg4⟩
  obtain ⟨x0, x1, x2, x3, x4, x5, rfl⟩ := l_six6 h6
  have HAL := Lib.hid hall
  clear h6 hall
  have HG4 := Lib.hid (only_trans HG3.out hg4)
  have HR4 := Lib.hid (HR3.out.grown hg4 (by have := HLT.out; intro e; injection e with e; omega))
  have HP4 := Lib.hid hb4
  have HZ4 : Hid (W.heap.size + 1 ≤ w3.heap.size) := Nat.le_trans HZ3.out (Nat.le_of_lt HV3.out.lt)
  clear hb4 hg4 p1 p4 HP3 HG3 HR3 HV3 HR3' v0
  go_wp2_with (refine wpList_storeB rfl 30 (.tmp 4) (.tmp 117) rfl rfl W.heap.size #[x0, x1, x2, x3, x4, x5] rfl rfl HR4.out v_info rfl (by exact HAL.out) ?_; intro w9 hB9 hg9 hz9)
  exact bodyPost_ret (results_cellB (p := 4) rfl _ hB9 _ rfl Tryz.underlying30 rfl v_info) rfl (⟨⟨[x0, x1, x2, x3, x4, x5], _, _, rfl, rfl, HAL.out, HP4.out.grown hg9 (by have := HLT.out; intro e; injection e with e; omega)⟩, only_newZ HG4.out hg9 (Nat.le_refl _)⟩)
set_option maxRecDepth 100000 in
set_option maxHeartbeats 4000000 in
theorem c_rv_7 (xs : List Int) (A : Option Addr) (N c d g a p : Nat) (W : World) (E : Int) (hE : E = 65 - ((d + 1 : Nat) : Int)) (hP : RinAt W g xs A N c a p) (hm : ¬ 65536 ≤ p) (hka : a + 1 ≤ N) (hkg : xs.getD a 0 = 7) (v4 : Val) (a4 p4 : Nat) (hit : ∀ w : World, Blk w g 102 (RnC A N c (a + 1) ((p : Int) + 1) 0 0) → Reads w g 1 A N (u8s xs) → Calls Tryz.prog 100 #[.pointer (some ⟨g, 0, none⟩), .agg (vkC 7 none 0 0 none 0 0), .int .i64 E] w (RPost w g A N c (.ok v4 a4 p4))) :
    Calls Tryz.prog 67 #[.pointer (some ⟨g, 0, none⟩), .int .i64 E] W (RPost W g A N c (.ok v4 a4 p4)) := by
  have HB0 := Lib.hid hP.bk
  have hl := hP.len
  have HPA := Lib.hid hP
  have HL := Lib.hid hl
  have ha := hP.ha
  have hN := hP.hN
  have hpp := hP.hp
  have hle : ¬ 64 < E := by omega
  have HK1 : Hid (((numL (sub xs a 1) : Nat) : Int) = 7) := by show _ = _; rw [sub_one_ (by omega), hkg]; rfl
  have HIT : Hid (∀ w : World, Blk w g 102 (RnC A N c (a + 1) ((p : Int) + 1) 0 0) → Reads w g 1 A N (u8s xs) → Calls Tryz.prog 100 #[.pointer (some ⟨g, 0, none⟩), .agg (vkC 7 none 0 0 none 0 0), .int .i64 E] w (RPost w g A N c (.ok v4 a4 p4))) := hit
  clear hit
  clear hkg
  clear hl hP hE
  have HLT : Hid (g < W.heap.size) := HB0.out.lt
  have HP0 : Hid (Blk (W.alloc (.cells vz 30)) g 102 (RnC A N c a ((p : Int)) (0) (0))) := HB0.out.alloc _
  have HR0 := Lib.hid (Blk.new W 30 vz)
  have HG0 : Hid (W.grownBy (W.alloc (.cells vz 30)) (some g)) := only_alloc (World.grownBy.refl W _) _
  clear HB0
  go_enter Tryz.func67, Tryz.ntmps67
  go_upto_region 1 with fail
  unfold vz at *
  generalize W.alloc (.cells #[.int .i64 0, .int .i64 0, .float .f64 0, .string ⟨#[]⟩, .slice none 0 0, .slice none 0 0] 30) = w0 at *
  have p1 : w0.cell? ⟨g, 1, none⟩ = some (.int .i64 (a : Int)) := HP0.out.cell 1
  have p2 : w0.cell? ⟨g, 2, none⟩ = some (.int .i64 ((p : Int))) := HP0.out.cell 2
  have q2 : w0.frozen? ⟨g, 2, none⟩ = false := HP0.out.frozen 2
  go_upto_region 3 with fail
  have HP1 : Hid (Blk (w0.setCell ⟨g, 2, none⟩ (.int .i64 ((p : Int) + 1))) g 102 (RnC A N c a ((p : Int) + 1) (0) (0))) := HP0.out.set_ 2 (.int .i64 ((p : Int) + 1))
  have HR1 : Hid (Blk (w0.setCell ⟨g, 2, none⟩ (.int .i64 ((p : Int) + 1))) W.heap.size 30 #[.int .i64 0, .int .i64 0, .float .f64 0, .string ⟨#[]⟩, .slice none 0 0, .slice none 0 0]) := HR0.out.far (by have := HLT.out; simp only; omega) _
  have HG1 : Hid (W.grownBy (w0.setCell ⟨g, 2, none⟩ (.int .i64 ((p : Int) + 1))) (some g)) := only_setCell HG0.out (.inl rfl) _
  generalize w0.setCell ⟨g, 2, none⟩ (.int .i64 ((p : Int) + 1)) = w1 at *
  clear p1 p2 q2 HP0 HR0 HG0
  have p2 : w1.cell? ⟨g, 2, none⟩ = some (.int .i64 ((p : Int) + 1)) := HP1.out.cell 2
  have p4 : w1.cell? ⟨g, 4, none⟩ = some (.int .i64 (0)) := HP1.out.cell 4
  have hpe : ¬ (65536 : Int) < (p : Int) + 1 := by omega
  go_wp2_with fail
  have HR1' := Lib.hid (Reads.grown HPA.out.rd HG1.out (Nat.le_of_lt HLT.out) (fun _ h => by injection h with h; omega))
  refine (c_rword g a 1 A N c ((p : Int) + 1) 0 xs w1 HP1.out HR1'.out HPA.out.bt hN HPA.out.hc HPA.out.hm hka (by decide)).mono ?_; rintro e' w2 ⟨rfl, hb2, hg2⟩
  rw [HK1.out]
  clear p2 p4 HP1 HR1'
  have HGA := HG1
  have HRA := HR1
  clear HG1 HR1
  have HP2 := Lib.hid hb2
  have HG2 := Lib.hid (only_trans HGA.out hg2)
  have HR2 : Hid (Blk w2 W.heap.size 30 #[.int .i64 0, .int .i64 0, .float .f64 0, .string ⟨#[]⟩, .slice none 0 0, .slice none 0 0]) := HRA.out.grown hg2 (by have := HLT.out; intro e; injection e with e; omega)
  clear hb2 hg2
  have HVA := Lib.hid (Blk.new w2 30 #[.int .i64 0, .int .i64 0, .float .f64 0, .string ⟨#[]⟩, .slice none 0 0, .slice none 0 0])
  have HGN : Hid (w2.grownBy (w2.alloc (.cells #[.int .i64 0, .int .i64 0, .float .f64 0, .string ⟨#[]⟩, .slice none 0 0, .slice none 0 0] 30)) none) := only_alloc (World.grownBy.refl w2 none) _
  have HZ3 : Hid (W.heap.size < w2.heap.size) := HR2.out.lt
  go_upto_region 8 with (refine wpList_storeB rfl 30 (.tmp 6) (.tmp 48) rfl rfl w2.heap.size #[.int .i64 (7), .int .i64 0, .float .f64 0, .string ⟨#[]⟩, .slice none 0 0, .slice none 0 0] (by first | rfl | simp [Act.eval]) (by first | rfl | simp [Act.eval]) HVA.out v_info rfl rfl ?_; intro w3 hb3 hg3 hz3)
  have HV3 := Lib.hid hb3
  have HG23 : Hid (w2.grownBy w3 none) := ⟨hg3.os, hg3.tape, hg3.output, Nat.le_trans HGN.out.size hg3.size, fun i hi _ => (hg3.block i (Nat.lt_of_lt_of_le hi HGN.out.size) (by intro e; injection e with e; omega)).trans (HGN.out.block i hi (by simp))⟩
  have HP3 : Hid (Blk w3 g 102 (RnC A N c (a + 1) ((p : Int) + 1) (0) (0))) := HP2.out.grown HG23.out (by simp)
  have HR3 : Hid (Blk w3 W.heap.size 30 #[.int .i64 0, .int .i64 0, .float .f64 0, .string ⟨#[]⟩, .slice none 0 0, .slice none 0 0]) := HR2.out.grown HG23.out (by simp)
  have HG3 : Hid (W.grownBy w3 (some g)) := only_trans HG2.out ⟨HG23.out.os, HG23.out.tape, HG23.out.output, HG23.out.size, fun i hi _ => HG23.out.block i hi (by simp)⟩
  clear hb3 hg3 hz3 HVA HGN HG23 HP2 HR2 HG2
  have p1 : w3.cell? ⟨g, 1, none⟩ = some (.int .i64 ((a + 1 : Nat) : Int)) := HP3.out.cell 1
  have p4 : w3.cell? ⟨g, 4, none⟩ = some (.int .i64 (0)) := HP3.out.cell 4
  have v0 : w3.cell? ⟨w2.heap.size, 0, none⟩ = some (.int .i64 (7)) := HV3.out.cell 0
  have HR3' := Lib.hid (Reads.grown HPA.out.rd HG3.out (Nat.le_of_lt HLT.out) (fun _ h => by injection h with h; omega))
  go_wp2_with (refine wpList_load_row rfl 30 (.tmp 6) rfl w2.heap.size rfl 30 _ (0, 0) _ HV3.out Tryz.underlying30 rfl v_info ?_)
  refine (HIT.out w3 HP3.out HR3'.out).mono ?_
  rintro e' w4 ⟨cs4, rfl, hf4, hb4, hg4⟩
  have h6 := (six_of hf4.rd).1
  have HAL := Lib.hid (six_of hf4.rd).2
  obtain ⟨x0, x1, x2, x3, x4, x5, rfl⟩ := l_six6 h6
  have HF4 := Lib.hid hf4
  clear h6 hf4
  have HG4 := Lib.hid (only_trans HG3.out hg4)
  have HR4 := Lib.hid (HR3.out.grown hg4 (by have := HLT.out; intro e; injection e with e; omega))
  have HP4 := Lib.hid hb4
  have HZ4 : Hid (W.heap.size + 1 ≤ w3.heap.size) := Nat.le_trans HZ3.out (Nat.le_of_lt HV3.out.lt)
  clear hb4 hg4 p1 p4 HP3 HG3 HR3 HV3 HR3' v0
  go_wp2_with (refine wpList_storeB rfl 30 (.tmp 4) (.tmp 117) rfl rfl W.heap.size #[x0, x1, x2, x3, x4, x5] rfl rfl HR4.out v_info rfl (by exact HAL.out) ?_; intro w9 hB9 hg9 hz9)
  exact bodyPost_ret (results_cellB (p := 4) rfl _ hB9 _ rfl Tryz.underlying30 rfl v_info) rfl (⟨[x0, x1, x2, x3, x4, x5], rfl, ((HF4.out.lo_ HZ4.out).on (by rw [hz9]; exact Nat.le_refl _) (fun i hi hj => hg9.block i hj (by intro e; injection e with e; omega))).lo_ (Nat.le_succ _), HP4.out.grown hg9 (by have := HLT.out; intro e; injection e with e; omega), only_newZ HG4.out hg9 (Nat.le_refl _)⟩)
end Go.Proofs.YtacnoedhpamdmaaGreatDoor
