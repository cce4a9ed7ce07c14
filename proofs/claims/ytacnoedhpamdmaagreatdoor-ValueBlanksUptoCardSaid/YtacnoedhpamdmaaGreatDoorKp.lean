/- Walks: (*value.text).bare and .value at a list of ints, value.Parse of its text. Conditions: as stated. -/
import Derived.Test.YtacnoedhpamdmaaGreatDoorKo
import Derived.Test.YtacnoedhpamdmaaGreatDoorYo
namespace Go.Proofs.YtacnoedhpamdmaaGreatDoor
open Go.RowKit Go.Shelf
set_option linter.unusedVariables false
set_option linter.unusedSimpArgs false
attribute [local go_sem ↓] Go.wp_at_zero Go.wp_at_succ

set_option maxRecDepth 100000 in
set_option maxHeartbeats 1000000 in
theorem c_bareL (S : ByteArray) (a g : Nat) (G : Nat → List UInt8) (hG : ∀ k, allBl (G k)) (l : List Int) (r : List UInt8) (w : World) (hB : Blk w g 79 (TxC S a)) (hS : S.size ≤ 1099511627776) (hr : rest S a = 91 :: tailN G l r 0) (hl : l.length ≤ 1048576) (hzs : ∀ z ∈ l, -9223372036854775808 ≤ z ∧ z < 9223372036854775808) :
    Calls Tryz.prog 71 #[.pointer (some ⟨g, 0, none⟩)] w fun e w' => LsP S g l r w e w' := by
  have hlt := hB.lt
  obtain ⟨hal, hax⟩ := rest_hd hr
  have HLS : Hid (∀ W, Blk W g 79 (TxC S a) → Calls Tryz.prog 108 #[.pointer (some ⟨g, 0, none⟩)] W fun e w' => LsP S g l r W e w') := fun W h => c_listG S a g G hG l r W h hS hr hl hzs
  have HK := Lib.hid (hB.alloc (.cells vz 30))
  have HR := Lib.hid (Blk.new w 30 vz)
  have HG : Hid (w.grownBy (w.alloc (.cells vz 30)) (some g)) := only_alloc (World.grownBy.refl w _) _
  clear hB hr hzs hG
  go_enter Tryz.func71, Tryz.ntmps71
  go_upto_region 1 with fail
  unfold vz at *
  generalize w.alloc (.cells #[.int .i64 0, .int .i64 0, .float .f64 0, .string ⟨#[]⟩, .slice none 0 0, .slice none 0 0] 30) = w0 at *
  go_wp2_with fail
  refine (c_peekG S a g _ HK.out hal).mono ?_
  rintro e w1 ⟨rfl, q, hq⟩
  rw [hax hal, show ((91 : UInt8).toNat : Int) = 91 from rfl]
  have HK1 : Hid (Blk w1 g 79 (TxC S a)) := by rw [hq]; exact HK.out.drewN q
  have HG1 : Hid (w.grownBy w1 (some g)) := by rw [hq]; exact only_drewN HG.out q
  have HR1 : Hid (Blk w1 w.heap.size 30 vz) := by rw [hq]; exact HR.out.drewN q
  clear hq HK HG HR hax
  go_wp2_with fail
  refine (HLS.out _ HK1.out).mono ?_
  rintro e w2 ⟨cs2, p2, rfl, ht2, hk2, hr2, hg2⟩
  have HT2 := Lib.hid ht2
  have HR2 : Hid (Blk w2 w.heap.size 30 vz) := HR1.out.grown hg2 (by intro e; have := Option.some.inj e; omega)
  have hvz : vz.size = cs2.toArray.size := by rw [show cs2.toArray.size = 6 by simpa using ht2.six]; rfl
  have hw1 : w.heap.size < w1.heap.size := HR1.out.lt
  have HK2 := Lib.hid hk2
  have HP2 := Lib.hid hr2
  have HG2 := Lib.hid (only_trans HG1.out hg2)
  clear ht2 hk2 hr2 hg2 HK1 HG1 HR1 HLS
  go_wp2_with (refine wpList_storeB rfl 30 (.tmp 2) (.tmp 87) rfl rfl w.heap.size cs2.toArray (by simp [Act.eval]) (by simp [Act.eval]) HR2.out (inf_six HT2.out.six) hvz HT2.out.one ?_; intro w3 hB3 hg3 hz3)
  refine bodyPost_ret (results_cellB (p := 2) rfl _ hB3 _ rfl Tryz.underlying30 rfl (inf_six HT2.out.six)) rfl ⟨cs2, p2, rfl, ?_, HK2.out.grown hg3 (by intro e; have := Option.some.inj e; omega), HP2.out, only_new HG2.out hg3⟩
  refine (HT2.out.keep (W := w3) fun x hx => hg3.block x hx.2 (by intro e; have := Option.some.inj e; omega)).wide fun x hx => ⟨by omega, by omega⟩
set_option maxRecDepth 100000 in
set_option maxHeartbeats 1000000 in
theorem c_valueL (S : ByteArray) (a g : Nat) (G : Nat → List UInt8) (hG : ∀ k, allBl (G k)) (l : List Int) (gg hh : List UInt8) (w : World) (hB : Blk w g 79 (TxC S a)) (hS : S.size ≤ 1099511627776) (hr : rest S a = gg ++ (91 :: tailN G l hh 0)) (hg : allBl gg) (hh' : allBl hh) (hl : l.length ≤ 1048576) (hzs : ∀ z ∈ l, -9223372036854775808 ≤ z ∧ z < 9223372036854775808) :
    Calls Tryz.prog 40 #[.pointer (some ⟨g, 0, none⟩)] w fun e w' => LsP S g l [] w e w' := by
  have hlt := hB.lt
  have hr1 := rest_app hr
  have HBR : Hid (∀ W, Blk W g 79 (TxC S (a + gg.length)) → Calls Tryz.prog 71 #[.pointer (some ⟨g, 0, none⟩)] W fun e w' => LsP S g l hh W e w') := fun W h => c_bareL S _ g G hG l hh W h hS hr1 hl hzs
  have HB1 : Hid (∀ W, Blk W g 79 (TxC S a) → Calls Tryz.prog 70 #[.pointer (some ⟨g, 0, none⟩)] W fun e w' => e = .returned (.tuple #[]) ∧ Blk w' g 79 (TxC S (a + gg.length)) ∧ W.grownBy w' (some g)) := fun W h => c_blanksG S a g gg _ W h hS hr hg (noBl_of rfl)
  have HB2 : Hid (∀ W p, Blk W g 79 (TxC S p) → rest S p = hh → Calls Tryz.prog 70 #[.pointer (some ⟨g, 0, none⟩)] W fun e w' => e = .returned (.tuple #[]) ∧ Blk w' g 79 (TxC S (p + hh.length)) ∧ W.grownBy w' (some g)) := fun W p h h2 => c_blanksG S p g hh [] W h hS (by rw [h2, List.append_nil]) hh' (fun x t e => by cases e)
  have HK := Lib.hid (hB.alloc (.cells vz 30))
  have HR := Lib.hid (Blk.new w 30 vz)
  have HG : Hid (w.grownBy (w.alloc (.cells vz 30)) (some g)) := only_alloc (World.grownBy.refl w _) _
  clear hB hr hr1 hg hh' hzs hG
  generalize a + gg.length = n1 at *
  go_enter Tryz.func40, Tryz.ntmps40
  go_upto_region 1 with fail
  unfold vz at *
  generalize w.alloc (.cells #[.int .i64 0, .int .i64 0, .float .f64 0, .string ⟨#[]⟩, .slice none 0 0, .slice none 0 0] 30) = w0 at *
  go_wp2_with fail
  refine (HB1.out _ HK.out).mono ?_
  rintro e w1 ⟨rfl, hk1, hg1⟩
  have HK1 := Lib.hid hk1
  have HG1 : Hid (w.grownBy w1 (some g)) := only_trans HG.out hg1
  have HR1 : Hid (Blk w1 w.heap.size 30 vz) := HR.out.grown hg1 (by intro e; have := Option.some.inj e; omega)
  clear hk1 hg1 HK HG HR
  go_wp2_with fail
  refine (HBR.out _ HK1.out).mono ?_
  rintro e w2 ⟨cs2, p2, rfl, ht2, hk2, hr2, hg2⟩
  have HT2 := Lib.hid ht2
  have HP2 := Lib.hid hr2
  have HK2 := Lib.hid (hk2.alloc (.cells vz 30))
  have HG2 := Lib.hid (only_alloc (only_trans HG1.out hg2) (.cells vz 30))
  have HR2 := Lib.hid ((HR1.out.grown hg2 (by intro e; have := Option.some.inj e; omega)).alloc (.cells vz 30))
  have HX2 := Lib.hid (Blk.new w2 30 vz)
  have hw1 : w.heap.size < w1.heap.size := HR1.out.lt
  have hw2 : w1.heap.size ≤ w2.heap.size := hg2.size
  have hvz : vz.size = cs2.toArray.size := by rw [show cs2.toArray.size = 6 by simpa using ht2.six]; rfl
  clear ht2 hk2 hr2 hg2 HK1 HG1 HR1
  go_wp2_with (refine wpList_storeB rfl 30 (.tmp 3) (.tmp 7) rfl rfl w2.heap.size cs2.toArray (by simp [Act.eval]) (by simp [Act.eval]) HX2.out (inf_six HT2.out.six) hvz HT2.out.one ?_; intro w3 hB3 hg3 hz3)
  have HK3 : Hid (Blk w3 g 79 (TxC S p2)) := HK2.out.grown hg3 (by intro e; have := Option.some.inj e; omega)
  have HR3 : Hid (Blk w3 w.heap.size 30 vz) := HR2.out.grown hg3 (by intro e; have := Option.some.inj e; omega)
  have HX3 := Lib.hid hB3
  have HG3 : Hid (w.grownBy w3 (some g)) := only_far HG2.out hg3 (by omega)
  have HT3 : Hid (Tr w3 (fun x => w1.heap.size ≤ x ∧ x < w2.heap.size) (lstV l) cs2) := HT2.out.keep fun x hx => (hg3.block x (by simp; omega) (by intro e; have := Option.some.inj e; omega)).trans (Below.heap_alloc w2 _ x hx.2)
  have hw3 : w2.heap.size < w3.heap.size := hB3.lt
  clear hB3 hg3 hz3 HK2 HR2 HG2 HX2 HT2
  refine (HB2.out _ p2 HK3.out HP2.out).mono ?_
  rintro e w4 ⟨rfl, hk4, hg4⟩
  have HK4 := Lib.hid hk4
  have HG4 : Hid (w.grownBy w4 (some g)) := only_trans HG3.out hg4
  have HR4 : Hid (Blk w4 w.heap.size 30 vz) := HR3.out.grown hg4 (by intro e; have := Option.some.inj e; omega)
  have HX4 : Hid (Blk w4 w2.heap.size 30 cs2.toArray) := HX3.out.grown hg4 (by intro e; have := Option.some.inj e; omega)
  have HT4 : Hid (Tr w4 (fun x => w1.heap.size ≤ x ∧ x < w2.heap.size) (lstV l) cs2) := HT3.out.keep fun x hx => hg4.block x (by omega) (by intro e; have := Option.some.inj e; omega)
  have hw4 : w3.heap.size ≤ w4.heap.size := hg4.size
  clear hk4 hg4 HK3 HG3 HR3 HX3 HT3
  go_wp2_with (first
    | (refine wpList_load_row rfl 30 (.tmp 3) rfl w2.heap.size rfl 30 _ (0, 0) _ HX4.out Tryz.underlying30 rfl (inf_six HT4.out.six) ?_)
    | (refine wpList_storeB rfl 30 (.tmp 2) (.tmp 10) rfl rfl w.heap.size cs2.toArray (by simp [Act.eval, Act.put]) (by simp [Act.eval, Act.put]) HR4.out (inf_six HT4.out.six) hvz HT4.out.one ?_; intro w5 hB5 hg5 hz5))
  refine bodyPost_ret (results_cellB (p := 2) rfl _ hB5 _ rfl Tryz.underlying30 rfl (inf_six HT4.out.six)) rfl ⟨cs2, p2 + hh.length, rfl, ?_, HK4.out.grown hg5 (by intro e; have := Option.some.inj e; omega), ?_, only_new HG4.out hg5⟩
  · refine (HT4.out.keep (W := w5) fun x hx => hg5.block x (by omega) (by intro e; have := Option.some.inj e; omega)).wide fun x hx => ⟨by omega, by omega⟩
  · exact rest_app (by rw [HP2.out, List.append_nil])
theorem c_Parse1N (a b c : Value) (w : World) : CallsD Tryz.prog 39 #[a, b, c] .returning w fun e u' w' => e = .returned (.tuple #[]) ∧ u' = .returning ∧ w' = w := by
  refine callsD_of_wpS Tryz.func39 rfl fun c₀ cs hu => ?_
  simp only [Tryz.ntmps39, List.size_toArray, List.length_cons, List.length_nil, Nat.reduceAdd, Nat.reduceSub, Array.replicate_succ, Array.replicate_zero, List.push_toArray, List.append_toArray, List.nil_append, List.cons_append]
  apply wpS_seq
  apply wpS_region
  simp [wpOpsS, go_sem, recoverD, hu, Exit.thenS]
  apply wpS_seq
  apply wpS_region
  simp [wpOpsS, go_sem, recoverD, Exit.thenS]
  refine wpS_cond (t := false) (by simp [Act.eval]) ?_
  simp only [Bool.false_eq_true, if_false]
  refine wpS_of_wp ?_
  go_wp2_with fail
  exact ⟨rfl, .returning, by rw [← hu], .tuple #[], by simp [results, Tryz.results39], rfl, rfl, rfl⟩
set_option maxRecDepth 100000 in
set_option maxHeartbeats 1000000 in
theorem c_ParseG (S : ByteArray) (G : Nat → List UInt8) (hG : ∀ k, allBl (G k)) (l : List Int) (w : World) (hS : S.size ≤ 4194304) (hr : rest S 0 = G 0 ++ (91 :: tailN G l (G 4) 0)) (hl : l.length ≤ 1048575) (hzs : ∀ z ∈ l, -9223372036854775808 ≤ z ∧ z < 9223372036854775808) (hc : chk fone (lstV l) = 0) (hwf : wfV (lstV l)) :
    Calls Tryz.prog 14 #[.string S] w fun e w' => ∃ cs' : List Value, e = .returned (.tuple #[.agg cs'.toArray, .int .i64 0, .int .i64 0]) ∧ Tr w' (fun x => w.heap.size ≤ x ∧ x < w'.heap.size) (lstV l) cs' ∧ Below w.heap.size w w' := by
  have hmf : ∀ (fn : Fn) (first cap : Array Value) (w : World), (Instr.makeFunc fn first cap).run Tryz.prog w = .ok (.func fn first cap) w := fun _ _ _ _ => rfl
  have HV : Hid (∀ g W, Blk W g 79 (TxC S 0) → Calls Tryz.prog 40 #[.pointer (some ⟨g, 0, none⟩)] W fun e w' => LsP S g l [] W e w') := fun g W h => c_valueL S 0 g G hG l (G 0) (G 4) W h (by omega) hr (hG 0) (hG 4) (by omega) hzs
  have HC : Hid (∀ W cs, RV W (lstV l) cs → Calls Tryz.prog 18 #[.agg cs.toArray] W fun e w' => e = .returned (.int .i64 0) ∧ Below W.heap.size W w') := fun W cs h => by rw [← hc]; exact c_Check (lstV l) cs W h
  have HF : Hid (wfV (lstV l) ∧ bnd (lstV l) ≤ 1048576) := ⟨hwf, by rw [lstV_bnd]; omega⟩
  have HA := Lib.hid (((Blk.new w 30 vz).alloc (.cells #[.int .i64 0] 3)).alloc (.cells #[.int .i64 0] 33))
  have HB := Lib.hid ((Blk.new (w.alloc (.cells vz 30)) 3 #[.int .i64 0]).alloc (.cells #[.int .i64 0] 33))
  have HD := Lib.hid (Blk.new ((w.alloc (.cells vz 30)).alloc (.cells #[.int .i64 0] 3)) 33 #[.int .i64 0])
  have HW : Hid (Below w.heap.size w (((w.alloc (.cells vz 30)).alloc (.cells #[.int .i64 0] 3)).alloc (.cells #[.int .i64 0] 33))) := (((Below.refl w.heap.size w).alloc (Nat.le_refl _) _).alloc (by simp) _).alloc (by simp; omega) _
  clear hr hG hzs hc hwf
  unfold vz at HA HB HD HW
  go_enter_defers Tryz.func14, Tryz.ntmps14
  have hS1 : ¬ 4194304 < S.size := by omega
  go_wp2_with fail
  have hz : ((((w.alloc (.cells #[.int .i64 0, .int .i64 0, .float .f64 0, .string ⟨#[]⟩, .slice none 0 0, .slice none 0 0] 30)).alloc (.cells #[.int .i64 0] 3)).alloc (.cells #[.int .i64 0] 33)) : World).heap.size = w.heap.size + 1 + 1 + 1 := by simp
  simp only [World.size_alloc] at HB HD
  generalize (((w.alloc (.cells #[.int .i64 0, .int .i64 0, .float .f64 0, .string ⟨#[]⟩, .slice none 0 0, .slice none 0 0] 30)).alloc (.cells #[.int .i64 0] 3)).alloc (.cells #[.int .i64 0] 33)) = w3 at *
  rw [← hz]
  clear hz
  have HT := Blk.new w3 79 (TxC S 0)
  refine (HV.out w3.heap.size _ HT).mono ?_
  rintro e w4 ⟨cs4, p4, rfl, ht4, hk4, hr4, hg4⟩
  have ha : w.heap.size < w3.heap.size := HA.out.lt
  have hb : w.heap.size + 1 < w3.heap.size := HB.out.lt
  have hd : w.heap.size + 1 + 1 < w3.heap.size := HD.out.lt
  have hz4 : w3.heap.size < w4.heap.size := hk4.lt
  replace HW := Lib.hid ((HW.out.alloc HW.out.size (.cells (TxC S 0) 79)).grown hg4 (by simp; omega) (fun x e => by have := Option.some.inj e; omega))
  replace HA := Lib.hid ((HA.out.alloc (.cells (TxC S 0) 79)).grown hg4 (by intro e; have := Option.some.inj e; omega))
  replace HB := Lib.hid ((HB.out.alloc (.cells (TxC S 0) 79)).grown hg4 (by intro e; have := Option.some.inj e; omega))
  replace HD := Lib.hid ((HD.out.alloc (.cells (TxC S 0) 79)).grown hg4 (by intro e; have := Option.some.inj e; omega))
  have hz3 : (w3.alloc (.cells (TxC S 0) 79)).heap.size = w3.heap.size + 1 := by simp
  rw [hz3] at ht4
  have HT4 := Lib.hid ht4
  have HK4 := Lib.hid hk4
  have hp4 := rest_nil hr4
  have hvz : vz.size = cs4.toArray.size := by rw [show cs4.toArray.size = 6 by simpa using ht4.six]; rfl
  have hp44 : ¬ p4 < S.size := by omega
  clear ht4 hk4 hr4 hg4 HV HT
  go_upto_region 6 with (refine wpList_storeB rfl 30 (.tmp 2) (.tmp 16) rfl rfl w.heap.size cs4.toArray (by simp [Act.eval]) (by simp [Act.eval]) HA.out (inf_six HT4.out.six) hvz HT4.out.one ?_; intro w5 hB5 hg5 hz5)
  have HA5 := Lib.hid hB5
  have HB5 : Hid (Blk w5 (w.heap.size + 1) 3 #[.int .i64 0]) := HB.out.grown hg5 (by intro e; have := Option.some.inj e; omega)
  have HD5 : Hid (Blk w5 (w.heap.size + 1 + 1) 33 #[.int .i64 0]) := HD.out.grown hg5 (by intro e; have := Option.some.inj e; omega)
  have HK5 : Hid (Blk w5 w3.heap.size 79 (TxC S p4)) := HK4.out.grown hg5 (by intro e; have := Option.some.inj e; omega)
  have HT5 : Hid (Tr w5 (fun x => w3.heap.size + 1 ≤ x ∧ x < w4.heap.size) (lstV l) cs4) := HT4.out.keep fun x hx => hg5.block x hx.2 (by intro e; have := Option.some.inj e; omega)
  have HW5 : Hid (Below w.heap.size w w5) := HW.out.grown hg5 HW.out.size (fun x e => by have := Option.some.inj e; omega)
  have hz55 : w5.heap.size = w4.heap.size := hz5
  clear hB5 hg5 hz5 HA HB HD HK4 HT4 HW hvz
  have c1 : w5.cell? ⟨w3.heap.size, 1, none⟩ = some (.int .i64 (p4 : Int)) := HK5.out.cell 1
  have hrv : RV w5 (lstV l) cs4 := ⟨HT5.out.rd fun x hx => by omega, HF.out.1, HF.out.2⟩
  have HRV := Lib.hid hrv
  have HRR : Hid ((Tryz.prog.info? 30).map (·.size) = some cs4.toArray.size) := inf_six HT5.out.six
  clear hrv
  go_wp2_with (refine wpList_load_row rfl 30 (.tmp 2) rfl w.heap.size rfl 30 _ (0, 0) _ HA5.out Tryz.underlying30 rfl HRR.out ?_)
  refine (HC.out _ _ HRV.out).mono ?_
  rintro e w6 ⟨rfl, hb6⟩
  have hwl : w.heap.size + 1 + 1 < w5.heap.size := by omega
  have HA6 : Hid (Blk w6 w.heap.size 30 cs4.toArray) := HA5.out.below hb6 (by omega)
  have HB6 : Hid (Blk w6 (w.heap.size + 1) 3 #[.int .i64 0]) := HB5.out.below hb6 (by omega)
  have HD6 : Hid (Blk w6 (w.heap.size + 1 + 1) 33 #[.int .i64 0]) := HD5.out.below hb6 (by omega)
  have HT6 : Hid (Tr w6 (fun x => w3.heap.size + 1 ≤ x ∧ x < w4.heap.size) (lstV l) cs4) := HT5.out.keep fun x hx => hb6.block x (by omega)
  have HW6 : Hid (Below w.heap.size w w6) := HW5.out.trans (hb6.mono HW5.out.size)
  have hz6 : w5.heap.size ≤ w6.heap.size := hb6.size
  clear hb6 c1 HA5 HB5 HD5 HK5 HT5 HW5 HRV HC
  go_upto_region 11 with fail
  go_wp2_with (first
    | (refine wpList_load_row rfl 30 (.tmp 2) rfl w.heap.size rfl 30 _ (0, 0) _ HA6.out Tryz.underlying30 rfl HRR.out ?_)
    | (refine wpList_storeB rfl 30 (.tmp 2) (.tmp 36) rfl rfl w.heap.size cs4.toArray (by simp [Act.eval, Act.put]) (by simp [Act.eval, Act.put]) HA6.out HRR.out rfl HT6.out.one ?_; intro w7 hA7 hg7 hz7; have HB7 : Hid (Blk w7 (w.heap.size + 1) 3 #[.int .i64 0]) := (HB6.out.grown hg7 (by intro e; have := Option.some.inj e; omega)); have HD7 : Hid (Blk w7 (w.heap.size + 1 + 1) 33 #[.int .i64 0]) := (HD6.out.grown hg7 (by intro e; have := Option.some.inj e; omega)); have q1 := HB7.out.cell 0; have q2 := HD7.out.cell 0; have f1 := HB7.out.frozen 0; have f2 := HD7.out.frozen 0))
  have HA9 : Hid (Blk ((w7.setCell ⟨w.heap.size + 1, 0, none⟩ (.int .i64 0)).setCell ⟨w.heap.size + 1 + 1, 0, none⟩ (.int .i64 0)) w.heap.size 30 cs4.toArray) := (hA7.far (by simp only; omega) _).far (by simp only; omega) _
  have HB9 : Hid (Blk ((w7.setCell ⟨w.heap.size + 1, 0, none⟩ (.int .i64 0)).setCell ⟨w.heap.size + 1 + 1, 0, none⟩ (.int .i64 0)) (w.heap.size + 1) 3 #[.int .i64 0]) := (HB7.out.set_ 0 (.int .i64 0)).far (by simp only; omega) _
  have HD9 : Hid (Blk ((w7.setCell ⟨w.heap.size + 1, 0, none⟩ (.int .i64 0)).setCell ⟨w.heap.size + 1 + 1, 0, none⟩ (.int .i64 0)) (w.heap.size + 1 + 1) 33 #[.int .i64 0]) := (HD7.out.far (p := ⟨w.heap.size + 1, 0, none⟩) (by simp only; omega) (.int .i64 0)).set_ 0 (.int .i64 0)
  have hz9 : ((w7.setCell ⟨w.heap.size + 1, 0, none⟩ (.int .i64 0)).setCell ⟨w.heap.size + 1 + 1, 0, none⟩ (.int .i64 0)).heap.size = w6.heap.size := by simp [World.setCell, hz7]
  have HT9 : Hid (Tr ((w7.setCell ⟨w.heap.size + 1, 0, none⟩ (.int .i64 0)).setCell ⟨w.heap.size + 1 + 1, 0, none⟩ (.int .i64 0)) (fun x => w3.heap.size + 1 ≤ x ∧ x < w4.heap.size) (lstV l) cs4) := HT6.out.keep fun x hx => ((Below.heap_setCell _ _ _ x (by simp only; omega)).trans (Below.heap_setCell _ _ _ x (by simp only; omega))).trans (hg7.block x (by omega) (by intro e; have := Option.some.inj e; omega))
  have HW9 : Hid (Below w.heap.size w ((w7.setCell ⟨w.heap.size + 1, 0, none⟩ (.int .i64 0)).setCell ⟨w.heap.size + 1 + 1, 0, none⟩ (.int .i64 0))) := ((HW6.out.grown hg7 HW6.out.size (fun x e => by have := Option.some.inj e; omega)).setCell (p := ⟨w.heap.size + 1, 0, none⟩) (by simp only; omega) (.int .i64 0)).setCell (p := ⟨w.heap.size + 1 + 1, 0, none⟩) (by simp only; omega) (.int .i64 0)
  clear q1 q2 f1 f2 hA7 hg7 hz7 HB7 HD7 HA6 HB6 HD6 HT6 HW6 HRR hmf
  generalize (w7.setCell ⟨w.heap.size + 1, 0, none⟩ (.int .i64 0)).setCell ⟨w.heap.size + 1 + 1, 0, none⟩ (.int .i64 0) = w9 at *
  refine leaves_cons (f := 39) (args := #[.pointer (some ⟨w.heap.size, 0, none⟩), .pointer (some ⟨w.heap.size + 1, 0, none⟩), .pointer (some ⟨w.heap.size + 1 + 1, 0, none⟩)]) (by simp) (by simp [go_sem]) ?_
  refine (c_Parse1N _ _ _ _).mono ?_
  rintro e u w10 ⟨rfl, rfl, rfl⟩
  have hwt := HT9.out.wide (S' := fun x => w.heap.size ≤ x ∧ x < w10.heap.size) fun x hx => by omega
  obtain ⟨u0, u1, u2, u3, u4, u5, rfl⟩ := lst_six HT9.out.six
  have HFIN : Hid (∃ cs' : List Value, Ending.returned (.tuple #[.agg #[u0, u1, u2, u3, u4, u5], .int .i64 0, .int .i64 0]) = .returned (.tuple #[.agg cs'.toArray, .int .i64 0, .int .i64 0]) ∧ Tr w10 (fun x => w.heap.size ≤ x ∧ x < w10.heap.size) (lstV l) cs' ∧ Below w.heap.size w w10) := ⟨[u0, u1, u2, u3, u4, u5], rfl, hwt, HW9.out⟩
  have n0 := HA9.out.cell 0
  have n1 := HA9.out.cell 1
  have n2 := HA9.out.cell 2
  have n3 := HA9.out.cell 3
  have n4 := HA9.out.cell 4
  have n5 := HA9.out.cell 5
  have m0 := HB9.out.cell 0
  have k0 := HD9.out.cell 0
  clear HA9 HB9 HD9 HT9 HW9 hwt
  generalize hR : (fun (e : Ending) (w' : World) => ∃ cs' : List Value, e = .returned (.tuple #[.agg cs'.toArray, .int .i64 0, .int .i64 0]) ∧ Tr w' (fun x => w.heap.size ≤ x ∧ x < w'.heap.size) (lstV l) cs' ∧ Below w.heap.size w w') = R
  have HRR : Hid (R (.returned (.tuple #[.agg #[u0, u1, u2, u3, u4, u5], .int .i64 0, .int .i64 0])) w10) := by rw [← hR]; exact HFIN.out
  clear hR HFIN
  simp [Leaves, settle, results, Tryz.results14, go_sem, n0, n1, n2, n3, n4, n5, m0, k0]
  exact HRR.out
end Go.Proofs.YtacnoedhpamdmaaGreatDoor
