/- Walk: a value with another one at the end of a way (value.Put). Conditions: the values as they read, their bulk together at most 1048576; the way as it reads. -/
import Derived.Test.YtacnoedhpamdmaaGreatDoorM4
namespace Go.Proofs.YtacnoedhpamdmaaGreatDoor
open Go.RowKit
set_option linter.unusedVariables false
set_option linter.unusedSimpArgs false
attribute [local go_sem ↓] Go.wp_at_zero Go.wp_at_succ

/-- A store of a struct into the middle of a block: the world behind it by what is known of it. -/
theorem wpList_store_mid6 {P : Program} {ops : Array Oper} {rest : List Oper} {o : Oper} {a : Act} {w : World} {Q : Exit → Act → World → Prop} (hgd : o.guard = none) (ty : TypeId) (x y : Operand) (ho : o.op = .store ty x y) (hdst : o.dst = none)
    (g off : Nat) (cs' : Array Value) (hx : a.eval x = .pointer (some ⟨g, off, none⟩)) (hy : a.eval y = .agg cs') {t : TypeId} {cs : Array Value} (hg : Blk w g t cs) (hi : (P.info? ty).map (·.size) = some cs'.size) (hs : off + cs'.size ≤ cs.size) (h1' : cs'.toList.all (·.oneCell') = true)
    (cs2 : Array Value) (hcs : (cs.toList.take off ++ cs'.toList ++ cs.toList.drop (off + cs'.size)).toArray = cs2)
    (h : ∀ w', Blk w' g t cs2 → w.grownBy w' (some g) → w'.heap.size = w.heap.size → wpList P ops Q rest a w') : wpList P ops Q (o :: rest) a w := by
  have hst := run_storeCells_at (P := P) g off t cs'.toList 0 cs w hg (by simpa using hs) (fun v hv => List.all_eq_true.1 h1' v hv)
  simp only [Nat.add_zero, Array.length_toList] at hst
  rw [hcs] at hst
  have hsv : (storeVar ty ⟨g, off, none⟩ (.agg cs')).run P w = .ok () (w.setRow g cs2) := by
    cases hq : P.info? ty with
    | none => simp [hq] at hi
    | some i =>
      have hz : cs'.size = i.size := by simp [hq] at hi; omega
      simp [storeVar, sizeOf, typeInfo, hq, Value.cells, hz, hst]
  refine wpList_plain hgd fun _ hK => ?_
  unfold Oper.wp execOp
  simp only [ho, hx, hy, Instr.storeAt, Instr.sureAddr, Sem.run_bind, Sem.run_pure, Result.andThen_ok, hsv]
  have := hK _ _ (h (w.setRow g cs2) (hg.setRow cs2) (only_setRow w g cs2) (by simp))
  simpa [Oper.upon, Act.put, hdst] using this
/-- What Put tells. -/
def putA (v : Val) (way : List Int) (y : Val) : Val × Int :=
  if bothK v y = 0 then (match atV v way with | some _ => (if chk fone (putV v way y) = 0 then (putV v way y, 0) else (zvV, chk fone (putV v way y))) | none => (zvV, 6)) else (zvV, bothK v y)
theorem putA_both {v y : Val} {way : List Int} (h : ¬ bothK v y = 0) : putA v way y = (zvV, bothK v y) := by unfold putA; rw [if_neg h]
theorem putA_none {v y : Val} {way : List Int} (h : bothK v y = 0) (h2 : atV v way = none) : putA v way y = (zvV, 6) := by unfold putA; rw [if_pos h, h2]
theorem putA_some {v y x : Val} {way : List Int} (h : bothK v y = 0) (h2 : atV v way = some x) (h3 : chk fone (putV v way y) = 0) : putA v way y = (putV v way y, 0) := by
  unfold putA; rw [if_pos h, h2]; simp only [h3, if_true]
theorem putA_bad {v y x : Val} {way : List Int} (h : bothK v y = 0) (h2 : atV v way = some x) (h3 : ¬ chk fone (putV v way y) = 0) : putA v way y = (zvV, chk fone (putV v way y)) := by
  unfold putA; rw [if_pos h, h2]; simp only [h3, if_false]
theorem tr_rv {w : World} {S : Nat → Prop} {v : Val} {cs : List Value} (h : Tr w S v cs) (hS : ∀ i, S i → i < w.heap.size) (hw : wfV v) (hb : bnd v ≤ 1048576) : RV w v cs := ⟨h.rd hS, hw, hb⟩
set_option maxRecDepth 100000 in
set_option maxHeartbeats 2000000 in
theorem c_Put (v y : Val) (cs cy : List Value) (A : Option Addr) (n c : Nat) (way : List Int) (w : World) (h : RV w v cs) (h' : RV w y cy) (hr : Reads w w.heap.size 1 A n (i64s way)) (hn : n ≤ 1099511627776) (hbd : bnd v + bnd y ≤ 1048576) :
    Calls Tryz.prog 21 #[.agg cs.toArray, .slice A n c, .agg cy.toArray] w fun e w' => AtP w (putA v way y) e w' := by
  have HRa := Lib.hid h.row
  have HRb := Lib.hid h'.row
  have HWL : Hid (way.length = n) := by show _ = _; simpa using hr.1
  obtain ⟨W0, hW0⟩ : ∃ W, ((w.alloc (.cells cs.toArray 30)).alloc (.cells cy.toArray 30)).alloc (.cells vz 30) = W := ⟨_, rfl⟩
  have HB0 : Hid (Below w.heap.size w W0) := by rw [← hW0]; exact (((Below.refl w.heap.size w).alloc (Nat.le_refl _) _).alloc (by simp) _).alloc (by simp only [World.size_alloc]; omega) _
  have HX0 : Hid (Blk W0 w.heap.size 30 cs.toArray) := by rw [← hW0]; exact ((Blk.new w 30 cs.toArray).alloc _).alloc _
  have HY0 : Hid (Blk W0 (w.heap.size + 1) 30 cy.toArray) := by
    have := (Blk.new (w.alloc (.cells cs.toArray 30)) 30 cy.toArray).alloc (.cells vz 30)
    rw [World.size_alloc, hW0] at this; exact this
  have HZ0 : Hid (Blk W0 (w.heap.size + 2) 30 vz) := by
    have := Blk.new ((w.alloc (.cells cs.toArray 30)).alloc (.cells cy.toArray 30)) 30 vz
    rw [World.size_alloc, World.size_alloc, hW0] at this; exact this
  have HV := Lib.hid h
  have HU := Lib.hid h'
  have HWY := Lib.hid hr
  have HBD := Lib.hid hbd
  obtain ⟨E, hE⟩ : ∃ E, bothK v y = E := ⟨_, rfl⟩
  have HC1 : Hid (∀ W, RV W v cs → RV W y cy → Calls Tryz.prog 54 #[.agg cs.toArray, .agg cy.toArray] W fun e w' => e = .returned (.int .i64 E) ∧ Below W.heap.size W w') := by rw [← hE]; exact fun W h h' => c_bothK v y cs cy W h h'
  have HEE := Lib.hid hE
  clear h h' hr hE hbd
  go_enter Tryz.func21, Tryz.ntmps21
  go_upto_region 1 with fail
  clear hW0
  go_wp2_with (first
    | (refine wpList_load_row rfl 30 (.tmp 3) rfl w.heap.size rfl 30 _ (0, 0) _ HX0.out Tryz.underlying30 rfl HRa.out ?_)
    | (refine wpList_load_row rfl 30 (.tmp 5) rfl (w.heap.size + 1) rfl 30 _ (0, 0) _ HY0.out Tryz.underlying30 rfl HRb.out ?_))
  refine (HC1.out _ (HV.out.step HB0.out) (HU.out.step HB0.out)).mono ?_; rintro e w1 ⟨rfl, hb1⟩
  have HX1 := Lib.hid (HX0.out.below hb1 HX0.out.lt)
  have HY1 := Lib.hid (HY0.out.below hb1 HY0.out.lt)
  have HZ1 := Lib.hid (HZ0.out.below hb1 HZ0.out.lt)
  have HB1 := Lib.hid (HB0.out.trans (hb1.mono HB0.out.size))
  clear hb1 HX0 HY0 HZ0 HB0 HC1
  by_cases hE0 : E = 0
  rotate_left
  · have hb : (E != 0) = true := by simpa using hE0
    have HQ : Hid (putA v way y = (zvV, E)) := by
      show _ = _
      rw [putA_both (by rw [HEE.out]; exact hE0), HEE.out]
    clear hE0
    go_wp2_with (refine wpList_storeB rfl 30 (.tmp 6) (.tmp 21) rfl rfl (w.heap.size + 2) zcs.toArray (by simp [Act.eval]) rfl HZ1.out v_info rfl rfl ?_; intro w2 hB2 hg2 hz2)
    refine bodyPost_ret (results_cell_tmpB (p := 6) (u := 7) rfl _ hB2 _ rfl Tryz.underlying30 rfl v_info) rfl ?_
    rw [HQ.out]
    exact AtP.zero (HB1.out.grown hg2 HB1.out.size (fun k e => by injection e with e; omega))
  subst hE0
  have HCV : Hid (chk fone v = 0) := (bothK_zero HEE.out).1
  obtain ⟨x0, e0, hR⟩ : ∃ x0 e0, atA v way = (x0, e0) := ⟨_, _, rfl⟩
  have HAT : Hid (∀ W, RV W v cs → Reads W W.heap.size 1 A n (i64s way) → Calls Tryz.prog 19 #[.agg cs.toArray, .slice A n c] W fun e w' => AtP W (x0, e0) e w') := by rw [← hR]; exact fun W h h2 => c_At v cs A n c way W h h2 hn
  have HAR := Lib.hid hR
  clear hR
  go_wp2_with (refine wpList_load_row rfl 30 (.tmp 3) rfl w.heap.size rfl 30 _ (0, 0) _ HX1.out Tryz.underlying30 rfl HRa.out ?_)
  refine (HAT.out _ (HV.out.step HB1.out) ((HWY.out.below HB1.out).more HB1.out.size)).mono ?_
  rintro e w2 ⟨cs2, rfl, ht2, hb2⟩
  have HS2 : Hid (cs2.length = 6 ∧ cs2.toArray.toList.all (·.oneCell') = true) := ⟨ht2.six, ht2.one⟩
  have HX2 := Lib.hid ((HX1.out.below hb2 HX1.out.lt).alloc (.cells vz 30))
  have HY2 := Lib.hid ((HY1.out.below hb2 HY1.out.lt).alloc (.cells vz 30))
  have HZ2 := Lib.hid ((HZ1.out.below hb2 HZ1.out.lt).alloc (.cells vz 30))
  have HB2 := Lib.hid ((HB1.out.trans (hb2.mono HB1.out.size)).alloc (Nat.le_trans HB1.out.size hb2.size) (.cells vz 30))
  have HT2 := Lib.hid (Blk.new w2 30 vz)
  have hw2 : w.heap.size + 2 < w2.heap.size := Nat.lt_of_lt_of_le HZ1.out.lt hb2.size
  have hvz : vz.size = cs2.toArray.size := by rw [show cs2.toArray.size = 6 by simpa using HS2.out.1]; rfl
  clear ht2 hb2 HX1 HY1 HZ1 HB1 HAT
  by_cases he0 : e0 = 0
  rotate_left
  · have hb : (e0 != 0) = true := by simpa using he0
    have HQ : Hid (putA v way y = (zvV, e0)) := by
      show _ = _
      cases hz : atV v way with
      | none =>
        have := HAR.out
        rw [atA_none HCV.out hz] at this
        injection this with _ h6
        rw [putA_none HEE.out hz, h6]
      | some z =>
        have := HAR.out
        rw [atA_some HCV.out hz] at this
        injection this with _ h6
        exact absurd h6.symm he0
    clear he0
    go_wp2_with (first
      | (refine wpList_storeB rfl 30 (.tmp 9) (.tmp 27) rfl rfl w2.heap.size cs2.toArray (by simp [Act.eval]) (by simp [Act.eval]) HT2.out (inf_six HS2.out.1) hvz HS2.out.2 ?_; intro w3 hB3 hg3 hz3; have HZ3 : Hid (Blk w3 (w.heap.size + 2) 30 vz) := HZ2.out.grown hg3 (fun e => by injection e with e; omega); have HB3 : Hid (Below w.heap.size w w3) := HB2.out.grown hg3 HB2.out.size (fun k e => by injection e with e; omega))
      | (refine wpList_storeB rfl 30 (.tmp 6) (.tmp 31) rfl rfl (w.heap.size + 2) zcs.toArray (by simp [Act.eval]) rfl HZ3.out v_info rfl rfl ?_; intro w4 hB4 hg4 hz4))
    refine bodyPost_ret (results_cell_tmpB (p := 6) (u := 7) rfl _ hB4 _ rfl Tryz.underlying30 rfl v_info) rfl ?_
    rw [HQ.out]
    exact AtP.zero (HB3.out.grown hg4 HB3.out.size (fun k e => by injection e with e; omega))
  subst he0
  obtain ⟨z, HZA⟩ : ∃ z, Hid (atV v way = some z) := by
    cases hz : atV v way with
    | none =>
      have := HAR.out
      rw [atA_none HCV.out hz] at this
      injection this with _ h6
      cases h6
    | some z => exact ⟨z, rfl⟩
  clear HAR
  go_wp2_with (first
    | (refine wpList_storeB rfl 30 (.tmp 9) (.tmp 27) rfl rfl w2.heap.size cs2.toArray (by simp [Act.eval]) (by simp [Act.eval]) HT2.out (inf_six HS2.out.1) hvz HS2.out.2 ?_; intro w3 hB3 hg3 hz3; have HX3 : Hid (Blk w3 w.heap.size 30 cs.toArray) := HX2.out.grown hg3 (fun e => by injection e with e; omega))
    | (refine wpList_load_row rfl 30 (.tmp 3) rfl w.heap.size rfl 30 _ (0, 0) _ HX3.out Tryz.underlying30 rfl HRa.out ?_))
  have HY3 : Hid (Blk w3 (w.heap.size + 1) 30 cy.toArray) := HY2.out.grown hg3 (fun e => by injection e with e; omega)
  have HZ3 : Hid (Blk w3 (w.heap.size + 2) 30 vz) := HZ2.out.grown hg3 (fun e => by injection e with e; omega)
  have HB3 : Hid (Below w.heap.size w w3) := HB2.out.grown hg3 HB2.out.size (fun k e => by injection e with e; omega)
  clear hB3 hg3 hz3 hvz HS2 HX2 HY2 HZ2 HB2 HT2 hw2
  refine (c_copied v cs _ (HV.out.step HB3.out)).mono ?_
  rintro e w4 ⟨cs4, rfl, ht4, hb4⟩
  have HS4 : Hid (cs4.length = 6 ∧ cs4.toArray.toList.all (·.oneCell') = true) := ⟨ht4.six, ht4.one⟩
  have HT4 := Lib.hid ht4
  have HY4 := Lib.hid ((HY3.out.below hb4 HY3.out.lt).alloc (.cells vz 30))
  have HZ4 := Lib.hid ((HZ3.out.below hb4 HZ3.out.lt).alloc (.cells vz 30))
  have HB4 := Lib.hid ((HB3.out.trans (hb4.mono HB3.out.size)).alloc (Nat.le_trans HB3.out.size hb4.size) (.cells vz 30))
  have HN4 := Lib.hid (Blk.new w4 30 vz)
  have hw3 : w.heap.size + 2 < w3.heap.size := HZ3.out.lt
  have hw4 : w3.heap.size ≤ w4.heap.size := hb4.size
  have hvz : vz.size = cs4.toArray.size := by rw [show cs4.toArray.size = 6 by simpa using HS4.out.1]; rfl
  clear ht4 hb4 HX3 HY3 HZ3 HB3
  go_wp2_with (refine wpList_storeB rfl 30 (.tmp 11) (.tmp 34) rfl rfl w4.heap.size cs4.toArray (by simp [Act.eval]) (by simp [Act.eval]) HN4.out (inf_six HS4.out.1) hvz HS4.out.2 ?_; intro w5 hB5 hg5 hz5)
  have HY5 : Hid (Blk w5 (w.heap.size + 1) 30 cy.toArray) := HY4.out.grown hg5 (fun e => by injection e with e; omega)
  have HZ5 : Hid (Blk w5 (w.heap.size + 2) 30 vz) := HZ4.out.grown hg5 (fun e => by injection e with e; omega)
  have HB5 : Hid (Below w.heap.size w w5) := HB4.out.grown hg5 HB4.out.size (fun k e => by injection e with e; omega)
  have hw5 : w5.heap.size = w4.heap.size + 1 := by rw [hz5, World.size_alloc]
  have HT5 : Hid (Tr w5 (fun x => w3.heap.size ≤ x ∧ x < w4.heap.size) v cs4) := HT4.out.keep fun x hx => (hg5.block x (by rw [World.size_alloc]; omega) (fun e => by injection e with e; omega)).trans (Below.heap_alloc w4 _ x hx.2)
  have HSP : Hid (Spot w5 w4.heap.size (fun x => w3.heap.size ≤ x ∧ x < w4.heap.size) v [] v w4.heap.size 0) := Spot.start hB5 HT5.out (by omega)
  clear hB5 hg5 hz5 hvz HS4 HT4 HT5 HY4 HZ4 HB4 HN4
  generalize w4.heap.size = g0 at *
  have HR5 : Hid (∀ j, j < n → ∃ b off, A = some ⟨b, off, none⟩ ∧ w5.cell? ⟨b, off + j, none⟩ = some (.int .i64 (way.getD j 0))) := fun j hj => by
    obtain ⟨b, off, hA, hb1, hb2, hcell⟩ := HWY.out.form (by omega)
    exact ⟨b, off, hA, by rw [HB5.out.cell (p := ⟨b, off + j, none⟩) hb1, hcell j hj, getD_i64s (by rw [HWL.out]; exact hj)]⟩
  go_wp2_with fail
  go_loopw [12, 37] (fun vp vi wr => ∃ (i g o : Nat) (x : Val), vp = .pointer (some ⟨g, o, none⟩) ∧ vi = .int .i64 i ∧ i ≤ n ∧ wr = w5 ∧ Hid (Spot w5 g0 (fun x => w3.heap.size ≤ x ∧ x < g0) v (way.take i) x g o) ∧ Hid (atV x (way.drop i) = some z)) (fun _ vi _ => n - (intOf vi).toNat)
  case atStart => exact ⟨0, g0, 0, v, rfl, rfl, Nat.zero_le _, rfl, HSP, HZA⟩
  case round =>
    obtain ⟨i, g, o, x, rfl, rfl, hi, rfl, HS, HAX⟩ := hrel
    clear HSP
    by_cases hlt : i < n
    · obtain ⟨b, off, hA, kw⟩ := HR5.out i hlt
      subst hA
      have hax := HAX.out
      rw [atV_drop (by rw [HWL.out]; exact hlt)] at hax
      obtain ⟨j, hkj, hj, hax2⟩ := atV_cons hax
      rw [hkj] at kw
      obtain ⟨A2, c2, k4, hA2⟩ := HS.out.head
      obtain ⟨b2, rfl⟩ := hA2 j hj
      have HS2 : Hid (Spot wr g0 (fun x => w3.heap.size ≤ x ∧ x < g0) v (way.take (i + 1)) x.its[j] b2 (j * 6)) := by
        have := HS.out.step k4 hj
        rw [← hkj] at this
        rw [show way.take (i + 1) = way.take i ++ [way.getD i 0] by
          have hl : i < way.length := by rw [HWL.out]; exact hlt
          rw [List.take_succ_eq_append_getElem hl]
          simp [List.getD, List.getElem?_eq_getElem hl]]
        exact this
      have HAX2 := Lib.hid hax2
      clear hax hkj hax2 hA2
      go_wp2_with fail
      go_roundw
      case rel => exact ⟨i + 1, b2, j * 6, x.its[j], rfl, by go_num, hlt, trivial, HS2, HAX2⟩
      case measure => simp [intOf]; omega
    · have hax := HAX.out
      rw [List.drop_eq_nil_of_le (by rw [HWL.out]; omega), atV] at hax
      injection hax with hax
      subst hax
      obtain ⟨cur, cx, Sx, hcb, hco, hcx, htx, hSS, hSg, hg0, hcl⟩ := HS.out.2
      have hdone : way.take i = way := List.take_of_length_le (by rw [HWL.out]; omega)
      have hgl : g < wr.heap.size := hcb.lt
      have HCB := Lib.hid hcb
      have HCO := Lib.hid hco
      have HTX := Lib.hid htx
      have HCL := Lib.hid hcl
      have HSG : Hid ((∀ i, Sx i → w3.heap.size ≤ i ∧ i < g0) ∧ ¬ Sx g ∧ (g = g0 ∨ (w3.heap.size ≤ g ∧ g < g0))) := ⟨hSS, hSg, hg0⟩
      clear hcb hco hcx htx hcl hSS hSg hg0
      go_wp2_with (refine wpList_load_row rfl 30 (.tmp 5) rfl (w.heap.size + 1) rfl 30 _ (0, 0) _ HY5.out Tryz.underlying30 rfl HRb.out ?_)
      refine (c_copied y cy _ (HU.out.step HB5.out)).mono ?_
      rintro e w6 ⟨cs6, rfl, ht6, hb6⟩
      have HT6 := Lib.hid ht6
      have HB6 := Lib.hid hb6
      have HC6 := Lib.hid (HCB.out.below hb6 hgl)
      have h66 : g < w6.heap.size := HC6.out.lt
      have hz6 : o + cs6.toArray.size ≤ cur.size := by rw [show cs6.toArray.size = 6 by simpa using ht6.six]; exact HCO.out
      clear ht6 hb6
      go_upto_region 15 with (refine wpList_store_mid6 rfl 30 (.tmp 51) (.tmp 50) rfl rfl g o cs6.toArray (by simp [Act.eval]) (by simp [Act.eval]) HC6.out (inf_six HT6.out.six) hz6 HT6.out.one _ rfl ?_; intro w7 hB7 hg7 hz7)
      have hB7' : Blk w7 g 30 (cur.toList.take o ++ cs6 ++ cur.toList.drop (o + 6)).toArray := by
        rw [show cs6.toArray.size = 6 by simpa using HT6.out.six] at hB7
        exact hB7
      obtain ⟨hSS, hSg, hg0⟩ := HSG.out
      have hfar : ∀ i, i < wr.heap.size → i ≠ g → w7.heap[i]? = wr.heap[i]? := fun i hi hne => (hg7.block i (Nat.lt_of_lt_of_le hi HB6.out.size) (fun e => hne (by injection e))).trans (HB6.out.block i hi)
      obtain ⟨cs0, hb0, ht0⟩ := HCL.out w7 (fun i => wr.heap.size ≤ i ∧ i < w6.heap.size) y cs6 (fun i hi => by omega) (fun i hi hx hne => hfar i (by omega) hne) hB7' ((HT6.out.keep (W := w7) fun i hi => hg7.block i hi.2 (fun e => by injection e with e; omega)).wide fun i hi => .inr hi)
      rw [hdone] at ht0
      have hat : atV v way = some x := by have := HS.out.1; rwa [hdone] at this
      have HAT : Hid (atV v way = some x) := hat
      have hrv7 : RV w7 (putV v way y) cs0 := tr_rv ht0 (fun i hi => by rw [hz7]; have := HB6.out.size; omega) (putV_wf HU.out.wf HV.out.wf hat) (by have := putV_bnd (y := y) hat; have := HBD.out; omega)
      have HRV7 := Lib.hid hrv7
      have HX7 := Lib.hid hb0
      have HT7 := Lib.hid ht0
      have HZ7 : Hid (Blk w7 (w.heap.size + 2) 30 vz) := (hfar _ HZ5.out.lt (by omega)).trans HZ5.out
      have HB7 : Hid (Below w.heap.size w w7) := (HB5.out.trans (HB6.out.mono HB5.out.size)).grown hg7 (Nat.le_trans HB5.out.size HB6.out.size) (fun k e => by injection e with e; omega)
      have hz77 : g0 < w7.heap.size := hb0.lt
      have hz66 : wr.heap.size ≤ w6.heap.size := HB6.out.size
      clear hB7 hB7' hg7 hfar hb0 ht0 hat hrv7 HCL HT6 HB6 HC6 HCB HCO HTX HSG hSS hSg hg0 HS HAX HZ5 HB5 HY5 HR5
      generalize hU : putV v way y = u at *
      obtain ⟨E2, hE2⟩ : ∃ E, chk fone u = E := ⟨_, rfl⟩
      have HC2 : Hid (∀ W, RV W u cs0 → Calls Tryz.prog 18 #[.agg cs0.toArray] W fun e w' => e = .returned (.int .i64 E2) ∧ Below W.heap.size W w') := by rw [← hE2]; exact fun W h => c_Check u cs0 W h
      have HUU := Lib.hid hU
      have HE2 := Lib.hid hE2
      have HR6 := Lib.hid HRV7.out.row
      clear hU hE2
      go_wp2_with (refine wpList_load_row rfl 30 (.tmp 11) rfl g0 rfl 30 _ (0, 0) _ HX7.out Tryz.underlying30 rfl HR6.out ?_)
      refine (HC2.out _ HRV7.out).mono ?_; rintro e w8 ⟨rfl, hb8⟩
      have HX8 := Lib.hid (HX7.out.below hb8 hz77)
      have HZ8 := Lib.hid (HZ7.out.below hb8 HZ7.out.lt)
      have HB8 := Lib.hid (HB7.out.trans (hb8.mono HB7.out.size))
      have HT8 : Hid (Tr w8 (fun i => (w3.heap.size ≤ i ∧ i < g0) ∨ (wr.heap.size ≤ i ∧ i < w6.heap.size)) u cs0) := HT7.out.keep fun i hi => hb8.block i (by omega)
      have hz88 := hb8.size
      clear hb8 HX7 HZ7 HB7 HT7 HC2
      by_cases hE0 : E2 = 0
      · subst hE0
        have HQ : Hid (putA v way y = (u, 0)) := by
          show _ = _
          rw [putA_some HEE.out HAT.out (by rw [HUU.out]; exact HE2.out), HUU.out]
        have hvz : vz.size = cs0.toArray.size := by rw [show cs0.toArray.size = 6 by simpa using HT8.out.six]; rfl
        go_wp2_with (first
          | (refine wpList_load_row rfl 30 (.tmp 11) rfl g0 rfl 30 _ (0, 0) _ HX8.out Tryz.underlying30 rfl HR6.out ?_)
          | (refine wpList_storeB rfl 30 (.tmp 6) (.tmp 58) rfl rfl (w.heap.size + 2) cs0.toArray (by simp [Act.eval, Act.put]) (by simp [Act.eval, Act.put]) HZ8.out (inf_six HT8.out.six) hvz HT8.out.one ?_; intro w9 hB9 hg9 hz9))
        refine bodyPost_ret (results_cell_tmpB (p := 6) (u := 7) rfl _ hB9 _ rfl Tryz.underlying30 rfl (inf_six HT8.out.six)) rfl ?_
        rw [HQ.out]
        refine ⟨cs0, rfl, ?_, HB8.out.grown hg9 HB8.out.size (fun k e => by injection e with e; omega)⟩
        refine (HT8.out.keep (W := w9) fun i hi => hg9.block i (by omega) (fun e => by injection e with e; omega)).wide fun i hi => ⟨by omega, by omega⟩
      · have hb : (E2 != 0) = true := by simpa using hE0
        have HQ : Hid (putA v way y = (zvV, E2)) := by
          show _ = _
          rw [putA_bad HEE.out HAT.out (by rw [HUU.out, HE2.out]; exact hE0), HUU.out, HE2.out]
        clear hE0
        go_wp2_with (refine wpList_storeB rfl 30 (.tmp 6) (.tmp 56) rfl rfl (w.heap.size + 2) zcs.toArray (by simp [Act.eval]) rfl HZ8.out v_info rfl rfl ?_; intro w9 hB9 hg9 hz9)
        refine bodyPost_ret (results_cell_tmpB (p := 6) (u := 7) rfl _ hB9 _ rfl Tryz.underlying30 rfl v_info) rfl ?_
        rw [HQ.out]
        exact AtP.zero (HB8.out.grown hg9 HB8.out.size (fun k e => by injection e with e; omega))
end Go.Proofs.YtacnoedhpamdmaaGreatDoor
