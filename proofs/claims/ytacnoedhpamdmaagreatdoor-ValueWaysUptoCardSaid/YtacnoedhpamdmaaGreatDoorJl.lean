/- Walk: a value with another one at the end of a way, by the document (quernref23.Put). Conditions: the values as they read, their bulk together at most 1048576; the way as it reads. -/
import Derived.Test.YtacnoedhpamdmaaGreatDoorJk
namespace Go.Proofs.YtacnoedhpamdmaaGreatDoor
open Go.RowKit
set_option linter.unusedVariables false
set_option linter.unusedSimpArgs false
attribute [local go_sem ↓] Go.wp_at_zero Go.wp_at_succ

/-- An answer of the document's Put: it reads where the call ends. -/
def PtR (w : World) (r : Val × Int) (e : Ending) (w' : World) : Prop := ∃ cx : List Value, e = .returned (.tuple #[.agg cx.toArray, .int .i64 r.2]) ∧ RV w' r.1 cx ∧ Below w.heap.size w w'
set_option maxRecDepth 100000 in
set_option maxHeartbeats 4000000 in
theorem c_rPut (v y : Val) (cs cy : List Value) (A : Option Addr) (n c : Nat) (way : List Int) (w : World) (h : RV w v cs) (h' : RV w y cy) (hr : Reads w w.heap.size 1 A n (i64s way)) (hnc : n ≤ c) (hn : n ≤ 1099511627776) (hbd : bnd v + bnd y ≤ 1048576) :
    Calls Tryz.prog 22 #[.agg cs.toArray, .slice A n c, .agg cy.toArray] w (PtR w (putA v way y)) := by
  obtain ⟨t0, t1, t2, tz, tb⟩ := three_bx w cs.toArray cy.toArray
  have H0 := Lib.hid t0
  have H1 := Lib.hid t1
  have H2 := Lib.hid t2
  have HZ0 := Lib.hid tz
  have HB0 := Lib.hid tb
  have HV := Lib.hid h
  have HY := Lib.hid h'
  have HRV := Lib.hid h.row
  have HRY := Lib.hid h'.row
  have HWY := Lib.hid hr
  have hv6 := row_six h
  have HV6 := Lib.hid hv6
  obtain ⟨E, hE⟩ : ∃ E, bothK v y = E := ⟨_, rfl⟩
  have HC1 : Hid (∀ W, Below w.heap.size w W → Calls Tryz.prog 55 #[.agg cs.toArray, .agg cy.toArray] W fun e w' => e = .returned (.int .i64 E) ∧ Below W.heap.size W w') := by rw [← hE]; exact fun W hb => c_rbothK v y cs cy W (h.step hb) (h'.step hb)
  have HAT : Hid (∀ W, Below w.heap.size w W → Calls Tryz.prog 53 #[.agg cs.toArray, .slice A n c] W (AtQ w W (atV v way))) := fun W hb => c_rat v cs A n c way w W h hb ((hr.below hb).more hb.size) hn
  have HLD : Hid (∀ (W : World) (x : Val), Below w.heap.size w W → atV v way = some x → Calls Tryz.prog 56 #[.agg cs.toArray, .slice A n c, .agg cy.toArray] W (LdE w W (putV v way y))) := fun W x hb hat => c_laid way v y x cs cy A n c w W hat h h' hb ((hr.below hb).more hb.size) hnc hn
  have HFT : Hid (∀ x, atV v way = some x → wfV (putV v way y) ∧ bnd (putV v way y) ≤ 1048576) := fun x hat => ⟨putV_wf h'.wf h.wf hat, by have := putV_bnd (y := y) hat; omega⟩
  have HP1 : Hid (E ≠ 0 → putA v way y = (zvV, E)) := fun h0 => by rw [putA_both (by rw [hE]; exact h0), hE]
  have HP2 : Hid (E = 0 → atV v way = none → putA v way y = (zvV, 6)) := fun h0 h1 => putA_none (by rw [hE]; exact h0) h1
  have HP3 : Hid (∀ x, E = 0 → atV v way = some x → chk fone (putV v way y) = 0 → putA v way y = (putV v way y, 0)) := fun x h0 h1 h2 => putA_some (by rw [hE]; exact h0) h1 h2
  have HP4 : Hid (∀ x, E = 0 → atV v way = some x → ¬ chk fone (putV v way y) = 0 → putA v way y = (zvV, chk fone (putV v way y))) := fun x h0 h1 h2 => putA_bad (by rw [hE]; exact h0) h1 h2
  generalize putA v way y = R at *
  generalize putV v way y = z at *
  clear h h' hr hE t0 t1 t2 tz tb hv6 hbd
  go_enter Tryz.func22, Tryz.ntmps22
  go_upto_region 1 with fail
  generalize World.alloc (World.alloc (w.alloc _) _) _ = w0 at *
  go_wp2_with (first
    | (refine wpList_load_row rfl 30 (.tmp 3) rfl w.heap.size rfl 30 _ (0, 0) _ H0.out Tryz.underlying30 rfl HRV.out ?_)
    | (refine wpList_load_row rfl 30 (.tmp 5) rfl (w.heap.size + 1) rfl 30 _ (0, 0) _ H1.out Tryz.underlying30 rfl HRY.out ?_))
  refine (HC1.out _ HB0.out).mono ?_; rintro e w1 ⟨rfl, hb1⟩
  have G0 := Lib.hid (H0.out.below hb1 H0.out.lt)
  have G1 := Lib.hid (H1.out.below hb1 H1.out.lt)
  have G2 := Lib.hid (H2.out.below hb1 H2.out.lt)
  have HB1 := Lib.hid (HB0.out.trans (hb1.mono HB0.out.size))
  clear hb1 H0 H1 H2 HC1
  by_cases hE0 : E = 0
  rotate_left
  · have hb : (E != 0) = true := by simpa using hE0
    have HQ := Lib.hid (HP1.out hE0)
    clear hE0
    go_wp2_with (refine wpList_storeB rfl 30 (.tmp 6) (.tmp 16) rfl rfl (w.heap.size + 2) zcs.toArray (by first | rfl | simp [Act.eval]) rfl G2.out v_info rfl rfl ?_; intro w2 hB2 hg2 hz2)
    refine bodyPost_ret (results_cell_tmpB (p := 6) (u := 7) rfl _ hB2 _ rfl Tryz.underlying30 rfl v_info) rfl ?_
    rw [HQ.out]
    exact ⟨zcs, rfl, zv_rv _, HB1.out.grown hg2 HB1.out.size (fun k e => by injection e with e; omega)⟩
  subst hE0
  go_wp2_with (refine wpList_load_row rfl 30 (.tmp 3) rfl w.heap.size rfl 30 _ (0, 0) _ G0.out Tryz.underlying30 rfl HRV.out ?_)
  refine (HAT.out w1 HB1.out).mono ?_; rintro e w2 ⟨cx, rfl, hrx, hb2⟩
  have K0 := Lib.hid (G0.out.below hb2 G0.out.lt)
  have K1 := Lib.hid (G1.out.below hb2 G1.out.lt)
  have K2 := Lib.hid (G2.out.below hb2 G2.out.lt)
  have HB2 := Lib.hid (HB1.out.trans (hb2.mono HB1.out.size))
  have HN2 := Lib.hid (Blk.new w2 30 vz)
  have HRX := Lib.hid hrx
  have HRC := Lib.hid hrx.row
  have hx6 := row_six hrx
  have hvz : vz.size = cx.toArray.size := by rw [hx6]; rfl
  clear hrx hb2 G0 G1 G2 HAT
  cases hat : atV v way with
  | none =>
    have HQ := Lib.hid (HP2.out trivial hat)
    rw [hat] at HRX
    simp only [hat, Option.isSome_none]
    clear hat
    go_wp2_with (first
      | (refine wpList_storeB rfl 30 (.tmp 9) (.tmp 22) rfl rfl w2.heap.size cx.toArray (by first | rfl | simp [Act.eval]) (by first | rfl | simp [Act.eval]) HN2.out HRC.out hvz HRX.out.six.2 ?_; intro w3 hB3 hg3 hz3; have L2 := Lib.hid (K2.out.below (new_belowJ hg3) K2.out.lt); have HB3 := Lib.hid (HB2.out.trans ((new_belowJ hg3).mono HB2.out.size)); clear hB3 hg3 hz3)
      | (refine wpList_storeB rfl 30 (.tmp 6) (.tmp 26) rfl rfl (w.heap.size + 2) zcs.toArray (by first | rfl | simp [Act.eval]) rfl L2.out v_info rfl rfl ?_; intro w4 hB4 hg4 hz4))
    refine bodyPost_ret (results_cell_tmpB (p := 6) (u := 7) rfl _ hB4 _ rfl Tryz.underlying30 rfl v_info) rfl ?_
    rw [HQ.out]
    exact ⟨zcs, rfl, zv_rv _, HB3.out.grown hg4 HB3.out.size (fun k e => by injection e with e; omega)⟩
  | some x =>
    have HP3' := Lib.hid (HP3.out x trivial hat)
    have HP4' := Lib.hid (HP4.out x trivial hat)
    have HFZ := Lib.hid (HFT.out x hat)
    have HL2 := Lib.hid (fun W hb => HLD.out W x hb hat)
    rw [hat] at HRX
    simp only [hat, Option.isSome_some]
    clear hat HP1 HP2 HP3 HP4 HFT HLD
    go_wp2_with (first
      | (refine wpList_storeB rfl 30 (.tmp 9) (.tmp 22) rfl rfl w2.heap.size cx.toArray (by first | rfl | simp [Act.eval]) (by first | rfl | simp [Act.eval]) HN2.out HRC.out hvz HRX.out.six.2 ?_; intro w3 hB3 hg3 hz3; have L0 := Lib.hid (K0.out.below (new_belowJ hg3) K0.out.lt); have L1 := Lib.hid (K1.out.below (new_belowJ hg3) K1.out.lt); have L2 := Lib.hid (K2.out.below (new_belowJ hg3) K2.out.lt); have HB3 := Lib.hid (HB2.out.trans ((new_belowJ hg3).mono HB2.out.size)); clear hB3 hg3 hz3)
      | (refine wpList_load_row rfl 30 (.tmp 3) rfl w.heap.size rfl 30 _ (0, 0) _ L0.out Tryz.underlying30 rfl HRV.out ?_)
      | (refine wpList_load_row rfl 30 (.tmp 5) rfl (w.heap.size + 1) rfl 30 _ (0, 0) _ L1.out Tryz.underlying30 rfl HRY.out ?_))
    refine (HL2.out w3 HB3.out).mono ?_; rintro e w4 ⟨cz, rfl, hfz, hb4⟩
    have HF := Lib.hid hfz
    have HB4 : Hid (Below w.heap.size w w4) := HB3.out.trans (hb4.mono HB3.out.size)
    obtain ⟨hz6, hzo⟩ := hfz.six HB4.out
    have hza : cz.toArray.size = 6 := by simpa using hz6
    have HRZ : Hid ((Tryz.prog.info? 30).map (·.size) = some cz.toArray.size) := by rw [hza]; exact v_info
    have hcz : cs.toArray.size = cz.toArray.size := by rw [HV6.out, hza]
    have M0 := Lib.hid (L0.out.below hb4 L0.out.lt)
    have M2 := Lib.hid (L2.out.below hb4 L2.out.lt)
    have HLT : Hid (w.heap.size + 2 < w3.heap.size) := L2.out.lt
    have HS4 : Hid (w3.heap.size ≤ w4.heap.size) := hb4.size
    obtain ⟨E2, hE2⟩ : ∃ E2, chk fone z = E2 := ⟨_, rfl⟩
    have HC2 : Hid (∀ W, RV W z cz → Calls Tryz.prog 13 #[.agg cz.toArray] W fun e w' => e = .returned (.int .i64 E2) ∧ Below W.heap.size W w') := by rw [← hE2]; exact fun W hr => c_rCheck z cz W hr
    rw [hE2] at HP3' HP4'
    clear hfz hb4 L0 L1 L2 HL2 K0 K1 K2 HN2 HRX HRC hvz hx6 hE2
    go_wp2_with (first
      | (refine wpList_storeB rfl 30 (.tmp 3) (.tmp 30) rfl rfl w.heap.size cz.toArray (by first | rfl | simp [Act.eval]) (by first | rfl | simp [Act.eval]) M0.out HRZ.out hcz hzo ?_; intro w5 hB5 hg5 hz5; have N0 := Lib.hid hB5; have N2 : Hid (Blk w5 (w.heap.size + 2) 30 vz) := M2.out.grown hg5 (fun e => by injection e with e; omega); have HG5 := Lib.hid hg5; have HZ5 := Lib.hid hz5; clear hB5 hg5 hz5)
      | (refine wpList_load_row rfl 30 (.tmp 3) rfl w.heap.size rfl 30 _ (0, 0) _ N0.out Tryz.underlying30 rfl HRZ.out ?_))
    have HB5 : Hid (Below w.heap.size w w5) := HB4.out.grown HG5.out HB4.out.size (fun k e => by injection e with e; omega)
    have HK5 : Hid (∀ i, w3.heap.size ≤ i → i < w4.heap.size → w5.heap[i]? = w4.heap[i]?) := fun i h1 h2 => HG5.out.block i h2 (fun e => by injection e with e; have := HLT.out; omega)
    have HV5 : Hid (RV w5 z cz) := ⟨HF.out w5 HB5.out (by rw [HZ5.out]; exact Nat.le_refl _) HK5.out, HFZ.out.1, HFZ.out.2⟩
    refine (HC2.out w5 HV5.out).mono ?_; rintro e w6 ⟨rfl, hb6⟩
    have P0 := Lib.hid (N0.out.below hb6 N0.out.lt)
    have P2 := Lib.hid (N2.out.below hb6 N2.out.lt)
    have HB6 : Hid (Below w.heap.size w w6) := HB5.out.trans (hb6.mono HB5.out.size)
    have HK6 : Hid (∀ i, w3.heap.size ≤ i → i < w4.heap.size → w6.heap[i]? = w4.heap[i]?) := fun i h1 h2 => (hb6.block i (by rw [HZ5.out]; exact h2)).trans (HK5.out i h1 h2)
    have HS6 : Hid (w4.heap.size ≤ w6.heap.size) := by have := hb6.size; rw [HZ5.out] at this; exact this
    clear hb6 N0 N2 HC2 HV5 HK5
    by_cases hE2 : E2 = 0
    · have HQ := Lib.hid (HP3'.out hE2)
      have hvz6 : vz.size = cz.toArray.size := by rw [hza]; rfl
      subst hE2
      go_wp2_with (first
        | (refine wpList_load_row rfl 30 (.tmp 3) rfl w.heap.size rfl 30 _ (0, 0) _ P0.out Tryz.underlying30 rfl HRZ.out ?_)
        | (refine wpList_storeB rfl 30 (.tmp 6) (.tmp 37) rfl rfl (w.heap.size + 2) cz.toArray (by first | rfl | simp [Act.eval]) rfl P2.out HRZ.out hvz6 hzo ?_; intro w7 hB7 hg7 hz7))
      refine bodyPost_ret (results_cell_tmpB (p := 6) (u := 7) rfl _ hB7 _ rfl Tryz.underlying30 rfl HRZ.out) rfl ?_
      rw [HQ.out]
      have hb7 : Below w.heap.size w w7 := HB6.out.grown hg7 HB6.out.size (fun k e => by injection e with e; omega)
      refine ⟨cz, rfl, ⟨HF.out w7 hb7 (by rw [hz7]; exact HS6.out) (fun i h1 h2 => (hg7.block i (by have := HS6.out; omega) (fun e => by injection e with e; have := HLT.out; omega)).trans (HK6.out i h1 h2)), HFZ.out.1, HFZ.out.2⟩, hb7⟩
    · have HQ := Lib.hid (HP4'.out hE2)
      have hb : (E2 != 0) = true := by simpa using hE2
      go_wp2_with (refine wpList_storeB rfl 30 (.tmp 6) (.tmp 35) rfl rfl (w.heap.size + 2) zcs.toArray (by first | rfl | simp [Act.eval]) rfl P2.out v_info rfl rfl ?_; intro w7 hB7 hg7 hz7)
      refine bodyPost_ret (results_cell_tmpB (p := 6) (u := 7) rfl _ hB7 _ rfl Tryz.underlying30 rfl v_info) rfl ?_
      rw [HQ.out]
      exact ⟨zcs, rfl, zv_rv _, HB6.out.grown hg7 HB6.out.size (fun k e => by injection e with e; omega)⟩
end Go.Proofs.YtacnoedhpamdmaaGreatDoor
