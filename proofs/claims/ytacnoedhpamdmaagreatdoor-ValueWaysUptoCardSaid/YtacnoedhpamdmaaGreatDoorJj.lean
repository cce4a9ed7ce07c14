/- Walks: the value at the end of a way by the document (quernref23.at, At). Conditions: the value as it reads, its bulk at most 1048576; the way as it reads. -/
import Derived.Test.YtacnoedhpamdmaaGreatDoorKg
import Derived.BigQuiet
import Derived.StillTailTactics
import Derived.Deep.QuietTactic
namespace Go.Proofs.YtacnoedhpamdmaaGreatDoor
open Go.RowKit
set_option linter.unusedVariables false
set_option linter.unusedSimpArgs false
attribute [local go_sem ↓] Go.wp_at_zero Go.wp_at_succ

theorem exec_load_at {P : Program} {w : World} {op : Oper} {a : Act} (ty : TypeId) (x : Operand) (ho : op.op = .load ty x)
    (b o : Nat) (hx : a.eval x = .pointer (some ⟨b, o, none⟩)) (cs : List Value) (d : TypeDesc) (hc : ∀ q v, cs[q]? = some v → w.cell? ⟨b, o + q, none⟩ = some v)
    (hu : P.underlying ty = some d) (hd : d.isRow = true) (hi : (P.info? ty).map (·.size) = some cs.length) : (execOp a.eval op).run P w = .ok (.value (.agg cs.toArray)) w := by
  unfold execOp
  simp only [ho, hx, Instr.loadAt, Instr.sureAddr, Sem.run_bind, Sem.run_pure, Result.andThen_ok, run_load_at w b o ty cs d hc hu hd hi]
/-- An answer: a value that reads, and whether there is one. -/
def AtQ (wb w : World) (r : Option Val) (e : Ending) (w' : World) : Prop := ∃ cx : List Value, e = .returned (.tuple #[.agg cx.toArray, .bool r.isSome]) ∧ RV wb (r.getD zvV) cx ∧ Below w.heap.size w w'
theorem zv_rv (w : World) : RV w zvV zcs :=
  ⟨RdV_iff.2 ⟨none, none, 0, 0, rfl, Reads.none_, fun i h => absurd h (by simp [zvV, Val.its])⟩, wfV_iff.2 ⟨⟨rfl, rfl, rfl⟩, fun x hx => absurd hx (by simp [zvV, Val.its])⟩, by show bnd zvV ≤ 1048576; decide⟩
theorem row_six {w : World} {v : Val} {cs : List Value} (h : RV w v cs) : cs.toArray.size = 6 := by simpa using h.six.1
set_option maxRecDepth 100000 in
set_option maxHeartbeats 2000000 in
theorem c_rat (v : Val) (cs : List Value) (A : Option Addr) (n c : Nat) (way : List Int) (wb w : World) (h : RV wb v cs) (hwb : Below wb.heap.size wb w) (hr : Reads w w.heap.size 1 A n (i64s way)) (hn : n ≤ 1099511627776) :
    Calls Tryz.prog 53 #[.agg cs.toArray, .slice A n c] w (AtQ wb w (atV v way)) := by
  have HWB := Lib.hid hwb
  have hwl : way.length = n := by simpa using hr.1
  have HB0 : Hid (Below w.heap.size w ((w.alloc (.cells cs.toArray 30)).alloc (.cells vz 30))) := ((Below.refl w.heap.size w).alloc (Nat.le_refl _) _).alloc (by simp) _
  have HX0 : Hid (Blk ((w.alloc (.cells cs.toArray 30)).alloc (.cells vz 30)) w.heap.size 30 cs.toArray) := (Blk.new w 30 cs.toArray).alloc _
  have HY0 : Hid (Blk ((w.alloc (.cells cs.toArray 30)).alloc (.cells vz 30)) (w.heap.size + 1) 30 vz) := by
    have := Blk.new (w.alloc (.cells cs.toArray 30)) 30 vz
    rwa [World.size_alloc] at this
  have HRV := Lib.hid h
  have HWY := Lib.hid hr
  have HWL := Lib.hid hwl
  obtain ⟨Q, hQ⟩ : ∃ Q, atV v way = Q := ⟨_, rfl⟩
  rw [hQ]
  have HQ := Lib.hid hQ
  clear h hr hwl hQ hwb
  go_enter Tryz.func53, Tryz.ntmps53
  go_wp2_with fail
  generalize World.alloc (w.alloc _) _ = w0 at *
  go_loopw [6] (fun vi wr => ∃ (i : Nat) (x : Val) (cx : List Value), vi = .int .i64 i ∧ i ≤ n ∧ Hid (Q = atV x (way.drop i)) ∧ Hid (RV wb x cx) ∧ Hid (Blk wr w.heap.size 30 cx.toArray) ∧ Hid (Blk wr (w.heap.size + 1) 30 vz) ∧ Hid (Below w.heap.size w wr)) (fun vi _ => n - (intOf vi).toNat)
  case atStart => exact ⟨0, v, cs, rfl, Nat.zero_le _, HQ.out.symm, HRV, HX0, HY0, HB0⟩
  case round =>
    obtain ⟨i, x, cx, rfl, hi, HAT, HRX, HX, HY, HB⟩ := hrel
    clear HX0 HY0 HB0 HQ
    by_cases hlt : i < n
    · obtain ⟨b, off, hA, hb1, hb2, hcell⟩ := HWY.out.form (by omega)
      subst hA
      have kw : wr.cell? ⟨b, off + i, none⟩ = some (.int .i64 (way.getD i 0)) := by
        rw [HB.out.cell (p := ⟨b, off + i, none⟩) hb1, hcell i hlt, getD_i64s (by rw [HWL.out]; exact hlt)]
      have HAT2 : Hid (Q = atV x (way.getD i 0 :: way.drop (i + 1))) := by
        show _ = _
        rw [HAT.out, atV_drop (by rw [HWL.out]; exact hlt)]
      clear hcell HAT
      generalize way.getD i 0 = k at *
      obtain ⟨A2, A2', c2, c2', hcx, hnm, hop⟩ := HRX.out.open_
      have k4 : wr.cell? ⟨w.heap.size, 4, none⟩ = some (.slice A2 x.its.length c2) := by rw [HX.out.cell 4, hcx]; rfl
      have HOP := Lib.hid hop
      clear hnm hop hcx
      by_cases hk0 : k < 0
      · have HQ2 : Hid (Q = none) := by show _ = _; rw [HAT2.out, atV_out (.inl hk0)]
        go_wp2_with fail
        go_quiet (fail)
        have HY2 := Lib.hid (HY.out.drewN nq)
        have HB2 := Lib.hid (below_drewN HB.out nq)
        clear k4 kw
        generalize wr.drewN nq = w1 at *
        go_wp2_with (refine wpList_storeB rfl 30 (.tmp 4) (.tmp 28) rfl rfl (w.heap.size + 1) zcs.toArray (by first | rfl | simp [Act.eval]) rfl HY2.out v_info rfl rfl ?_; intro w2 hB2 hg2 hz2)
        refine bodyPost_ret (results_cell_tmpB (p := 4) (u := 5) rfl _ hB2 _ rfl Tryz.underlying30 rfl v_info) rfl ?_
        rw [HQ2.out]
        exact ⟨zcs, rfl, zv_rv _, HB2.out.grown hg2 HB2.out.size (fun k e => by injection e with e; omega)⟩
      obtain ⟨j, rfl⟩ : ∃ j : Nat, k = (j : Int) := ⟨k.toNat, by omega⟩
      by_cases hj : j < x.its.length
      · obtain ⟨b2, off2, hA2, hbl, hit⟩ := HOP.out (by omega)
        subst hA2
        obtain ⟨cy, hrv, hcy0⟩ := hit wb (Below.refl _ _) j hj
        have HCY : Hid (∀ W, Below wb.heap.size wb W → ∀ q u, cy[q]? = some u → W.cell? ⟨b2, off2 + j * 6 + q, none⟩ = some u) := fun W hW q u hu => (hW.cell (p := ⟨b2, off2 + j * 6 + q, none⟩) hbl).trans (hcy0 q u hu)
        have HRY := Lib.hid hrv
        have h6 := hrv.six.1
        have hx6 := row_six HRX.out
        have HAT3 : Hid (Q = atV x.its[j] (way.drop (i + 1))) := by
          show _ = _
          rw [HAT2.out, atV_in hj]
        have hone := hrv.six.2
        have hk1 : ¬ (x.its.length : Int) ≤ (j : Int) := by omega
        clear hit hrv hcy0 hk0 HAT2
        go_wp2_with fail
        go_quiet (fail)
        have HX2 := Lib.hid (HX.out.drewN nq)
        have HY2 := Lib.hid (HY.out.drewN nq)
        have HB2 := Lib.hid (below_drewN HB.out nq)
        have k4' : (wr.drewN nq).cell? ⟨w.heap.size, 4, none⟩ = some (.slice (some ⟨b2, off2, none⟩) x.its.length c2) := k4
        have kw' : (wr.drewN nq).cell? ⟨b, off + i, none⟩ = some (.int .i64 (j : Int)) := kw
        clear k4 kw HX HY HB
        generalize wr.drewN nq = w1 at *
        go_wp2_with fail
        obtain ⟨u0, u1, u2, u3, u4, u5, hcy⟩ := lst_six h6
        have HU := Lib.hid hcy
        have hcw := HCY.out w1 (HWB.out.trans (HB2.out.mono HWB.out.size))
        rw [hcy] at hcw
        have f0 : w1.cell? ⟨b2, off2 + j * 6, none⟩ = some u0 := hcw 0 u0 rfl
        have f1 : w1.cell? ⟨b2, off2 + j * 6 + 1, none⟩ = some u1 := hcw 1 u1 rfl
        have f2 : w1.cell? ⟨b2, off2 + j * 6 + 2, none⟩ = some u2 := hcw 2 u2 rfl
        have f3 : w1.cell? ⟨b2, off2 + j * 6 + 3, none⟩ = some u3 := hcw 3 u3 rfl
        have f4 : w1.cell? ⟨b2, off2 + j * 6 + 4, none⟩ = some u4 := hcw 4 u4 rfl
        have f5 : w1.cell? ⟨b2, off2 + j * 6 + 5, none⟩ = some u5 := hcw 5 u5 rfl
        clear hcw hcy
        go_still_tail 8, (by kernel_rfl)
        change wpList _ _ _ _ _ w1.drew
        have HX3 := Lib.hid HX2.out.drew
        have HY3 := Lib.hid HY2.out.drew
        have HB3 := Lib.hid HB2.out.drew
        have HC3 := Lib.hid (HCY.out _ ((HWB.out.trans (HB2.out.mono HWB.out.size)).drew))
        have k4d : w1.drew.cell? ⟨w.heap.size, 4, none⟩ = some (.slice (some ⟨b2, off2, none⟩) x.its.length c2) := k4'
        have kwd : w1.drew.cell? ⟨b, off + i, none⟩ = some (.int .i64 (j : Int)) := kw'
        clear f0 f1 f2 f3 f4 f5 k4' kw' HX2 HY2 HB2 HCY
        generalize w1.drew = w2 at *
        have hrc : (Tryz.prog.info? 30).map (·.size) = some cy.toArray.size := by rw [show cy.toArray.size = 6 by simpa using h6]; exact v_info
        have HRC := Lib.hid hrc
        have hxy : cx.toArray.size = cy.toArray.size := by rw [hx6]; simpa using h6.symm
        clear hrc
        have hone6 : (#[u0, u1, u2, u3, u4, u5] : Array Value).toList.all (·.oneCell') = true := by have := hone; rw [HU.out] at this; exact this
        go_wp2_with (refine wpList_storeB rfl 30 (.tmp 2) (.tmp 36) rfl rfl w.heap.size #[u0, u1, u2, u3, u4, u5] rfl rfl HX3.out v_info hx6 hone6 ?_; intro w5 hB5 hg5 hz5)
        have HB5 : Hid (Below w.heap.size w w5) := HB3.out.grown hg5 HB3.out.size (fun k e => by injection e with e; omega)
        have HY5 : Hid (Blk w5 (w.heap.size + 1) 30 vz) := HY3.out.grown hg5 (fun e => by injection e with e; omega)
        have HX5 : Hid (Blk w5 w.heap.size 30 cy.toArray) := by show Blk _ _ _ _; rw [HU.out]; exact hB5
        clear hB5 hg5 hz5 HRX HX3 HY3 HB3 HC3 HOP k4d kwd
        go_wp2_with fail
        go_roundw
        case rel => first | exact ⟨i + 1, x.its[j], cy, by go_num, hlt, HAT3, HRY, HX5, HY5, HB5⟩ | (repeat (refine ⟨_, ?_⟩); exact ⟨⟨i + 1, x.its[j], cy, by go_num, hlt, HAT3, HRY, HX5, HY5, HB5⟩, rfl⟩)
        case measure => simp [intOf]; omega
      · have HQ2 : Hid (Q = none) := by show _ = _; rw [HAT2.out, atV_out (.inr (by omega))]
        have hk1 : (x.its.length : Int) ≤ (j : Int) := by omega
        go_wp2_with fail
        go_quiet (fail)
        have HY2 := Lib.hid (HY.out.drewN nq)
        have HB2 := Lib.hid (below_drewN HB.out nq)
        clear k4 kw
        generalize wr.drewN nq = w1 at *
        go_wp2_with (refine wpList_storeB rfl 30 (.tmp 4) (.tmp 28) rfl rfl (w.heap.size + 1) zcs.toArray (by first | rfl | simp [Act.eval]) rfl HY2.out v_info rfl rfl ?_; intro w2 hB2 hg2 hz2)
        refine bodyPost_ret (results_cell_tmpB (p := 4) (u := 5) rfl _ hB2 _ rfl Tryz.underlying30 rfl v_info) rfl ?_
        rw [HQ2.out]
        exact ⟨zcs, rfl, zv_rv _, HB2.out.grown hg2 HB2.out.size (fun k e => by injection e with e; omega)⟩
    · have HQ2 : Hid (Q = some x) := by show _ = _; rw [HAT.out, List.drop_eq_nil_of_le (by rw [HWL.out]; omega), atV]
      have HRC := Lib.hid HRX.out.row
      have hx6 := row_six HRX.out
      have hvz : vz.size = cx.toArray.size := by rw [hx6]; rfl
      go_wp2_with (first
        | (refine wpList_load_row rfl 30 (.tmp 2) rfl w.heap.size rfl 30 _ (0, 0) _ HX.out Tryz.underlying30 rfl HRC.out ?_)
        | (refine wpList_storeB rfl 30 (.tmp 4) (.tmp 37) rfl rfl (w.heap.size + 1) cx.toArray (by first | rfl | simp [Act.eval]) rfl HY.out HRC.out hvz HRX.out.six.2 ?_; intro w3 hB3 hg3 hz3))
      refine bodyPost_ret (results_cell_tmpB (p := 4) (u := 5) rfl _ hB3 _ rfl Tryz.underlying30 rfl HRC.out) rfl ?_
      rw [HQ2.out]
      have hb3 : Below w.heap.size w w3 := HB.out.grown hg3 HB.out.size (fun k e => by injection e with e; omega)
      exact ⟨cx, rfl, HRX.out, hb3⟩
theorem new_belowJ {w2 w3 : World} {o : Obj} (hg : (w2.alloc o).grownBy w3 (some w2.heap.size)) : Below w2.heap.size w2 w3 :=
  ((Below.refl w2.heap.size w2).alloc (Nat.le_refl _) o).grown hg (by simp) (fun k e => by injection e with e; omega)
/-- An answer of the document's At. -/
def AtR (wb w : World) (r : Val × Int) (e : Ending) (w' : World) : Prop := ∃ cx : List Value, e = .returned (.tuple #[.agg cx.toArray, .int .i64 r.2]) ∧ RV wb r.1 cx ∧ Below w.heap.size w w'
set_option maxRecDepth 100000 in
set_option maxHeartbeats 2000000 in
theorem c_rAt (v : Val) (cs : List Value) (A : Option Addr) (n c : Nat) (way : List Int) (wb w : World) (h : RV wb v cs) (hwb : Below wb.heap.size wb w) (hr : Reads w w.heap.size 1 A n (i64s way)) (hn : n ≤ 1099511627776) :
    Calls Tryz.prog 20 #[.agg cs.toArray, .slice A n c] w (AtR wb w (atA v way)) := by
  have HWB := Lib.hid hwb
  have HR := Lib.hid h.row
  have HB0 : Hid (Below w.heap.size w ((w.alloc (.cells cs.toArray 30)).alloc (.cells vz 30))) := ((Below.refl w.heap.size w).alloc (Nat.le_refl _) _).alloc (by simp) _
  have HX0 : Hid (Blk ((w.alloc (.cells cs.toArray 30)).alloc (.cells vz 30)) w.heap.size 30 cs.toArray) := (Blk.new w 30 cs.toArray).alloc _
  have HY0 : Hid (Blk ((w.alloc (.cells cs.toArray 30)).alloc (.cells vz 30)) (w.heap.size + 1) 30 vz) := by
    have := Blk.new (w.alloc (.cells cs.toArray 30)) 30 vz
    rwa [World.size_alloc] at this
  have HRV := Lib.hid h
  have HWY := Lib.hid hr
  obtain ⟨E, hE⟩ : ∃ E, chk fone v = E := ⟨_, rfl⟩
  have HC1 : Hid (∀ W, RV W v cs → Calls Tryz.prog 13 #[.agg cs.toArray] W fun e w' => e = .returned (.int .i64 E) ∧ Below W.heap.size W w') := by rw [← hE]; exact fun W h => c_rCheck v cs W h
  have HAT : Hid (∀ W, Below wb.heap.size wb W → Reads W W.heap.size 1 A n (i64s way) → Calls Tryz.prog 53 #[.agg cs.toArray, .slice A n c] W (AtQ wb W (atV v way))) := fun W hb h2 => c_rat v cs A n c way wb W h hb h2 hn
  have HQN : Hid (E = 0 → atV v way = none → atA v way = (zvV, 6)) := fun h0 h1 => atA_none (by rw [hE]; exact h0) h1
  have HQS : Hid (∀ x, E = 0 → atV v way = some x → atA v way = (x, 0)) := fun x h0 h1 => atA_some (by rw [hE]; exact h0) h1
  have HQE : Hid (E ≠ 0 → atA v way = (zvV, E)) := fun h0 => by rw [atA_no (by rw [hE]; exact h0), hE]
  generalize atA v way = R at *
  clear h hr hE hwb
  go_enter Tryz.func20, Tryz.ntmps20
  go_upto_region 1 with fail
  generalize World.alloc (w.alloc _) _ = w0 at *
  go_wp2_with (refine wpList_load_row rfl 30 (.tmp 2) rfl w.heap.size rfl 30 _ (0, 0) _ HX0.out Tryz.underlying30 rfl HR.out ?_)
  refine (HC1.out _ (HRV.out.step (HWB.out.trans (HB0.out.mono HWB.out.size)))).mono ?_; rintro e w1 ⟨rfl, hb1⟩
  have HX1 := Lib.hid (HX0.out.below hb1 HX0.out.lt)
  have HY1 := Lib.hid (HY0.out.below hb1 HY0.out.lt)
  have HB1 := Lib.hid (HB0.out.trans (hb1.mono HB0.out.size))
  clear hb1 HX0 HY0 HB0 HC1
  by_cases hE0 : E = 0
  rotate_left
  · have hb : (E != 0) = true := by simpa using hE0
    have HQ := Lib.hid (HQE.out hE0)
    clear hE0
    go_wp2_with (refine wpList_storeB rfl 30 (.tmp 4) (.tmp 13) rfl rfl (w.heap.size + 1) zcs.toArray (by first | rfl | simp [Act.eval]) rfl HY1.out v_info rfl rfl ?_; intro w2 hB2 hg2 hz2)
    refine bodyPost_ret (results_cell_tmpB (p := 4) (u := 5) rfl _ hB2 _ rfl Tryz.underlying30 rfl v_info) rfl ?_
    rw [HQ.out]
    exact ⟨zcs, rfl, zv_rv _, HB1.out.grown hg2 HB1.out.size (fun k e => by injection e with e; omega)⟩
  subst hE0
  go_wp2_with (refine wpList_load_row rfl 30 (.tmp 2) rfl w.heap.size rfl 30 _ (0, 0) _ HX1.out Tryz.underlying30 rfl HR.out ?_)
  refine (HAT.out w1 (HWB.out.trans (HB1.out.mono HWB.out.size)) ((HWY.out.below HB1.out).more HB1.out.size)).mono ?_; rintro e w2 ⟨cx, rfl, hrx, hb2⟩
  have HY2 := Lib.hid (HY1.out.below hb2 HY1.out.lt)
  have HB2 := Lib.hid (HB1.out.trans (hb2.mono HB1.out.size))
  have HN2 := Lib.hid (Blk.new w2 30 vz)
  have HRX := Lib.hid hrx
  have HRC := Lib.hid hrx.row
  have hx6 := row_six hrx
  have hvz : vz.size = cx.toArray.size := by rw [hx6]; rfl
  have HY2l := HY2.out.lt
  clear hrx hb2 HX1 HY1
  cases hat : atV v way with
  | none =>
    have HQ := Lib.hid (HQN.out trivial hat)
    rw [hat] at HRX
    simp only [hat, Option.isSome_none]
    clear hat
    go_wp2_with (first
      | (refine wpList_storeB rfl 30 (.tmp 7) (.tmp 19) rfl rfl w2.heap.size cx.toArray (by first | rfl | simp [Act.eval]) (by first | rfl | simp [Act.eval]) HN2.out HRC.out hvz HRX.out.six.2 ?_; intro w3 hB3 hg3 hz3; have HY3 := Lib.hid ((HY2.out.below (new_belowJ hg3) HY2l)); have HB3 := Lib.hid (HB2.out.trans ((new_belowJ hg3).mono HB2.out.size)); clear hB3 hg3 hz3)
      | (refine wpList_storeB rfl 30 (.tmp 4) (.tmp 23) rfl rfl (w.heap.size + 1) zcs.toArray (by first | rfl | simp [Act.eval]) rfl HY3.out v_info rfl rfl ?_; intro w4 hB4 hg4 hz4))
    refine bodyPost_ret (results_cell_tmpB (p := 4) (u := 5) rfl _ hB4 _ rfl Tryz.underlying30 rfl v_info) rfl ?_
    rw [HQ.out]
    exact ⟨zcs, rfl, zv_rv _, HB3.out.grown hg4 HB3.out.size (fun k e => by injection e with e; omega)⟩
  | some x =>
    have HQ := Lib.hid (HQS.out x trivial hat)
    rw [hat] at HRX
    simp only [hat, Option.isSome_some]
    clear hat
    go_wp2_with (first
      | (refine wpList_storeB rfl 30 (.tmp 7) (.tmp 19) rfl rfl w2.heap.size cx.toArray (by first | rfl | simp [Act.eval]) (by first | rfl | simp [Act.eval]) HN2.out HRC.out hvz HRX.out.six.2 ?_; intro w3 hB3 hg3 hz3; have HY3 := Lib.hid ((HY2.out.below (new_belowJ hg3) HY2l)); have HB3 := Lib.hid (HB2.out.trans ((new_belowJ hg3).mono HB2.out.size)); have HX3 := Lib.hid hB3; clear hB3 hg3 hz3)
      | (refine wpList_load_row rfl 30 (.tmp 7) rfl w2.heap.size rfl 30 _ (0, 0) _ HX3.out Tryz.underlying30 rfl HRC.out ?_)
      | (refine wpList_storeB rfl 30 (.tmp 4) (.tmp 24) rfl rfl (w.heap.size + 1) cx.toArray (by first | rfl | simp [Act.eval]) rfl HY3.out HRC.out hvz HRX.out.six.2 ?_; intro w4 hB4 hg4 hz4))
    refine bodyPost_ret (results_cell_tmpB (p := 4) (u := 5) rfl _ hB4 _ rfl Tryz.underlying30 rfl HRC.out) rfl ?_
    rw [HQ.out]
    have hb4 : Below w.heap.size w w4 := HB3.out.grown hg4 HB3.out.size (fun k e => by injection e with e; omega)
    exact ⟨cx, rfl, HRX.out, hb4⟩
end Go.Proofs.YtacnoedhpamdmaaGreatDoor
