/- Walk: the value at the end of a way (value.At). Conditions: the value as it reads, its bulk at most 1048576; the way as it reads. -/
import Derived.Test.YtacnoedhpamdmaaGreatDoorKd
import Derived.Test.YtacnoedhpamdmaaGreatDoorYo
namespace Go.Proofs.YtacnoedhpamdmaaGreatDoor
open Go.RowKit
set_option linter.unusedVariables false
set_option linter.unusedSimpArgs false
attribute [local go_sem ↓] Go.wp_at_zero Go.wp_at_succ

/-- The value that is none. -/
abbrev zvV : Val := .mk 0 0 0 ⟨#[]⟩ [] []
abbrev zcs : List Value := [.int .i64 0, .int .i64 0, .float .f64 0, .string ⟨#[]⟩, .slice none 0 0, .slice none 0 0]
/-- What At tells. -/
def atA (v : Val) (way : List Int) : Val × Int := if chk fone v = 0 then (match atV v way with | some x => (x, 0) | none => (zvV, 6)) else (zvV, chk fone v)
theorem atA_no {v : Val} {way : List Int} (h : ¬ chk fone v = 0) : atA v way = (zvV, chk fone v) := by unfold atA; rw [if_neg h]
theorem atA_none {v : Val} {way : List Int} (h : chk fone v = 0) (h2 : atV v way = none) : atA v way = (zvV, 6) := by unfold atA; rw [if_pos h, h2]
theorem atA_some {v x : Val} {way : List Int} (h : chk fone v = 0) (h2 : atV v way = some x) : atA v way = (x, 0) := by unfold atA; rw [if_pos h, h2]
/-- Numbers as cells. -/
abbrev i64s (l : List Int) : List Value := l.map (Value.int .i64)
theorem getD_i64s {l : List Int} {k : Nat} (h : k < l.length) : (i64s l).getD k undef = .int .i64 (l.getD k 0) := by
  simp [List.getD, List.getElem?_eq_getElem h]
theorem atV_drop {x : Val} {way : List Int} {i : Nat} (hi : i < way.length) : atV x (way.drop i) = atV x (way.getD i 0 :: way.drop (i + 1)) := by
  rw [List.drop_eq_getElem_cons hi]
  simp [List.getD, List.getElem?_eq_getElem hi]
/-- An answer of At: new memory, its value, its error. -/
def AtP (w : World) (r : Val × Int) (e : Ending) (w' : World) : Prop := ∃ cs' : List Value, e = .returned (.tuple #[.agg cs'.toArray, .int .i64 r.2]) ∧ Tr w' (fun x => w.heap.size ≤ x ∧ x < w'.heap.size) r.1 cs' ∧ Below w.heap.size w w'
theorem AtP.zero {w w' : World} {n : Int} (h : Below w.heap.size w w') : AtP w (zvV, n) (.returned (.tuple #[.agg zcs.toArray, .int .i64 n])) w' := ⟨zcs, rfl, Tr.leaf _ _, h⟩
set_option maxRecDepth 100000 in
set_option maxHeartbeats 1000000 in
theorem c_At (v : Val) (cs : List Value) (A : Option Addr) (n c : Nat) (way : List Int) (w : World) (h : RV w v cs) (hr : Reads w w.heap.size 1 A n (i64s way)) (hn : n ≤ 1099511627776) :
    Calls Tryz.prog 19 #[.agg cs.toArray, .slice A n c] w fun e w' => AtP w (atA v way) e w' := by
  have HR := Lib.hid h.row
  have hwl : way.length = n := by simpa using hr.1
  have HB0 : Hid (Below w.heap.size w ((w.alloc (.cells cs.toArray 30)).alloc (.cells vz 30))) := ((Below.refl w.heap.size w).alloc (Nat.le_refl _) _).alloc (by simp) _
  have HX0 : Hid (Blk ((w.alloc (.cells cs.toArray 30)).alloc (.cells vz 30)) w.heap.size 30 cs.toArray) := (Blk.new w 30 cs.toArray).alloc _
  have HY0 : Hid (Blk ((w.alloc (.cells cs.toArray 30)).alloc (.cells vz 30)) (w.heap.size + 1) 30 vz) := by
    have := Blk.new (w.alloc (.cells cs.toArray 30)) 30 vz
    rwa [World.size_alloc] at this
  have HRV := Lib.hid h
  have HWY := Lib.hid hr
  have HWL := Lib.hid hwl
  obtain ⟨E, hE⟩ : ∃ E, chk fone v = E := ⟨_, rfl⟩
  have HC1 : Hid (∀ W, RV W v cs → Calls Tryz.prog 18 #[.agg cs.toArray] W fun e w' => e = .returned (.int .i64 E) ∧ Below W.heap.size W w') := by rw [← hE]; exact fun W h => c_Check v cs W h
  have HEE := Lib.hid hE
  clear h hr hE hwl
  go_enter Tryz.func19, Tryz.ntmps19
  go_upto_region 1 with fail
  generalize World.alloc (w.alloc _) _ = w0 at *
  go_wp2_with (refine wpList_load_row rfl 30 (.tmp 2) rfl w.heap.size rfl 30 _ (0, 0) _ HX0.out Tryz.underlying30 rfl HR.out ?_)
  refine (HC1.out _ (HRV.out.step HB0.out)).mono ?_; rintro e w1 ⟨rfl, hb1⟩
  have HX1 := Lib.hid (HX0.out.below hb1 HX0.out.lt)
  have HY1 := Lib.hid (HY0.out.below hb1 HY0.out.lt)
  have HB1 := Lib.hid (HB0.out.trans (hb1.mono HB0.out.size))
  clear hb1 HX0 HY0 HB0 HC1
  by_cases hE0 : E = 0
  rotate_left
  · have hb : (E != 0) = true := by simpa using hE0
    have HQ : Hid (atA v way = (zvV, E)) := by
      show _ = _
      rw [atA_no (by rw [HEE.out]; exact hE0), HEE.out]
    clear hE0
    go_wp2_with (refine wpList_storeB rfl 30 (.tmp 4) (.tmp 13) rfl rfl (w.heap.size + 1) zcs.toArray (by simp [Act.eval]) rfl HY1.out v_info rfl rfl ?_; intro w2 hB2 hg2 hz2)
    refine bodyPost_ret (results_cell_tmpB (p := 4) (u := 5) rfl _ hB2 _ rfl Tryz.underlying30 rfl v_info) rfl ?_
    rw [HQ.out]
    exact AtP.zero (HB1.out.grown hg2 HB1.out.size (fun k e => by injection e with e; omega))
  subst hE0
  go_wp2_with fail
  go_loopw [17] (fun vi wr => ∃ (i : Nat) (x : Val) (cx : List Value), vi = .int .i64 i ∧ i ≤ n ∧ Hid (atV v way = atV x (way.drop i)) ∧ Hid (RV w x cx) ∧ Hid (Blk wr w.heap.size 30 cx.toArray) ∧ Hid (Blk wr (w.heap.size + 1) 30 vz) ∧ Hid (Below w.heap.size w wr)) (fun vi _ => n - (intOf vi).toNat)
  case atStart => exact ⟨0, v, cs, rfl, Nat.zero_le _, rfl, HRV, HX1, HY1, HB1⟩
  case round =>
    obtain ⟨i, x, cx, rfl, hi, HAT, HRX, HX, HY, HB⟩ := hrel
    clear HX1 HY1 HB1
    by_cases hlt : i < n
    · obtain ⟨b, off, hA, hb1, hb2, hcell⟩ := HWY.out.form (by omega)
      subst hA
      have kw : wr.cell? ⟨b, off + i, none⟩ = some (.int .i64 (way.getD i 0)) := by
        rw [HB.out.cell (p := ⟨b, off + i, none⟩) hb1, hcell i hlt, getD_i64s (by rw [HWL.out]; exact hlt)]
      have HAT2 : Hid (atV v way = atV x (way.getD i 0 :: way.drop (i + 1))) := by
        show _ = _
        rw [HAT.out, atV_drop (by rw [HWL.out]; exact hlt)]
      clear hcell HAT
      generalize way.getD i 0 = k at *
      obtain ⟨A2, A2', c2, c2', hcx, hnm, hop⟩ := HRX.out.open_
      have k4 : wr.cell? ⟨w.heap.size, 4, none⟩ = some (.slice A2 x.its.length c2) := by rw [HX.out.cell 4, hcx]; rfl
      have HOP := Lib.hid hop
      have HRC := Lib.hid HRX.out.row
      clear hnm hop hcx
      by_cases hk0 : k < 0
      · have HQ : Hid (atA v way = (zvV, 6)) := atA_none HEE.out (by rw [HAT2.out, atV_out (.inl hk0)])
        go_wp2_with (refine wpList_storeB rfl 30 (.tmp 4) (.tmp 30) rfl rfl (w.heap.size + 1) zcs.toArray (by simp [Act.eval]) rfl HY.out v_info rfl rfl ?_; intro w2 hB2 hg2 hz2)
        refine bodyPost_ret (results_cell_tmpB (p := 4) (u := 5) rfl _ hB2 _ rfl Tryz.underlying30 rfl v_info) rfl ?_
        rw [HQ.out]
        exact AtP.zero (HB.out.grown hg2 HB.out.size (fun k e => by injection e with e; omega))
      obtain ⟨j, rfl⟩ : ∃ j : Nat, k = (j : Int) := ⟨k.toNat, by omega⟩
      by_cases hj : j < x.its.length
      · obtain ⟨b2, off2, hA2, hbl, hit⟩ := HOP.out (by omega)
        subst hA2
        obtain ⟨cy, hrv, hcy0⟩ := hit w (Below.refl _ _) j hj
        have hcy : ∀ q u, cy[q]? = some u → wr.cell? ⟨b2, off2 + j * 6 + q, none⟩ = some u := fun q u hu => (HB.out.cell (p := ⟨b2, off2 + j * 6 + q, none⟩) hbl).trans (hcy0 q u hu)
        have HRY := Lib.hid hrv
        have HCY := Lib.hid hcy
        have h6 := hrv.six.1
        have h6a : cy.toArray.size = 6 := by simpa using h6
        have hx6 : cx.toArray.size = cy.toArray.size := by
          have := HRX.out.six.1
          simp only [List.size_toArray]; omega
        have HAT3 : Hid (atV v way = atV x.its[j] (way.drop (i + 1))) := by
          show _ = _
          rw [HAT2.out, atV_in hj]
        have hone := hrv.six.2
        have hk1 : ¬ (x.its.length : Int) ≤ (j : Int) := by omega
        clear hit hrv hcy hcy0 hk0 HAT2
        go_wp2_with (first
          | (refine wpList_load_at rfl 30 (.tmp 34) rfl b2 (off2 + j * 6) rfl cy _ HCY.out Tryz.underlying30 rfl (by rw [h6]; exact v_info) ?_)
          | (refine wpList_storeB rfl 30 (.tmp 2) (.tmp 35) rfl rfl w.heap.size cy.toArray rfl rfl HX.out (by rw [h6a]; exact v_info) hx6 hone ?_; intro w2 hB2 hg2 hz2))
        have HB2 : Hid (Below w.heap.size w w2) := HB.out.grown hg2 HB.out.size (fun k e => by injection e with e; omega)
        have HY2 : Hid (Blk w2 (w.heap.size + 1) 30 vz) := HY.out.grown hg2 (fun e => by injection e with e; omega)
        have HX2 := Lib.hid hB2
        clear hB2 hg2 hz2 HRX HB HY HX HCY HOP HRC
        go_roundw
        case rel => first | exact ⟨i + 1, x.its[j], cy, by go_num, hlt, HAT3, HRY, HX2, HY2, HB2⟩ | (refine ⟨_, _, _, _, _, _, _, _, _, _, _, _, _, _, _, _, _, ?_, rfl⟩; exact ⟨i + 1, x.its[j], cy, by go_num, hlt, HAT3, HRY, HX2, HY2, HB2⟩)
        case measure => simp [intOf]; omega
      · have HQ : Hid (atA v way = (zvV, 6)) := atA_none HEE.out (by rw [HAT2.out, atV_out (.inr (by omega))])
        have hk1 : (x.its.length : Int) ≤ (j : Int) := by omega
        go_wp2_with (refine wpList_storeB rfl 30 (.tmp 4) (.tmp 30) rfl rfl (w.heap.size + 1) zcs.toArray (by simp [Act.eval]) rfl HY.out v_info rfl rfl ?_; intro w2 hB2 hg2 hz2)
        refine bodyPost_ret (results_cell_tmpB (p := 4) (u := 5) rfl _ hB2 _ rfl Tryz.underlying30 rfl v_info) rfl ?_
        rw [HQ.out]
        exact AtP.zero (HB.out.grown hg2 HB.out.size (fun k e => by injection e with e; omega))
    · have HQ : Hid (atA v way = (x, 0)) := atA_some HEE.out (by rw [HAT.out, List.drop_eq_nil_of_le (by rw [HWL.out]; omega), atV])
      have HRC := Lib.hid HRX.out.row
      go_wp2_with (refine wpList_load_row rfl 30 (.tmp 2) rfl w.heap.size rfl 30 _ (0, 0) _ HX.out Tryz.underlying30 rfl HRC.out ?_)
      refine (c_copied x cx _ (HRX.out.step HB.out)).mono ?_; rintro e w2 ⟨cs2, rfl, ht2, hb2⟩
      have HT2 := Lib.hid ht2
      have HB2 := Lib.hid hb2
      have HY2 := Lib.hid (HY.out.below hb2 HY.out.lt)
      clear ht2 hb2
      have hvz : vz.size = cs2.toArray.size := by rw [show cs2.toArray.size = 6 by simpa using HT2.out.six]; rfl
      go_wp2_with (refine wpList_storeB rfl 30 (.tmp 4) (.tmp 38) rfl rfl (w.heap.size + 1) cs2.toArray (by simp [Act.eval]) rfl HY2.out (inf_six HT2.out.six) hvz HT2.out.one ?_; intro w3 hB3 hg3 hz3)
      refine bodyPost_ret (results_cell_tmpB (p := 4) (u := 5) rfl _ hB3 _ rfl Tryz.underlying30 rfl (inf_six HT2.out.six)) rfl ?_
      rw [HQ.out]
      have hyl := HY.out.lt
      refine ⟨cs2, rfl, ?_, (HB.out.trans (HB2.out.mono HB.out.size)).grown hg3 (Nat.le_trans HB.out.size HB2.out.size) (fun k e => by injection e with e; omega)⟩
      refine (HT2.out.keep (W := w3) fun y hy => hg3.block y hy.2 (fun e => by injection e with e; omega)).wide fun y hy => ⟨?_, by rw [hz3]; exact hy.2⟩
      have := HB.out.size
      omega
end Go.Proofs.YtacnoedhpamdmaaGreatDoor
