/- The law ValueWays walked: At and Put answer as the document's; what comes in stays, what is told is memory of its own. Conditions: the values' bulk together at most 1048576, the way's length too. -/
import Derived.Test.YtacnoedhpamdmaaGreatDoorJl
import Derived.Test.YtacnoedhpamdmaaGreatDoorJi
import Derived.Test.YtacnoedhpamdmaaGreatDoorJh
import Derived.Test.YtacnoedhpamdmaaGreatDoorM1
namespace Go.Proofs.YtacnoedhpamdmaaGreatDoor
open Go.RowKit
set_option linter.unusedVariables false
set_option linter.unusedSimpArgs false
attribute [local go_sem ↓] Go.wp_at_zero Go.wp_at_succ

/-- What stays: the arguments. -/
structure WyS (w0 W : World) (g : Nat) (v y : Val) (cs cy : List Value) (A : Option Addr) (n : Nat) (way : List Int) : Prop where
  rv : RV W v cs
  ry : RV W y cy
  wa : Reads W W.heap.size 1 A n (i64s way)
  bv : Blk W g 30 cs.toArray
  by_ : Blk W (g + 1) 30 cy.toArray
  kp : Below w0.heap.size w0 W
theorem WyS.go {w0 W : World} {g : Nat} {v y : Val} {cs cy : List Value} {A : Option Addr} {n : Nat} {way : List Int} (h : WyS w0 w0 g v y cs cy A n way) (hb : Below w0.heap.size w0 W) : WyS w0 W g v y cs cy A n way :=
  ⟨h.rv.step hb, h.ry.step hb, (h.wa.below hb).more hb.size, h.bv.below hb h.bv.lt, h.by_.below hb h.by_.lt, hb⟩
/-- An answer that is kept: its box, and memory of its own. -/
structure OwS (W : World) (g lo hi : Nat) (x : Val) (cx : List Value) : Prop where
  bx : Blk W g 30 cx.toArray
  tr : Tr W (fun i => lo ≤ i ∧ i < hi) x cx
  gh : hi ≤ g
theorem OwS.lt {W : World} {g lo hi : Nat} {x : Val} {cx : List Value} (h : OwS W g lo hi x cx) : ∀ i, (lo ≤ i ∧ i < hi) → i < W.heap.size := fun i hi => by have := h.bx.lt; have := h.gh; omega
theorem OwS.step {W W' : World} {g lo hi : Nat} {x : Val} {cx : List Value} (h : OwS W g lo hi x cx) (hb : Below W.heap.size W W') : OwS W' g lo hi x cx :=
  ⟨h.bx.below hb h.bx.lt, h.tr.keep fun i hi => hb.block i (h.lt i hi), h.gh⟩
theorem OwS.chg {W W' : World} {g lo hi lo' hi' : Nat} {x : Val} {cx : List Value} (h : OwS W g lo hi x cx) (hc : Chg (fun i => lo' ≤ i ∧ i < hi') W W') (hd : hi' ≤ lo ∧ hi' ≤ g) : OwS W' g lo hi x cx :=
  ⟨hc.blk h.bx (fun hx => by omega), h.tr.keep fun i hi => hc.block i (h.lt i hi) (fun hx => by omega), h.gh⟩
theorem OwS.rv {W : World} {g lo hi : Nat} {x : Val} {cx : List Value} (h : OwS W g lo hi x cx) (hw : wfV x) (hb : bnd x ≤ 1048576) : RV W x cx := tr_rv h.tr h.lt hw hb
theorem OwS.new {w1 w2 w3 : World} {o : Obj} {x : Val} {cx : List Value} (ht : Tr w2 (fun i => w1.heap.size ≤ i ∧ i < w2.heap.size) x cx) (hB : Blk w3 w2.heap.size 30 cx.toArray) (hg : (w2.alloc o).grownBy w3 (some w2.heap.size)) : OwS w3 w2.heap.size w1.heap.size w2.heap.size x cx :=
  ⟨hB, ht.keep fun i hi => (new_belowJ hg).block i hi.2, Nat.le_refl _⟩
set_option maxRecDepth 100000 in
set_option maxHeartbeats 4000000 in
theorem c_ValueWays (v y : Val) (cs cy : List Value) (A : Option Addr) (n c : Nat) (way : List Int) (w : World) (h : RV w v cs) (h' : RV w y cy) (hr : Reads w w.heap.size 1 A n (i64s way)) (hnc : n ≤ c) (hn : n ≤ 1099511627776) (hbd : bnd v + bnd y ≤ 1048576) :
    Calls Tryz.prog 5 #[.agg cs.toArray, .agg cy.toArray, .slice A n c] w fun e w' => e = .returned (.bool true) ∧ Below w.heap.size w w' := by
  have HTB := two_bx w cs cy
  have HBW := Lib.hid HTB.2.2
  have HG1 : Hid (w.heap.size + 1 < ((w.alloc (.cells cs.toArray 30)).alloc (.cells cy.toArray 30)).heap.size) := HTB.2.1.blk.lt
  have HS0 : Hid (WyS ((w.alloc (.cells cs.toArray 30)).alloc (.cells cy.toArray 30)) ((w.alloc (.cells cs.toArray 30)).alloc (.cells cy.toArray 30)) w.heap.size v y cs cy A n way) :=
    ⟨h.step HTB.2.2, h'.step HTB.2.2, (hr.below HTB.2.2).more HTB.2.2.size, HTB.1.blk, HTB.2.1.blk, Below.refl _ _⟩
  have HRv := Lib.hid h.row
  have HRy := Lib.hid h'.row
  obtain ⟨x, ex, hX⟩ : ∃ x ex, atA v way = (x, ex) := ⟨_, _, rfl⟩
  obtain ⟨u, eu, hU⟩ : ∃ u eu, putA v way y = (u, eu) := ⟨_, _, rfl⟩
  have HA1 : Hid (∀ W, RV W v cs → Reads W W.heap.size 1 A n (i64s way) → Calls Tryz.prog 19 #[.agg cs.toArray, .slice A n c] W fun e w' => AtP W (x, ex) e w') := by rw [← hX]; exact fun W h h2 => c_At v cs A n c way W h h2 hn
  have HA2 : Hid (∀ wb W, RV wb v cs → Below wb.heap.size wb W → Reads W W.heap.size 1 A n (i64s way) → Calls Tryz.prog 20 #[.agg cs.toArray, .slice A n c] W (AtR wb W (x, ex))) := by rw [← hX]; exact fun wb W h hb h2 => c_rAt v cs A n c way wb W h hb h2 hn
  have HP1 : Hid (∀ W, RV W v cs → RV W y cy → Reads W W.heap.size 1 A n (i64s way) → Calls Tryz.prog 21 #[.agg cs.toArray, .slice A n c, .agg cy.toArray] W fun e w' => AtP W (u, eu) e w') := by rw [← hU]; exact fun W h h2 h3 => c_Put v y cs cy A n c way W h h2 h3 hn hbd
  have HP2 : Hid (∀ W, RV W v cs → RV W y cy → Reads W W.heap.size 1 A n (i64s way) → Calls Tryz.prog 22 #[.agg cs.toArray, .slice A n c, .agg cy.toArray] W (PtR W (u, eu))) := by rw [← hU]; exact fun W h h2 h3 => c_rPut v y cs cy A n c way W h h2 h3 hnc hn hbd
  obtain ⟨sv, ev, hsv⟩ : ∃ s e, prS v = (s, e) := ⟨_, _, rfl⟩
  obtain ⟨sy, ey, hsy⟩ : ∃ s e, prS y = (s, e) := ⟨_, _, rfl⟩
  have HR1 : Hid (∀ W, RV W v cs → Calls Tryz.prog 23 #[.agg cs.toArray] W (PrE W (sv, ev))) := by rw [← hsv]; exact fun W h => c_rPrint v cs W h
  have HR2 : Hid (∀ W, RV W y cy → Calls Tryz.prog 23 #[.agg cy.toArray] W (PrE W (sy, ey))) := by rw [← hsy]; exact fun W h => c_rPrint y cy W h
  clear h h' hr hX hU HTB hbd hsv hsy
  go_enter Tryz.func5, Tryz.ntmps5
  go_upto_region 1 with fail
  generalize World.alloc (w.alloc _) _ = w0 at *
  have HTK := Lib.hid (fun (W : World) (hb : Below w0.heap.size w0 W) => HS0.out.go hb)
  have HBV := Lib.hid HS0.out.bv
  go_wp2_with (refine wpList_load_row rfl 30 (.tmp 3) rfl w.heap.size rfl 30 _ (0, 0) _ HBV.out Tryz.underlying30 rfl HRv.out ?_)
  refine (HA1.out _ HS0.out.rv HS0.out.wa).mono ?_
  rintro e w2 ⟨cs2, rfl, ht2, hb2⟩
  have HT2 := Lib.hid ht2
  have HB2 := Lib.hid hb2
  have HN2 := Lib.hid (Blk.new w2 30 vz)
  have hvz : vz.size = cs2.toArray.size := by rw [show cs2.toArray.size = 6 by simpa using ht2.six]; rfl
  have HR2' : Hid ((Tryz.prog.info? 30).map (·.size) = some cs2.toArray.size) := inf_six ht2.six
  clear ht2 hb2 HBV HA1
  go_wp2_with (first
    | (refine wpList_storeB rfl 30 (.tmp 7) (.tmp 27) rfl rfl w2.heap.size cs2.toArray (by first | rfl | simp [Act.eval]) (by first | rfl | simp [Act.eval]) HN2.out HR2'.out hvz HT2.out.one ?_; intro w3 hB3 hg3 hz3; have HB3 := Lib.hid (HB2.out.trans ((new_belowJ hg3).mono HB2.out.size)); have HO3 := Lib.hid (OwS.new HT2.out hB3 hg3); have HBV := Lib.hid (HTK.out w3 HB3.out).bv; clear hB3 hg3 hz3)
    | (refine wpList_load_row rfl 30 (.tmp 3) rfl w.heap.size rfl 30 _ (0, 0) _ HBV.out Tryz.underlying30 rfl HRv.out ?_))
  clear HT2 HN2 hvz
  refine (HA2.out w0 _ HS0.out.rv HB3.out (HTK.out w3 HB3.out).wa).mono ?_
  rintro e w4 ⟨c4, rfl, hr4, hb4⟩
  have HR4 := Lib.hid hr4
  have HB4 := Lib.hid (HB3.out.trans (hb4.mono HB3.out.size))
  have HO4 := Lib.hid (HO3.out.step hb4)
  have HN4 := Lib.hid (Blk.new w4 30 vz)
  have hvz : vz.size = c4.toArray.size := by rw [row_six hr4]; rfl
  have HR4' := Lib.hid hr4.row
  clear hr4 hb4 HB3 HO3 HBV HA2
  go_wp2_with (first
    | (refine wpList_storeB rfl 30 (.tmp 9) (.tmp 33) rfl rfl w4.heap.size c4.toArray (by first | rfl | simp [Act.eval]) (by first | rfl | simp [Act.eval]) HN4.out HR4'.out hvz HR4.out.six.2 ?_; intro w5 hB5 hg5 hz5; have HB5 := Lib.hid (HB4.out.trans ((new_belowJ hg5).mono HB4.out.size)); have HO5 := Lib.hid (HO4.out.step (new_belowJ hg5)); have HX5 := Lib.hid hB5; have HBX := Lib.hid HO5.out.bx; clear hB5 hg5 hz5)
    | (refine wpList_load_row rfl 30 (.tmp 7) rfl w2.heap.size rfl 30 _ (0, 0) _ HBX.out Tryz.underlying30 rfl HR2'.out ?_)
    | (refine wpList_load_row rfl 30 (.tmp 9) rfl w4.heap.size rfl 30 _ (0, 0) _ HX5.out Tryz.underlying30 rfl HR4'.out ?_))
  clear HN4 hvz HB4 HO4
  refine (c_alike x cs2 c4 _ (HO5.out.rv HR4.out.wf HR4.out.bd) (HR4.out.step HB5.out)).mono ?_
  rintro e w6 ⟨rfl, hb6⟩
  have HB6 := Lib.hid (HB5.out.trans (hb6.mono HB5.out.size))
  have HO6 := Lib.hid (HO5.out.step hb6)
  have HXF : Hid (bnd x ≤ 1048576) := HR4.out.bd
  have HBV := Lib.hid (HTK.out w6 HB6.out).bv
  have HBY := Lib.hid (HTK.out w6 HB6.out).by_
  have tx : (ex != ex) = false := by simp
  clear hb6 HB5 HO5 HX5 HBX HR4 HR4'
  go_wp2_with (first
    | (refine wpList_load_row rfl 30 (.tmp 3) rfl w.heap.size rfl 30 _ (0, 0) _ HBV.out Tryz.underlying30 rfl HRv.out ?_)
    | (refine wpList_load_row rfl 30 (.tmp 4) rfl (w.heap.size + 1) rfl 30 _ (0, 0) _ HBY.out Tryz.underlying30 rfl HRy.out ?_))
  refine (HP1.out _ (HTK.out w6 HB6.out).rv (HTK.out w6 HB6.out).ry (HTK.out w6 HB6.out).wa).mono ?_
  rintro e w7 ⟨cs7, rfl, ht7, hb7⟩
  have HT7 := Lib.hid ht7
  have HB7 := Lib.hid (HB6.out.trans (hb7.mono HB6.out.size))
  have HO7 := Lib.hid (HO6.out.step hb7)
  have HL67 : Hid (w2.heap.size < w6.heap.size) := HO6.out.bx.lt
  have HS67 : Hid (w6.heap.size ≤ w7.heap.size) := hb7.size
  have HN7 := Lib.hid (Blk.new w7 30 vz)
  have hvz : vz.size = cs7.toArray.size := by rw [show cs7.toArray.size = 6 by simpa using ht7.six]; rfl
  have HR7' : Hid ((Tryz.prog.info? 30).map (·.size) = some cs7.toArray.size) := inf_six ht7.six
  clear ht7 hb7 HBV HBY HP1 HO6 tx
  go_wp2_with (first
    | (refine wpList_storeB rfl 30 (.tmp 11) (.tmp 49) rfl rfl w7.heap.size cs7.toArray (by first | rfl | simp [Act.eval]) (by first | rfl | simp [Act.eval]) HN7.out HR7'.out hvz HT7.out.one ?_; intro w8 hB8 hg8 hz8; have HB8 := Lib.hid (HB7.out.trans ((new_belowJ hg8).mono HB7.out.size)); have HO8 := Lib.hid (HO7.out.step (new_belowJ hg8)); have HU8 := Lib.hid (OwS.new HT7.out hB8 hg8); have HBV := Lib.hid (HTK.out w8 HB8.out).bv; have HBY := Lib.hid (HTK.out w8 HB8.out).by_; clear hB8 hg8 hz8)
    | (refine wpList_load_row rfl 30 (.tmp 3) rfl w.heap.size rfl 30 _ (0, 0) _ HBV.out Tryz.underlying30 rfl HRv.out ?_)
    | (refine wpList_load_row rfl 30 (.tmp 4) rfl (w.heap.size + 1) rfl 30 _ (0, 0) _ HBY.out Tryz.underlying30 rfl HRy.out ?_))
  clear HT7 HN7 hvz HO7
  refine (HP2.out _ (HTK.out w8 HB8.out).rv (HTK.out w8 HB8.out).ry (HTK.out w8 HB8.out).wa).mono ?_
  rintro e w9 ⟨c9, rfl, hr9, hb9⟩
  have HR9 := Lib.hid hr9
  have HB9 := Lib.hid (HB8.out.trans (hb9.mono HB8.out.size))
  have HO9 := Lib.hid (HO8.out.step hb9)
  have HU9 := Lib.hid (HU8.out.step hb9)
  have HN9 := Lib.hid (Blk.new w9 30 vz)
  have hvz : vz.size = c9.toArray.size := by rw [row_six hr9]; rfl
  have HR9' := Lib.hid hr9.row
  clear hr9 hb9 HB8 HO8 HU8 HBV HBY HP2
  go_wp2_with (first
    | (refine wpList_storeB rfl 30 (.tmp 13) (.tmp 56) rfl rfl w9.heap.size c9.toArray (by first | rfl | simp [Act.eval]) (by first | rfl | simp [Act.eval]) HN9.out HR9'.out hvz HR9.out.six.2 ?_; intro w10 hB10 hg10 hz10; have HB10 := Lib.hid (HB9.out.trans ((new_belowJ hg10).mono HB9.out.size)); have HO10 := Lib.hid (HO9.out.step (new_belowJ hg10)); have HU10 := Lib.hid (HU9.out.step (new_belowJ hg10)); have HZ10 := Lib.hid (HR9.out.step (new_belowJ hg10)); have HX10 := Lib.hid hB10; have HBX := Lib.hid HU10.out.bx; clear hB10 hg10 hz10)
    | (refine wpList_load_row rfl 30 (.tmp 11) rfl w7.heap.size rfl 30 _ (0, 0) _ HBX.out Tryz.underlying30 rfl HR7'.out ?_)
    | (refine wpList_load_row rfl 30 (.tmp 13) rfl w9.heap.size rfl 30 _ (0, 0) _ HX10.out Tryz.underlying30 rfl HR9'.out ?_))
  clear HN9 hvz HB9 HO9 HU9
  refine (c_alike u cs7 c9 _ (HU10.out.rv HR9.out.wf HR9.out.bd) HZ10.out).mono ?_
  rintro e w11 ⟨rfl, hb11⟩
  have HB11 := Lib.hid (HB10.out.trans (hb11.mono HB10.out.size))
  have HO11 := Lib.hid (HO10.out.step hb11)
  have HU11 := Lib.hid (HU10.out.step hb11)
  have HUF : Hid (bnd u ≤ 1048576) := HR9.out.bd
  have tu : (eu != eu) = false := by simp
  clear hb11 HB10 HO10 HU10 HX10 HBX HZ10 HR9 HR9'
  go_wp2_with fail
  refine (c_awake _).mono ?_; rintro e w12 ⟨rfl, hb12⟩
  have HB12 := Lib.hid (HB11.out.trans (hb12.mono HB11.out.size))
  have HO12 := Lib.hid (HO11.out.step hb12)
  have HU12 := Lib.hid (HU11.out.step hb12)
  have HBV := Lib.hid (HTK.out w12 HB12.out).bv
  clear hb12 HB11 HO11 HU11 tu
  go_wp2_with (refine wpList_load_row rfl 30 (.tmp 3) rfl w.heap.size rfl 30 _ (0, 0) _ HBV.out Tryz.underlying30 rfl HRv.out ?_)
  refine (HR1.out _ (HTK.out w12 HB12.out).rv).mono ?_; rintro e w13 ⟨rfl, hb13⟩
  have HB13 := Lib.hid (HB12.out.trans (hb13.mono HB12.out.size))
  have HO13 := Lib.hid (HO12.out.step hb13)
  have HU13 := Lib.hid (HU12.out.step hb13)
  have HBY := Lib.hid (HTK.out w13 HB13.out).by_
  clear hb13 HB12 HO12 HU12 HBV
  go_wp2_with (refine wpList_load_row rfl 30 (.tmp 4) rfl (w.heap.size + 1) rfl 30 _ (0, 0) _ HBY.out Tryz.underlying30 rfl HRy.out ?_)
  refine (HR2.out _ (HTK.out w13 HB13.out).ry).mono ?_; rintro e w14 ⟨rfl, hb14⟩
  have HB14 := Lib.hid (HB13.out.trans (hb14.mono HB13.out.size))
  have HO14 := Lib.hid (HO13.out.step hb14)
  have HU14 := Lib.hid (HU13.out.step hb14)
  have HBX := Lib.hid HO14.out.bx
  clear hb14 HB13 HO13 HU13 HBY
  go_wp2_with (refine wpList_load_row rfl 30 (.tmp 7) rfl w2.heap.size rfl 30 _ (0, 0) _ HBX.out Tryz.underlying30 rfl HR2'.out ?_)
  refine (c_spoil x cs2 w14 _ HO14.out.tr HO14.out.lt HXF.out).mono ?_; rintro e w15 ⟨rfl, hc15⟩
  have HB15 := Lib.hid (HB14.out.trans (hc15.below HB14.out.size (fun i hi => hi.1)))
  have HU15 := Lib.hid (HU14.out.chg hc15 (by have := HL67.out; have := HS67.out; omega))
  have HBU := Lib.hid HU15.out.bx
  clear hc15 HB14 HO14 HU14 HBX
  go_wp2_with (refine wpList_load_row rfl 30 (.tmp 11) rfl w7.heap.size rfl 30 _ (0, 0) _ HBU.out Tryz.underlying30 rfl HR7'.out ?_)
  refine (c_spoil u cs7 w15 _ HU15.out.tr HU15.out.lt HUF.out).mono ?_; rintro e w16 ⟨rfl, hc16⟩
  have HB16 := Lib.hid (HB15.out.trans (hc16.below HB15.out.size (fun i hi => by have := hi.1; have := HL67.out; have := HB2.out.size; omega)))
  have HBV := Lib.hid (HTK.out w16 HB16.out).bv
  clear hc16 HB15 HU15 HBU
  go_wp2_with (refine wpList_load_row rfl 30 (.tmp 3) rfl w.heap.size rfl 30 _ (0, 0) _ HBV.out Tryz.underlying30 rfl HRv.out ?_)
  refine (HR1.out _ (HTK.out w16 HB16.out).rv).mono ?_; rintro e w17 ⟨rfl, hb17⟩
  have HB17 := Lib.hid (HB16.out.trans (hb17.mono HB16.out.size))
  have HBY := Lib.hid (HTK.out w17 HB17.out).by_
  clear hb17 HB16 HBV
  go_wp2_with (refine wpList_load_row rfl 30 (.tmp 4) rfl (w.heap.size + 1) rfl 30 _ (0, 0) _ HBY.out Tryz.underlying30 rfl HRy.out ?_)
  refine (HR2.out _ (HTK.out w17 HB17.out).ry).mono ?_; rintro e w18 ⟨rfl, hb18⟩
  have HB18 := Lib.hid (HB17.out.trans (hb18.mono HB17.out.size))
  clear hb18 HB17 HBY
  go_wp2_with fail
  go_ret
  exact ⟨rfl, HBW.out.trans (HB18.out.mono HBW.out.size)⟩
theorem l_ValueWays (W : World) (v : Val) (cs : List Value) (h : RV W v cs) (y : Val) (cy : List Value) (h' : RV W y cy) (A : Option Addr) (n c : Nat) (way : List Int) (hr : RdInts W .i64 8 A n c way) (hn : n ≤ 1048576) (hbd : bnd v + bnd y ≤ 1048576) :
    Calls Tryz.prog 5 #[.agg cs.toArray, .agg cy.toArray, .slice A n c] W fun e W' => e = .returned (.bool true) ∧ Below W.heap.size W W' :=
  c_ValueWays v y cs cy A n c way W h h' hr.2.2.2 hr.1 (by omega) (by omega)
end Go.Proofs.YtacnoedhpamdmaaGreatDoor
