/- Walk: a list's entries and their lines' numbers (sums.List). Conditions: texts of at most 10000000000 bytes; the library's errors as laid. Walk: the reference's rows of a text (quernref26.rows). Conditions: texts of at most 10000000000 bytes. Walk: the reference's list (quernref26.List). Conditions: texts of at most 10000000000 bytes. The law SumsLists walked. Conditions: texts of at most 1048576 bytes; the library's errors as laid. Plain words: an entry's line, read, says the entry (both forms); an escaped name says the name; no walk. Conditions: none. Walk: the law on lines read back (quernlaw26.SumsBack). Conditions: lengths within the reach; the library's table of tens and its errors as laid. Plain law: what is read is a right entry; printed lines are the rows of their text; they are read back (no walk). Conditions: none. The law SumsAgain walked. Conditions: texts of at most 1048576 bytes; the library's table of tens and its errors as laid. -/
import Derived.Test.YtmnkdkibhchglaaGreatDoorM1
import Derived.Deep.CutBlock
import Derived.Test.YtmnkdkibhchglaaGreatDoorTr
import Derived.Test.YtmnkdkibhchglaaGreatDoorTs
import Derived.Test.YtmnkdkibhchglaaGreatDoorLrd
import Derived.StillTailTactics
import Derived.BigQuiet
import Derived.Test.YtmnkdkibhchglaaGreatDoorTq
import Derived.Deep.RegionHeld3
namespace Go.Proofs.YtmnkdkibhchglaaGreatDoor
open Go.RowKit
set_option linter.unusedVariables false
attribute [local go_sem ↓] Go.wp_at_zero Go.wp_at_succ
attribute [local go_sem] Oper.semAt_some

theorem resL {tmps : Array Value} {W : World} {a b c : Nat} {x y z : Value} (h4 : tmps[4]? = some (.pointer (some ⟨a, 0, none⟩))) (h5 : tmps[5]? = some (.pointer (some ⟨b, 0, none⟩))) (h6 : tmps[6]? = some (.pointer (some ⟨c, 0, none⟩)))
    (hx : Blk W a 22 #[x]) (hy : Blk W b 23 #[y]) (hz : Blk W c 24 #[z]) : (results Tryz.f5 tmps).run Tryz.prog W = .ok (.tuple #[x, y, z]) W := by
  have cx := hx.cell 0
  have cy := hy.cell 0
  have cz := hz.cell 0
  simp [results, Tryz.results5, go_sem, h4, h5, h6, cx, cy, cz]
/-- The three results stored. -/
theorem set3 {W : World} {a b c : Nat} {ta tb tc : TypeId} {x y z x0 y0 z0 : Value} (hab : a ≠ b) (hac : a ≠ c) (hbc : b ≠ c) (h1 : Blk W a ta #[x0]) (h2 : Blk W b tb #[y0]) (h3 : Blk W c tc #[z0]) :
    Blk (((W.setCell ⟨a, 0, none⟩ x).setCell ⟨b, 0, none⟩ y).setCell ⟨c, 0, none⟩ z) a ta #[x] ∧ Blk (((W.setCell ⟨a, 0, none⟩ x).setCell ⟨b, 0, none⟩ y).setCell ⟨c, 0, none⟩ z) b tb #[y] ∧ Blk (((W.setCell ⟨a, 0, none⟩ x).setCell ⟨b, 0, none⟩ y).setCell ⟨c, 0, none⟩ z) c tc #[z] :=
  ⟨((h1.set_ 0 x).far (p := ⟨b, 0, none⟩) hab y).far (p := ⟨c, 0, none⟩) hac z, ((h2.far (p := ⟨a, 0, none⟩) (Ne.symm hab) x).set_ 0 y).far (p := ⟨c, 0, none⟩) hbc z, ((h3.far (p := ⟨a, 0, none⟩) (Ne.symm hac) x).far (p := ⟨b, 0, none⟩) (Ne.symm hbc) y).set_ 0 z⟩
theorem own_neD {W : World} {base n size D : Nat} {e : TypeId} {v : Value} {xs : List Value} {o : Obj} (h : W.ownsRow base e size v n xs) (hD : W.heap[D]? = some o) (hc : o.isCells = false) : v.ownBlock = none ∨ v.ownBlock ≠ some D := by
  rcases h.2 with ⟨rfl, _⟩ | ⟨g, cap, cur, rfl, hge, hh, _⟩
  · exact .inl rfl
  · refine .inr fun e => ?_
    have : g = D := by simpa [Value.ownBlock] using e
    subst this
    rw [hh] at hD; cases hD; cases hc
/-- The way out, behind the loop. -/
theorem leaveL {w V : World} {D a b c : Nat} {tmps : Array Value} {es : List Sm} {ns : List Nat} {er : Int} {x y : Value} {E : List EnL} (h4 : tmps[4]? = some (.pointer (some ⟨a, 0, none⟩))) (h5 : tmps[5]? = some (.pointer (some ⟨b, 0, none⟩))) (h6 : tmps[6]? = some (.pointer (some ⟨c, 0, none⟩)))
    (hx : Blk V a 22 #[x]) (hy : Blk V b 23 #[y]) (hz : Blk V c 24 #[.int .i64 er]) (hD : V.heap[D]? = some (.deferred (some []))) (hls : LsI w.heap.size V x y E ns) (he : E.map (·.e) = es) (hb : Below w.heap.size w V) (hwD : w.heap.size ≤ D) :
    bodyPostM Fence.wide 9 Tryz.prog Tryz.f5 (OutL w es ns er) Exit.ret { tmps := tmps, defers := [{ target := .collected D, args := #[] }] } V := by
  have hgr := grownBy_putObj' V D (.deferred none)
  have hne : ∀ {g : Nat} {t : TypeId} {cs : Array Value}, Blk V g t cs → some g ≠ some D := fun h e => by
    have h2 : V.heap[_]? = some _ := h
    cases e
    rw [h2] at hD; cases hD
  refine ⟨by simp, .inl ⟨_, _, rfl, run_takeDeferred hD, ?_⟩⟩
  refine ⟨_, resL h4 h5 h6 (hx.grown hgr (hne hx)) (hy.grown hgr (hne hy)) (hz.grown hgr (hne hz)), ?_⟩
  exact ⟨x, y, E, rfl, hls.kept (fun h => h.kept hgr (own_neD h hD rfl)), he, hb.grown hgr hb.size (fun r e => by have : D = r := Option.some.inj e; omega)⟩
theorem c_lines (T : ByteArray) (w : World) : Calls Tryz.prog 11 #[.string T] w fun e w' => e = .returned (.func (.func 21) #[] #[.pointer (some ⟨w.heap.size, 0, none⟩)]) ∧ w' = w.alloc (.cells #[.string T] 9) := by
  go_enter Tryz.func11, Tryz.ntmps11
  go_wp2
  go_ret
  exact ⟨rfl, rfl⟩
set_option maxRecDepth 100000 in
set_option maxHeartbeats 16000000 in
theorem c_List (T : ByteArray) (p : Int) (w : World) (hT : T.size ≤ 10000000000) (hL : Laid w) :
    Calls Tryz.prog 5 #[.string T, .int .i64 p] w (OutL w (lsA T.data.toList p).1 (lsA T.data.toList p).2.1 (lsA T.data.toList p).2.2) := by
  have HO := Lib.hid (fun W => c_of p W)
  unfold wayV at HO
  have HW0 := Lib.hid (smost_wrd (p := p))
  have hLA : lsA T.data.toList p = if smost p = 0 then ([], [], (1 : Int)) else match listF p (rowsS T.data.toList) with
    | .inl n => ([], [n], (260 : Int))
    | .inr es => if 65536 < es.length then ([], [], (2 : Int)) else (es.map (·.1), es.map (·.2), (0 : Int)) := rfl
  generalize lsA T.data.toList p = LA at *
  have HLA := Lib.hid hLA
  clear hLA
  have h6 := hL.lt
  have HLD := Lib.hid hL
  clear hL
  have hfl := fun W => fld_word (bstr (swrd p)) (.int .i64 (smost p : Nat)) (.int .i64 (skind p)) (.bool (decide (p = 3 ∨ p = 4))) W
  have HK0 := Lib.hid ((((Blk.new w 27 #[.int .i64 p]).alloc (.cells #[.slice none 0 0] 22)).alloc (.cells #[.slice none 0 0] 23)).alloc (.cells #[.int .i64 0] 24))
  have HR1 : Hid (Blk ((((w.alloc (.cells #[.int .i64 p] 27)).alloc (.cells #[.slice none 0 0] 22)).alloc (.cells #[.slice none 0 0] 23)).alloc (.cells #[.int .i64 0] 24)) (w.heap.size + 1) 22 #[.slice none 0 0]) := by
    have := ((Blk.new (w.alloc (.cells #[.int .i64 p] 27)) 22 #[.slice none 0 0]).alloc (.cells #[.slice none 0 0] 23)).alloc (.cells #[.int .i64 0] 24)
    rwa [World.size_alloc] at this
  have HR2 : Hid (Blk ((((w.alloc (.cells #[.int .i64 p] 27)).alloc (.cells #[.slice none 0 0] 22)).alloc (.cells #[.slice none 0 0] 23)).alloc (.cells #[.int .i64 0] 24)) (w.heap.size + 1 + 1) 23 #[.slice none 0 0]) := by
    have := (Blk.new ((w.alloc (.cells #[.int .i64 p] 27)).alloc (.cells #[.slice none 0 0] 22)) 23 #[.slice none 0 0]).alloc (.cells #[.int .i64 0] 24)
    rwa [World.size_alloc, World.size_alloc] at this
  have HR3 : Hid (Blk ((((w.alloc (.cells #[.int .i64 p] 27)).alloc (.cells #[.slice none 0 0] 22)).alloc (.cells #[.slice none 0 0] 23)).alloc (.cells #[.int .i64 0] 24)) (w.heap.size + 1 + 1 + 1) 24 #[.int .i64 0]) := by
    have := Blk.new (((w.alloc (.cells #[.int .i64 p] 27)).alloc (.cells #[.slice none 0 0] 22)).alloc (.cells #[.slice none 0 0] 23)) 24 #[.int .i64 0]
    rwa [World.size_alloc, World.size_alloc, World.size_alloc] at this
  have HBL : Hid (Below w.heap.size w ((((w.alloc (.cells #[.int .i64 p] 27)).alloc (.cells #[.slice none 0 0] 22)).alloc (.cells #[.slice none 0 0] 23)).alloc (.cells #[.int .i64 0] 24))) := ((((Below.refl w.heap.size w).alloc (Nat.le_refl _) _).alloc (by simp) _).alloc (by simp; omega) _).alloc (by simp; omega) _
  have HL0 : Hid (Laid ((((w.alloc (.cells #[.int .i64 p] 27)).alloc (.cells #[.slice none 0 0] 22)).alloc (.cells #[.slice none 0 0] 23)).alloc (.cells #[.int .i64 0] 24))) := HLD.out.below HBL.out
  refine (callsIn_wide (n := 9)).1 ?_
  refine callsIn_of_wp_marks Tryz.func5 rfl trivial ?_ rfl
  simp only [Tryz.ntmps5, List.size_toArray, List.length_cons, List.length_nil, Nat.reduceAdd, Nat.reduceSub, Array.replicate_succ, Array.replicate_zero, List.push_toArray, List.append_toArray, List.nil_append, List.cons_append]
  have k0 := HK0.out.cell 0
  gi_wp2
  clear k0
  generalize ((((w.alloc (.cells #[.int .i64 p] 27)).alloc (.cells #[.slice none 0 0] 22)).alloc (.cells #[.slice none 0 0] 23)).alloc (.cells #[.int .i64 0] 24)) = w0 at *
  refine ⟨trivial, (callsIn_wide.2 (HO.out w0)).mono ?_⟩
  rintro e w1 ⟨rfl, hb1⟩
  have hs0 := HR3.out.lt
  have HK0 := Lib.hid (HK0.out.below hb1 (by omega))
  have HR1 := Lib.hid (HR1.out.below hb1 (by omega))
  have HR2 := Lib.hid (HR2.out.below hb1 (by omega))
  have HR3 := Lib.hid (HR3.out.below hb1 (by omega))
  have HBL := Lib.hid (below_step HBL.out hb1)
  have HL0 := Lib.hid (HL0.out.below hb1)
  have hs1 := hb1.size
  clear hb1 HO
  have k0 := HK0.out.cell 0
  have c1 := HR1.out.cell 0
  have f1 := HR1.out.frozen 0
  have c2 := HR2.out.cell 0
  have f2 := HR2.out.frozen 0
  have c3 := HR3.out.cell 0
  have f3 := HR3.out.frozen 0
  by_cases h0 : smost p = 0
  · have hwd := HW0.out.1 h0
    clear HW0
    rw [if_pos h0] at HLA
    obtain rfl : LA = ([], [], (1 : Int)) := HLA.out
    simp only [hwd] at hfl ⊢
    clear HLA HLD h0
    generalize smost p = M at *
    generalize skind p = K at *
    generalize decide (p = 3 ∨ p = 4) = dl at *
    gi_wp2
    have HR1 := HR1.out.set_ 0 (.slice none 0 0)
    have HR1' := (HR1.far (p := ⟨w.heap.size + 1 + 1, 0, none⟩) (by show w.heap.size + 1 ≠ w.heap.size + 1 + 1; omega) (.slice none 0 0)).far (p := ⟨w.heap.size + 1 + 1 + 1, 0, none⟩) (by show w.heap.size + 1 ≠ w.heap.size + 1 + 1 + 1; omega) (.int .i64 1)
    have HR2' := ((HR2.out.far (p := ⟨w.heap.size + 1, 0, none⟩) (by show w.heap.size + 1 + 1 ≠ w.heap.size + 1; omega) (.slice none 0 0)).set_ 0 (.slice none 0 0)).far (p := ⟨w.heap.size + 1 + 1 + 1, 0, none⟩) (by show w.heap.size + 1 + 1 ≠ w.heap.size + 1 + 1 + 1; omega) (.int .i64 1)
    have HR3' := ((HR3.out.far (p := ⟨w.heap.size + 1, 0, none⟩) (by show w.heap.size + 1 + 1 + 1 ≠ w.heap.size + 1; omega) (.slice none 0 0)).far (p := ⟨w.heap.size + 1 + 1, 0, none⟩) (by show w.heap.size + 1 + 1 + 1 ≠ w.heap.size + 1 + 1; omega) (.slice none 0 0)).set_ 0 (.int .i64 1)
    refine ⟨_, resL rfl rfl rfl HR1' HR2' HR3', _, _, [], rfl, LsI.nil_ _ _, rfl, ?_⟩
    exact ((HBL.out.setCell (p := ⟨w.heap.size + 1, 0, none⟩) (by simp) _).setCell (p := ⟨w.heap.size + 1 + 1, 0, none⟩) (by simp; omega) _).setCell (p := ⟨w.heap.size + 1 + 1 + 1, 0, none⟩) (by simp; omega) _
  have hwd : ¬ swrd p = [] := fun h => h0 (HW0.out.2 h)
  have e1 : (swrd p).isEmpty = false := by rw [List.isEmpty_eq_false_iff]; exact hwd
  rw [if_neg h0] at HLA
  clear HW0 HLD
  generalize swrd p = wd at *
  generalize smost p = M at *
  generalize skind p = K at *
  generalize decide (p = 3 ∨ p = 4) = dl at *
  gi_wp2_with (refine ⟨trivial, ?_⟩; gi_at_call 11; refine (callsIn_wide.2 (c_lines T _)).mono ?_; rintro e w4 ⟨rfl, rfl⟩)
  have HQ0 := Lib.hid (HK0.out)
  obtain ⟨XS, hXS⟩ : ∃ XS, rowsS T.data.toList = XS := ⟨_, rfl⟩
  have hseq := lines_seq 8 T (by omega) (w1.heap.size + 1 + 1) (((w1.alloc (.cells #[.slice none 0 0] 22)).alloc (.cells #[.slice none 0 0] 23)).alloc (.cells #[.string T] 9)) (by
    have := Blk.new ((w1.alloc (.cells #[.slice none 0 0] 22)).alloc (.cells #[.slice none 0 0] 23)) 9 #[.string T]
    rwa [World.size_alloc, World.size_alloc] at this)
  rw [hXS] at hseq HLA
  have hXL : XS.length ≤ 10000000000 := by rw [← hXS]; exact Nat.le_trans (rowsS_len _) hT
  have hXT : ∀ (i : Nat) (x : Nat × List UInt8), XS[i]? = some x → x.1 ≤ 10000000000 ∧ x.2.length ≤ 10000000000 := fun i x h => by
    rw [← hXS] at h
    have := rowsS_get h
    have h2 : T.data.toList.length = T.size := rfl
    omega
  clear hXS
  have hw1 : w.heap.size + 4 ≤ w1.heap.size := by omega
  have hI0 : LpI w w1.heap.size p XS 0 (((w1.alloc (.cells #[.slice none 0 0] 22)).alloc (.cells #[.slice none 0 0] 23)).alloc (.cells #[.string T] 9)) := by
    refine ⟨.slice none 0 0, .slice none 0 0, [], ((HK0.out.alloc _).alloc _).alloc _, ((HR1.out.alloc _).alloc _).alloc _, ((HR2.out.alloc _).alloc _).alloc _, ((HR3.out.alloc _).alloc _).alloc _, ((Blk.new _ _ _).alloc _).alloc _, ?_, LsI.nil_ _ _, rfl, by intro x hx; simp at hx, ?_, ?_, by simp⟩
    · have := (Blk.new (w1.alloc (.cells #[.slice none 0 0] 22)) 23 #[.slice none 0 0]).alloc (.cells #[.string T] 9)
      rwa [World.size_alloc] at this
    · exact HL0.out.below (((Below.refl _ _).alloc (Nat.le_refl _) _).alloc (by simp) _ |>.alloc (by simp; omega) _)
    · exact ((HBL.out.alloc (by omega) _).alloc (by simp; omega) _).alloc (by simp; omega) _
  have hsz4 : (((w1.alloc (.cells #[.slice none 0 0] 22)).alloc (.cells #[.slice none 0 0] 23)).alloc (.cells #[.string T] 9)).heap.size = w1.heap.size + 1 + 1 + 1 := by simp
  clear HK0 HR1 HR2 HR3 HBL HL0 k0 c1 f1 c2 f2 c3 f3 hs0 hs1 HQ0
  generalize ((w1.alloc (.cells #[.slice none 0 0] 22)).alloc (.cells #[.slice none 0 0] 23)).alloc (.cells #[.string T] 9) = w4 at *
  generalize w1.heap.size = L at *
  clear hfl
  refine wpIn_rangeFunc_T rfl (by omega) (gf := 21) (lb := #[.pointer (some ⟨L + 1 + 1, 0, none⟩)]) rfl trivial (enters_of Tryz.func21 (by kernel_rfl) rfl)
    (tb := L + 1 + 1) (by omega) hseq (fun i => rowE_size XS i) (LpI w L p XS) (LpX w L p XS) (by rw [hsz4]; exact LpI.ownT hw1 h6) (fun c => by rw [hsz4]; exact LpX.ownT hw1 c) hI0
    (fun i => { tmps := #[.string T, .int .i64 p, undef, .pointer (some ⟨w.heap.size, 0, none⟩), .pointer (some ⟨w.heap.size + 1, 0, none⟩), .pointer (some ⟨w.heap.size + 1 + 1, 0, none⟩), .pointer (some ⟨w.heap.size + 1 + 1 + 1, 0, none⟩), .pointer (some ⟨L, 0, none⟩), .pointer (some ⟨L + 1, 0, none⟩), .int .i64 (rN XS i : Int), bstr (rT XS i), undef, undef, undef,
      .int .i64 p, .agg #[bstr wd, .int .i64 (M : Int), .int .i64 K, .bool dl], bstr wd, .bool false, .string T, .func (.func 21) #[] #[.pointer (some ⟨L + 1 + 1, 0, none⟩)], .int .i64 (rN XS i : Int), bstr (rT XS i), undef, undef, undef, undef, undef, undef, undef, undef, undef, undef, undef, undef, undef, undef, undef, undef, undef, undef, undef, undef, undef, undef, undef, undef], defers := [] }) ?assign ?body ?done ?stop
  case assign =>
    intro l i W K hK
    unfold rowE
    gi_wp2
    exact hK
  case body =>
    rintro l i W hlt ⟨A, B, E, k0, k1, k2, k3, k4, k5, hls, he, hok, hld, hb, hzW⟩
    rw [hsz4]
    obtain ⟨x, hx⟩ : ∃ x, XS[i]? = some x := ⟨_, List.getElem?_eq_getElem hlt⟩
    obtain ⟨hx1, hx2⟩ := hXT i x hx
    have hrN : rN XS i = x.1 := by unfold rN; rw [List.getD_eq_getElem?_getD, hx]; rfl
    have hrT : rT XS i = x.2 := by unfold rT; rw [List.getD_eq_getElem?_getD, hx]; rfl
    have htk : XS.take (i + 1) = XS.take i ++ [x] := by rw [List.take_add_one, hx]; rfl
    have hsp : XS = XS.take i ++ x :: XS.drop (i + 1) := by
      have h1 := List.take_append_drop i XS
      rw [List.drop_eq_getElem_cons hlt] at h1
      have h2 : XS[i] = x := by
        have := hx; rw [List.getElem?_eq_getElem hlt] at this; exact Option.some.inj this
      rw [h2] at h1; exact h1.symm
    have hA0 := own_ltG hls.rowA
    have HRD := Lib.hid (c_Read (rowB x) p W (by show x.2.length ≤ _; omega) hld)
    rw [hrN, hrT]
    have HSP := Lib.hid hsp
    have HTK := Lib.hid htk
    have HOK := Lib.hid hok
    have HE := Lib.hid he
    have HLS := Lib.hid hls
    have HXx := Lib.hid (show ∀ e i er, rdA (rowB x) p = (e, i, er) → (rdA (rowB x) p).1 = e ∧ (rdA (rowB x) p).2.2 = er from fun e i er h => by rw [h]; exact ⟨rfl, rfl⟩)
    obtain ⟨e, j, er, hR⟩ : ∃ e j er, rdA (rowB x) p = (e, j, er) := ⟨_, _, _, rfl⟩
    have HR := Lib.hid hR
    rw [hR] at HRD
    clear hrN hrT hsp htk hok he hls HXx hR hx hXT hseq hI0 HLA hlt
    have c0 := k0.cell 0
    have K0 := Lib.hid k0
    have K1 := Lib.hid k1
    have K2 := Lib.hid k2
    have K3 := Lib.hid k3
    have K4 := Lib.hid k4
    have K5 := Lib.hid k5
    have HB := Lib.hid hb
    have HLD := Lib.hid hld
    clear k0 k1 k2 k3 k4 k5 hb hld HBL HL0 HR1 HR2 HR3
    obtain ⟨xn, xt⟩ := x
    simp only [rowB] at *
    gi_wp2
    clear c0
    refine ⟨trivial, CallsIn.inRound l (callsIn_wide.2 (HRD.out.mono ?_))⟩
    rintro ev w2 ⟨D, c, rfl, ho, hb2⟩
    have hz2 := hb2.size
    have B2 : Bd (L + 1 + 1 + 1) (L + 1 + 1) W w2 := Bd.below hb2 (by omega)
    have hb3 : Below w2.heap.size w2 (w2.alloc (.cells (smC e D e.dg.length c) 33)) := (Below.refl _ _).alloc (Nat.le_refl _) _
    have B3 := Lib.hid (B2.trans (Bd.below (B := L + 1 + 1 + 1) hb3 (by omega)))
    have K0 := Lib.hid ((K0.out.below hb2 K0.out.lt).alloc (.cells (smC e D e.dg.length c) 33))
    have K1 := Lib.hid ((K1.out.below hb2 K1.out.lt).alloc (.cells (smC e D e.dg.length c) 33))
    have K2 := Lib.hid ((K2.out.below hb2 K2.out.lt).alloc (.cells (smC e D e.dg.length c) 33))
    have K3 := Lib.hid ((K3.out.below hb2 K3.out.lt).alloc (.cells (smC e D e.dg.length c) 33))
    have K4 := Lib.hid ((K4.out.below hb2 K4.out.lt).alloc (.cells (smC e D e.dg.length c) 33))
    have K5 := Lib.hid ((K5.out.below hb2 K5.out.lt).alloc (.cells (smC e D e.dg.length c) 33))
    have K6 := Lib.hid (Blk.new w2 33 (smC e D e.dg.length c))
    have HLS := Lib.hid (HLS.out.kept (fun h => own_below (own_below h hb2) hb3))
    have HO := Lib.hid (own_base (own_below ho hb3) hzW)
    have HB := Lib.hid (below_step (below_step HB.out hb2) hb3)
    have HLD := Lib.hid ((HLD.out.below hb2).below hb3)
    have hz3 : (w2.alloc (.cells (smC e D e.dg.length c) 33)).heap.size = w2.heap.size + 1 := by simp
    clear hb2 ho B2 hb3 HRD
    by_cases her : er = 0
    · subst her
      gi_wp2
      generalize w2.alloc (.cells (smC e D e.dg.length c) 33) = w3 at *
      --REGION
      have hS2 : w2.heap.size < w3.heap.size := K6.out.lt
      have hEn : E.length ≤ 10000000000 := by
        have := congrArg List.length HE.out
        simp only [List.length_map, List.length_take] at this
        omega
      have HRS0 : RS w W L w2.heap.size p A B ⟨e, D, c⟩ A B E ((XS.take i).map (·.1)) w3 := ⟨K0.out, K1.out, K2.out, K3.out, K4.out, K5.out, K6.out, HLS.out, HO.out, HB.out, HLD.out, B3.out, by omega, fun g hg => by have := hA0 g hg; omega⟩
      have hNn : ((XS.take i).map (·.1)).length ≤ 10000000000 := by simp only [List.length_map, List.length_take]; omega
      have HNS : Hid (((XS.take (i + 1)).map (·.1)) = ((XS.take i).map (·.1)) ++ [xn]) := by show _ = _; rw [HTK.out, List.map_append]; rfl
      have HES : Hid ((E ++ [(⟨e, D, c⟩ : EnL)]).map (·.e) = (XS.take (i + 1)).map (fun x => (rdA (rowB x) p).1)) := by
        show _ = _
        rw [HTK.out, List.map_append, List.map_append, HE.out]
        have h : (rdA (⟨xt.toArray⟩ : ByteArray) p).1 = e := by rw [HR.out]
        simp only [List.map_cons, List.map_nil, rowB, h]
      have HOS : Hid (okL p (XS.take (i + 1))) := by
        show okL p _
        rw [HTK.out]
        intro y hy
        rcases List.mem_append.1 hy with hy | hy
        · exact HOK.out y hy
        · rw [List.mem_singleton.1 hy]
          show (rdA (⟨xt.toArray⟩ : ByteArray) p).2.2 = 0
          rw [HR.out]
      clear K0 K1 K2 K3 K4 K5 K6 HLS HO HB HLD B3 HTK HOK HR HE HSP hA0
      generalize (XS.take i).map (·.1) = NS at *
      generalize w2.heap.size = S0 at *
      obtain ⟨iS, hiS, hzS, hsS, hbS⟩ := info_parts sum_info
      obtain ⟨iI, hiI, hzI, hsI, hbI⟩ := info_parts int_info
      have HR0 := HRS0.below (V' := w3.drew) (Below.refl _ _).drew
      have hs0' : S0 < w3.drew.heap.size := hS2
      refine region_roundF (F := fun j V => (j < 8 → Blk V L 22 #[A] ∧ Blk V S0 33 (enC ⟨e, D, c⟩)) ∧ (j < 9 → Blk V (L + 1) 23 #[B])) 7 l (by kernel_rfl) (by kernel_rfl) (by rintro ⟨a, w, h⟩; exact h) ?_
      generalize w3.drew = v0 at *
      clear HRS0 hS2
      refine wpAnyF_take (i := 0) (v := A) (G := fun V => Blk V L 22 #[A] ∧ Blk V S0 33 (enC ⟨e, D, c⟩) ∧ Blk V (L + 1) 23 #[B]) rfl (by kernel_rfl) (by kernel_rfl) (by kernel_rfl) (fun _ _ _ h => h) (fun V h => ⟨fun _ => ⟨h.1, h.2.1⟩, fun _ => h.2.2⟩) (fun j oj V ho hn hF => by have h8 := waits_lt (m := 8) (by kernel_rfl) ho hn; exact ⟨(hF.1 h8).1, (hF.1 h8).2, hF.2 (by omega)⟩) (.inl ⟨by rfl, fun V h => by have c := h.1.cell 0; go_simp⟩) ⟨HR0.k4, HR0.k6, HR0.k5⟩ ?_
      refine wpAnyF_take (i := 1) (v := .agg (enC ⟨e, D, c⟩)) (G := fun V => Blk V L 22 #[A] ∧ Blk V S0 33 (enC ⟨e, D, c⟩) ∧ Blk V (L + 1) 23 #[B]) rfl (by kernel_rfl) (by kernel_rfl) (by kernel_rfl) (fun _ _ _ h => h) (fun V h => ⟨fun _ => ⟨h.1, h.2.1⟩, fun _ => h.2.2⟩) (fun j oj V ho hn hF => by have h8 := waits_lt (m := 8) (by kernel_rfl) ho hn; exact ⟨(hF.1 h8).1, (hF.1 h8).2, hF.2 (by omega)⟩) (.inl ⟨by rfl, fun V h => by
        have c0 := h.2.1.cell 0
        have c1 := h.2.1.cell 1
        have c2 := h.2.1.cell 2
        have c3 := h.2.1.cell 3
        go_simp⟩) ⟨HR0.k4, HR0.k6, HR0.k5⟩ ?_
      refine wpAnyF_all (rs := [2, 4, 5]) (by kernel_rfl) (by decide) ?_
      refine wpAnyF_cons rfl rfl (fun K hK => ?_) (wpAnyF_cons rfl rfl (fun K hK => ?_) (wpAnyF_cons rfl rfl (fun K hK => ?_) wpAnyF_nil))
      · refine wp_built1 22 33 (.tmp 34) (.agg (enC ⟨e, D, c⟩)) rfl (by rfl) Tryz.underlying22 (enC ⟨e, D, c⟩) (built_sum ⟨e, D, c⟩) ?_
        have hb2 : Below v0.heap.size v0 (v0.alloc (.cells (enC ⟨e, D, c⟩) 33)) := (Below.refl _ _).alloc (Nat.le_refl _) _
        have HR2 := HR0.below hb2
        have HG2_2 := Blk.new v0 33 (enC ⟨e, D, c⟩)
        have hs2 := Nat.lt_of_lt_of_le hs0' hb2.size
        clear hb2
        generalize v0.alloc (.cells (enC ⟨e, D, c⟩) 33) = v2 at *
        generalize v0.heap.size = g2 at *
        refine hK _ _ ⟨fun _ => ⟨HR2.k4, HR2.k6⟩, fun _ => HR2.k5⟩ ?_
        clear hK
        simp only [Act.put, List.getElem_toArray, List.getElem_cons_succ, List.getElem_cons_zero, List.setIfInBounds_toArray, List.set_cons_succ, List.set_cons_zero]
        refine wpAnyF_all (rs := [3, 4, 5]) (by kernel_rfl) (by decide) ?_
        refine wpAnyF_cons rfl rfl (fun K hK => ?_) (wpAnyF_cons rfl rfl (fun K hK => ?_) (wpAnyF_cons rfl rfl (fun K hK => ?_) wpAnyF_nil))
        · refine wp_append_any _ (.tmp 33) (.tmp 35) 22 rfl (L + 1 + 1 + 1) 33 iS _ 4 56 Tryz.underlying22 hiS hzS hsS hbS rfl (by decide) A _ _ (by rfl) HR2.ls.rowA (g2 + 1) (some ⟨g2, 0, none⟩) 1 1 (enC ⟨e, D, c⟩).toList (by rfl) (blk_reads HG2_2 rfl) (fun u hu => List.all_eq_true.1 (show (enC ⟨e, D, c⟩).toList.all (·.oneCell') = true from rfl) u hu) (by simp only [maxLen]; omega) (by omega) HR2.hz ?_
          intro A1 v3 hown3 hg3 hob3
          have HR3 := HR2.appA hw1 h6 hs2 hown3 hg3 hob3
          have hs3 := Nat.lt_of_lt_of_le hs2 hg3.size
          clear hown3 hg3 hob3
          refine hK _ _ ⟨fun _ => ⟨HR3.k4, HR3.k6⟩, fun _ => HR3.k5⟩ ?_
          clear hK
          simp only [Act.put, List.getElem_toArray, List.getElem_cons_succ, List.getElem_cons_zero, List.setIfInBounds_toArray, List.set_cons_succ, List.set_cons_zero]
          refine wpAnyF_all (rs := [4, 5]) (by kernel_rfl) (by decide) ?_
          refine wpAnyF_cons rfl rfl (fun K hK => ?_) (wpAnyF_cons rfl rfl (fun K hK => ?_) wpAnyF_nil)
          · have c4 := HR3.k5.cell 0
            refine wp_value (v := B) (by go_simp) ?_
            clear c4
            refine hK _ _ ⟨fun _ => ⟨HR3.k4, HR3.k6⟩, fun _ => HR3.k5⟩ ?_
            clear hK
            simp only [Act.put, List.getElem_toArray, List.getElem_cons_succ, List.getElem_cons_zero, List.setIfInBounds_toArray, List.set_cons_succ, List.set_cons_zero]
            refine wpAnyF_all (rs := [5]) (by kernel_rfl) (by decide) ?_
            refine wpAnyF_cons rfl rfl (fun K hK => ?_) wpAnyF_nil
            · refine wp_value (v := .int .i64 (xn : Int)) (by rfl) ?_
              refine hK _ _ ⟨fun _ => ⟨HR3.k4, HR3.k6⟩, fun _ => HR3.k5⟩ ?_
              clear hK
              simp only [Act.put, List.getElem_toArray, List.getElem_cons_succ, List.getElem_cons_zero, List.setIfInBounds_toArray, List.set_cons_succ, List.set_cons_zero]
              refine wpAnyF_all (rs := [6]) (by kernel_rfl) (by decide) ?_
              refine wpAnyF_cons rfl rfl (fun K hK => ?_) wpAnyF_nil
              · refine wp_built1 23 3 (.tmp 38) (.int .i64 (xn : Int)) rfl (by rfl) Tryz.underlying23 #[.int .i64 (xn : Int)] (built_int _) ?_
                have hb6 : Below v3.heap.size v3 (v3.alloc (.cells #[.int .i64 (xn : Int)] 3)) := (Below.refl _ _).alloc (Nat.le_refl _) _
                have HR6 := HR3.below hb6
                have HG6_6 := Blk.new v3 3 #[.int .i64 (xn : Int)]
                have hs6 := Nat.lt_of_lt_of_le hs3 hb6.size
                clear hb6
                generalize v3.alloc (.cells #[.int .i64 (xn : Int)] 3) = v6 at *
                generalize v3.heap.size = g6 at *
                refine hK _ _ ⟨fun _ => ⟨HR6.k4, HR6.k6⟩, fun _ => HR6.k5⟩ ?_
                clear hK
                simp only [Act.put, List.getElem_toArray, List.getElem_cons_succ, List.getElem_cons_zero, List.setIfInBounds_toArray, List.set_cons_succ, List.set_cons_zero]
                refine wpAnyF_all (rs := [7]) (by kernel_rfl) (by decide) ?_
                refine wpAnyF_cons rfl rfl (fun K hK => ?_) wpAnyF_nil
                · refine wp_append_any _ (.tmp 37) (.tmp 39) 23 rfl (L + 1 + 1 + 1) 3 iI _ 1 8 Tryz.underlying23 hiI hzI hsI hbI rfl (by decide) B _ _ (by rfl) HR6.ls.rowB (g6 + 1) (some ⟨g6, 0, none⟩) 1 1 [.int .i64 (xn : Int)] (by rfl) (blk_reads HG6_6 rfl) (by intro u hu; rw [List.mem_singleton.1 hu]; rfl) (by simp only [maxLen]; omega) (by omega) HR6.hz ?_
                  intro B1 v7 hown7 hg7 _
                  have HR7 := HR6.appB hw1 h6 hown7 hg7
                  clear hown7 hg7
                  refine hK _ _ ⟨fun _ => ⟨HR7.k4, HR7.k6⟩, fun _ => HR7.k5⟩ ?_
                  clear hK
                  simp only [Act.put, List.getElem_toArray, List.getElem_cons_succ, List.getElem_cons_zero, List.setIfInBounds_toArray, List.set_cons_succ, List.set_cons_zero]
                  refine wpAnyF_all (rs := [8]) (by kernel_rfl) (by decide) ?_
                  refine wpAnyF_cons rfl rfl (fun K hK => ?_) wpAnyF_nil
                  obtain ⟨a1, q1, rfl⟩ := own_slG HR7.ls.rowA
                  obtain ⟨a2, q2, rfl⟩ := own_slG HR7.ls.rowB
                  refine wp_skip (w' := v7.setCell ⟨L, 0, none⟩ (.slice a1 (E ++ [(⟨e, D, c⟩ : EnL)]).length q1)) (by have cc := HR7.k4.cell 0; have f := HR7.k4.frozen 0; go_simp) ?_
                  refine hK _ _ ⟨fun h => absurd h (by decide), fun _ => HR7.k5.far (p := ⟨L, 0, none⟩) (by show L + 1 ≠ L; omega) _⟩ ?_
                  refine wpAnyF_all (rs := [9]) (by kernel_rfl) (by decide) ?_
                  refine wpAnyF_cons rfl rfl (fun K hK => ?_) wpAnyF_nil
                  have HB5 := HR7.k5.far (p := ⟨L, 0, none⟩) (by show L + 1 ≠ L; omega) (.slice a1 (E ++ [(⟨e, D, c⟩ : EnL)]).length q1)
                  refine wp_skip (w' := (v7.setCell ⟨L, 0, none⟩ (.slice a1 (E ++ [(⟨e, D, c⟩ : EnL)]).length q1)).setCell ⟨L + 1, 0, none⟩ (.slice a2 (NS ++ [xn]).length q2)) (by have cc := HR7.k5.cell 0; have ff := HR7.k5.frozen 0; have cd := HB5.cell 0; have fd := HB5.frozen 0; go_simp) ?_
                  refine hK _ _ ⟨fun h => absurd h (by decide), fun h => absurd h (by decide)⟩ ?_
                  refine wpAnyF_done (by kernel_rfl) ?_
                  have hfin := HR7.fin hw1 h6 HES.out HNS.out.symm HOS.out
                  exact ⟨hfin.1.1, hfin.1.2, hfin.2⟩
          · refine wp_value (v := .int .i64 (xn : Int)) (by rfl) ?_
            refine hK _ _ ⟨fun _ => ⟨HR3.k4, HR3.k6⟩, fun _ => HR3.k5⟩ ?_
            clear hK
            simp only [Act.put, List.getElem_toArray, List.getElem_cons_succ, List.getElem_cons_zero, List.setIfInBounds_toArray, List.set_cons_succ, List.set_cons_zero]
            refine wpAnyF_all (rs := [4, 6]) (by kernel_rfl) (by decide) ?_
            refine wpAnyF_cons rfl rfl (fun K hK => ?_) (wpAnyF_cons rfl rfl (fun K hK => ?_) wpAnyF_nil)
            · have c4 := HR3.k5.cell 0
              refine wp_value (v := B) (by go_simp) ?_
              clear c4
              refine hK _ _ ⟨fun _ => ⟨HR3.k4, HR3.k6⟩, fun _ => HR3.k5⟩ ?_
              clear hK
              simp only [Act.put, List.getElem_toArray, List.getElem_cons_succ, List.getElem_cons_zero, List.setIfInBounds_toArray, List.set_cons_succ, List.set_cons_zero]
              refine wpAnyF_all (rs := [6]) (by kernel_rfl) (by decide) ?_
              refine wpAnyF_cons rfl rfl (fun K hK => ?_) wpAnyF_nil
              · refine wp_built1 23 3 (.tmp 38) (.int .i64 (xn : Int)) rfl (by rfl) Tryz.underlying23 #[.int .i64 (xn : Int)] (built_int _) ?_
                have hb6 : Below v3.heap.size v3 (v3.alloc (.cells #[.int .i64 (xn : Int)] 3)) := (Below.refl _ _).alloc (Nat.le_refl _) _
                have HR6 := HR3.below hb6
                have HG6_6 := Blk.new v3 3 #[.int .i64 (xn : Int)]
                have hs6 := Nat.lt_of_lt_of_le hs3 hb6.size
                clear hb6
                generalize v3.alloc (.cells #[.int .i64 (xn : Int)] 3) = v6 at *
                generalize v3.heap.size = g6 at *
                refine hK _ _ ⟨fun _ => ⟨HR6.k4, HR6.k6⟩, fun _ => HR6.k5⟩ ?_
                clear hK
                simp only [Act.put, List.getElem_toArray, List.getElem_cons_succ, List.getElem_cons_zero, List.setIfInBounds_toArray, List.set_cons_succ, List.set_cons_zero]
                refine wpAnyF_all (rs := [7]) (by kernel_rfl) (by decide) ?_
                refine wpAnyF_cons rfl rfl (fun K hK => ?_) wpAnyF_nil
                · refine wp_append_any _ (.tmp 37) (.tmp 39) 23 rfl (L + 1 + 1 + 1) 3 iI _ 1 8 Tryz.underlying23 hiI hzI hsI hbI rfl (by decide) B _ _ (by rfl) HR6.ls.rowB (g6 + 1) (some ⟨g6, 0, none⟩) 1 1 [.int .i64 (xn : Int)] (by rfl) (blk_reads HG6_6 rfl) (by intro u hu; rw [List.mem_singleton.1 hu]; rfl) (by simp only [maxLen]; omega) (by omega) HR6.hz ?_
                  intro B1 v7 hown7 hg7 _
                  have HR7 := HR6.appB hw1 h6 hown7 hg7
                  clear hown7 hg7
                  refine hK _ _ ⟨fun _ => ⟨HR7.k4, HR7.k6⟩, fun _ => HR7.k5⟩ ?_
                  clear hK
                  simp only [Act.put, List.getElem_toArray, List.getElem_cons_succ, List.getElem_cons_zero, List.setIfInBounds_toArray, List.set_cons_succ, List.set_cons_zero]
                  refine wpAnyF_all (rs := [8]) (by kernel_rfl) (by decide) ?_
                  refine wpAnyF_cons rfl rfl (fun K hK => ?_) wpAnyF_nil
                  obtain ⟨a1, q1, rfl⟩ := own_slG HR7.ls.rowA
                  obtain ⟨a2, q2, rfl⟩ := own_slG HR7.ls.rowB
                  refine wp_skip (w' := v7.setCell ⟨L, 0, none⟩ (.slice a1 (E ++ [(⟨e, D, c⟩ : EnL)]).length q1)) (by have cc := HR7.k4.cell 0; have f := HR7.k4.frozen 0; go_simp) ?_
                  refine hK _ _ ⟨fun h => absurd h (by decide), fun _ => HR7.k5.far (p := ⟨L, 0, none⟩) (by show L + 1 ≠ L; omega) _⟩ ?_
                  refine wpAnyF_all (rs := [9]) (by kernel_rfl) (by decide) ?_
                  refine wpAnyF_cons rfl rfl (fun K hK => ?_) wpAnyF_nil
                  have HB5 := HR7.k5.far (p := ⟨L, 0, none⟩) (by show L + 1 ≠ L; omega) (.slice a1 (E ++ [(⟨e, D, c⟩ : EnL)]).length q1)
                  refine wp_skip (w' := (v7.setCell ⟨L, 0, none⟩ (.slice a1 (E ++ [(⟨e, D, c⟩ : EnL)]).length q1)).setCell ⟨L + 1, 0, none⟩ (.slice a2 (NS ++ [xn]).length q2)) (by have cc := HR7.k5.cell 0; have ff := HR7.k5.frozen 0; have cd := HB5.cell 0; have fd := HB5.frozen 0; go_simp) ?_
                  refine hK _ _ ⟨fun h => absurd h (by decide), fun h => absurd h (by decide)⟩ ?_
                  refine wpAnyF_done (by kernel_rfl) ?_
                  have hfin := HR7.fin hw1 h6 HES.out HNS.out.symm HOS.out
                  exact ⟨hfin.1.1, hfin.1.2, hfin.2⟩
            · refine wp_built1 23 3 (.tmp 38) (.int .i64 (xn : Int)) rfl (by rfl) Tryz.underlying23 #[.int .i64 (xn : Int)] (built_int _) ?_
              have hb5 : Below v3.heap.size v3 (v3.alloc (.cells #[.int .i64 (xn : Int)] 3)) := (Below.refl _ _).alloc (Nat.le_refl _) _
              have HR5 := HR3.below hb5
              have HG6_5 := Blk.new v3 3 #[.int .i64 (xn : Int)]
              have hs5 := Nat.lt_of_lt_of_le hs3 hb5.size
              clear hb5
              generalize v3.alloc (.cells #[.int .i64 (xn : Int)] 3) = v5 at *
              generalize v3.heap.size = g6 at *
              refine hK _ _ ⟨fun _ => ⟨HR5.k4, HR5.k6⟩, fun _ => HR5.k5⟩ ?_
              clear hK
              simp only [Act.put, List.getElem_toArray, List.getElem_cons_succ, List.getElem_cons_zero, List.setIfInBounds_toArray, List.set_cons_succ, List.set_cons_zero]
              refine wpAnyF_all (rs := [4]) (by kernel_rfl) (by decide) ?_
              refine wpAnyF_cons rfl rfl (fun K hK => ?_) wpAnyF_nil
              · have c4 := HR5.k5.cell 0
                refine wp_value (v := B) (by go_simp) ?_
                clear c4
                refine hK _ _ ⟨fun _ => ⟨HR5.k4, HR5.k6⟩, fun _ => HR5.k5⟩ ?_
                clear hK
                simp only [Act.put, List.getElem_toArray, List.getElem_cons_succ, List.getElem_cons_zero, List.setIfInBounds_toArray, List.set_cons_succ, List.set_cons_zero]
                refine wpAnyF_all (rs := [7]) (by kernel_rfl) (by decide) ?_
                refine wpAnyF_cons rfl rfl (fun K hK => ?_) wpAnyF_nil
                · refine wp_append_any _ (.tmp 37) (.tmp 39) 23 rfl (L + 1 + 1 + 1) 3 iI _ 1 8 Tryz.underlying23 hiI hzI hsI hbI rfl (by decide) B _ _ (by rfl) HR5.ls.rowB (g6 + 1) (some ⟨g6, 0, none⟩) 1 1 [.int .i64 (xn : Int)] (by rfl) (blk_reads HG6_5 rfl) (by intro u hu; rw [List.mem_singleton.1 hu]; rfl) (by simp only [maxLen]; omega) (by omega) HR5.hz ?_
                  intro B1 v7 hown7 hg7 _
                  have HR7 := HR5.appB hw1 h6 hown7 hg7
                  clear hown7 hg7
                  refine hK _ _ ⟨fun _ => ⟨HR7.k4, HR7.k6⟩, fun _ => HR7.k5⟩ ?_
                  clear hK
                  simp only [Act.put, List.getElem_toArray, List.getElem_cons_succ, List.getElem_cons_zero, List.setIfInBounds_toArray, List.set_cons_succ, List.set_cons_zero]
                  refine wpAnyF_all (rs := [8]) (by kernel_rfl) (by decide) ?_
                  refine wpAnyF_cons rfl rfl (fun K hK => ?_) wpAnyF_nil
                  obtain ⟨a1, q1, rfl⟩ := own_slG HR7.ls.rowA
                  obtain ⟨a2, q2, rfl⟩ := own_slG HR7.ls.rowB
                  refine wp_skip (w' := v7.setCell ⟨L, 0, none⟩ (.slice a1 (E ++ [(⟨e, D, c⟩ : EnL)]).length q1)) (by have cc := HR7.k4.cell 0; have f := HR7.k4.frozen 0; go_simp) ?_
                  refine hK _ _ ⟨fun h => absurd h (by decide), fun _ => HR7.k5.far (p := ⟨L, 0, none⟩) (by show L + 1 ≠ L; omega) _⟩ ?_
                  refine wpAnyF_all (rs := [9]) (by kernel_rfl) (by decide) ?_
                  refine wpAnyF_cons rfl rfl (fun K hK => ?_) wpAnyF_nil
                  have HB5 := HR7.k5.far (p := ⟨L, 0, none⟩) (by show L + 1 ≠ L; omega) (.slice a1 (E ++ [(⟨e, D, c⟩ : EnL)]).length q1)
                  refine wp_skip (w' := (v7.setCell ⟨L, 0, none⟩ (.slice a1 (E ++ [(⟨e, D, c⟩ : EnL)]).length q1)).setCell ⟨L + 1, 0, none⟩ (.slice a2 (NS ++ [xn]).length q2)) (by have cc := HR7.k5.cell 0; have ff := HR7.k5.frozen 0; have cd := HB5.cell 0; have fd := HB5.frozen 0; go_simp) ?_
                  refine hK _ _ ⟨fun h => absurd h (by decide), fun h => absurd h (by decide)⟩ ?_
                  refine wpAnyF_done (by kernel_rfl) ?_
                  have hfin := HR7.fin hw1 h6 HES.out HNS.out.symm HOS.out
                  exact ⟨hfin.1.1, hfin.1.2, hfin.2⟩
        · have c4 := HR2.k5.cell 0
          refine wp_value (v := B) (by go_simp) ?_
          clear c4
          refine hK _ _ ⟨fun _ => ⟨HR2.k4, HR2.k6⟩, fun _ => HR2.k5⟩ ?_
          clear hK
          simp only [Act.put, List.getElem_toArray, List.getElem_cons_succ, List.getElem_cons_zero, List.setIfInBounds_toArray, List.set_cons_succ, List.set_cons_zero]
          refine wpAnyF_all (rs := [3, 5]) (by kernel_rfl) (by decide) ?_
          refine wpAnyF_cons rfl rfl (fun K hK => ?_) (wpAnyF_cons rfl rfl (fun K hK => ?_) wpAnyF_nil)
          · refine wp_append_any _ (.tmp 33) (.tmp 35) 22 rfl (L + 1 + 1 + 1) 33 iS _ 4 56 Tryz.underlying22 hiS hzS hsS hbS rfl (by decide) A _ _ (by rfl) HR2.ls.rowA (g2 + 1) (some ⟨g2, 0, none⟩) 1 1 (enC ⟨e, D, c⟩).toList (by rfl) (blk_reads HG2_2 rfl) (fun u hu => List.all_eq_true.1 (show (enC ⟨e, D, c⟩).toList.all (·.oneCell') = true from rfl) u hu) (by simp only [maxLen]; omega) (by omega) HR2.hz ?_
            intro A1 v4 hown4 hg4 hob4
            have HR4 := HR2.appA hw1 h6 hs2 hown4 hg4 hob4
            have hs4 := Nat.lt_of_lt_of_le hs2 hg4.size
            clear hown4 hg4 hob4
            refine hK _ _ ⟨fun _ => ⟨HR4.k4, HR4.k6⟩, fun _ => HR4.k5⟩ ?_
            clear hK
            simp only [Act.put, List.getElem_toArray, List.getElem_cons_succ, List.getElem_cons_zero, List.setIfInBounds_toArray, List.set_cons_succ, List.set_cons_zero]
            refine wpAnyF_all (rs := [5]) (by kernel_rfl) (by decide) ?_
            refine wpAnyF_cons rfl rfl (fun K hK => ?_) wpAnyF_nil
            · refine wp_value (v := .int .i64 (xn : Int)) (by rfl) ?_
              refine hK _ _ ⟨fun _ => ⟨HR4.k4, HR4.k6⟩, fun _ => HR4.k5⟩ ?_
              clear hK
              simp only [Act.put, List.getElem_toArray, List.getElem_cons_succ, List.getElem_cons_zero, List.setIfInBounds_toArray, List.set_cons_succ, List.set_cons_zero]
              refine wpAnyF_all (rs := [6]) (by kernel_rfl) (by decide) ?_
              refine wpAnyF_cons rfl rfl (fun K hK => ?_) wpAnyF_nil
              · refine wp_built1 23 3 (.tmp 38) (.int .i64 (xn : Int)) rfl (by rfl) Tryz.underlying23 #[.int .i64 (xn : Int)] (built_int _) ?_
                have hb6 : Below v4.heap.size v4 (v4.alloc (.cells #[.int .i64 (xn : Int)] 3)) := (Below.refl _ _).alloc (Nat.le_refl _) _
                have HR6 := HR4.below hb6
                have HG6_6 := Blk.new v4 3 #[.int .i64 (xn : Int)]
                have hs6 := Nat.lt_of_lt_of_le hs4 hb6.size
                clear hb6
                generalize v4.alloc (.cells #[.int .i64 (xn : Int)] 3) = v6 at *
                generalize v4.heap.size = g6 at *
                refine hK _ _ ⟨fun _ => ⟨HR6.k4, HR6.k6⟩, fun _ => HR6.k5⟩ ?_
                clear hK
                simp only [Act.put, List.getElem_toArray, List.getElem_cons_succ, List.getElem_cons_zero, List.setIfInBounds_toArray, List.set_cons_succ, List.set_cons_zero]
                refine wpAnyF_all (rs := [7]) (by kernel_rfl) (by decide) ?_
                refine wpAnyF_cons rfl rfl (fun K hK => ?_) wpAnyF_nil
                · refine wp_append_any _ (.tmp 37) (.tmp 39) 23 rfl (L + 1 + 1 + 1) 3 iI _ 1 8 Tryz.underlying23 hiI hzI hsI hbI rfl (by decide) B _ _ (by rfl) HR6.ls.rowB (g6 + 1) (some ⟨g6, 0, none⟩) 1 1 [.int .i64 (xn : Int)] (by rfl) (blk_reads HG6_6 rfl) (by intro u hu; rw [List.mem_singleton.1 hu]; rfl) (by simp only [maxLen]; omega) (by omega) HR6.hz ?_
                  intro B1 v7 hown7 hg7 _
                  have HR7 := HR6.appB hw1 h6 hown7 hg7
                  clear hown7 hg7
                  refine hK _ _ ⟨fun _ => ⟨HR7.k4, HR7.k6⟩, fun _ => HR7.k5⟩ ?_
                  clear hK
                  simp only [Act.put, List.getElem_toArray, List.getElem_cons_succ, List.getElem_cons_zero, List.setIfInBounds_toArray, List.set_cons_succ, List.set_cons_zero]
                  refine wpAnyF_all (rs := [8]) (by kernel_rfl) (by decide) ?_
                  refine wpAnyF_cons rfl rfl (fun K hK => ?_) wpAnyF_nil
                  obtain ⟨a1, q1, rfl⟩ := own_slG HR7.ls.rowA
                  obtain ⟨a2, q2, rfl⟩ := own_slG HR7.ls.rowB
                  refine wp_skip (w' := v7.setCell ⟨L, 0, none⟩ (.slice a1 (E ++ [(⟨e, D, c⟩ : EnL)]).length q1)) (by have cc := HR7.k4.cell 0; have f := HR7.k4.frozen 0; go_simp) ?_
                  refine hK _ _ ⟨fun h => absurd h (by decide), fun _ => HR7.k5.far (p := ⟨L, 0, none⟩) (by show L + 1 ≠ L; omega) _⟩ ?_
                  refine wpAnyF_all (rs := [9]) (by kernel_rfl) (by decide) ?_
                  refine wpAnyF_cons rfl rfl (fun K hK => ?_) wpAnyF_nil
                  have HB5 := HR7.k5.far (p := ⟨L, 0, none⟩) (by show L + 1 ≠ L; omega) (.slice a1 (E ++ [(⟨e, D, c⟩ : EnL)]).length q1)
                  refine wp_skip (w' := (v7.setCell ⟨L, 0, none⟩ (.slice a1 (E ++ [(⟨e, D, c⟩ : EnL)]).length q1)).setCell ⟨L + 1, 0, none⟩ (.slice a2 (NS ++ [xn]).length q2)) (by have cc := HR7.k5.cell 0; have ff := HR7.k5.frozen 0; have cd := HB5.cell 0; have fd := HB5.frozen 0; go_simp) ?_
                  refine hK _ _ ⟨fun h => absurd h (by decide), fun h => absurd h (by decide)⟩ ?_
                  refine wpAnyF_done (by kernel_rfl) ?_
                  have hfin := HR7.fin hw1 h6 HES.out HNS.out.symm HOS.out
                  exact ⟨hfin.1.1, hfin.1.2, hfin.2⟩
          · refine wp_value (v := .int .i64 (xn : Int)) (by rfl) ?_
            refine hK _ _ ⟨fun _ => ⟨HR2.k4, HR2.k6⟩, fun _ => HR2.k5⟩ ?_
            clear hK
            simp only [Act.put, List.getElem_toArray, List.getElem_cons_succ, List.getElem_cons_zero, List.setIfInBounds_toArray, List.set_cons_succ, List.set_cons_zero]
            refine wpAnyF_all (rs := [3, 6]) (by kernel_rfl) (by decide) ?_
            refine wpAnyF_cons rfl rfl (fun K hK => ?_) (wpAnyF_cons rfl rfl (fun K hK => ?_) wpAnyF_nil)
            · refine wp_append_any _ (.tmp 33) (.tmp 35) 22 rfl (L + 1 + 1 + 1) 33 iS _ 4 56 Tryz.underlying22 hiS hzS hsS hbS rfl (by decide) A _ _ (by rfl) HR2.ls.rowA (g2 + 1) (some ⟨g2, 0, none⟩) 1 1 (enC ⟨e, D, c⟩).toList (by rfl) (blk_reads HG2_2 rfl) (fun u hu => List.all_eq_true.1 (show (enC ⟨e, D, c⟩).toList.all (·.oneCell') = true from rfl) u hu) (by simp only [maxLen]; omega) (by omega) HR2.hz ?_
              intro A1 v5 hown5 hg5 hob5
              have HR5 := HR2.appA hw1 h6 hs2 hown5 hg5 hob5
              have hs5 := Nat.lt_of_lt_of_le hs2 hg5.size
              clear hown5 hg5 hob5
              refine hK _ _ ⟨fun _ => ⟨HR5.k4, HR5.k6⟩, fun _ => HR5.k5⟩ ?_
              clear hK
              simp only [Act.put, List.getElem_toArray, List.getElem_cons_succ, List.getElem_cons_zero, List.setIfInBounds_toArray, List.set_cons_succ, List.set_cons_zero]
              refine wpAnyF_all (rs := [6]) (by kernel_rfl) (by decide) ?_
              refine wpAnyF_cons rfl rfl (fun K hK => ?_) wpAnyF_nil
              · refine wp_built1 23 3 (.tmp 38) (.int .i64 (xn : Int)) rfl (by rfl) Tryz.underlying23 #[.int .i64 (xn : Int)] (built_int _) ?_
                have hb6 : Below v5.heap.size v5 (v5.alloc (.cells #[.int .i64 (xn : Int)] 3)) := (Below.refl _ _).alloc (Nat.le_refl _) _
                have HR6 := HR5.below hb6
                have HG6_6 := Blk.new v5 3 #[.int .i64 (xn : Int)]
                have hs6 := Nat.lt_of_lt_of_le hs5 hb6.size
                clear hb6
                generalize v5.alloc (.cells #[.int .i64 (xn : Int)] 3) = v6 at *
                generalize v5.heap.size = g6 at *
                refine hK _ _ ⟨fun _ => ⟨HR6.k4, HR6.k6⟩, fun _ => HR6.k5⟩ ?_
                clear hK
                simp only [Act.put, List.getElem_toArray, List.getElem_cons_succ, List.getElem_cons_zero, List.setIfInBounds_toArray, List.set_cons_succ, List.set_cons_zero]
                refine wpAnyF_all (rs := [7]) (by kernel_rfl) (by decide) ?_
                refine wpAnyF_cons rfl rfl (fun K hK => ?_) wpAnyF_nil
                · refine wp_append_any _ (.tmp 37) (.tmp 39) 23 rfl (L + 1 + 1 + 1) 3 iI _ 1 8 Tryz.underlying23 hiI hzI hsI hbI rfl (by decide) B _ _ (by rfl) HR6.ls.rowB (g6 + 1) (some ⟨g6, 0, none⟩) 1 1 [.int .i64 (xn : Int)] (by rfl) (blk_reads HG6_6 rfl) (by intro u hu; rw [List.mem_singleton.1 hu]; rfl) (by simp only [maxLen]; omega) (by omega) HR6.hz ?_
                  intro B1 v7 hown7 hg7 _
                  have HR7 := HR6.appB hw1 h6 hown7 hg7
                  clear hown7 hg7
                  refine hK _ _ ⟨fun _ => ⟨HR7.k4, HR7.k6⟩, fun _ => HR7.k5⟩ ?_
                  clear hK
                  simp only [Act.put, List.getElem_toArray, List.getElem_cons_succ, List.getElem_cons_zero, List.setIfInBounds_toArray, List.set_cons_succ, List.set_cons_zero]
                  refine wpAnyF_all (rs := [8]) (by kernel_rfl) (by decide) ?_
                  refine wpAnyF_cons rfl rfl (fun K hK => ?_) wpAnyF_nil
                  obtain ⟨a1, q1, rfl⟩ := own_slG HR7.ls.rowA
                  obtain ⟨a2, q2, rfl⟩ := own_slG HR7.ls.rowB
                  refine wp_skip (w' := v7.setCell ⟨L, 0, none⟩ (.slice a1 (E ++ [(⟨e, D, c⟩ : EnL)]).length q1)) (by have cc := HR7.k4.cell 0; have f := HR7.k4.frozen 0; go_simp) ?_
                  refine hK _ _ ⟨fun h => absurd h (by decide), fun _ => HR7.k5.far (p := ⟨L, 0, none⟩) (by show L + 1 ≠ L; omega) _⟩ ?_
                  refine wpAnyF_all (rs := [9]) (by kernel_rfl) (by decide) ?_
                  refine wpAnyF_cons rfl rfl (fun K hK => ?_) wpAnyF_nil
                  have HB5 := HR7.k5.far (p := ⟨L, 0, none⟩) (by show L + 1 ≠ L; omega) (.slice a1 (E ++ [(⟨e, D, c⟩ : EnL)]).length q1)
                  refine wp_skip (w' := (v7.setCell ⟨L, 0, none⟩ (.slice a1 (E ++ [(⟨e, D, c⟩ : EnL)]).length q1)).setCell ⟨L + 1, 0, none⟩ (.slice a2 (NS ++ [xn]).length q2)) (by have cc := HR7.k5.cell 0; have ff := HR7.k5.frozen 0; have cd := HB5.cell 0; have fd := HB5.frozen 0; go_simp) ?_
                  refine hK _ _ ⟨fun h => absurd h (by decide), fun h => absurd h (by decide)⟩ ?_
                  refine wpAnyF_done (by kernel_rfl) ?_
                  have hfin := HR7.fin hw1 h6 HES.out HNS.out.symm HOS.out
                  exact ⟨hfin.1.1, hfin.1.2, hfin.2⟩
            · refine wp_built1 23 3 (.tmp 38) (.int .i64 (xn : Int)) rfl (by rfl) Tryz.underlying23 #[.int .i64 (xn : Int)] (built_int _) ?_
              have hb5 : Below v2.heap.size v2 (v2.alloc (.cells #[.int .i64 (xn : Int)] 3)) := (Below.refl _ _).alloc (Nat.le_refl _) _
              have HR5 := HR2.below hb5
              have HG6_5 := Blk.new v2 3 #[.int .i64 (xn : Int)]
              have hs5 := Nat.lt_of_lt_of_le hs2 hb5.size
              have HG2_5 := HG2_2.below hb5 HG2_2.lt
              clear hb5
              generalize v2.alloc (.cells #[.int .i64 (xn : Int)] 3) = v5 at *
              generalize v2.heap.size = g6 at *
              refine hK _ _ ⟨fun _ => ⟨HR5.k4, HR5.k6⟩, fun _ => HR5.k5⟩ ?_
              clear hK
              simp only [Act.put, List.getElem_toArray, List.getElem_cons_succ, List.getElem_cons_zero, List.setIfInBounds_toArray, List.set_cons_succ, List.set_cons_zero]
              refine wpAnyF_all (rs := [3]) (by kernel_rfl) (by decide) ?_
              refine wpAnyF_cons rfl rfl (fun K hK => ?_) wpAnyF_nil
              · refine wp_append_any _ (.tmp 33) (.tmp 35) 22 rfl (L + 1 + 1 + 1) 33 iS _ 4 56 Tryz.underlying22 hiS hzS hsS hbS rfl (by decide) A _ _ (by rfl) HR5.ls.rowA (g2 + 1) (some ⟨g2, 0, none⟩) 1 1 (enC ⟨e, D, c⟩).toList (by rfl) (blk_reads HG2_5 rfl) (fun u hu => List.all_eq_true.1 (show (enC ⟨e, D, c⟩).toList.all (·.oneCell') = true from rfl) u hu) (by simp only [maxLen]; omega) (by omega) HR5.hz ?_
                intro A1 v6 hown6 hg6 hob6
                have HR6 := HR5.appA hw1 h6 hs5 hown6 hg6 hob6
                have hs6 := Nat.lt_of_lt_of_le hs5 hg6.size
                have HG6_6 := HG6_5.grown hg6 (fun e => own_blk_ne HR5.ls.rowA HG6_5 (by decide) e.symm)
                clear hown6 hg6 hob6
                refine hK _ _ ⟨fun _ => ⟨HR6.k4, HR6.k6⟩, fun _ => HR6.k5⟩ ?_
                clear hK
                simp only [Act.put, List.getElem_toArray, List.getElem_cons_succ, List.getElem_cons_zero, List.setIfInBounds_toArray, List.set_cons_succ, List.set_cons_zero]
                refine wpAnyF_all (rs := [7]) (by kernel_rfl) (by decide) ?_
                refine wpAnyF_cons rfl rfl (fun K hK => ?_) wpAnyF_nil
                · refine wp_append_any _ (.tmp 37) (.tmp 39) 23 rfl (L + 1 + 1 + 1) 3 iI _ 1 8 Tryz.underlying23 hiI hzI hsI hbI rfl (by decide) B _ _ (by rfl) HR6.ls.rowB (g6 + 1) (some ⟨g6, 0, none⟩) 1 1 [.int .i64 (xn : Int)] (by rfl) (blk_reads HG6_6 rfl) (by intro u hu; rw [List.mem_singleton.1 hu]; rfl) (by simp only [maxLen]; omega) (by omega) HR6.hz ?_
                  intro B1 v7 hown7 hg7 _
                  have HR7 := HR6.appB hw1 h6 hown7 hg7
                  clear hown7 hg7
                  refine hK _ _ ⟨fun _ => ⟨HR7.k4, HR7.k6⟩, fun _ => HR7.k5⟩ ?_
                  clear hK
                  simp only [Act.put, List.getElem_toArray, List.getElem_cons_succ, List.getElem_cons_zero, List.setIfInBounds_toArray, List.set_cons_succ, List.set_cons_zero]
                  refine wpAnyF_all (rs := [8]) (by kernel_rfl) (by decide) ?_
                  refine wpAnyF_cons rfl rfl (fun K hK => ?_) wpAnyF_nil
                  obtain ⟨a1, q1, rfl⟩ := own_slG HR7.ls.rowA
                  obtain ⟨a2, q2, rfl⟩ := own_slG HR7.ls.rowB
                  refine wp_skip (w' := v7.setCell ⟨L, 0, none⟩ (.slice a1 (E ++ [(⟨e, D, c⟩ : EnL)]).length q1)) (by have cc := HR7.k4.cell 0; have f := HR7.k4.frozen 0; go_simp) ?_
                  refine hK _ _ ⟨fun h => absurd h (by decide), fun _ => HR7.k5.far (p := ⟨L, 0, none⟩) (by show L + 1 ≠ L; omega) _⟩ ?_
                  refine wpAnyF_all (rs := [9]) (by kernel_rfl) (by decide) ?_
                  refine wpAnyF_cons rfl rfl (fun K hK => ?_) wpAnyF_nil
                  have HB5 := HR7.k5.far (p := ⟨L, 0, none⟩) (by show L + 1 ≠ L; omega) (.slice a1 (E ++ [(⟨e, D, c⟩ : EnL)]).length q1)
                  refine wp_skip (w' := (v7.setCell ⟨L, 0, none⟩ (.slice a1 (E ++ [(⟨e, D, c⟩ : EnL)]).length q1)).setCell ⟨L + 1, 0, none⟩ (.slice a2 (NS ++ [xn]).length q2)) (by have cc := HR7.k5.cell 0; have ff := HR7.k5.frozen 0; have cd := HB5.cell 0; have fd := HB5.frozen 0; go_simp) ?_
                  refine hK _ _ ⟨fun h => absurd h (by decide), fun h => absurd h (by decide)⟩ ?_
                  refine wpAnyF_done (by kernel_rfl) ?_
                  have hfin := HR7.fin hw1 h6 HES.out HNS.out.symm HOS.out
                  exact ⟨hfin.1.1, hfin.1.2, hfin.2⟩
        · refine wp_value (v := .int .i64 (xn : Int)) (by rfl) ?_
          refine hK _ _ ⟨fun _ => ⟨HR2.k4, HR2.k6⟩, fun _ => HR2.k5⟩ ?_
          clear hK
          simp only [Act.put, List.getElem_toArray, List.getElem_cons_succ, List.getElem_cons_zero, List.setIfInBounds_toArray, List.set_cons_succ, List.set_cons_zero]
          refine wpAnyF_all (rs := [3, 4, 6]) (by kernel_rfl) (by decide) ?_
          refine wpAnyF_cons rfl rfl (fun K hK => ?_) (wpAnyF_cons rfl rfl (fun K hK => ?_) (wpAnyF_cons rfl rfl (fun K hK => ?_) wpAnyF_nil))
          · refine wp_append_any _ (.tmp 33) (.tmp 35) 22 rfl (L + 1 + 1 + 1) 33 iS _ 4 56 Tryz.underlying22 hiS hzS hsS hbS rfl (by decide) A _ _ (by rfl) HR2.ls.rowA (g2 + 1) (some ⟨g2, 0, none⟩) 1 1 (enC ⟨e, D, c⟩).toList (by rfl) (blk_reads HG2_2 rfl) (fun u hu => List.all_eq_true.1 (show (enC ⟨e, D, c⟩).toList.all (·.oneCell') = true from rfl) u hu) (by simp only [maxLen]; omega) (by omega) HR2.hz ?_
            intro A1 v4 hown4 hg4 hob4
            have HR4 := HR2.appA hw1 h6 hs2 hown4 hg4 hob4
            have hs4 := Nat.lt_of_lt_of_le hs2 hg4.size
            clear hown4 hg4 hob4
            refine hK _ _ ⟨fun _ => ⟨HR4.k4, HR4.k6⟩, fun _ => HR4.k5⟩ ?_
            clear hK
            simp only [Act.put, List.getElem_toArray, List.getElem_cons_succ, List.getElem_cons_zero, List.setIfInBounds_toArray, List.set_cons_succ, List.set_cons_zero]
            refine wpAnyF_all (rs := [4, 6]) (by kernel_rfl) (by decide) ?_
            refine wpAnyF_cons rfl rfl (fun K hK => ?_) (wpAnyF_cons rfl rfl (fun K hK => ?_) wpAnyF_nil)
            · have c4 := HR4.k5.cell 0
              refine wp_value (v := B) (by go_simp) ?_
              clear c4
              refine hK _ _ ⟨fun _ => ⟨HR4.k4, HR4.k6⟩, fun _ => HR4.k5⟩ ?_
              clear hK
              simp only [Act.put, List.getElem_toArray, List.getElem_cons_succ, List.getElem_cons_zero, List.setIfInBounds_toArray, List.set_cons_succ, List.set_cons_zero]
              refine wpAnyF_all (rs := [6]) (by kernel_rfl) (by decide) ?_
              refine wpAnyF_cons rfl rfl (fun K hK => ?_) wpAnyF_nil
              · refine wp_built1 23 3 (.tmp 38) (.int .i64 (xn : Int)) rfl (by rfl) Tryz.underlying23 #[.int .i64 (xn : Int)] (built_int _) ?_
                have hb6 : Below v4.heap.size v4 (v4.alloc (.cells #[.int .i64 (xn : Int)] 3)) := (Below.refl _ _).alloc (Nat.le_refl _) _
                have HR6 := HR4.below hb6
                have HG6_6 := Blk.new v4 3 #[.int .i64 (xn : Int)]
                have hs6 := Nat.lt_of_lt_of_le hs4 hb6.size
                clear hb6
                generalize v4.alloc (.cells #[.int .i64 (xn : Int)] 3) = v6 at *
                generalize v4.heap.size = g6 at *
                refine hK _ _ ⟨fun _ => ⟨HR6.k4, HR6.k6⟩, fun _ => HR6.k5⟩ ?_
                clear hK
                simp only [Act.put, List.getElem_toArray, List.getElem_cons_succ, List.getElem_cons_zero, List.setIfInBounds_toArray, List.set_cons_succ, List.set_cons_zero]
                refine wpAnyF_all (rs := [7]) (by kernel_rfl) (by decide) ?_
                refine wpAnyF_cons rfl rfl (fun K hK => ?_) wpAnyF_nil
                · refine wp_append_any _ (.tmp 37) (.tmp 39) 23 rfl (L + 1 + 1 + 1) 3 iI _ 1 8 Tryz.underlying23 hiI hzI hsI hbI rfl (by decide) B _ _ (by rfl) HR6.ls.rowB (g6 + 1) (some ⟨g6, 0, none⟩) 1 1 [.int .i64 (xn : Int)] (by rfl) (blk_reads HG6_6 rfl) (by intro u hu; rw [List.mem_singleton.1 hu]; rfl) (by simp only [maxLen]; omega) (by omega) HR6.hz ?_
                  intro B1 v7 hown7 hg7 _
                  have HR7 := HR6.appB hw1 h6 hown7 hg7
                  clear hown7 hg7
                  refine hK _ _ ⟨fun _ => ⟨HR7.k4, HR7.k6⟩, fun _ => HR7.k5⟩ ?_
                  clear hK
                  simp only [Act.put, List.getElem_toArray, List.getElem_cons_succ, List.getElem_cons_zero, List.setIfInBounds_toArray, List.set_cons_succ, List.set_cons_zero]
                  refine wpAnyF_all (rs := [8]) (by kernel_rfl) (by decide) ?_
                  refine wpAnyF_cons rfl rfl (fun K hK => ?_) wpAnyF_nil
                  obtain ⟨a1, q1, rfl⟩ := own_slG HR7.ls.rowA
                  obtain ⟨a2, q2, rfl⟩ := own_slG HR7.ls.rowB
                  refine wp_skip (w' := v7.setCell ⟨L, 0, none⟩ (.slice a1 (E ++ [(⟨e, D, c⟩ : EnL)]).length q1)) (by have cc := HR7.k4.cell 0; have f := HR7.k4.frozen 0; go_simp) ?_
                  refine hK _ _ ⟨fun h => absurd h (by decide), fun _ => HR7.k5.far (p := ⟨L, 0, none⟩) (by show L + 1 ≠ L; omega) _⟩ ?_
                  refine wpAnyF_all (rs := [9]) (by kernel_rfl) (by decide) ?_
                  refine wpAnyF_cons rfl rfl (fun K hK => ?_) wpAnyF_nil
                  have HB5 := HR7.k5.far (p := ⟨L, 0, none⟩) (by show L + 1 ≠ L; omega) (.slice a1 (E ++ [(⟨e, D, c⟩ : EnL)]).length q1)
                  refine wp_skip (w' := (v7.setCell ⟨L, 0, none⟩ (.slice a1 (E ++ [(⟨e, D, c⟩ : EnL)]).length q1)).setCell ⟨L + 1, 0, none⟩ (.slice a2 (NS ++ [xn]).length q2)) (by have cc := HR7.k5.cell 0; have ff := HR7.k5.frozen 0; have cd := HB5.cell 0; have fd := HB5.frozen 0; go_simp) ?_
                  refine hK _ _ ⟨fun h => absurd h (by decide), fun h => absurd h (by decide)⟩ ?_
                  refine wpAnyF_done (by kernel_rfl) ?_
                  have hfin := HR7.fin hw1 h6 HES.out HNS.out.symm HOS.out
                  exact ⟨hfin.1.1, hfin.1.2, hfin.2⟩
            · refine wp_built1 23 3 (.tmp 38) (.int .i64 (xn : Int)) rfl (by rfl) Tryz.underlying23 #[.int .i64 (xn : Int)] (built_int _) ?_
              have hb5 : Below v4.heap.size v4 (v4.alloc (.cells #[.int .i64 (xn : Int)] 3)) := (Below.refl _ _).alloc (Nat.le_refl _) _
              have HR5 := HR4.below hb5
              have HG6_5 := Blk.new v4 3 #[.int .i64 (xn : Int)]
              have hs5 := Nat.lt_of_lt_of_le hs4 hb5.size
              clear hb5
              generalize v4.alloc (.cells #[.int .i64 (xn : Int)] 3) = v5 at *
              generalize v4.heap.size = g6 at *
              refine hK _ _ ⟨fun _ => ⟨HR5.k4, HR5.k6⟩, fun _ => HR5.k5⟩ ?_
              clear hK
              simp only [Act.put, List.getElem_toArray, List.getElem_cons_succ, List.getElem_cons_zero, List.setIfInBounds_toArray, List.set_cons_succ, List.set_cons_zero]
              refine wpAnyF_all (rs := [4]) (by kernel_rfl) (by decide) ?_
              refine wpAnyF_cons rfl rfl (fun K hK => ?_) wpAnyF_nil
              · have c4 := HR5.k5.cell 0
                refine wp_value (v := B) (by go_simp) ?_
                clear c4
                refine hK _ _ ⟨fun _ => ⟨HR5.k4, HR5.k6⟩, fun _ => HR5.k5⟩ ?_
                clear hK
                simp only [Act.put, List.getElem_toArray, List.getElem_cons_succ, List.getElem_cons_zero, List.setIfInBounds_toArray, List.set_cons_succ, List.set_cons_zero]
                refine wpAnyF_all (rs := [7]) (by kernel_rfl) (by decide) ?_
                refine wpAnyF_cons rfl rfl (fun K hK => ?_) wpAnyF_nil
                · refine wp_append_any _ (.tmp 37) (.tmp 39) 23 rfl (L + 1 + 1 + 1) 3 iI _ 1 8 Tryz.underlying23 hiI hzI hsI hbI rfl (by decide) B _ _ (by rfl) HR5.ls.rowB (g6 + 1) (some ⟨g6, 0, none⟩) 1 1 [.int .i64 (xn : Int)] (by rfl) (blk_reads HG6_5 rfl) (by intro u hu; rw [List.mem_singleton.1 hu]; rfl) (by simp only [maxLen]; omega) (by omega) HR5.hz ?_
                  intro B1 v7 hown7 hg7 _
                  have HR7 := HR5.appB hw1 h6 hown7 hg7
                  clear hown7 hg7
                  refine hK _ _ ⟨fun _ => ⟨HR7.k4, HR7.k6⟩, fun _ => HR7.k5⟩ ?_
                  clear hK
                  simp only [Act.put, List.getElem_toArray, List.getElem_cons_succ, List.getElem_cons_zero, List.setIfInBounds_toArray, List.set_cons_succ, List.set_cons_zero]
                  refine wpAnyF_all (rs := [8]) (by kernel_rfl) (by decide) ?_
                  refine wpAnyF_cons rfl rfl (fun K hK => ?_) wpAnyF_nil
                  obtain ⟨a1, q1, rfl⟩ := own_slG HR7.ls.rowA
                  obtain ⟨a2, q2, rfl⟩ := own_slG HR7.ls.rowB
                  refine wp_skip (w' := v7.setCell ⟨L, 0, none⟩ (.slice a1 (E ++ [(⟨e, D, c⟩ : EnL)]).length q1)) (by have cc := HR7.k4.cell 0; have f := HR7.k4.frozen 0; go_simp) ?_
                  refine hK _ _ ⟨fun h => absurd h (by decide), fun _ => HR7.k5.far (p := ⟨L, 0, none⟩) (by show L + 1 ≠ L; omega) _⟩ ?_
                  refine wpAnyF_all (rs := [9]) (by kernel_rfl) (by decide) ?_
                  refine wpAnyF_cons rfl rfl (fun K hK => ?_) wpAnyF_nil
                  have HB5 := HR7.k5.far (p := ⟨L, 0, none⟩) (by show L + 1 ≠ L; omega) (.slice a1 (E ++ [(⟨e, D, c⟩ : EnL)]).length q1)
                  refine wp_skip (w' := (v7.setCell ⟨L, 0, none⟩ (.slice a1 (E ++ [(⟨e, D, c⟩ : EnL)]).length q1)).setCell ⟨L + 1, 0, none⟩ (.slice a2 (NS ++ [xn]).length q2)) (by have cc := HR7.k5.cell 0; have ff := HR7.k5.frozen 0; have cd := HB5.cell 0; have fd := HB5.frozen 0; go_simp) ?_
                  refine hK _ _ ⟨fun h => absurd h (by decide), fun h => absurd h (by decide)⟩ ?_
                  refine wpAnyF_done (by kernel_rfl) ?_
                  have hfin := HR7.fin hw1 h6 HES.out HNS.out.symm HOS.out
                  exact ⟨hfin.1.1, hfin.1.2, hfin.2⟩
          · have c4 := HR2.k5.cell 0
            refine wp_value (v := B) (by go_simp) ?_
            clear c4
            refine hK _ _ ⟨fun _ => ⟨HR2.k4, HR2.k6⟩, fun _ => HR2.k5⟩ ?_
            clear hK
            simp only [Act.put, List.getElem_toArray, List.getElem_cons_succ, List.getElem_cons_zero, List.setIfInBounds_toArray, List.set_cons_succ, List.set_cons_zero]
            refine wpAnyF_all (rs := [3, 6]) (by kernel_rfl) (by decide) ?_
            refine wpAnyF_cons rfl rfl (fun K hK => ?_) (wpAnyF_cons rfl rfl (fun K hK => ?_) wpAnyF_nil)
            · refine wp_append_any _ (.tmp 33) (.tmp 35) 22 rfl (L + 1 + 1 + 1) 33 iS _ 4 56 Tryz.underlying22 hiS hzS hsS hbS rfl (by decide) A _ _ (by rfl) HR2.ls.rowA (g2 + 1) (some ⟨g2, 0, none⟩) 1 1 (enC ⟨e, D, c⟩).toList (by rfl) (blk_reads HG2_2 rfl) (fun u hu => List.all_eq_true.1 (show (enC ⟨e, D, c⟩).toList.all (·.oneCell') = true from rfl) u hu) (by simp only [maxLen]; omega) (by omega) HR2.hz ?_
              intro A1 v5 hown5 hg5 hob5
              have HR5 := HR2.appA hw1 h6 hs2 hown5 hg5 hob5
              have hs5 := Nat.lt_of_lt_of_le hs2 hg5.size
              clear hown5 hg5 hob5
              refine hK _ _ ⟨fun _ => ⟨HR5.k4, HR5.k6⟩, fun _ => HR5.k5⟩ ?_
              clear hK
              simp only [Act.put, List.getElem_toArray, List.getElem_cons_succ, List.getElem_cons_zero, List.setIfInBounds_toArray, List.set_cons_succ, List.set_cons_zero]
              refine wpAnyF_all (rs := [6]) (by kernel_rfl) (by decide) ?_
              refine wpAnyF_cons rfl rfl (fun K hK => ?_) wpAnyF_nil
              · refine wp_built1 23 3 (.tmp 38) (.int .i64 (xn : Int)) rfl (by rfl) Tryz.underlying23 #[.int .i64 (xn : Int)] (built_int _) ?_
                have hb6 : Below v5.heap.size v5 (v5.alloc (.cells #[.int .i64 (xn : Int)] 3)) := (Below.refl _ _).alloc (Nat.le_refl _) _
                have HR6 := HR5.below hb6
                have HG6_6 := Blk.new v5 3 #[.int .i64 (xn : Int)]
                have hs6 := Nat.lt_of_lt_of_le hs5 hb6.size
                clear hb6
                generalize v5.alloc (.cells #[.int .i64 (xn : Int)] 3) = v6 at *
                generalize v5.heap.size = g6 at *
                refine hK _ _ ⟨fun _ => ⟨HR6.k4, HR6.k6⟩, fun _ => HR6.k5⟩ ?_
                clear hK
                simp only [Act.put, List.getElem_toArray, List.getElem_cons_succ, List.getElem_cons_zero, List.setIfInBounds_toArray, List.set_cons_succ, List.set_cons_zero]
                refine wpAnyF_all (rs := [7]) (by kernel_rfl) (by decide) ?_
                refine wpAnyF_cons rfl rfl (fun K hK => ?_) wpAnyF_nil
                · refine wp_append_any _ (.tmp 37) (.tmp 39) 23 rfl (L + 1 + 1 + 1) 3 iI _ 1 8 Tryz.underlying23 hiI hzI hsI hbI rfl (by decide) B _ _ (by rfl) HR6.ls.rowB (g6 + 1) (some ⟨g6, 0, none⟩) 1 1 [.int .i64 (xn : Int)] (by rfl) (blk_reads HG6_6 rfl) (by intro u hu; rw [List.mem_singleton.1 hu]; rfl) (by simp only [maxLen]; omega) (by omega) HR6.hz ?_
                  intro B1 v7 hown7 hg7 _
                  have HR7 := HR6.appB hw1 h6 hown7 hg7
                  clear hown7 hg7
                  refine hK _ _ ⟨fun _ => ⟨HR7.k4, HR7.k6⟩, fun _ => HR7.k5⟩ ?_
                  clear hK
                  simp only [Act.put, List.getElem_toArray, List.getElem_cons_succ, List.getElem_cons_zero, List.setIfInBounds_toArray, List.set_cons_succ, List.set_cons_zero]
                  refine wpAnyF_all (rs := [8]) (by kernel_rfl) (by decide) ?_
                  refine wpAnyF_cons rfl rfl (fun K hK => ?_) wpAnyF_nil
                  obtain ⟨a1, q1, rfl⟩ := own_slG HR7.ls.rowA
                  obtain ⟨a2, q2, rfl⟩ := own_slG HR7.ls.rowB
                  refine wp_skip (w' := v7.setCell ⟨L, 0, none⟩ (.slice a1 (E ++ [(⟨e, D, c⟩ : EnL)]).length q1)) (by have cc := HR7.k4.cell 0; have f := HR7.k4.frozen 0; go_simp) ?_
                  refine hK _ _ ⟨fun h => absurd h (by decide), fun _ => HR7.k5.far (p := ⟨L, 0, none⟩) (by show L + 1 ≠ L; omega) _⟩ ?_
                  refine wpAnyF_all (rs := [9]) (by kernel_rfl) (by decide) ?_
                  refine wpAnyF_cons rfl rfl (fun K hK => ?_) wpAnyF_nil
                  have HB5 := HR7.k5.far (p := ⟨L, 0, none⟩) (by show L + 1 ≠ L; omega) (.slice a1 (E ++ [(⟨e, D, c⟩ : EnL)]).length q1)
                  refine wp_skip (w' := (v7.setCell ⟨L, 0, none⟩ (.slice a1 (E ++ [(⟨e, D, c⟩ : EnL)]).length q1)).setCell ⟨L + 1, 0, none⟩ (.slice a2 (NS ++ [xn]).length q2)) (by have cc := HR7.k5.cell 0; have ff := HR7.k5.frozen 0; have cd := HB5.cell 0; have fd := HB5.frozen 0; go_simp) ?_
                  refine hK _ _ ⟨fun h => absurd h (by decide), fun h => absurd h (by decide)⟩ ?_
                  refine wpAnyF_done (by kernel_rfl) ?_
                  have hfin := HR7.fin hw1 h6 HES.out HNS.out.symm HOS.out
                  exact ⟨hfin.1.1, hfin.1.2, hfin.2⟩
            · refine wp_built1 23 3 (.tmp 38) (.int .i64 (xn : Int)) rfl (by rfl) Tryz.underlying23 #[.int .i64 (xn : Int)] (built_int _) ?_
              have hb5 : Below v2.heap.size v2 (v2.alloc (.cells #[.int .i64 (xn : Int)] 3)) := (Below.refl _ _).alloc (Nat.le_refl _) _
              have HR5 := HR2.below hb5
              have HG6_5 := Blk.new v2 3 #[.int .i64 (xn : Int)]
              have hs5 := Nat.lt_of_lt_of_le hs2 hb5.size
              have HG2_5 := HG2_2.below hb5 HG2_2.lt
              clear hb5
              generalize v2.alloc (.cells #[.int .i64 (xn : Int)] 3) = v5 at *
              generalize v2.heap.size = g6 at *
              refine hK _ _ ⟨fun _ => ⟨HR5.k4, HR5.k6⟩, fun _ => HR5.k5⟩ ?_
              clear hK
              simp only [Act.put, List.getElem_toArray, List.getElem_cons_succ, List.getElem_cons_zero, List.setIfInBounds_toArray, List.set_cons_succ, List.set_cons_zero]
              refine wpAnyF_all (rs := [3]) (by kernel_rfl) (by decide) ?_
              refine wpAnyF_cons rfl rfl (fun K hK => ?_) wpAnyF_nil
              · refine wp_append_any _ (.tmp 33) (.tmp 35) 22 rfl (L + 1 + 1 + 1) 33 iS _ 4 56 Tryz.underlying22 hiS hzS hsS hbS rfl (by decide) A _ _ (by rfl) HR5.ls.rowA (g2 + 1) (some ⟨g2, 0, none⟩) 1 1 (enC ⟨e, D, c⟩).toList (by rfl) (blk_reads HG2_5 rfl) (fun u hu => List.all_eq_true.1 (show (enC ⟨e, D, c⟩).toList.all (·.oneCell') = true from rfl) u hu) (by simp only [maxLen]; omega) (by omega) HR5.hz ?_
                intro A1 v6 hown6 hg6 hob6
                have HR6 := HR5.appA hw1 h6 hs5 hown6 hg6 hob6
                have hs6 := Nat.lt_of_lt_of_le hs5 hg6.size
                have HG6_6 := HG6_5.grown hg6 (fun e => own_blk_ne HR5.ls.rowA HG6_5 (by decide) e.symm)
                clear hown6 hg6 hob6
                refine hK _ _ ⟨fun _ => ⟨HR6.k4, HR6.k6⟩, fun _ => HR6.k5⟩ ?_
                clear hK
                simp only [Act.put, List.getElem_toArray, List.getElem_cons_succ, List.getElem_cons_zero, List.setIfInBounds_toArray, List.set_cons_succ, List.set_cons_zero]
                refine wpAnyF_all (rs := [7]) (by kernel_rfl) (by decide) ?_
                refine wpAnyF_cons rfl rfl (fun K hK => ?_) wpAnyF_nil
                · refine wp_append_any _ (.tmp 37) (.tmp 39) 23 rfl (L + 1 + 1 + 1) 3 iI _ 1 8 Tryz.underlying23 hiI hzI hsI hbI rfl (by decide) B _ _ (by rfl) HR6.ls.rowB (g6 + 1) (some ⟨g6, 0, none⟩) 1 1 [.int .i64 (xn : Int)] (by rfl) (blk_reads HG6_6 rfl) (by intro u hu; rw [List.mem_singleton.1 hu]; rfl) (by simp only [maxLen]; omega) (by omega) HR6.hz ?_
                  intro B1 v7 hown7 hg7 _
                  have HR7 := HR6.appB hw1 h6 hown7 hg7
                  clear hown7 hg7
                  refine hK _ _ ⟨fun _ => ⟨HR7.k4, HR7.k6⟩, fun _ => HR7.k5⟩ ?_
                  clear hK
                  simp only [Act.put, List.getElem_toArray, List.getElem_cons_succ, List.getElem_cons_zero, List.setIfInBounds_toArray, List.set_cons_succ, List.set_cons_zero]
                  refine wpAnyF_all (rs := [8]) (by kernel_rfl) (by decide) ?_
                  refine wpAnyF_cons rfl rfl (fun K hK => ?_) wpAnyF_nil
                  obtain ⟨a1, q1, rfl⟩ := own_slG HR7.ls.rowA
                  obtain ⟨a2, q2, rfl⟩ := own_slG HR7.ls.rowB
                  refine wp_skip (w' := v7.setCell ⟨L, 0, none⟩ (.slice a1 (E ++ [(⟨e, D, c⟩ : EnL)]).length q1)) (by have cc := HR7.k4.cell 0; have f := HR7.k4.frozen 0; go_simp) ?_
                  refine hK _ _ ⟨fun h => absurd h (by decide), fun _ => HR7.k5.far (p := ⟨L, 0, none⟩) (by show L + 1 ≠ L; omega) _⟩ ?_
                  refine wpAnyF_all (rs := [9]) (by kernel_rfl) (by decide) ?_
                  refine wpAnyF_cons rfl rfl (fun K hK => ?_) wpAnyF_nil
                  have HB5 := HR7.k5.far (p := ⟨L, 0, none⟩) (by show L + 1 ≠ L; omega) (.slice a1 (E ++ [(⟨e, D, c⟩ : EnL)]).length q1)
                  refine wp_skip (w' := (v7.setCell ⟨L, 0, none⟩ (.slice a1 (E ++ [(⟨e, D, c⟩ : EnL)]).length q1)).setCell ⟨L + 1, 0, none⟩ (.slice a2 (NS ++ [xn]).length q2)) (by have cc := HR7.k5.cell 0; have ff := HR7.k5.frozen 0; have cd := HB5.cell 0; have fd := HB5.frozen 0; go_simp) ?_
                  refine hK _ _ ⟨fun h => absurd h (by decide), fun h => absurd h (by decide)⟩ ?_
                  refine wpAnyF_done (by kernel_rfl) ?_
                  have hfin := HR7.fin hw1 h6 HES.out HNS.out.symm HOS.out
                  exact ⟨hfin.1.1, hfin.1.2, hfin.2⟩
          · refine wp_built1 23 3 (.tmp 38) (.int .i64 (xn : Int)) rfl (by rfl) Tryz.underlying23 #[.int .i64 (xn : Int)] (built_int _) ?_
            have hb4 : Below v2.heap.size v2 (v2.alloc (.cells #[.int .i64 (xn : Int)] 3)) := (Below.refl _ _).alloc (Nat.le_refl _) _
            have HR4 := HR2.below hb4
            have HG6_4 := Blk.new v2 3 #[.int .i64 (xn : Int)]
            have hs4 := Nat.lt_of_lt_of_le hs2 hb4.size
            have HG2_4 := HG2_2.below hb4 HG2_2.lt
            clear hb4
            generalize v2.alloc (.cells #[.int .i64 (xn : Int)] 3) = v4 at *
            generalize v2.heap.size = g6 at *
            refine hK _ _ ⟨fun _ => ⟨HR4.k4, HR4.k6⟩, fun _ => HR4.k5⟩ ?_
            clear hK
            simp only [Act.put, List.getElem_toArray, List.getElem_cons_succ, List.getElem_cons_zero, List.setIfInBounds_toArray, List.set_cons_succ, List.set_cons_zero]
            refine wpAnyF_all (rs := [3, 4]) (by kernel_rfl) (by decide) ?_
            refine wpAnyF_cons rfl rfl (fun K hK => ?_) (wpAnyF_cons rfl rfl (fun K hK => ?_) wpAnyF_nil)
            · refine wp_append_any _ (.tmp 33) (.tmp 35) 22 rfl (L + 1 + 1 + 1) 33 iS _ 4 56 Tryz.underlying22 hiS hzS hsS hbS rfl (by decide) A _ _ (by rfl) HR4.ls.rowA (g2 + 1) (some ⟨g2, 0, none⟩) 1 1 (enC ⟨e, D, c⟩).toList (by rfl) (blk_reads HG2_4 rfl) (fun u hu => List.all_eq_true.1 (show (enC ⟨e, D, c⟩).toList.all (·.oneCell') = true from rfl) u hu) (by simp only [maxLen]; omega) (by omega) HR4.hz ?_
              intro A1 v5 hown5 hg5 hob5
              have HR5 := HR4.appA hw1 h6 hs4 hown5 hg5 hob5
              have hs5 := Nat.lt_of_lt_of_le hs4 hg5.size
              have HG6_5 := HG6_4.grown hg5 (fun e => own_blk_ne HR4.ls.rowA HG6_4 (by decide) e.symm)
              clear hown5 hg5 hob5
              refine hK _ _ ⟨fun _ => ⟨HR5.k4, HR5.k6⟩, fun _ => HR5.k5⟩ ?_
              clear hK
              simp only [Act.put, List.getElem_toArray, List.getElem_cons_succ, List.getElem_cons_zero, List.setIfInBounds_toArray, List.set_cons_succ, List.set_cons_zero]
              refine wpAnyF_all (rs := [4]) (by kernel_rfl) (by decide) ?_
              refine wpAnyF_cons rfl rfl (fun K hK => ?_) wpAnyF_nil
              · have c4 := HR5.k5.cell 0
                refine wp_value (v := B) (by go_simp) ?_
                clear c4
                refine hK _ _ ⟨fun _ => ⟨HR5.k4, HR5.k6⟩, fun _ => HR5.k5⟩ ?_
                clear hK
                simp only [Act.put, List.getElem_toArray, List.getElem_cons_succ, List.getElem_cons_zero, List.setIfInBounds_toArray, List.set_cons_succ, List.set_cons_zero]
                refine wpAnyF_all (rs := [7]) (by kernel_rfl) (by decide) ?_
                refine wpAnyF_cons rfl rfl (fun K hK => ?_) wpAnyF_nil
                · refine wp_append_any _ (.tmp 37) (.tmp 39) 23 rfl (L + 1 + 1 + 1) 3 iI _ 1 8 Tryz.underlying23 hiI hzI hsI hbI rfl (by decide) B _ _ (by rfl) HR5.ls.rowB (g6 + 1) (some ⟨g6, 0, none⟩) 1 1 [.int .i64 (xn : Int)] (by rfl) (blk_reads HG6_5 rfl) (by intro u hu; rw [List.mem_singleton.1 hu]; rfl) (by simp only [maxLen]; omega) (by omega) HR5.hz ?_
                  intro B1 v7 hown7 hg7 _
                  have HR7 := HR5.appB hw1 h6 hown7 hg7
                  clear hown7 hg7
                  refine hK _ _ ⟨fun _ => ⟨HR7.k4, HR7.k6⟩, fun _ => HR7.k5⟩ ?_
                  clear hK
                  simp only [Act.put, List.getElem_toArray, List.getElem_cons_succ, List.getElem_cons_zero, List.setIfInBounds_toArray, List.set_cons_succ, List.set_cons_zero]
                  refine wpAnyF_all (rs := [8]) (by kernel_rfl) (by decide) ?_
                  refine wpAnyF_cons rfl rfl (fun K hK => ?_) wpAnyF_nil
                  obtain ⟨a1, q1, rfl⟩ := own_slG HR7.ls.rowA
                  obtain ⟨a2, q2, rfl⟩ := own_slG HR7.ls.rowB
                  refine wp_skip (w' := v7.setCell ⟨L, 0, none⟩ (.slice a1 (E ++ [(⟨e, D, c⟩ : EnL)]).length q1)) (by have cc := HR7.k4.cell 0; have f := HR7.k4.frozen 0; go_simp) ?_
                  refine hK _ _ ⟨fun h => absurd h (by decide), fun _ => HR7.k5.far (p := ⟨L, 0, none⟩) (by show L + 1 ≠ L; omega) _⟩ ?_
                  refine wpAnyF_all (rs := [9]) (by kernel_rfl) (by decide) ?_
                  refine wpAnyF_cons rfl rfl (fun K hK => ?_) wpAnyF_nil
                  have HB5 := HR7.k5.far (p := ⟨L, 0, none⟩) (by show L + 1 ≠ L; omega) (.slice a1 (E ++ [(⟨e, D, c⟩ : EnL)]).length q1)
                  refine wp_skip (w' := (v7.setCell ⟨L, 0, none⟩ (.slice a1 (E ++ [(⟨e, D, c⟩ : EnL)]).length q1)).setCell ⟨L + 1, 0, none⟩ (.slice a2 (NS ++ [xn]).length q2)) (by have cc := HR7.k5.cell 0; have ff := HR7.k5.frozen 0; have cd := HB5.cell 0; have fd := HB5.frozen 0; go_simp) ?_
                  refine hK _ _ ⟨fun h => absurd h (by decide), fun h => absurd h (by decide)⟩ ?_
                  refine wpAnyF_done (by kernel_rfl) ?_
                  have hfin := HR7.fin hw1 h6 HES.out HNS.out.symm HOS.out
                  exact ⟨hfin.1.1, hfin.1.2, hfin.2⟩
            · have c4 := HR4.k5.cell 0
              refine wp_value (v := B) (by go_simp) ?_
              clear c4
              refine hK _ _ ⟨fun _ => ⟨HR4.k4, HR4.k6⟩, fun _ => HR4.k5⟩ ?_
              clear hK
              simp only [Act.put, List.getElem_toArray, List.getElem_cons_succ, List.getElem_cons_zero, List.setIfInBounds_toArray, List.set_cons_succ, List.set_cons_zero]
              refine wpAnyF_all (rs := [3]) (by kernel_rfl) (by decide) ?_
              refine wpAnyF_cons rfl rfl (fun K hK => ?_) wpAnyF_nil
              · refine wp_append_any _ (.tmp 33) (.tmp 35) 22 rfl (L + 1 + 1 + 1) 33 iS _ 4 56 Tryz.underlying22 hiS hzS hsS hbS rfl (by decide) A _ _ (by rfl) HR4.ls.rowA (g2 + 1) (some ⟨g2, 0, none⟩) 1 1 (enC ⟨e, D, c⟩).toList (by rfl) (blk_reads HG2_4 rfl) (fun u hu => List.all_eq_true.1 (show (enC ⟨e, D, c⟩).toList.all (·.oneCell') = true from rfl) u hu) (by simp only [maxLen]; omega) (by omega) HR4.hz ?_
                intro A1 v6 hown6 hg6 hob6
                have HR6 := HR4.appA hw1 h6 hs4 hown6 hg6 hob6
                have hs6 := Nat.lt_of_lt_of_le hs4 hg6.size
                have HG6_6 := HG6_4.grown hg6 (fun e => own_blk_ne HR4.ls.rowA HG6_4 (by decide) e.symm)
                clear hown6 hg6 hob6
                refine hK _ _ ⟨fun _ => ⟨HR6.k4, HR6.k6⟩, fun _ => HR6.k5⟩ ?_
                clear hK
                simp only [Act.put, List.getElem_toArray, List.getElem_cons_succ, List.getElem_cons_zero, List.setIfInBounds_toArray, List.set_cons_succ, List.set_cons_zero]
                refine wpAnyF_all (rs := [7]) (by kernel_rfl) (by decide) ?_
                refine wpAnyF_cons rfl rfl (fun K hK => ?_) wpAnyF_nil
                · refine wp_append_any _ (.tmp 37) (.tmp 39) 23 rfl (L + 1 + 1 + 1) 3 iI _ 1 8 Tryz.underlying23 hiI hzI hsI hbI rfl (by decide) B _ _ (by rfl) HR6.ls.rowB (g6 + 1) (some ⟨g6, 0, none⟩) 1 1 [.int .i64 (xn : Int)] (by rfl) (blk_reads HG6_6 rfl) (by intro u hu; rw [List.mem_singleton.1 hu]; rfl) (by simp only [maxLen]; omega) (by omega) HR6.hz ?_
                  intro B1 v7 hown7 hg7 _
                  have HR7 := HR6.appB hw1 h6 hown7 hg7
                  clear hown7 hg7
                  refine hK _ _ ⟨fun _ => ⟨HR7.k4, HR7.k6⟩, fun _ => HR7.k5⟩ ?_
                  clear hK
                  simp only [Act.put, List.getElem_toArray, List.getElem_cons_succ, List.getElem_cons_zero, List.setIfInBounds_toArray, List.set_cons_succ, List.set_cons_zero]
                  refine wpAnyF_all (rs := [8]) (by kernel_rfl) (by decide) ?_
                  refine wpAnyF_cons rfl rfl (fun K hK => ?_) wpAnyF_nil
                  obtain ⟨a1, q1, rfl⟩ := own_slG HR7.ls.rowA
                  obtain ⟨a2, q2, rfl⟩ := own_slG HR7.ls.rowB
                  refine wp_skip (w' := v7.setCell ⟨L, 0, none⟩ (.slice a1 (E ++ [(⟨e, D, c⟩ : EnL)]).length q1)) (by have cc := HR7.k4.cell 0; have f := HR7.k4.frozen 0; go_simp) ?_
                  refine hK _ _ ⟨fun h => absurd h (by decide), fun _ => HR7.k5.far (p := ⟨L, 0, none⟩) (by show L + 1 ≠ L; omega) _⟩ ?_
                  refine wpAnyF_all (rs := [9]) (by kernel_rfl) (by decide) ?_
                  refine wpAnyF_cons rfl rfl (fun K hK => ?_) wpAnyF_nil
                  have HB5 := HR7.k5.far (p := ⟨L, 0, none⟩) (by show L + 1 ≠ L; omega) (.slice a1 (E ++ [(⟨e, D, c⟩ : EnL)]).length q1)
                  refine wp_skip (w' := (v7.setCell ⟨L, 0, none⟩ (.slice a1 (E ++ [(⟨e, D, c⟩ : EnL)]).length q1)).setCell ⟨L + 1, 0, none⟩ (.slice a2 (NS ++ [xn]).length q2)) (by have cc := HR7.k5.cell 0; have ff := HR7.k5.frozen 0; have cd := HB5.cell 0; have fd := HB5.frozen 0; go_simp) ?_
                  refine hK _ _ ⟨fun h => absurd h (by decide), fun h => absurd h (by decide)⟩ ?_
                  refine wpAnyF_done (by kernel_rfl) ?_
                  have hfin := HR7.fin hw1 h6 HES.out HNS.out.symm HOS.out
                  exact ⟨hfin.1.1, hfin.1.2, hfin.2⟩
      · have c4 := HR0.k5.cell 0
        refine wp_value (v := B) (by go_simp) ?_
        clear c4
        refine hK _ _ ⟨fun _ => ⟨HR0.k4, HR0.k6⟩, fun _ => HR0.k5⟩ ?_
        clear hK
        simp only [Act.put, List.getElem_toArray, List.getElem_cons_succ, List.getElem_cons_zero, List.setIfInBounds_toArray, List.set_cons_succ, List.set_cons_zero]
        refine wpAnyF_all (rs := [2, 5]) (by kernel_rfl) (by decide) ?_
        refine wpAnyF_cons rfl rfl (fun K hK => ?_) (wpAnyF_cons rfl rfl (fun K hK => ?_) wpAnyF_nil)
        · refine wp_built1 22 33 (.tmp 34) (.agg (enC ⟨e, D, c⟩)) rfl (by rfl) Tryz.underlying22 (enC ⟨e, D, c⟩) (built_sum ⟨e, D, c⟩) ?_
          have hb3 : Below v0.heap.size v0 (v0.alloc (.cells (enC ⟨e, D, c⟩) 33)) := (Below.refl _ _).alloc (Nat.le_refl _) _
          have HR3 := HR0.below hb3
          have HG2_3 := Blk.new v0 33 (enC ⟨e, D, c⟩)
          have hs3 := Nat.lt_of_lt_of_le hs0' hb3.size
          clear hb3
          generalize v0.alloc (.cells (enC ⟨e, D, c⟩) 33) = v3 at *
          generalize v0.heap.size = g2 at *
          refine hK _ _ ⟨fun _ => ⟨HR3.k4, HR3.k6⟩, fun _ => HR3.k5⟩ ?_
          clear hK
          simp only [Act.put, List.getElem_toArray, List.getElem_cons_succ, List.getElem_cons_zero, List.setIfInBounds_toArray, List.set_cons_succ, List.set_cons_zero]
          refine wpAnyF_all (rs := [3, 5]) (by kernel_rfl) (by decide) ?_
          refine wpAnyF_cons rfl rfl (fun K hK => ?_) (wpAnyF_cons rfl rfl (fun K hK => ?_) wpAnyF_nil)
          · refine wp_append_any _ (.tmp 33) (.tmp 35) 22 rfl (L + 1 + 1 + 1) 33 iS _ 4 56 Tryz.underlying22 hiS hzS hsS hbS rfl (by decide) A _ _ (by rfl) HR3.ls.rowA (g2 + 1) (some ⟨g2, 0, none⟩) 1 1 (enC ⟨e, D, c⟩).toList (by rfl) (blk_reads HG2_3 rfl) (fun u hu => List.all_eq_true.1 (show (enC ⟨e, D, c⟩).toList.all (·.oneCell') = true from rfl) u hu) (by simp only [maxLen]; omega) (by omega) HR3.hz ?_
            intro A1 v4 hown4 hg4 hob4
            have HR4 := HR3.appA hw1 h6 hs3 hown4 hg4 hob4
            have hs4 := Nat.lt_of_lt_of_le hs3 hg4.size
            clear hown4 hg4 hob4
            refine hK _ _ ⟨fun _ => ⟨HR4.k4, HR4.k6⟩, fun _ => HR4.k5⟩ ?_
            clear hK
            simp only [Act.put, List.getElem_toArray, List.getElem_cons_succ, List.getElem_cons_zero, List.setIfInBounds_toArray, List.set_cons_succ, List.set_cons_zero]
            refine wpAnyF_all (rs := [5]) (by kernel_rfl) (by decide) ?_
            refine wpAnyF_cons rfl rfl (fun K hK => ?_) wpAnyF_nil
            · refine wp_value (v := .int .i64 (xn : Int)) (by rfl) ?_
              refine hK _ _ ⟨fun _ => ⟨HR4.k4, HR4.k6⟩, fun _ => HR4.k5⟩ ?_
              clear hK
              simp only [Act.put, List.getElem_toArray, List.getElem_cons_succ, List.getElem_cons_zero, List.setIfInBounds_toArray, List.set_cons_succ, List.set_cons_zero]
              refine wpAnyF_all (rs := [6]) (by kernel_rfl) (by decide) ?_
              refine wpAnyF_cons rfl rfl (fun K hK => ?_) wpAnyF_nil
              · refine wp_built1 23 3 (.tmp 38) (.int .i64 (xn : Int)) rfl (by rfl) Tryz.underlying23 #[.int .i64 (xn : Int)] (built_int _) ?_
                have hb6 : Below v4.heap.size v4 (v4.alloc (.cells #[.int .i64 (xn : Int)] 3)) := (Below.refl _ _).alloc (Nat.le_refl _) _
                have HR6 := HR4.below hb6
                have HG6_6 := Blk.new v4 3 #[.int .i64 (xn : Int)]
                have hs6 := Nat.lt_of_lt_of_le hs4 hb6.size
                clear hb6
                generalize v4.alloc (.cells #[.int .i64 (xn : Int)] 3) = v6 at *
                generalize v4.heap.size = g6 at *
                refine hK _ _ ⟨fun _ => ⟨HR6.k4, HR6.k6⟩, fun _ => HR6.k5⟩ ?_
                clear hK
                simp only [Act.put, List.getElem_toArray, List.getElem_cons_succ, List.getElem_cons_zero, List.setIfInBounds_toArray, List.set_cons_succ, List.set_cons_zero]
                refine wpAnyF_all (rs := [7]) (by kernel_rfl) (by decide) ?_
                refine wpAnyF_cons rfl rfl (fun K hK => ?_) wpAnyF_nil
                · refine wp_append_any _ (.tmp 37) (.tmp 39) 23 rfl (L + 1 + 1 + 1) 3 iI _ 1 8 Tryz.underlying23 hiI hzI hsI hbI rfl (by decide) B _ _ (by rfl) HR6.ls.rowB (g6 + 1) (some ⟨g6, 0, none⟩) 1 1 [.int .i64 (xn : Int)] (by rfl) (blk_reads HG6_6 rfl) (by intro u hu; rw [List.mem_singleton.1 hu]; rfl) (by simp only [maxLen]; omega) (by omega) HR6.hz ?_
                  intro B1 v7 hown7 hg7 _
                  have HR7 := HR6.appB hw1 h6 hown7 hg7
                  clear hown7 hg7
                  refine hK _ _ ⟨fun _ => ⟨HR7.k4, HR7.k6⟩, fun _ => HR7.k5⟩ ?_
                  clear hK
                  simp only [Act.put, List.getElem_toArray, List.getElem_cons_succ, List.getElem_cons_zero, List.setIfInBounds_toArray, List.set_cons_succ, List.set_cons_zero]
                  refine wpAnyF_all (rs := [8]) (by kernel_rfl) (by decide) ?_
                  refine wpAnyF_cons rfl rfl (fun K hK => ?_) wpAnyF_nil
                  obtain ⟨a1, q1, rfl⟩ := own_slG HR7.ls.rowA
                  obtain ⟨a2, q2, rfl⟩ := own_slG HR7.ls.rowB
                  refine wp_skip (w' := v7.setCell ⟨L, 0, none⟩ (.slice a1 (E ++ [(⟨e, D, c⟩ : EnL)]).length q1)) (by have cc := HR7.k4.cell 0; have f := HR7.k4.frozen 0; go_simp) ?_
                  refine hK _ _ ⟨fun h => absurd h (by decide), fun _ => HR7.k5.far (p := ⟨L, 0, none⟩) (by show L + 1 ≠ L; omega) _⟩ ?_
                  refine wpAnyF_all (rs := [9]) (by kernel_rfl) (by decide) ?_
                  refine wpAnyF_cons rfl rfl (fun K hK => ?_) wpAnyF_nil
                  have HB5 := HR7.k5.far (p := ⟨L, 0, none⟩) (by show L + 1 ≠ L; omega) (.slice a1 (E ++ [(⟨e, D, c⟩ : EnL)]).length q1)
                  refine wp_skip (w' := (v7.setCell ⟨L, 0, none⟩ (.slice a1 (E ++ [(⟨e, D, c⟩ : EnL)]).length q1)).setCell ⟨L + 1, 0, none⟩ (.slice a2 (NS ++ [xn]).length q2)) (by have cc := HR7.k5.cell 0; have ff := HR7.k5.frozen 0; have cd := HB5.cell 0; have fd := HB5.frozen 0; go_simp) ?_
                  refine hK _ _ ⟨fun h => absurd h (by decide), fun h => absurd h (by decide)⟩ ?_
                  refine wpAnyF_done (by kernel_rfl) ?_
                  have hfin := HR7.fin hw1 h6 HES.out HNS.out.symm HOS.out
                  exact ⟨hfin.1.1, hfin.1.2, hfin.2⟩
          · refine wp_value (v := .int .i64 (xn : Int)) (by rfl) ?_
            refine hK _ _ ⟨fun _ => ⟨HR3.k4, HR3.k6⟩, fun _ => HR3.k5⟩ ?_
            clear hK
            simp only [Act.put, List.getElem_toArray, List.getElem_cons_succ, List.getElem_cons_zero, List.setIfInBounds_toArray, List.set_cons_succ, List.set_cons_zero]
            refine wpAnyF_all (rs := [3, 6]) (by kernel_rfl) (by decide) ?_
            refine wpAnyF_cons rfl rfl (fun K hK => ?_) (wpAnyF_cons rfl rfl (fun K hK => ?_) wpAnyF_nil)
            · refine wp_append_any _ (.tmp 33) (.tmp 35) 22 rfl (L + 1 + 1 + 1) 33 iS _ 4 56 Tryz.underlying22 hiS hzS hsS hbS rfl (by decide) A _ _ (by rfl) HR3.ls.rowA (g2 + 1) (some ⟨g2, 0, none⟩) 1 1 (enC ⟨e, D, c⟩).toList (by rfl) (blk_reads HG2_3 rfl) (fun u hu => List.all_eq_true.1 (show (enC ⟨e, D, c⟩).toList.all (·.oneCell') = true from rfl) u hu) (by simp only [maxLen]; omega) (by omega) HR3.hz ?_
              intro A1 v5 hown5 hg5 hob5
              have HR5 := HR3.appA hw1 h6 hs3 hown5 hg5 hob5
              have hs5 := Nat.lt_of_lt_of_le hs3 hg5.size
              clear hown5 hg5 hob5
              refine hK _ _ ⟨fun _ => ⟨HR5.k4, HR5.k6⟩, fun _ => HR5.k5⟩ ?_
              clear hK
              simp only [Act.put, List.getElem_toArray, List.getElem_cons_succ, List.getElem_cons_zero, List.setIfInBounds_toArray, List.set_cons_succ, List.set_cons_zero]
              refine wpAnyF_all (rs := [6]) (by kernel_rfl) (by decide) ?_
              refine wpAnyF_cons rfl rfl (fun K hK => ?_) wpAnyF_nil
              · refine wp_built1 23 3 (.tmp 38) (.int .i64 (xn : Int)) rfl (by rfl) Tryz.underlying23 #[.int .i64 (xn : Int)] (built_int _) ?_
                have hb6 : Below v5.heap.size v5 (v5.alloc (.cells #[.int .i64 (xn : Int)] 3)) := (Below.refl _ _).alloc (Nat.le_refl _) _
                have HR6 := HR5.below hb6
                have HG6_6 := Blk.new v5 3 #[.int .i64 (xn : Int)]
                have hs6 := Nat.lt_of_lt_of_le hs5 hb6.size
                clear hb6
                generalize v5.alloc (.cells #[.int .i64 (xn : Int)] 3) = v6 at *
                generalize v5.heap.size = g6 at *
                refine hK _ _ ⟨fun _ => ⟨HR6.k4, HR6.k6⟩, fun _ => HR6.k5⟩ ?_
                clear hK
                simp only [Act.put, List.getElem_toArray, List.getElem_cons_succ, List.getElem_cons_zero, List.setIfInBounds_toArray, List.set_cons_succ, List.set_cons_zero]
                refine wpAnyF_all (rs := [7]) (by kernel_rfl) (by decide) ?_
                refine wpAnyF_cons rfl rfl (fun K hK => ?_) wpAnyF_nil
                · refine wp_append_any _ (.tmp 37) (.tmp 39) 23 rfl (L + 1 + 1 + 1) 3 iI _ 1 8 Tryz.underlying23 hiI hzI hsI hbI rfl (by decide) B _ _ (by rfl) HR6.ls.rowB (g6 + 1) (some ⟨g6, 0, none⟩) 1 1 [.int .i64 (xn : Int)] (by rfl) (blk_reads HG6_6 rfl) (by intro u hu; rw [List.mem_singleton.1 hu]; rfl) (by simp only [maxLen]; omega) (by omega) HR6.hz ?_
                  intro B1 v7 hown7 hg7 _
                  have HR7 := HR6.appB hw1 h6 hown7 hg7
                  clear hown7 hg7
                  refine hK _ _ ⟨fun _ => ⟨HR7.k4, HR7.k6⟩, fun _ => HR7.k5⟩ ?_
                  clear hK
                  simp only [Act.put, List.getElem_toArray, List.getElem_cons_succ, List.getElem_cons_zero, List.setIfInBounds_toArray, List.set_cons_succ, List.set_cons_zero]
                  refine wpAnyF_all (rs := [8]) (by kernel_rfl) (by decide) ?_
                  refine wpAnyF_cons rfl rfl (fun K hK => ?_) wpAnyF_nil
                  obtain ⟨a1, q1, rfl⟩ := own_slG HR7.ls.rowA
                  obtain ⟨a2, q2, rfl⟩ := own_slG HR7.ls.rowB
                  refine wp_skip (w' := v7.setCell ⟨L, 0, none⟩ (.slice a1 (E ++ [(⟨e, D, c⟩ : EnL)]).length q1)) (by have cc := HR7.k4.cell 0; have f := HR7.k4.frozen 0; go_simp) ?_
                  refine hK _ _ ⟨fun h => absurd h (by decide), fun _ => HR7.k5.far (p := ⟨L, 0, none⟩) (by show L + 1 ≠ L; omega) _⟩ ?_
                  refine wpAnyF_all (rs := [9]) (by kernel_rfl) (by decide) ?_
                  refine wpAnyF_cons rfl rfl (fun K hK => ?_) wpAnyF_nil
                  have HB5 := HR7.k5.far (p := ⟨L, 0, none⟩) (by show L + 1 ≠ L; omega) (.slice a1 (E ++ [(⟨e, D, c⟩ : EnL)]).length q1)
                  refine wp_skip (w' := (v7.setCell ⟨L, 0, none⟩ (.slice a1 (E ++ [(⟨e, D, c⟩ : EnL)]).length q1)).setCell ⟨L + 1, 0, none⟩ (.slice a2 (NS ++ [xn]).length q2)) (by have cc := HR7.k5.cell 0; have ff := HR7.k5.frozen 0; have cd := HB5.cell 0; have fd := HB5.frozen 0; go_simp) ?_
                  refine hK _ _ ⟨fun h => absurd h (by decide), fun h => absurd h (by decide)⟩ ?_
                  refine wpAnyF_done (by kernel_rfl) ?_
                  have hfin := HR7.fin hw1 h6 HES.out HNS.out.symm HOS.out
                  exact ⟨hfin.1.1, hfin.1.2, hfin.2⟩
            · refine wp_built1 23 3 (.tmp 38) (.int .i64 (xn : Int)) rfl (by rfl) Tryz.underlying23 #[.int .i64 (xn : Int)] (built_int _) ?_
              have hb5 : Below v3.heap.size v3 (v3.alloc (.cells #[.int .i64 (xn : Int)] 3)) := (Below.refl _ _).alloc (Nat.le_refl _) _
              have HR5 := HR3.below hb5
              have HG6_5 := Blk.new v3 3 #[.int .i64 (xn : Int)]
              have hs5 := Nat.lt_of_lt_of_le hs3 hb5.size
              have HG2_5 := HG2_3.below hb5 HG2_3.lt
              clear hb5
              generalize v3.alloc (.cells #[.int .i64 (xn : Int)] 3) = v5 at *
              generalize v3.heap.size = g6 at *
              refine hK _ _ ⟨fun _ => ⟨HR5.k4, HR5.k6⟩, fun _ => HR5.k5⟩ ?_
              clear hK
              simp only [Act.put, List.getElem_toArray, List.getElem_cons_succ, List.getElem_cons_zero, List.setIfInBounds_toArray, List.set_cons_succ, List.set_cons_zero]
              refine wpAnyF_all (rs := [3]) (by kernel_rfl) (by decide) ?_
              refine wpAnyF_cons rfl rfl (fun K hK => ?_) wpAnyF_nil
              · refine wp_append_any _ (.tmp 33) (.tmp 35) 22 rfl (L + 1 + 1 + 1) 33 iS _ 4 56 Tryz.underlying22 hiS hzS hsS hbS rfl (by decide) A _ _ (by rfl) HR5.ls.rowA (g2 + 1) (some ⟨g2, 0, none⟩) 1 1 (enC ⟨e, D, c⟩).toList (by rfl) (blk_reads HG2_5 rfl) (fun u hu => List.all_eq_true.1 (show (enC ⟨e, D, c⟩).toList.all (·.oneCell') = true from rfl) u hu) (by simp only [maxLen]; omega) (by omega) HR5.hz ?_
                intro A1 v6 hown6 hg6 hob6
                have HR6 := HR5.appA hw1 h6 hs5 hown6 hg6 hob6
                have hs6 := Nat.lt_of_lt_of_le hs5 hg6.size
                have HG6_6 := HG6_5.grown hg6 (fun e => own_blk_ne HR5.ls.rowA HG6_5 (by decide) e.symm)
                clear hown6 hg6 hob6
                refine hK _ _ ⟨fun _ => ⟨HR6.k4, HR6.k6⟩, fun _ => HR6.k5⟩ ?_
                clear hK
                simp only [Act.put, List.getElem_toArray, List.getElem_cons_succ, List.getElem_cons_zero, List.setIfInBounds_toArray, List.set_cons_succ, List.set_cons_zero]
                refine wpAnyF_all (rs := [7]) (by kernel_rfl) (by decide) ?_
                refine wpAnyF_cons rfl rfl (fun K hK => ?_) wpAnyF_nil
                · refine wp_append_any _ (.tmp 37) (.tmp 39) 23 rfl (L + 1 + 1 + 1) 3 iI _ 1 8 Tryz.underlying23 hiI hzI hsI hbI rfl (by decide) B _ _ (by rfl) HR6.ls.rowB (g6 + 1) (some ⟨g6, 0, none⟩) 1 1 [.int .i64 (xn : Int)] (by rfl) (blk_reads HG6_6 rfl) (by intro u hu; rw [List.mem_singleton.1 hu]; rfl) (by simp only [maxLen]; omega) (by omega) HR6.hz ?_
                  intro B1 v7 hown7 hg7 _
                  have HR7 := HR6.appB hw1 h6 hown7 hg7
                  clear hown7 hg7
                  refine hK _ _ ⟨fun _ => ⟨HR7.k4, HR7.k6⟩, fun _ => HR7.k5⟩ ?_
                  clear hK
                  simp only [Act.put, List.getElem_toArray, List.getElem_cons_succ, List.getElem_cons_zero, List.setIfInBounds_toArray, List.set_cons_succ, List.set_cons_zero]
                  refine wpAnyF_all (rs := [8]) (by kernel_rfl) (by decide) ?_
                  refine wpAnyF_cons rfl rfl (fun K hK => ?_) wpAnyF_nil
                  obtain ⟨a1, q1, rfl⟩ := own_slG HR7.ls.rowA
                  obtain ⟨a2, q2, rfl⟩ := own_slG HR7.ls.rowB
                  refine wp_skip (w' := v7.setCell ⟨L, 0, none⟩ (.slice a1 (E ++ [(⟨e, D, c⟩ : EnL)]).length q1)) (by have cc := HR7.k4.cell 0; have f := HR7.k4.frozen 0; go_simp) ?_
                  refine hK _ _ ⟨fun h => absurd h (by decide), fun _ => HR7.k5.far (p := ⟨L, 0, none⟩) (by show L + 1 ≠ L; omega) _⟩ ?_
                  refine wpAnyF_all (rs := [9]) (by kernel_rfl) (by decide) ?_
                  refine wpAnyF_cons rfl rfl (fun K hK => ?_) wpAnyF_nil
                  have HB5 := HR7.k5.far (p := ⟨L, 0, none⟩) (by show L + 1 ≠ L; omega) (.slice a1 (E ++ [(⟨e, D, c⟩ : EnL)]).length q1)
                  refine wp_skip (w' := (v7.setCell ⟨L, 0, none⟩ (.slice a1 (E ++ [(⟨e, D, c⟩ : EnL)]).length q1)).setCell ⟨L + 1, 0, none⟩ (.slice a2 (NS ++ [xn]).length q2)) (by have cc := HR7.k5.cell 0; have ff := HR7.k5.frozen 0; have cd := HB5.cell 0; have fd := HB5.frozen 0; go_simp) ?_
                  refine hK _ _ ⟨fun h => absurd h (by decide), fun h => absurd h (by decide)⟩ ?_
                  refine wpAnyF_done (by kernel_rfl) ?_
                  have hfin := HR7.fin hw1 h6 HES.out HNS.out.symm HOS.out
                  exact ⟨hfin.1.1, hfin.1.2, hfin.2⟩
        · refine wp_value (v := .int .i64 (xn : Int)) (by rfl) ?_
          refine hK _ _ ⟨fun _ => ⟨HR0.k4, HR0.k6⟩, fun _ => HR0.k5⟩ ?_
          clear hK
          simp only [Act.put, List.getElem_toArray, List.getElem_cons_succ, List.getElem_cons_zero, List.setIfInBounds_toArray, List.set_cons_succ, List.set_cons_zero]
          refine wpAnyF_all (rs := [2, 6]) (by kernel_rfl) (by decide) ?_
          refine wpAnyF_cons rfl rfl (fun K hK => ?_) (wpAnyF_cons rfl rfl (fun K hK => ?_) wpAnyF_nil)
          · refine wp_built1 22 33 (.tmp 34) (.agg (enC ⟨e, D, c⟩)) rfl (by rfl) Tryz.underlying22 (enC ⟨e, D, c⟩) (built_sum ⟨e, D, c⟩) ?_
            have hb4 : Below v0.heap.size v0 (v0.alloc (.cells (enC ⟨e, D, c⟩) 33)) := (Below.refl _ _).alloc (Nat.le_refl _) _
            have HR4 := HR0.below hb4
            have HG2_4 := Blk.new v0 33 (enC ⟨e, D, c⟩)
            have hs4 := Nat.lt_of_lt_of_le hs0' hb4.size
            clear hb4
            generalize v0.alloc (.cells (enC ⟨e, D, c⟩) 33) = v4 at *
            generalize v0.heap.size = g2 at *
            refine hK _ _ ⟨fun _ => ⟨HR4.k4, HR4.k6⟩, fun _ => HR4.k5⟩ ?_
            clear hK
            simp only [Act.put, List.getElem_toArray, List.getElem_cons_succ, List.getElem_cons_zero, List.setIfInBounds_toArray, List.set_cons_succ, List.set_cons_zero]
            refine wpAnyF_all (rs := [3, 6]) (by kernel_rfl) (by decide) ?_
            refine wpAnyF_cons rfl rfl (fun K hK => ?_) (wpAnyF_cons rfl rfl (fun K hK => ?_) wpAnyF_nil)
            · refine wp_append_any _ (.tmp 33) (.tmp 35) 22 rfl (L + 1 + 1 + 1) 33 iS _ 4 56 Tryz.underlying22 hiS hzS hsS hbS rfl (by decide) A _ _ (by rfl) HR4.ls.rowA (g2 + 1) (some ⟨g2, 0, none⟩) 1 1 (enC ⟨e, D, c⟩).toList (by rfl) (blk_reads HG2_4 rfl) (fun u hu => List.all_eq_true.1 (show (enC ⟨e, D, c⟩).toList.all (·.oneCell') = true from rfl) u hu) (by simp only [maxLen]; omega) (by omega) HR4.hz ?_
              intro A1 v5 hown5 hg5 hob5
              have HR5 := HR4.appA hw1 h6 hs4 hown5 hg5 hob5
              have hs5 := Nat.lt_of_lt_of_le hs4 hg5.size
              clear hown5 hg5 hob5
              refine hK _ _ ⟨fun _ => ⟨HR5.k4, HR5.k6⟩, fun _ => HR5.k5⟩ ?_
              clear hK
              simp only [Act.put, List.getElem_toArray, List.getElem_cons_succ, List.getElem_cons_zero, List.setIfInBounds_toArray, List.set_cons_succ, List.set_cons_zero]
              refine wpAnyF_all (rs := [6]) (by kernel_rfl) (by decide) ?_
              refine wpAnyF_cons rfl rfl (fun K hK => ?_) wpAnyF_nil
              · refine wp_built1 23 3 (.tmp 38) (.int .i64 (xn : Int)) rfl (by rfl) Tryz.underlying23 #[.int .i64 (xn : Int)] (built_int _) ?_
                have hb6 : Below v5.heap.size v5 (v5.alloc (.cells #[.int .i64 (xn : Int)] 3)) := (Below.refl _ _).alloc (Nat.le_refl _) _
                have HR6 := HR5.below hb6
                have HG6_6 := Blk.new v5 3 #[.int .i64 (xn : Int)]
                have hs6 := Nat.lt_of_lt_of_le hs5 hb6.size
                clear hb6
                generalize v5.alloc (.cells #[.int .i64 (xn : Int)] 3) = v6 at *
                generalize v5.heap.size = g6 at *
                refine hK _ _ ⟨fun _ => ⟨HR6.k4, HR6.k6⟩, fun _ => HR6.k5⟩ ?_
                clear hK
                simp only [Act.put, List.getElem_toArray, List.getElem_cons_succ, List.getElem_cons_zero, List.setIfInBounds_toArray, List.set_cons_succ, List.set_cons_zero]
                refine wpAnyF_all (rs := [7]) (by kernel_rfl) (by decide) ?_
                refine wpAnyF_cons rfl rfl (fun K hK => ?_) wpAnyF_nil
                · refine wp_append_any _ (.tmp 37) (.tmp 39) 23 rfl (L + 1 + 1 + 1) 3 iI _ 1 8 Tryz.underlying23 hiI hzI hsI hbI rfl (by decide) B _ _ (by rfl) HR6.ls.rowB (g6 + 1) (some ⟨g6, 0, none⟩) 1 1 [.int .i64 (xn : Int)] (by rfl) (blk_reads HG6_6 rfl) (by intro u hu; rw [List.mem_singleton.1 hu]; rfl) (by simp only [maxLen]; omega) (by omega) HR6.hz ?_
                  intro B1 v7 hown7 hg7 _
                  have HR7 := HR6.appB hw1 h6 hown7 hg7
                  clear hown7 hg7
                  refine hK _ _ ⟨fun _ => ⟨HR7.k4, HR7.k6⟩, fun _ => HR7.k5⟩ ?_
                  clear hK
                  simp only [Act.put, List.getElem_toArray, List.getElem_cons_succ, List.getElem_cons_zero, List.setIfInBounds_toArray, List.set_cons_succ, List.set_cons_zero]
                  refine wpAnyF_all (rs := [8]) (by kernel_rfl) (by decide) ?_
                  refine wpAnyF_cons rfl rfl (fun K hK => ?_) wpAnyF_nil
                  obtain ⟨a1, q1, rfl⟩ := own_slG HR7.ls.rowA
                  obtain ⟨a2, q2, rfl⟩ := own_slG HR7.ls.rowB
                  refine wp_skip (w' := v7.setCell ⟨L, 0, none⟩ (.slice a1 (E ++ [(⟨e, D, c⟩ : EnL)]).length q1)) (by have cc := HR7.k4.cell 0; have f := HR7.k4.frozen 0; go_simp) ?_
                  refine hK _ _ ⟨fun h => absurd h (by decide), fun _ => HR7.k5.far (p := ⟨L, 0, none⟩) (by show L + 1 ≠ L; omega) _⟩ ?_
                  refine wpAnyF_all (rs := [9]) (by kernel_rfl) (by decide) ?_
                  refine wpAnyF_cons rfl rfl (fun K hK => ?_) wpAnyF_nil
                  have HB5 := HR7.k5.far (p := ⟨L, 0, none⟩) (by show L + 1 ≠ L; omega) (.slice a1 (E ++ [(⟨e, D, c⟩ : EnL)]).length q1)
                  refine wp_skip (w' := (v7.setCell ⟨L, 0, none⟩ (.slice a1 (E ++ [(⟨e, D, c⟩ : EnL)]).length q1)).setCell ⟨L + 1, 0, none⟩ (.slice a2 (NS ++ [xn]).length q2)) (by have cc := HR7.k5.cell 0; have ff := HR7.k5.frozen 0; have cd := HB5.cell 0; have fd := HB5.frozen 0; go_simp) ?_
                  refine hK _ _ ⟨fun h => absurd h (by decide), fun h => absurd h (by decide)⟩ ?_
                  refine wpAnyF_done (by kernel_rfl) ?_
                  have hfin := HR7.fin hw1 h6 HES.out HNS.out.symm HOS.out
                  exact ⟨hfin.1.1, hfin.1.2, hfin.2⟩
            · refine wp_built1 23 3 (.tmp 38) (.int .i64 (xn : Int)) rfl (by rfl) Tryz.underlying23 #[.int .i64 (xn : Int)] (built_int _) ?_
              have hb5 : Below v4.heap.size v4 (v4.alloc (.cells #[.int .i64 (xn : Int)] 3)) := (Below.refl _ _).alloc (Nat.le_refl _) _
              have HR5 := HR4.below hb5
              have HG6_5 := Blk.new v4 3 #[.int .i64 (xn : Int)]
              have hs5 := Nat.lt_of_lt_of_le hs4 hb5.size
              have HG2_5 := HG2_4.below hb5 HG2_4.lt
              clear hb5
              generalize v4.alloc (.cells #[.int .i64 (xn : Int)] 3) = v5 at *
              generalize v4.heap.size = g6 at *
              refine hK _ _ ⟨fun _ => ⟨HR5.k4, HR5.k6⟩, fun _ => HR5.k5⟩ ?_
              clear hK
              simp only [Act.put, List.getElem_toArray, List.getElem_cons_succ, List.getElem_cons_zero, List.setIfInBounds_toArray, List.set_cons_succ, List.set_cons_zero]
              refine wpAnyF_all (rs := [3]) (by kernel_rfl) (by decide) ?_
              refine wpAnyF_cons rfl rfl (fun K hK => ?_) wpAnyF_nil
              · refine wp_append_any _ (.tmp 33) (.tmp 35) 22 rfl (L + 1 + 1 + 1) 33 iS _ 4 56 Tryz.underlying22 hiS hzS hsS hbS rfl (by decide) A _ _ (by rfl) HR5.ls.rowA (g2 + 1) (some ⟨g2, 0, none⟩) 1 1 (enC ⟨e, D, c⟩).toList (by rfl) (blk_reads HG2_5 rfl) (fun u hu => List.all_eq_true.1 (show (enC ⟨e, D, c⟩).toList.all (·.oneCell') = true from rfl) u hu) (by simp only [maxLen]; omega) (by omega) HR5.hz ?_
                intro A1 v6 hown6 hg6 hob6
                have HR6 := HR5.appA hw1 h6 hs5 hown6 hg6 hob6
                have hs6 := Nat.lt_of_lt_of_le hs5 hg6.size
                have HG6_6 := HG6_5.grown hg6 (fun e => own_blk_ne HR5.ls.rowA HG6_5 (by decide) e.symm)
                clear hown6 hg6 hob6
                refine hK _ _ ⟨fun _ => ⟨HR6.k4, HR6.k6⟩, fun _ => HR6.k5⟩ ?_
                clear hK
                simp only [Act.put, List.getElem_toArray, List.getElem_cons_succ, List.getElem_cons_zero, List.setIfInBounds_toArray, List.set_cons_succ, List.set_cons_zero]
                refine wpAnyF_all (rs := [7]) (by kernel_rfl) (by decide) ?_
                refine wpAnyF_cons rfl rfl (fun K hK => ?_) wpAnyF_nil
                · refine wp_append_any _ (.tmp 37) (.tmp 39) 23 rfl (L + 1 + 1 + 1) 3 iI _ 1 8 Tryz.underlying23 hiI hzI hsI hbI rfl (by decide) B _ _ (by rfl) HR6.ls.rowB (g6 + 1) (some ⟨g6, 0, none⟩) 1 1 [.int .i64 (xn : Int)] (by rfl) (blk_reads HG6_6 rfl) (by intro u hu; rw [List.mem_singleton.1 hu]; rfl) (by simp only [maxLen]; omega) (by omega) HR6.hz ?_
                  intro B1 v7 hown7 hg7 _
                  have HR7 := HR6.appB hw1 h6 hown7 hg7
                  clear hown7 hg7
                  refine hK _ _ ⟨fun _ => ⟨HR7.k4, HR7.k6⟩, fun _ => HR7.k5⟩ ?_
                  clear hK
                  simp only [Act.put, List.getElem_toArray, List.getElem_cons_succ, List.getElem_cons_zero, List.setIfInBounds_toArray, List.set_cons_succ, List.set_cons_zero]
                  refine wpAnyF_all (rs := [8]) (by kernel_rfl) (by decide) ?_
                  refine wpAnyF_cons rfl rfl (fun K hK => ?_) wpAnyF_nil
                  obtain ⟨a1, q1, rfl⟩ := own_slG HR7.ls.rowA
                  obtain ⟨a2, q2, rfl⟩ := own_slG HR7.ls.rowB
                  refine wp_skip (w' := v7.setCell ⟨L, 0, none⟩ (.slice a1 (E ++ [(⟨e, D, c⟩ : EnL)]).length q1)) (by have cc := HR7.k4.cell 0; have f := HR7.k4.frozen 0; go_simp) ?_
                  refine hK _ _ ⟨fun h => absurd h (by decide), fun _ => HR7.k5.far (p := ⟨L, 0, none⟩) (by show L + 1 ≠ L; omega) _⟩ ?_
                  refine wpAnyF_all (rs := [9]) (by kernel_rfl) (by decide) ?_
                  refine wpAnyF_cons rfl rfl (fun K hK => ?_) wpAnyF_nil
                  have HB5 := HR7.k5.far (p := ⟨L, 0, none⟩) (by show L + 1 ≠ L; omega) (.slice a1 (E ++ [(⟨e, D, c⟩ : EnL)]).length q1)
                  refine wp_skip (w' := (v7.setCell ⟨L, 0, none⟩ (.slice a1 (E ++ [(⟨e, D, c⟩ : EnL)]).length q1)).setCell ⟨L + 1, 0, none⟩ (.slice a2 (NS ++ [xn]).length q2)) (by have cc := HR7.k5.cell 0; have ff := HR7.k5.frozen 0; have cd := HB5.cell 0; have fd := HB5.frozen 0; go_simp) ?_
                  refine hK _ _ ⟨fun h => absurd h (by decide), fun h => absurd h (by decide)⟩ ?_
                  refine wpAnyF_done (by kernel_rfl) ?_
                  have hfin := HR7.fin hw1 h6 HES.out HNS.out.symm HOS.out
                  exact ⟨hfin.1.1, hfin.1.2, hfin.2⟩
          · refine wp_built1 23 3 (.tmp 38) (.int .i64 (xn : Int)) rfl (by rfl) Tryz.underlying23 #[.int .i64 (xn : Int)] (built_int _) ?_
            have hb4 : Below v0.heap.size v0 (v0.alloc (.cells #[.int .i64 (xn : Int)] 3)) := (Below.refl _ _).alloc (Nat.le_refl _) _
            have HR4 := HR0.below hb4
            have HG6_4 := Blk.new v0 3 #[.int .i64 (xn : Int)]
            have hs4 := Nat.lt_of_lt_of_le hs0' hb4.size
            clear hb4
            generalize v0.alloc (.cells #[.int .i64 (xn : Int)] 3) = v4 at *
            generalize v0.heap.size = g6 at *
            refine hK _ _ ⟨fun _ => ⟨HR4.k4, HR4.k6⟩, fun _ => HR4.k5⟩ ?_
            clear hK
            simp only [Act.put, List.getElem_toArray, List.getElem_cons_succ, List.getElem_cons_zero, List.setIfInBounds_toArray, List.set_cons_succ, List.set_cons_zero]
            refine wpAnyF_all (rs := [2]) (by kernel_rfl) (by decide) ?_
            refine wpAnyF_cons rfl rfl (fun K hK => ?_) wpAnyF_nil
            · refine wp_built1 22 33 (.tmp 34) (.agg (enC ⟨e, D, c⟩)) rfl (by rfl) Tryz.underlying22 (enC ⟨e, D, c⟩) (built_sum ⟨e, D, c⟩) ?_
              have hb5 : Below v4.heap.size v4 (v4.alloc (.cells (enC ⟨e, D, c⟩) 33)) := (Below.refl _ _).alloc (Nat.le_refl _) _
              have HR5 := HR4.below hb5
              have HG2_5 := Blk.new v4 33 (enC ⟨e, D, c⟩)
              have hs5 := Nat.lt_of_lt_of_le hs4 hb5.size
              have HG6_5 := HG6_4.below hb5 HG6_4.lt
              clear hb5
              generalize v4.alloc (.cells (enC ⟨e, D, c⟩) 33) = v5 at *
              generalize v4.heap.size = g2 at *
              refine hK _ _ ⟨fun _ => ⟨HR5.k4, HR5.k6⟩, fun _ => HR5.k5⟩ ?_
              clear hK
              simp only [Act.put, List.getElem_toArray, List.getElem_cons_succ, List.getElem_cons_zero, List.setIfInBounds_toArray, List.set_cons_succ, List.set_cons_zero]
              refine wpAnyF_all (rs := [3]) (by kernel_rfl) (by decide) ?_
              refine wpAnyF_cons rfl rfl (fun K hK => ?_) wpAnyF_nil
              · refine wp_append_any _ (.tmp 33) (.tmp 35) 22 rfl (L + 1 + 1 + 1) 33 iS _ 4 56 Tryz.underlying22 hiS hzS hsS hbS rfl (by decide) A _ _ (by rfl) HR5.ls.rowA (g2 + 1) (some ⟨g2, 0, none⟩) 1 1 (enC ⟨e, D, c⟩).toList (by rfl) (blk_reads HG2_5 rfl) (fun u hu => List.all_eq_true.1 (show (enC ⟨e, D, c⟩).toList.all (·.oneCell') = true from rfl) u hu) (by simp only [maxLen]; omega) (by omega) HR5.hz ?_
                intro A1 v6 hown6 hg6 hob6
                have HR6 := HR5.appA hw1 h6 hs5 hown6 hg6 hob6
                have hs6 := Nat.lt_of_lt_of_le hs5 hg6.size
                have HG6_6 := HG6_5.grown hg6 (fun e => own_blk_ne HR5.ls.rowA HG6_5 (by decide) e.symm)
                clear hown6 hg6 hob6
                refine hK _ _ ⟨fun _ => ⟨HR6.k4, HR6.k6⟩, fun _ => HR6.k5⟩ ?_
                clear hK
                simp only [Act.put, List.getElem_toArray, List.getElem_cons_succ, List.getElem_cons_zero, List.setIfInBounds_toArray, List.set_cons_succ, List.set_cons_zero]
                refine wpAnyF_all (rs := [7]) (by kernel_rfl) (by decide) ?_
                refine wpAnyF_cons rfl rfl (fun K hK => ?_) wpAnyF_nil
                · refine wp_append_any _ (.tmp 37) (.tmp 39) 23 rfl (L + 1 + 1 + 1) 3 iI _ 1 8 Tryz.underlying23 hiI hzI hsI hbI rfl (by decide) B _ _ (by rfl) HR6.ls.rowB (g6 + 1) (some ⟨g6, 0, none⟩) 1 1 [.int .i64 (xn : Int)] (by rfl) (blk_reads HG6_6 rfl) (by intro u hu; rw [List.mem_singleton.1 hu]; rfl) (by simp only [maxLen]; omega) (by omega) HR6.hz ?_
                  intro B1 v7 hown7 hg7 _
                  have HR7 := HR6.appB hw1 h6 hown7 hg7
                  clear hown7 hg7
                  refine hK _ _ ⟨fun _ => ⟨HR7.k4, HR7.k6⟩, fun _ => HR7.k5⟩ ?_
                  clear hK
                  simp only [Act.put, List.getElem_toArray, List.getElem_cons_succ, List.getElem_cons_zero, List.setIfInBounds_toArray, List.set_cons_succ, List.set_cons_zero]
                  refine wpAnyF_all (rs := [8]) (by kernel_rfl) (by decide) ?_
                  refine wpAnyF_cons rfl rfl (fun K hK => ?_) wpAnyF_nil
                  obtain ⟨a1, q1, rfl⟩ := own_slG HR7.ls.rowA
                  obtain ⟨a2, q2, rfl⟩ := own_slG HR7.ls.rowB
                  refine wp_skip (w' := v7.setCell ⟨L, 0, none⟩ (.slice a1 (E ++ [(⟨e, D, c⟩ : EnL)]).length q1)) (by have cc := HR7.k4.cell 0; have f := HR7.k4.frozen 0; go_simp) ?_
                  refine hK _ _ ⟨fun h => absurd h (by decide), fun _ => HR7.k5.far (p := ⟨L, 0, none⟩) (by show L + 1 ≠ L; omega) _⟩ ?_
                  refine wpAnyF_all (rs := [9]) (by kernel_rfl) (by decide) ?_
                  refine wpAnyF_cons rfl rfl (fun K hK => ?_) wpAnyF_nil
                  have HB5 := HR7.k5.far (p := ⟨L, 0, none⟩) (by show L + 1 ≠ L; omega) (.slice a1 (E ++ [(⟨e, D, c⟩ : EnL)]).length q1)
                  refine wp_skip (w' := (v7.setCell ⟨L, 0, none⟩ (.slice a1 (E ++ [(⟨e, D, c⟩ : EnL)]).length q1)).setCell ⟨L + 1, 0, none⟩ (.slice a2 (NS ++ [xn]).length q2)) (by have cc := HR7.k5.cell 0; have ff := HR7.k5.frozen 0; have cd := HB5.cell 0; have fd := HB5.frozen 0; go_simp) ?_
                  refine hK _ _ ⟨fun h => absurd h (by decide), fun h => absurd h (by decide)⟩ ?_
                  refine wpAnyF_done (by kernel_rfl) ?_
                  have hfin := HR7.fin hw1 h6 HES.out HNS.out.symm HOS.out
                  exact ⟨hfin.1.1, hfin.1.2, hfin.2⟩
      · refine wp_value (v := .int .i64 (xn : Int)) (by rfl) ?_
        refine hK _ _ ⟨fun _ => ⟨HR0.k4, HR0.k6⟩, fun _ => HR0.k5⟩ ?_
        clear hK
        simp only [Act.put, List.getElem_toArray, List.getElem_cons_succ, List.getElem_cons_zero, List.setIfInBounds_toArray, List.set_cons_succ, List.set_cons_zero]
        refine wpAnyF_all (rs := [2, 4, 6]) (by kernel_rfl) (by decide) ?_
        refine wpAnyF_cons rfl rfl (fun K hK => ?_) (wpAnyF_cons rfl rfl (fun K hK => ?_) (wpAnyF_cons rfl rfl (fun K hK => ?_) wpAnyF_nil))
        · refine wp_built1 22 33 (.tmp 34) (.agg (enC ⟨e, D, c⟩)) rfl (by rfl) Tryz.underlying22 (enC ⟨e, D, c⟩) (built_sum ⟨e, D, c⟩) ?_
          have hb3 : Below v0.heap.size v0 (v0.alloc (.cells (enC ⟨e, D, c⟩) 33)) := (Below.refl _ _).alloc (Nat.le_refl _) _
          have HR3 := HR0.below hb3
          have HG2_3 := Blk.new v0 33 (enC ⟨e, D, c⟩)
          have hs3 := Nat.lt_of_lt_of_le hs0' hb3.size
          clear hb3
          generalize v0.alloc (.cells (enC ⟨e, D, c⟩) 33) = v3 at *
          generalize v0.heap.size = g2 at *
          refine hK _ _ ⟨fun _ => ⟨HR3.k4, HR3.k6⟩, fun _ => HR3.k5⟩ ?_
          clear hK
          simp only [Act.put, List.getElem_toArray, List.getElem_cons_succ, List.getElem_cons_zero, List.setIfInBounds_toArray, List.set_cons_succ, List.set_cons_zero]
          refine wpAnyF_all (rs := [3, 4, 6]) (by kernel_rfl) (by decide) ?_
          refine wpAnyF_cons rfl rfl (fun K hK => ?_) (wpAnyF_cons rfl rfl (fun K hK => ?_) (wpAnyF_cons rfl rfl (fun K hK => ?_) wpAnyF_nil))
          · refine wp_append_any _ (.tmp 33) (.tmp 35) 22 rfl (L + 1 + 1 + 1) 33 iS _ 4 56 Tryz.underlying22 hiS hzS hsS hbS rfl (by decide) A _ _ (by rfl) HR3.ls.rowA (g2 + 1) (some ⟨g2, 0, none⟩) 1 1 (enC ⟨e, D, c⟩).toList (by rfl) (blk_reads HG2_3 rfl) (fun u hu => List.all_eq_true.1 (show (enC ⟨e, D, c⟩).toList.all (·.oneCell') = true from rfl) u hu) (by simp only [maxLen]; omega) (by omega) HR3.hz ?_
            intro A1 v4 hown4 hg4 hob4
            have HR4 := HR3.appA hw1 h6 hs3 hown4 hg4 hob4
            have hs4 := Nat.lt_of_lt_of_le hs3 hg4.size
            clear hown4 hg4 hob4
            refine hK _ _ ⟨fun _ => ⟨HR4.k4, HR4.k6⟩, fun _ => HR4.k5⟩ ?_
            clear hK
            simp only [Act.put, List.getElem_toArray, List.getElem_cons_succ, List.getElem_cons_zero, List.setIfInBounds_toArray, List.set_cons_succ, List.set_cons_zero]
            refine wpAnyF_all (rs := [4, 6]) (by kernel_rfl) (by decide) ?_
            refine wpAnyF_cons rfl rfl (fun K hK => ?_) (wpAnyF_cons rfl rfl (fun K hK => ?_) wpAnyF_nil)
            · have c4 := HR4.k5.cell 0
              refine wp_value (v := B) (by go_simp) ?_
              clear c4
              refine hK _ _ ⟨fun _ => ⟨HR4.k4, HR4.k6⟩, fun _ => HR4.k5⟩ ?_
              clear hK
              simp only [Act.put, List.getElem_toArray, List.getElem_cons_succ, List.getElem_cons_zero, List.setIfInBounds_toArray, List.set_cons_succ, List.set_cons_zero]
              refine wpAnyF_all (rs := [6]) (by kernel_rfl) (by decide) ?_
              refine wpAnyF_cons rfl rfl (fun K hK => ?_) wpAnyF_nil
              · refine wp_built1 23 3 (.tmp 38) (.int .i64 (xn : Int)) rfl (by rfl) Tryz.underlying23 #[.int .i64 (xn : Int)] (built_int _) ?_
                have hb6 : Below v4.heap.size v4 (v4.alloc (.cells #[.int .i64 (xn : Int)] 3)) := (Below.refl _ _).alloc (Nat.le_refl _) _
                have HR6 := HR4.below hb6
                have HG6_6 := Blk.new v4 3 #[.int .i64 (xn : Int)]
                have hs6 := Nat.lt_of_lt_of_le hs4 hb6.size
                clear hb6
                generalize v4.alloc (.cells #[.int .i64 (xn : Int)] 3) = v6 at *
                generalize v4.heap.size = g6 at *
                refine hK _ _ ⟨fun _ => ⟨HR6.k4, HR6.k6⟩, fun _ => HR6.k5⟩ ?_
                clear hK
                simp only [Act.put, List.getElem_toArray, List.getElem_cons_succ, List.getElem_cons_zero, List.setIfInBounds_toArray, List.set_cons_succ, List.set_cons_zero]
                refine wpAnyF_all (rs := [7]) (by kernel_rfl) (by decide) ?_
                refine wpAnyF_cons rfl rfl (fun K hK => ?_) wpAnyF_nil
                · refine wp_append_any _ (.tmp 37) (.tmp 39) 23 rfl (L + 1 + 1 + 1) 3 iI _ 1 8 Tryz.underlying23 hiI hzI hsI hbI rfl (by decide) B _ _ (by rfl) HR6.ls.rowB (g6 + 1) (some ⟨g6, 0, none⟩) 1 1 [.int .i64 (xn : Int)] (by rfl) (blk_reads HG6_6 rfl) (by intro u hu; rw [List.mem_singleton.1 hu]; rfl) (by simp only [maxLen]; omega) (by omega) HR6.hz ?_
                  intro B1 v7 hown7 hg7 _
                  have HR7 := HR6.appB hw1 h6 hown7 hg7
                  clear hown7 hg7
                  refine hK _ _ ⟨fun _ => ⟨HR7.k4, HR7.k6⟩, fun _ => HR7.k5⟩ ?_
                  clear hK
                  simp only [Act.put, List.getElem_toArray, List.getElem_cons_succ, List.getElem_cons_zero, List.setIfInBounds_toArray, List.set_cons_succ, List.set_cons_zero]
                  refine wpAnyF_all (rs := [8]) (by kernel_rfl) (by decide) ?_
                  refine wpAnyF_cons rfl rfl (fun K hK => ?_) wpAnyF_nil
                  obtain ⟨a1, q1, rfl⟩ := own_slG HR7.ls.rowA
                  obtain ⟨a2, q2, rfl⟩ := own_slG HR7.ls.rowB
                  refine wp_skip (w' := v7.setCell ⟨L, 0, none⟩ (.slice a1 (E ++ [(⟨e, D, c⟩ : EnL)]).length q1)) (by have cc := HR7.k4.cell 0; have f := HR7.k4.frozen 0; go_simp) ?_
                  refine hK _ _ ⟨fun h => absurd h (by decide), fun _ => HR7.k5.far (p := ⟨L, 0, none⟩) (by show L + 1 ≠ L; omega) _⟩ ?_
                  refine wpAnyF_all (rs := [9]) (by kernel_rfl) (by decide) ?_
                  refine wpAnyF_cons rfl rfl (fun K hK => ?_) wpAnyF_nil
                  have HB5 := HR7.k5.far (p := ⟨L, 0, none⟩) (by show L + 1 ≠ L; omega) (.slice a1 (E ++ [(⟨e, D, c⟩ : EnL)]).length q1)
                  refine wp_skip (w' := (v7.setCell ⟨L, 0, none⟩ (.slice a1 (E ++ [(⟨e, D, c⟩ : EnL)]).length q1)).setCell ⟨L + 1, 0, none⟩ (.slice a2 (NS ++ [xn]).length q2)) (by have cc := HR7.k5.cell 0; have ff := HR7.k5.frozen 0; have cd := HB5.cell 0; have fd := HB5.frozen 0; go_simp) ?_
                  refine hK _ _ ⟨fun h => absurd h (by decide), fun h => absurd h (by decide)⟩ ?_
                  refine wpAnyF_done (by kernel_rfl) ?_
                  have hfin := HR7.fin hw1 h6 HES.out HNS.out.symm HOS.out
                  exact ⟨hfin.1.1, hfin.1.2, hfin.2⟩
            · refine wp_built1 23 3 (.tmp 38) (.int .i64 (xn : Int)) rfl (by rfl) Tryz.underlying23 #[.int .i64 (xn : Int)] (built_int _) ?_
              have hb5 : Below v4.heap.size v4 (v4.alloc (.cells #[.int .i64 (xn : Int)] 3)) := (Below.refl _ _).alloc (Nat.le_refl _) _
              have HR5 := HR4.below hb5
              have HG6_5 := Blk.new v4 3 #[.int .i64 (xn : Int)]
              have hs5 := Nat.lt_of_lt_of_le hs4 hb5.size
              clear hb5
              generalize v4.alloc (.cells #[.int .i64 (xn : Int)] 3) = v5 at *
              generalize v4.heap.size = g6 at *
              refine hK _ _ ⟨fun _ => ⟨HR5.k4, HR5.k6⟩, fun _ => HR5.k5⟩ ?_
              clear hK
              simp only [Act.put, List.getElem_toArray, List.getElem_cons_succ, List.getElem_cons_zero, List.setIfInBounds_toArray, List.set_cons_succ, List.set_cons_zero]
              refine wpAnyF_all (rs := [4]) (by kernel_rfl) (by decide) ?_
              refine wpAnyF_cons rfl rfl (fun K hK => ?_) wpAnyF_nil
              · have c4 := HR5.k5.cell 0
                refine wp_value (v := B) (by go_simp) ?_
                clear c4
                refine hK _ _ ⟨fun _ => ⟨HR5.k4, HR5.k6⟩, fun _ => HR5.k5⟩ ?_
                clear hK
                simp only [Act.put, List.getElem_toArray, List.getElem_cons_succ, List.getElem_cons_zero, List.setIfInBounds_toArray, List.set_cons_succ, List.set_cons_zero]
                refine wpAnyF_all (rs := [7]) (by kernel_rfl) (by decide) ?_
                refine wpAnyF_cons rfl rfl (fun K hK => ?_) wpAnyF_nil
                · refine wp_append_any _ (.tmp 37) (.tmp 39) 23 rfl (L + 1 + 1 + 1) 3 iI _ 1 8 Tryz.underlying23 hiI hzI hsI hbI rfl (by decide) B _ _ (by rfl) HR5.ls.rowB (g6 + 1) (some ⟨g6, 0, none⟩) 1 1 [.int .i64 (xn : Int)] (by rfl) (blk_reads HG6_5 rfl) (by intro u hu; rw [List.mem_singleton.1 hu]; rfl) (by simp only [maxLen]; omega) (by omega) HR5.hz ?_
                  intro B1 v7 hown7 hg7 _
                  have HR7 := HR5.appB hw1 h6 hown7 hg7
                  clear hown7 hg7
                  refine hK _ _ ⟨fun _ => ⟨HR7.k4, HR7.k6⟩, fun _ => HR7.k5⟩ ?_
                  clear hK
                  simp only [Act.put, List.getElem_toArray, List.getElem_cons_succ, List.getElem_cons_zero, List.setIfInBounds_toArray, List.set_cons_succ, List.set_cons_zero]
                  refine wpAnyF_all (rs := [8]) (by kernel_rfl) (by decide) ?_
                  refine wpAnyF_cons rfl rfl (fun K hK => ?_) wpAnyF_nil
                  obtain ⟨a1, q1, rfl⟩ := own_slG HR7.ls.rowA
                  obtain ⟨a2, q2, rfl⟩ := own_slG HR7.ls.rowB
                  refine wp_skip (w' := v7.setCell ⟨L, 0, none⟩ (.slice a1 (E ++ [(⟨e, D, c⟩ : EnL)]).length q1)) (by have cc := HR7.k4.cell 0; have f := HR7.k4.frozen 0; go_simp) ?_
                  refine hK _ _ ⟨fun h => absurd h (by decide), fun _ => HR7.k5.far (p := ⟨L, 0, none⟩) (by show L + 1 ≠ L; omega) _⟩ ?_
                  refine wpAnyF_all (rs := [9]) (by kernel_rfl) (by decide) ?_
                  refine wpAnyF_cons rfl rfl (fun K hK => ?_) wpAnyF_nil
                  have HB5 := HR7.k5.far (p := ⟨L, 0, none⟩) (by show L + 1 ≠ L; omega) (.slice a1 (E ++ [(⟨e, D, c⟩ : EnL)]).length q1)
                  refine wp_skip (w' := (v7.setCell ⟨L, 0, none⟩ (.slice a1 (E ++ [(⟨e, D, c⟩ : EnL)]).length q1)).setCell ⟨L + 1, 0, none⟩ (.slice a2 (NS ++ [xn]).length q2)) (by have cc := HR7.k5.cell 0; have ff := HR7.k5.frozen 0; have cd := HB5.cell 0; have fd := HB5.frozen 0; go_simp) ?_
                  refine hK _ _ ⟨fun h => absurd h (by decide), fun h => absurd h (by decide)⟩ ?_
                  refine wpAnyF_done (by kernel_rfl) ?_
                  have hfin := HR7.fin hw1 h6 HES.out HNS.out.symm HOS.out
                  exact ⟨hfin.1.1, hfin.1.2, hfin.2⟩
          · have c4 := HR3.k5.cell 0
            refine wp_value (v := B) (by go_simp) ?_
            clear c4
            refine hK _ _ ⟨fun _ => ⟨HR3.k4, HR3.k6⟩, fun _ => HR3.k5⟩ ?_
            clear hK
            simp only [Act.put, List.getElem_toArray, List.getElem_cons_succ, List.getElem_cons_zero, List.setIfInBounds_toArray, List.set_cons_succ, List.set_cons_zero]
            refine wpAnyF_all (rs := [3, 6]) (by kernel_rfl) (by decide) ?_
            refine wpAnyF_cons rfl rfl (fun K hK => ?_) (wpAnyF_cons rfl rfl (fun K hK => ?_) wpAnyF_nil)
            · refine wp_append_any _ (.tmp 33) (.tmp 35) 22 rfl (L + 1 + 1 + 1) 33 iS _ 4 56 Tryz.underlying22 hiS hzS hsS hbS rfl (by decide) A _ _ (by rfl) HR3.ls.rowA (g2 + 1) (some ⟨g2, 0, none⟩) 1 1 (enC ⟨e, D, c⟩).toList (by rfl) (blk_reads HG2_3 rfl) (fun u hu => List.all_eq_true.1 (show (enC ⟨e, D, c⟩).toList.all (·.oneCell') = true from rfl) u hu) (by simp only [maxLen]; omega) (by omega) HR3.hz ?_
              intro A1 v5 hown5 hg5 hob5
              have HR5 := HR3.appA hw1 h6 hs3 hown5 hg5 hob5
              have hs5 := Nat.lt_of_lt_of_le hs3 hg5.size
              clear hown5 hg5 hob5
              refine hK _ _ ⟨fun _ => ⟨HR5.k4, HR5.k6⟩, fun _ => HR5.k5⟩ ?_
              clear hK
              simp only [Act.put, List.getElem_toArray, List.getElem_cons_succ, List.getElem_cons_zero, List.setIfInBounds_toArray, List.set_cons_succ, List.set_cons_zero]
              refine wpAnyF_all (rs := [6]) (by kernel_rfl) (by decide) ?_
              refine wpAnyF_cons rfl rfl (fun K hK => ?_) wpAnyF_nil
              · refine wp_built1 23 3 (.tmp 38) (.int .i64 (xn : Int)) rfl (by rfl) Tryz.underlying23 #[.int .i64 (xn : Int)] (built_int _) ?_
                have hb6 : Below v5.heap.size v5 (v5.alloc (.cells #[.int .i64 (xn : Int)] 3)) := (Below.refl _ _).alloc (Nat.le_refl _) _
                have HR6 := HR5.below hb6
                have HG6_6 := Blk.new v5 3 #[.int .i64 (xn : Int)]
                have hs6 := Nat.lt_of_lt_of_le hs5 hb6.size
                clear hb6
                generalize v5.alloc (.cells #[.int .i64 (xn : Int)] 3) = v6 at *
                generalize v5.heap.size = g6 at *
                refine hK _ _ ⟨fun _ => ⟨HR6.k4, HR6.k6⟩, fun _ => HR6.k5⟩ ?_
                clear hK
                simp only [Act.put, List.getElem_toArray, List.getElem_cons_succ, List.getElem_cons_zero, List.setIfInBounds_toArray, List.set_cons_succ, List.set_cons_zero]
                refine wpAnyF_all (rs := [7]) (by kernel_rfl) (by decide) ?_
                refine wpAnyF_cons rfl rfl (fun K hK => ?_) wpAnyF_nil
                · refine wp_append_any _ (.tmp 37) (.tmp 39) 23 rfl (L + 1 + 1 + 1) 3 iI _ 1 8 Tryz.underlying23 hiI hzI hsI hbI rfl (by decide) B _ _ (by rfl) HR6.ls.rowB (g6 + 1) (some ⟨g6, 0, none⟩) 1 1 [.int .i64 (xn : Int)] (by rfl) (blk_reads HG6_6 rfl) (by intro u hu; rw [List.mem_singleton.1 hu]; rfl) (by simp only [maxLen]; omega) (by omega) HR6.hz ?_
                  intro B1 v7 hown7 hg7 _
                  have HR7 := HR6.appB hw1 h6 hown7 hg7
                  clear hown7 hg7
                  refine hK _ _ ⟨fun _ => ⟨HR7.k4, HR7.k6⟩, fun _ => HR7.k5⟩ ?_
                  clear hK
                  simp only [Act.put, List.getElem_toArray, List.getElem_cons_succ, List.getElem_cons_zero, List.setIfInBounds_toArray, List.set_cons_succ, List.set_cons_zero]
                  refine wpAnyF_all (rs := [8]) (by kernel_rfl) (by decide) ?_
                  refine wpAnyF_cons rfl rfl (fun K hK => ?_) wpAnyF_nil
                  obtain ⟨a1, q1, rfl⟩ := own_slG HR7.ls.rowA
                  obtain ⟨a2, q2, rfl⟩ := own_slG HR7.ls.rowB
                  refine wp_skip (w' := v7.setCell ⟨L, 0, none⟩ (.slice a1 (E ++ [(⟨e, D, c⟩ : EnL)]).length q1)) (by have cc := HR7.k4.cell 0; have f := HR7.k4.frozen 0; go_simp) ?_
                  refine hK _ _ ⟨fun h => absurd h (by decide), fun _ => HR7.k5.far (p := ⟨L, 0, none⟩) (by show L + 1 ≠ L; omega) _⟩ ?_
                  refine wpAnyF_all (rs := [9]) (by kernel_rfl) (by decide) ?_
                  refine wpAnyF_cons rfl rfl (fun K hK => ?_) wpAnyF_nil
                  have HB5 := HR7.k5.far (p := ⟨L, 0, none⟩) (by show L + 1 ≠ L; omega) (.slice a1 (E ++ [(⟨e, D, c⟩ : EnL)]).length q1)
                  refine wp_skip (w' := (v7.setCell ⟨L, 0, none⟩ (.slice a1 (E ++ [(⟨e, D, c⟩ : EnL)]).length q1)).setCell ⟨L + 1, 0, none⟩ (.slice a2 (NS ++ [xn]).length q2)) (by have cc := HR7.k5.cell 0; have ff := HR7.k5.frozen 0; have cd := HB5.cell 0; have fd := HB5.frozen 0; go_simp) ?_
                  refine hK _ _ ⟨fun h => absurd h (by decide), fun h => absurd h (by decide)⟩ ?_
                  refine wpAnyF_done (by kernel_rfl) ?_
                  have hfin := HR7.fin hw1 h6 HES.out HNS.out.symm HOS.out
                  exact ⟨hfin.1.1, hfin.1.2, hfin.2⟩
            · refine wp_built1 23 3 (.tmp 38) (.int .i64 (xn : Int)) rfl (by rfl) Tryz.underlying23 #[.int .i64 (xn : Int)] (built_int _) ?_
              have hb5 : Below v3.heap.size v3 (v3.alloc (.cells #[.int .i64 (xn : Int)] 3)) := (Below.refl _ _).alloc (Nat.le_refl _) _
              have HR5 := HR3.below hb5
              have HG6_5 := Blk.new v3 3 #[.int .i64 (xn : Int)]
              have hs5 := Nat.lt_of_lt_of_le hs3 hb5.size
              have HG2_5 := HG2_3.below hb5 HG2_3.lt
              clear hb5
              generalize v3.alloc (.cells #[.int .i64 (xn : Int)] 3) = v5 at *
              generalize v3.heap.size = g6 at *
              refine hK _ _ ⟨fun _ => ⟨HR5.k4, HR5.k6⟩, fun _ => HR5.k5⟩ ?_
              clear hK
              simp only [Act.put, List.getElem_toArray, List.getElem_cons_succ, List.getElem_cons_zero, List.setIfInBounds_toArray, List.set_cons_succ, List.set_cons_zero]
              refine wpAnyF_all (rs := [3]) (by kernel_rfl) (by decide) ?_
              refine wpAnyF_cons rfl rfl (fun K hK => ?_) wpAnyF_nil
              · refine wp_append_any _ (.tmp 33) (.tmp 35) 22 rfl (L + 1 + 1 + 1) 33 iS _ 4 56 Tryz.underlying22 hiS hzS hsS hbS rfl (by decide) A _ _ (by rfl) HR5.ls.rowA (g2 + 1) (some ⟨g2, 0, none⟩) 1 1 (enC ⟨e, D, c⟩).toList (by rfl) (blk_reads HG2_5 rfl) (fun u hu => List.all_eq_true.1 (show (enC ⟨e, D, c⟩).toList.all (·.oneCell') = true from rfl) u hu) (by simp only [maxLen]; omega) (by omega) HR5.hz ?_
                intro A1 v6 hown6 hg6 hob6
                have HR6 := HR5.appA hw1 h6 hs5 hown6 hg6 hob6
                have hs6 := Nat.lt_of_lt_of_le hs5 hg6.size
                have HG6_6 := HG6_5.grown hg6 (fun e => own_blk_ne HR5.ls.rowA HG6_5 (by decide) e.symm)
                clear hown6 hg6 hob6
                refine hK _ _ ⟨fun _ => ⟨HR6.k4, HR6.k6⟩, fun _ => HR6.k5⟩ ?_
                clear hK
                simp only [Act.put, List.getElem_toArray, List.getElem_cons_succ, List.getElem_cons_zero, List.setIfInBounds_toArray, List.set_cons_succ, List.set_cons_zero]
                refine wpAnyF_all (rs := [7]) (by kernel_rfl) (by decide) ?_
                refine wpAnyF_cons rfl rfl (fun K hK => ?_) wpAnyF_nil
                · refine wp_append_any _ (.tmp 37) (.tmp 39) 23 rfl (L + 1 + 1 + 1) 3 iI _ 1 8 Tryz.underlying23 hiI hzI hsI hbI rfl (by decide) B _ _ (by rfl) HR6.ls.rowB (g6 + 1) (some ⟨g6, 0, none⟩) 1 1 [.int .i64 (xn : Int)] (by rfl) (blk_reads HG6_6 rfl) (by intro u hu; rw [List.mem_singleton.1 hu]; rfl) (by simp only [maxLen]; omega) (by omega) HR6.hz ?_
                  intro B1 v7 hown7 hg7 _
                  have HR7 := HR6.appB hw1 h6 hown7 hg7
                  clear hown7 hg7
                  refine hK _ _ ⟨fun _ => ⟨HR7.k4, HR7.k6⟩, fun _ => HR7.k5⟩ ?_
                  clear hK
                  simp only [Act.put, List.getElem_toArray, List.getElem_cons_succ, List.getElem_cons_zero, List.setIfInBounds_toArray, List.set_cons_succ, List.set_cons_zero]
                  refine wpAnyF_all (rs := [8]) (by kernel_rfl) (by decide) ?_
                  refine wpAnyF_cons rfl rfl (fun K hK => ?_) wpAnyF_nil
                  obtain ⟨a1, q1, rfl⟩ := own_slG HR7.ls.rowA
                  obtain ⟨a2, q2, rfl⟩ := own_slG HR7.ls.rowB
                  refine wp_skip (w' := v7.setCell ⟨L, 0, none⟩ (.slice a1 (E ++ [(⟨e, D, c⟩ : EnL)]).length q1)) (by have cc := HR7.k4.cell 0; have f := HR7.k4.frozen 0; go_simp) ?_
                  refine hK _ _ ⟨fun h => absurd h (by decide), fun _ => HR7.k5.far (p := ⟨L, 0, none⟩) (by show L + 1 ≠ L; omega) _⟩ ?_
                  refine wpAnyF_all (rs := [9]) (by kernel_rfl) (by decide) ?_
                  refine wpAnyF_cons rfl rfl (fun K hK => ?_) wpAnyF_nil
                  have HB5 := HR7.k5.far (p := ⟨L, 0, none⟩) (by show L + 1 ≠ L; omega) (.slice a1 (E ++ [(⟨e, D, c⟩ : EnL)]).length q1)
                  refine wp_skip (w' := (v7.setCell ⟨L, 0, none⟩ (.slice a1 (E ++ [(⟨e, D, c⟩ : EnL)]).length q1)).setCell ⟨L + 1, 0, none⟩ (.slice a2 (NS ++ [xn]).length q2)) (by have cc := HR7.k5.cell 0; have ff := HR7.k5.frozen 0; have cd := HB5.cell 0; have fd := HB5.frozen 0; go_simp) ?_
                  refine hK _ _ ⟨fun h => absurd h (by decide), fun h => absurd h (by decide)⟩ ?_
                  refine wpAnyF_done (by kernel_rfl) ?_
                  have hfin := HR7.fin hw1 h6 HES.out HNS.out.symm HOS.out
                  exact ⟨hfin.1.1, hfin.1.2, hfin.2⟩
          · refine wp_built1 23 3 (.tmp 38) (.int .i64 (xn : Int)) rfl (by rfl) Tryz.underlying23 #[.int .i64 (xn : Int)] (built_int _) ?_
            have hb4 : Below v3.heap.size v3 (v3.alloc (.cells #[.int .i64 (xn : Int)] 3)) := (Below.refl _ _).alloc (Nat.le_refl _) _
            have HR4 := HR3.below hb4
            have HG6_4 := Blk.new v3 3 #[.int .i64 (xn : Int)]
            have hs4 := Nat.lt_of_lt_of_le hs3 hb4.size
            have HG2_4 := HG2_3.below hb4 HG2_3.lt
            clear hb4
            generalize v3.alloc (.cells #[.int .i64 (xn : Int)] 3) = v4 at *
            generalize v3.heap.size = g6 at *
            refine hK _ _ ⟨fun _ => ⟨HR4.k4, HR4.k6⟩, fun _ => HR4.k5⟩ ?_
            clear hK
            simp only [Act.put, List.getElem_toArray, List.getElem_cons_succ, List.getElem_cons_zero, List.setIfInBounds_toArray, List.set_cons_succ, List.set_cons_zero]
            refine wpAnyF_all (rs := [3, 4]) (by kernel_rfl) (by decide) ?_
            refine wpAnyF_cons rfl rfl (fun K hK => ?_) (wpAnyF_cons rfl rfl (fun K hK => ?_) wpAnyF_nil)
            · refine wp_append_any _ (.tmp 33) (.tmp 35) 22 rfl (L + 1 + 1 + 1) 33 iS _ 4 56 Tryz.underlying22 hiS hzS hsS hbS rfl (by decide) A _ _ (by rfl) HR4.ls.rowA (g2 + 1) (some ⟨g2, 0, none⟩) 1 1 (enC ⟨e, D, c⟩).toList (by rfl) (blk_reads HG2_4 rfl) (fun u hu => List.all_eq_true.1 (show (enC ⟨e, D, c⟩).toList.all (·.oneCell') = true from rfl) u hu) (by simp only [maxLen]; omega) (by omega) HR4.hz ?_
              intro A1 v5 hown5 hg5 hob5
              have HR5 := HR4.appA hw1 h6 hs4 hown5 hg5 hob5
              have hs5 := Nat.lt_of_lt_of_le hs4 hg5.size
              have HG6_5 := HG6_4.grown hg5 (fun e => own_blk_ne HR4.ls.rowA HG6_4 (by decide) e.symm)
              clear hown5 hg5 hob5
              refine hK _ _ ⟨fun _ => ⟨HR5.k4, HR5.k6⟩, fun _ => HR5.k5⟩ ?_
              clear hK
              simp only [Act.put, List.getElem_toArray, List.getElem_cons_succ, List.getElem_cons_zero, List.setIfInBounds_toArray, List.set_cons_succ, List.set_cons_zero]
              refine wpAnyF_all (rs := [4]) (by kernel_rfl) (by decide) ?_
              refine wpAnyF_cons rfl rfl (fun K hK => ?_) wpAnyF_nil
              · have c4 := HR5.k5.cell 0
                refine wp_value (v := B) (by go_simp) ?_
                clear c4
                refine hK _ _ ⟨fun _ => ⟨HR5.k4, HR5.k6⟩, fun _ => HR5.k5⟩ ?_
                clear hK
                simp only [Act.put, List.getElem_toArray, List.getElem_cons_succ, List.getElem_cons_zero, List.setIfInBounds_toArray, List.set_cons_succ, List.set_cons_zero]
                refine wpAnyF_all (rs := [7]) (by kernel_rfl) (by decide) ?_
                refine wpAnyF_cons rfl rfl (fun K hK => ?_) wpAnyF_nil
                · refine wp_append_any _ (.tmp 37) (.tmp 39) 23 rfl (L + 1 + 1 + 1) 3 iI _ 1 8 Tryz.underlying23 hiI hzI hsI hbI rfl (by decide) B _ _ (by rfl) HR5.ls.rowB (g6 + 1) (some ⟨g6, 0, none⟩) 1 1 [.int .i64 (xn : Int)] (by rfl) (blk_reads HG6_5 rfl) (by intro u hu; rw [List.mem_singleton.1 hu]; rfl) (by simp only [maxLen]; omega) (by omega) HR5.hz ?_
                  intro B1 v7 hown7 hg7 _
                  have HR7 := HR5.appB hw1 h6 hown7 hg7
                  clear hown7 hg7
                  refine hK _ _ ⟨fun _ => ⟨HR7.k4, HR7.k6⟩, fun _ => HR7.k5⟩ ?_
                  clear hK
                  simp only [Act.put, List.getElem_toArray, List.getElem_cons_succ, List.getElem_cons_zero, List.setIfInBounds_toArray, List.set_cons_succ, List.set_cons_zero]
                  refine wpAnyF_all (rs := [8]) (by kernel_rfl) (by decide) ?_
                  refine wpAnyF_cons rfl rfl (fun K hK => ?_) wpAnyF_nil
                  obtain ⟨a1, q1, rfl⟩ := own_slG HR7.ls.rowA
                  obtain ⟨a2, q2, rfl⟩ := own_slG HR7.ls.rowB
                  refine wp_skip (w' := v7.setCell ⟨L, 0, none⟩ (.slice a1 (E ++ [(⟨e, D, c⟩ : EnL)]).length q1)) (by have cc := HR7.k4.cell 0; have f := HR7.k4.frozen 0; go_simp) ?_
                  refine hK _ _ ⟨fun h => absurd h (by decide), fun _ => HR7.k5.far (p := ⟨L, 0, none⟩) (by show L + 1 ≠ L; omega) _⟩ ?_
                  refine wpAnyF_all (rs := [9]) (by kernel_rfl) (by decide) ?_
                  refine wpAnyF_cons rfl rfl (fun K hK => ?_) wpAnyF_nil
                  have HB5 := HR7.k5.far (p := ⟨L, 0, none⟩) (by show L + 1 ≠ L; omega) (.slice a1 (E ++ [(⟨e, D, c⟩ : EnL)]).length q1)
                  refine wp_skip (w' := (v7.setCell ⟨L, 0, none⟩ (.slice a1 (E ++ [(⟨e, D, c⟩ : EnL)]).length q1)).setCell ⟨L + 1, 0, none⟩ (.slice a2 (NS ++ [xn]).length q2)) (by have cc := HR7.k5.cell 0; have ff := HR7.k5.frozen 0; have cd := HB5.cell 0; have fd := HB5.frozen 0; go_simp) ?_
                  refine hK _ _ ⟨fun h => absurd h (by decide), fun h => absurd h (by decide)⟩ ?_
                  refine wpAnyF_done (by kernel_rfl) ?_
                  have hfin := HR7.fin hw1 h6 HES.out HNS.out.symm HOS.out
                  exact ⟨hfin.1.1, hfin.1.2, hfin.2⟩
            · have c4 := HR4.k5.cell 0
              refine wp_value (v := B) (by go_simp) ?_
              clear c4
              refine hK _ _ ⟨fun _ => ⟨HR4.k4, HR4.k6⟩, fun _ => HR4.k5⟩ ?_
              clear hK
              simp only [Act.put, List.getElem_toArray, List.getElem_cons_succ, List.getElem_cons_zero, List.setIfInBounds_toArray, List.set_cons_succ, List.set_cons_zero]
              refine wpAnyF_all (rs := [3]) (by kernel_rfl) (by decide) ?_
              refine wpAnyF_cons rfl rfl (fun K hK => ?_) wpAnyF_nil
              · refine wp_append_any _ (.tmp 33) (.tmp 35) 22 rfl (L + 1 + 1 + 1) 33 iS _ 4 56 Tryz.underlying22 hiS hzS hsS hbS rfl (by decide) A _ _ (by rfl) HR4.ls.rowA (g2 + 1) (some ⟨g2, 0, none⟩) 1 1 (enC ⟨e, D, c⟩).toList (by rfl) (blk_reads HG2_4 rfl) (fun u hu => List.all_eq_true.1 (show (enC ⟨e, D, c⟩).toList.all (·.oneCell') = true from rfl) u hu) (by simp only [maxLen]; omega) (by omega) HR4.hz ?_
                intro A1 v6 hown6 hg6 hob6
                have HR6 := HR4.appA hw1 h6 hs4 hown6 hg6 hob6
                have hs6 := Nat.lt_of_lt_of_le hs4 hg6.size
                have HG6_6 := HG6_4.grown hg6 (fun e => own_blk_ne HR4.ls.rowA HG6_4 (by decide) e.symm)
                clear hown6 hg6 hob6
                refine hK _ _ ⟨fun _ => ⟨HR6.k4, HR6.k6⟩, fun _ => HR6.k5⟩ ?_
                clear hK
                simp only [Act.put, List.getElem_toArray, List.getElem_cons_succ, List.getElem_cons_zero, List.setIfInBounds_toArray, List.set_cons_succ, List.set_cons_zero]
                refine wpAnyF_all (rs := [7]) (by kernel_rfl) (by decide) ?_
                refine wpAnyF_cons rfl rfl (fun K hK => ?_) wpAnyF_nil
                · refine wp_append_any _ (.tmp 37) (.tmp 39) 23 rfl (L + 1 + 1 + 1) 3 iI _ 1 8 Tryz.underlying23 hiI hzI hsI hbI rfl (by decide) B _ _ (by rfl) HR6.ls.rowB (g6 + 1) (some ⟨g6, 0, none⟩) 1 1 [.int .i64 (xn : Int)] (by rfl) (blk_reads HG6_6 rfl) (by intro u hu; rw [List.mem_singleton.1 hu]; rfl) (by simp only [maxLen]; omega) (by omega) HR6.hz ?_
                  intro B1 v7 hown7 hg7 _
                  have HR7 := HR6.appB hw1 h6 hown7 hg7
                  clear hown7 hg7
                  refine hK _ _ ⟨fun _ => ⟨HR7.k4, HR7.k6⟩, fun _ => HR7.k5⟩ ?_
                  clear hK
                  simp only [Act.put, List.getElem_toArray, List.getElem_cons_succ, List.getElem_cons_zero, List.setIfInBounds_toArray, List.set_cons_succ, List.set_cons_zero]
                  refine wpAnyF_all (rs := [8]) (by kernel_rfl) (by decide) ?_
                  refine wpAnyF_cons rfl rfl (fun K hK => ?_) wpAnyF_nil
                  obtain ⟨a1, q1, rfl⟩ := own_slG HR7.ls.rowA
                  obtain ⟨a2, q2, rfl⟩ := own_slG HR7.ls.rowB
                  refine wp_skip (w' := v7.setCell ⟨L, 0, none⟩ (.slice a1 (E ++ [(⟨e, D, c⟩ : EnL)]).length q1)) (by have cc := HR7.k4.cell 0; have f := HR7.k4.frozen 0; go_simp) ?_
                  refine hK _ _ ⟨fun h => absurd h (by decide), fun _ => HR7.k5.far (p := ⟨L, 0, none⟩) (by show L + 1 ≠ L; omega) _⟩ ?_
                  refine wpAnyF_all (rs := [9]) (by kernel_rfl) (by decide) ?_
                  refine wpAnyF_cons rfl rfl (fun K hK => ?_) wpAnyF_nil
                  have HB5 := HR7.k5.far (p := ⟨L, 0, none⟩) (by show L + 1 ≠ L; omega) (.slice a1 (E ++ [(⟨e, D, c⟩ : EnL)]).length q1)
                  refine wp_skip (w' := (v7.setCell ⟨L, 0, none⟩ (.slice a1 (E ++ [(⟨e, D, c⟩ : EnL)]).length q1)).setCell ⟨L + 1, 0, none⟩ (.slice a2 (NS ++ [xn]).length q2)) (by have cc := HR7.k5.cell 0; have ff := HR7.k5.frozen 0; have cd := HB5.cell 0; have fd := HB5.frozen 0; go_simp) ?_
                  refine hK _ _ ⟨fun h => absurd h (by decide), fun h => absurd h (by decide)⟩ ?_
                  refine wpAnyF_done (by kernel_rfl) ?_
                  have hfin := HR7.fin hw1 h6 HES.out HNS.out.symm HOS.out
                  exact ⟨hfin.1.1, hfin.1.2, hfin.2⟩
        · have c4 := HR0.k5.cell 0
          refine wp_value (v := B) (by go_simp) ?_
          clear c4
          refine hK _ _ ⟨fun _ => ⟨HR0.k4, HR0.k6⟩, fun _ => HR0.k5⟩ ?_
          clear hK
          simp only [Act.put, List.getElem_toArray, List.getElem_cons_succ, List.getElem_cons_zero, List.setIfInBounds_toArray, List.set_cons_succ, List.set_cons_zero]
          refine wpAnyF_all (rs := [2, 6]) (by kernel_rfl) (by decide) ?_
          refine wpAnyF_cons rfl rfl (fun K hK => ?_) (wpAnyF_cons rfl rfl (fun K hK => ?_) wpAnyF_nil)
          · refine wp_built1 22 33 (.tmp 34) (.agg (enC ⟨e, D, c⟩)) rfl (by rfl) Tryz.underlying22 (enC ⟨e, D, c⟩) (built_sum ⟨e, D, c⟩) ?_
            have hb4 : Below v0.heap.size v0 (v0.alloc (.cells (enC ⟨e, D, c⟩) 33)) := (Below.refl _ _).alloc (Nat.le_refl _) _
            have HR4 := HR0.below hb4
            have HG2_4 := Blk.new v0 33 (enC ⟨e, D, c⟩)
            have hs4 := Nat.lt_of_lt_of_le hs0' hb4.size
            clear hb4
            generalize v0.alloc (.cells (enC ⟨e, D, c⟩) 33) = v4 at *
            generalize v0.heap.size = g2 at *
            refine hK _ _ ⟨fun _ => ⟨HR4.k4, HR4.k6⟩, fun _ => HR4.k5⟩ ?_
            clear hK
            simp only [Act.put, List.getElem_toArray, List.getElem_cons_succ, List.getElem_cons_zero, List.setIfInBounds_toArray, List.set_cons_succ, List.set_cons_zero]
            refine wpAnyF_all (rs := [3, 6]) (by kernel_rfl) (by decide) ?_
            refine wpAnyF_cons rfl rfl (fun K hK => ?_) (wpAnyF_cons rfl rfl (fun K hK => ?_) wpAnyF_nil)
            · refine wp_append_any _ (.tmp 33) (.tmp 35) 22 rfl (L + 1 + 1 + 1) 33 iS _ 4 56 Tryz.underlying22 hiS hzS hsS hbS rfl (by decide) A _ _ (by rfl) HR4.ls.rowA (g2 + 1) (some ⟨g2, 0, none⟩) 1 1 (enC ⟨e, D, c⟩).toList (by rfl) (blk_reads HG2_4 rfl) (fun u hu => List.all_eq_true.1 (show (enC ⟨e, D, c⟩).toList.all (·.oneCell') = true from rfl) u hu) (by simp only [maxLen]; omega) (by omega) HR4.hz ?_
              intro A1 v5 hown5 hg5 hob5
              have HR5 := HR4.appA hw1 h6 hs4 hown5 hg5 hob5
              have hs5 := Nat.lt_of_lt_of_le hs4 hg5.size
              clear hown5 hg5 hob5
              refine hK _ _ ⟨fun _ => ⟨HR5.k4, HR5.k6⟩, fun _ => HR5.k5⟩ ?_
              clear hK
              simp only [Act.put, List.getElem_toArray, List.getElem_cons_succ, List.getElem_cons_zero, List.setIfInBounds_toArray, List.set_cons_succ, List.set_cons_zero]
              refine wpAnyF_all (rs := [6]) (by kernel_rfl) (by decide) ?_
              refine wpAnyF_cons rfl rfl (fun K hK => ?_) wpAnyF_nil
              · refine wp_built1 23 3 (.tmp 38) (.int .i64 (xn : Int)) rfl (by rfl) Tryz.underlying23 #[.int .i64 (xn : Int)] (built_int _) ?_
                have hb6 : Below v5.heap.size v5 (v5.alloc (.cells #[.int .i64 (xn : Int)] 3)) := (Below.refl _ _).alloc (Nat.le_refl _) _
                have HR6 := HR5.below hb6
                have HG6_6 := Blk.new v5 3 #[.int .i64 (xn : Int)]
                have hs6 := Nat.lt_of_lt_of_le hs5 hb6.size
                clear hb6
                generalize v5.alloc (.cells #[.int .i64 (xn : Int)] 3) = v6 at *
                generalize v5.heap.size = g6 at *
                refine hK _ _ ⟨fun _ => ⟨HR6.k4, HR6.k6⟩, fun _ => HR6.k5⟩ ?_
                clear hK
                simp only [Act.put, List.getElem_toArray, List.getElem_cons_succ, List.getElem_cons_zero, List.setIfInBounds_toArray, List.set_cons_succ, List.set_cons_zero]
                refine wpAnyF_all (rs := [7]) (by kernel_rfl) (by decide) ?_
                refine wpAnyF_cons rfl rfl (fun K hK => ?_) wpAnyF_nil
                · refine wp_append_any _ (.tmp 37) (.tmp 39) 23 rfl (L + 1 + 1 + 1) 3 iI _ 1 8 Tryz.underlying23 hiI hzI hsI hbI rfl (by decide) B _ _ (by rfl) HR6.ls.rowB (g6 + 1) (some ⟨g6, 0, none⟩) 1 1 [.int .i64 (xn : Int)] (by rfl) (blk_reads HG6_6 rfl) (by intro u hu; rw [List.mem_singleton.1 hu]; rfl) (by simp only [maxLen]; omega) (by omega) HR6.hz ?_
                  intro B1 v7 hown7 hg7 _
                  have HR7 := HR6.appB hw1 h6 hown7 hg7
                  clear hown7 hg7
                  refine hK _ _ ⟨fun _ => ⟨HR7.k4, HR7.k6⟩, fun _ => HR7.k5⟩ ?_
                  clear hK
                  simp only [Act.put, List.getElem_toArray, List.getElem_cons_succ, List.getElem_cons_zero, List.setIfInBounds_toArray, List.set_cons_succ, List.set_cons_zero]
                  refine wpAnyF_all (rs := [8]) (by kernel_rfl) (by decide) ?_
                  refine wpAnyF_cons rfl rfl (fun K hK => ?_) wpAnyF_nil
                  obtain ⟨a1, q1, rfl⟩ := own_slG HR7.ls.rowA
                  obtain ⟨a2, q2, rfl⟩ := own_slG HR7.ls.rowB
                  refine wp_skip (w' := v7.setCell ⟨L, 0, none⟩ (.slice a1 (E ++ [(⟨e, D, c⟩ : EnL)]).length q1)) (by have cc := HR7.k4.cell 0; have f := HR7.k4.frozen 0; go_simp) ?_
                  refine hK _ _ ⟨fun h => absurd h (by decide), fun _ => HR7.k5.far (p := ⟨L, 0, none⟩) (by show L + 1 ≠ L; omega) _⟩ ?_
                  refine wpAnyF_all (rs := [9]) (by kernel_rfl) (by decide) ?_
                  refine wpAnyF_cons rfl rfl (fun K hK => ?_) wpAnyF_nil
                  have HB5 := HR7.k5.far (p := ⟨L, 0, none⟩) (by show L + 1 ≠ L; omega) (.slice a1 (E ++ [(⟨e, D, c⟩ : EnL)]).length q1)
                  refine wp_skip (w' := (v7.setCell ⟨L, 0, none⟩ (.slice a1 (E ++ [(⟨e, D, c⟩ : EnL)]).length q1)).setCell ⟨L + 1, 0, none⟩ (.slice a2 (NS ++ [xn]).length q2)) (by have cc := HR7.k5.cell 0; have ff := HR7.k5.frozen 0; have cd := HB5.cell 0; have fd := HB5.frozen 0; go_simp) ?_
                  refine hK _ _ ⟨fun h => absurd h (by decide), fun h => absurd h (by decide)⟩ ?_
                  refine wpAnyF_done (by kernel_rfl) ?_
                  have hfin := HR7.fin hw1 h6 HES.out HNS.out.symm HOS.out
                  exact ⟨hfin.1.1, hfin.1.2, hfin.2⟩
            · refine wp_built1 23 3 (.tmp 38) (.int .i64 (xn : Int)) rfl (by rfl) Tryz.underlying23 #[.int .i64 (xn : Int)] (built_int _) ?_
              have hb5 : Below v4.heap.size v4 (v4.alloc (.cells #[.int .i64 (xn : Int)] 3)) := (Below.refl _ _).alloc (Nat.le_refl _) _
              have HR5 := HR4.below hb5
              have HG6_5 := Blk.new v4 3 #[.int .i64 (xn : Int)]
              have hs5 := Nat.lt_of_lt_of_le hs4 hb5.size
              have HG2_5 := HG2_4.below hb5 HG2_4.lt
              clear hb5
              generalize v4.alloc (.cells #[.int .i64 (xn : Int)] 3) = v5 at *
              generalize v4.heap.size = g6 at *
              refine hK _ _ ⟨fun _ => ⟨HR5.k4, HR5.k6⟩, fun _ => HR5.k5⟩ ?_
              clear hK
              simp only [Act.put, List.getElem_toArray, List.getElem_cons_succ, List.getElem_cons_zero, List.setIfInBounds_toArray, List.set_cons_succ, List.set_cons_zero]
              refine wpAnyF_all (rs := [3]) (by kernel_rfl) (by decide) ?_
              refine wpAnyF_cons rfl rfl (fun K hK => ?_) wpAnyF_nil
              · refine wp_append_any _ (.tmp 33) (.tmp 35) 22 rfl (L + 1 + 1 + 1) 33 iS _ 4 56 Tryz.underlying22 hiS hzS hsS hbS rfl (by decide) A _ _ (by rfl) HR5.ls.rowA (g2 + 1) (some ⟨g2, 0, none⟩) 1 1 (enC ⟨e, D, c⟩).toList (by rfl) (blk_reads HG2_5 rfl) (fun u hu => List.all_eq_true.1 (show (enC ⟨e, D, c⟩).toList.all (·.oneCell') = true from rfl) u hu) (by simp only [maxLen]; omega) (by omega) HR5.hz ?_
                intro A1 v6 hown6 hg6 hob6
                have HR6 := HR5.appA hw1 h6 hs5 hown6 hg6 hob6
                have hs6 := Nat.lt_of_lt_of_le hs5 hg6.size
                have HG6_6 := HG6_5.grown hg6 (fun e => own_blk_ne HR5.ls.rowA HG6_5 (by decide) e.symm)
                clear hown6 hg6 hob6
                refine hK _ _ ⟨fun _ => ⟨HR6.k4, HR6.k6⟩, fun _ => HR6.k5⟩ ?_
                clear hK
                simp only [Act.put, List.getElem_toArray, List.getElem_cons_succ, List.getElem_cons_zero, List.setIfInBounds_toArray, List.set_cons_succ, List.set_cons_zero]
                refine wpAnyF_all (rs := [7]) (by kernel_rfl) (by decide) ?_
                refine wpAnyF_cons rfl rfl (fun K hK => ?_) wpAnyF_nil
                · refine wp_append_any _ (.tmp 37) (.tmp 39) 23 rfl (L + 1 + 1 + 1) 3 iI _ 1 8 Tryz.underlying23 hiI hzI hsI hbI rfl (by decide) B _ _ (by rfl) HR6.ls.rowB (g6 + 1) (some ⟨g6, 0, none⟩) 1 1 [.int .i64 (xn : Int)] (by rfl) (blk_reads HG6_6 rfl) (by intro u hu; rw [List.mem_singleton.1 hu]; rfl) (by simp only [maxLen]; omega) (by omega) HR6.hz ?_
                  intro B1 v7 hown7 hg7 _
                  have HR7 := HR6.appB hw1 h6 hown7 hg7
                  clear hown7 hg7
                  refine hK _ _ ⟨fun _ => ⟨HR7.k4, HR7.k6⟩, fun _ => HR7.k5⟩ ?_
                  clear hK
                  simp only [Act.put, List.getElem_toArray, List.getElem_cons_succ, List.getElem_cons_zero, List.setIfInBounds_toArray, List.set_cons_succ, List.set_cons_zero]
                  refine wpAnyF_all (rs := [8]) (by kernel_rfl) (by decide) ?_
                  refine wpAnyF_cons rfl rfl (fun K hK => ?_) wpAnyF_nil
                  obtain ⟨a1, q1, rfl⟩ := own_slG HR7.ls.rowA
                  obtain ⟨a2, q2, rfl⟩ := own_slG HR7.ls.rowB
                  refine wp_skip (w' := v7.setCell ⟨L, 0, none⟩ (.slice a1 (E ++ [(⟨e, D, c⟩ : EnL)]).length q1)) (by have cc := HR7.k4.cell 0; have f := HR7.k4.frozen 0; go_simp) ?_
                  refine hK _ _ ⟨fun h => absurd h (by decide), fun _ => HR7.k5.far (p := ⟨L, 0, none⟩) (by show L + 1 ≠ L; omega) _⟩ ?_
                  refine wpAnyF_all (rs := [9]) (by kernel_rfl) (by decide) ?_
                  refine wpAnyF_cons rfl rfl (fun K hK => ?_) wpAnyF_nil
                  have HB5 := HR7.k5.far (p := ⟨L, 0, none⟩) (by show L + 1 ≠ L; omega) (.slice a1 (E ++ [(⟨e, D, c⟩ : EnL)]).length q1)
                  refine wp_skip (w' := (v7.setCell ⟨L, 0, none⟩ (.slice a1 (E ++ [(⟨e, D, c⟩ : EnL)]).length q1)).setCell ⟨L + 1, 0, none⟩ (.slice a2 (NS ++ [xn]).length q2)) (by have cc := HR7.k5.cell 0; have ff := HR7.k5.frozen 0; have cd := HB5.cell 0; have fd := HB5.frozen 0; go_simp) ?_
                  refine hK _ _ ⟨fun h => absurd h (by decide), fun h => absurd h (by decide)⟩ ?_
                  refine wpAnyF_done (by kernel_rfl) ?_
                  have hfin := HR7.fin hw1 h6 HES.out HNS.out.symm HOS.out
                  exact ⟨hfin.1.1, hfin.1.2, hfin.2⟩
          · refine wp_built1 23 3 (.tmp 38) (.int .i64 (xn : Int)) rfl (by rfl) Tryz.underlying23 #[.int .i64 (xn : Int)] (built_int _) ?_
            have hb4 : Below v0.heap.size v0 (v0.alloc (.cells #[.int .i64 (xn : Int)] 3)) := (Below.refl _ _).alloc (Nat.le_refl _) _
            have HR4 := HR0.below hb4
            have HG6_4 := Blk.new v0 3 #[.int .i64 (xn : Int)]
            have hs4 := Nat.lt_of_lt_of_le hs0' hb4.size
            clear hb4
            generalize v0.alloc (.cells #[.int .i64 (xn : Int)] 3) = v4 at *
            generalize v0.heap.size = g6 at *
            refine hK _ _ ⟨fun _ => ⟨HR4.k4, HR4.k6⟩, fun _ => HR4.k5⟩ ?_
            clear hK
            simp only [Act.put, List.getElem_toArray, List.getElem_cons_succ, List.getElem_cons_zero, List.setIfInBounds_toArray, List.set_cons_succ, List.set_cons_zero]
            refine wpAnyF_all (rs := [2]) (by kernel_rfl) (by decide) ?_
            refine wpAnyF_cons rfl rfl (fun K hK => ?_) wpAnyF_nil
            · refine wp_built1 22 33 (.tmp 34) (.agg (enC ⟨e, D, c⟩)) rfl (by rfl) Tryz.underlying22 (enC ⟨e, D, c⟩) (built_sum ⟨e, D, c⟩) ?_
              have hb5 : Below v4.heap.size v4 (v4.alloc (.cells (enC ⟨e, D, c⟩) 33)) := (Below.refl _ _).alloc (Nat.le_refl _) _
              have HR5 := HR4.below hb5
              have HG2_5 := Blk.new v4 33 (enC ⟨e, D, c⟩)
              have hs5 := Nat.lt_of_lt_of_le hs4 hb5.size
              have HG6_5 := HG6_4.below hb5 HG6_4.lt
              clear hb5
              generalize v4.alloc (.cells (enC ⟨e, D, c⟩) 33) = v5 at *
              generalize v4.heap.size = g2 at *
              refine hK _ _ ⟨fun _ => ⟨HR5.k4, HR5.k6⟩, fun _ => HR5.k5⟩ ?_
              clear hK
              simp only [Act.put, List.getElem_toArray, List.getElem_cons_succ, List.getElem_cons_zero, List.setIfInBounds_toArray, List.set_cons_succ, List.set_cons_zero]
              refine wpAnyF_all (rs := [3]) (by kernel_rfl) (by decide) ?_
              refine wpAnyF_cons rfl rfl (fun K hK => ?_) wpAnyF_nil
              · refine wp_append_any _ (.tmp 33) (.tmp 35) 22 rfl (L + 1 + 1 + 1) 33 iS _ 4 56 Tryz.underlying22 hiS hzS hsS hbS rfl (by decide) A _ _ (by rfl) HR5.ls.rowA (g2 + 1) (some ⟨g2, 0, none⟩) 1 1 (enC ⟨e, D, c⟩).toList (by rfl) (blk_reads HG2_5 rfl) (fun u hu => List.all_eq_true.1 (show (enC ⟨e, D, c⟩).toList.all (·.oneCell') = true from rfl) u hu) (by simp only [maxLen]; omega) (by omega) HR5.hz ?_
                intro A1 v6 hown6 hg6 hob6
                have HR6 := HR5.appA hw1 h6 hs5 hown6 hg6 hob6
                have hs6 := Nat.lt_of_lt_of_le hs5 hg6.size
                have HG6_6 := HG6_5.grown hg6 (fun e => own_blk_ne HR5.ls.rowA HG6_5 (by decide) e.symm)
                clear hown6 hg6 hob6
                refine hK _ _ ⟨fun _ => ⟨HR6.k4, HR6.k6⟩, fun _ => HR6.k5⟩ ?_
                clear hK
                simp only [Act.put, List.getElem_toArray, List.getElem_cons_succ, List.getElem_cons_zero, List.setIfInBounds_toArray, List.set_cons_succ, List.set_cons_zero]
                refine wpAnyF_all (rs := [7]) (by kernel_rfl) (by decide) ?_
                refine wpAnyF_cons rfl rfl (fun K hK => ?_) wpAnyF_nil
                · refine wp_append_any _ (.tmp 37) (.tmp 39) 23 rfl (L + 1 + 1 + 1) 3 iI _ 1 8 Tryz.underlying23 hiI hzI hsI hbI rfl (by decide) B _ _ (by rfl) HR6.ls.rowB (g6 + 1) (some ⟨g6, 0, none⟩) 1 1 [.int .i64 (xn : Int)] (by rfl) (blk_reads HG6_6 rfl) (by intro u hu; rw [List.mem_singleton.1 hu]; rfl) (by simp only [maxLen]; omega) (by omega) HR6.hz ?_
                  intro B1 v7 hown7 hg7 _
                  have HR7 := HR6.appB hw1 h6 hown7 hg7
                  clear hown7 hg7
                  refine hK _ _ ⟨fun _ => ⟨HR7.k4, HR7.k6⟩, fun _ => HR7.k5⟩ ?_
                  clear hK
                  simp only [Act.put, List.getElem_toArray, List.getElem_cons_succ, List.getElem_cons_zero, List.setIfInBounds_toArray, List.set_cons_succ, List.set_cons_zero]
                  refine wpAnyF_all (rs := [8]) (by kernel_rfl) (by decide) ?_
                  refine wpAnyF_cons rfl rfl (fun K hK => ?_) wpAnyF_nil
                  obtain ⟨a1, q1, rfl⟩ := own_slG HR7.ls.rowA
                  obtain ⟨a2, q2, rfl⟩ := own_slG HR7.ls.rowB
                  refine wp_skip (w' := v7.setCell ⟨L, 0, none⟩ (.slice a1 (E ++ [(⟨e, D, c⟩ : EnL)]).length q1)) (by have cc := HR7.k4.cell 0; have f := HR7.k4.frozen 0; go_simp) ?_
                  refine hK _ _ ⟨fun h => absurd h (by decide), fun _ => HR7.k5.far (p := ⟨L, 0, none⟩) (by show L + 1 ≠ L; omega) _⟩ ?_
                  refine wpAnyF_all (rs := [9]) (by kernel_rfl) (by decide) ?_
                  refine wpAnyF_cons rfl rfl (fun K hK => ?_) wpAnyF_nil
                  have HB5 := HR7.k5.far (p := ⟨L, 0, none⟩) (by show L + 1 ≠ L; omega) (.slice a1 (E ++ [(⟨e, D, c⟩ : EnL)]).length q1)
                  refine wp_skip (w' := (v7.setCell ⟨L, 0, none⟩ (.slice a1 (E ++ [(⟨e, D, c⟩ : EnL)]).length q1)).setCell ⟨L + 1, 0, none⟩ (.slice a2 (NS ++ [xn]).length q2)) (by have cc := HR7.k5.cell 0; have ff := HR7.k5.frozen 0; have cd := HB5.cell 0; have fd := HB5.frozen 0; go_simp) ?_
                  refine hK _ _ ⟨fun h => absurd h (by decide), fun h => absurd h (by decide)⟩ ?_
                  refine wpAnyF_done (by kernel_rfl) ?_
                  have hfin := HR7.fin hw1 h6 HES.out HNS.out.symm HOS.out
                  exact ⟨hfin.1.1, hfin.1.2, hfin.2⟩
        · refine wp_built1 23 3 (.tmp 38) (.int .i64 (xn : Int)) rfl (by rfl) Tryz.underlying23 #[.int .i64 (xn : Int)] (built_int _) ?_
          have hb3 : Below v0.heap.size v0 (v0.alloc (.cells #[.int .i64 (xn : Int)] 3)) := (Below.refl _ _).alloc (Nat.le_refl _) _
          have HR3 := HR0.below hb3
          have HG6_3 := Blk.new v0 3 #[.int .i64 (xn : Int)]
          have hs3 := Nat.lt_of_lt_of_le hs0' hb3.size
          clear hb3
          generalize v0.alloc (.cells #[.int .i64 (xn : Int)] 3) = v3 at *
          generalize v0.heap.size = g6 at *
          refine hK _ _ ⟨fun _ => ⟨HR3.k4, HR3.k6⟩, fun _ => HR3.k5⟩ ?_
          clear hK
          simp only [Act.put, List.getElem_toArray, List.getElem_cons_succ, List.getElem_cons_zero, List.setIfInBounds_toArray, List.set_cons_succ, List.set_cons_zero]
          refine wpAnyF_all (rs := [2, 4]) (by kernel_rfl) (by decide) ?_
          refine wpAnyF_cons rfl rfl (fun K hK => ?_) (wpAnyF_cons rfl rfl (fun K hK => ?_) wpAnyF_nil)
          · refine wp_built1 22 33 (.tmp 34) (.agg (enC ⟨e, D, c⟩)) rfl (by rfl) Tryz.underlying22 (enC ⟨e, D, c⟩) (built_sum ⟨e, D, c⟩) ?_
            have hb4 : Below v3.heap.size v3 (v3.alloc (.cells (enC ⟨e, D, c⟩) 33)) := (Below.refl _ _).alloc (Nat.le_refl _) _
            have HR4 := HR3.below hb4
            have HG2_4 := Blk.new v3 33 (enC ⟨e, D, c⟩)
            have hs4 := Nat.lt_of_lt_of_le hs3 hb4.size
            have HG6_4 := HG6_3.below hb4 HG6_3.lt
            clear hb4
            generalize v3.alloc (.cells (enC ⟨e, D, c⟩) 33) = v4 at *
            generalize v3.heap.size = g2 at *
            refine hK _ _ ⟨fun _ => ⟨HR4.k4, HR4.k6⟩, fun _ => HR4.k5⟩ ?_
            clear hK
            simp only [Act.put, List.getElem_toArray, List.getElem_cons_succ, List.getElem_cons_zero, List.setIfInBounds_toArray, List.set_cons_succ, List.set_cons_zero]
            refine wpAnyF_all (rs := [3, 4]) (by kernel_rfl) (by decide) ?_
            refine wpAnyF_cons rfl rfl (fun K hK => ?_) (wpAnyF_cons rfl rfl (fun K hK => ?_) wpAnyF_nil)
            · refine wp_append_any _ (.tmp 33) (.tmp 35) 22 rfl (L + 1 + 1 + 1) 33 iS _ 4 56 Tryz.underlying22 hiS hzS hsS hbS rfl (by decide) A _ _ (by rfl) HR4.ls.rowA (g2 + 1) (some ⟨g2, 0, none⟩) 1 1 (enC ⟨e, D, c⟩).toList (by rfl) (blk_reads HG2_4 rfl) (fun u hu => List.all_eq_true.1 (show (enC ⟨e, D, c⟩).toList.all (·.oneCell') = true from rfl) u hu) (by simp only [maxLen]; omega) (by omega) HR4.hz ?_
              intro A1 v5 hown5 hg5 hob5
              have HR5 := HR4.appA hw1 h6 hs4 hown5 hg5 hob5
              have hs5 := Nat.lt_of_lt_of_le hs4 hg5.size
              have HG6_5 := HG6_4.grown hg5 (fun e => own_blk_ne HR4.ls.rowA HG6_4 (by decide) e.symm)
              clear hown5 hg5 hob5
              refine hK _ _ ⟨fun _ => ⟨HR5.k4, HR5.k6⟩, fun _ => HR5.k5⟩ ?_
              clear hK
              simp only [Act.put, List.getElem_toArray, List.getElem_cons_succ, List.getElem_cons_zero, List.setIfInBounds_toArray, List.set_cons_succ, List.set_cons_zero]
              refine wpAnyF_all (rs := [4]) (by kernel_rfl) (by decide) ?_
              refine wpAnyF_cons rfl rfl (fun K hK => ?_) wpAnyF_nil
              · have c4 := HR5.k5.cell 0
                refine wp_value (v := B) (by go_simp) ?_
                clear c4
                refine hK _ _ ⟨fun _ => ⟨HR5.k4, HR5.k6⟩, fun _ => HR5.k5⟩ ?_
                clear hK
                simp only [Act.put, List.getElem_toArray, List.getElem_cons_succ, List.getElem_cons_zero, List.setIfInBounds_toArray, List.set_cons_succ, List.set_cons_zero]
                refine wpAnyF_all (rs := [7]) (by kernel_rfl) (by decide) ?_
                refine wpAnyF_cons rfl rfl (fun K hK => ?_) wpAnyF_nil
                · refine wp_append_any _ (.tmp 37) (.tmp 39) 23 rfl (L + 1 + 1 + 1) 3 iI _ 1 8 Tryz.underlying23 hiI hzI hsI hbI rfl (by decide) B _ _ (by rfl) HR5.ls.rowB (g6 + 1) (some ⟨g6, 0, none⟩) 1 1 [.int .i64 (xn : Int)] (by rfl) (blk_reads HG6_5 rfl) (by intro u hu; rw [List.mem_singleton.1 hu]; rfl) (by simp only [maxLen]; omega) (by omega) HR5.hz ?_
                  intro B1 v7 hown7 hg7 _
                  have HR7 := HR5.appB hw1 h6 hown7 hg7
                  clear hown7 hg7
                  refine hK _ _ ⟨fun _ => ⟨HR7.k4, HR7.k6⟩, fun _ => HR7.k5⟩ ?_
                  clear hK
                  simp only [Act.put, List.getElem_toArray, List.getElem_cons_succ, List.getElem_cons_zero, List.setIfInBounds_toArray, List.set_cons_succ, List.set_cons_zero]
                  refine wpAnyF_all (rs := [8]) (by kernel_rfl) (by decide) ?_
                  refine wpAnyF_cons rfl rfl (fun K hK => ?_) wpAnyF_nil
                  obtain ⟨a1, q1, rfl⟩ := own_slG HR7.ls.rowA
                  obtain ⟨a2, q2, rfl⟩ := own_slG HR7.ls.rowB
                  refine wp_skip (w' := v7.setCell ⟨L, 0, none⟩ (.slice a1 (E ++ [(⟨e, D, c⟩ : EnL)]).length q1)) (by have cc := HR7.k4.cell 0; have f := HR7.k4.frozen 0; go_simp) ?_
                  refine hK _ _ ⟨fun h => absurd h (by decide), fun _ => HR7.k5.far (p := ⟨L, 0, none⟩) (by show L + 1 ≠ L; omega) _⟩ ?_
                  refine wpAnyF_all (rs := [9]) (by kernel_rfl) (by decide) ?_
                  refine wpAnyF_cons rfl rfl (fun K hK => ?_) wpAnyF_nil
                  have HB5 := HR7.k5.far (p := ⟨L, 0, none⟩) (by show L + 1 ≠ L; omega) (.slice a1 (E ++ [(⟨e, D, c⟩ : EnL)]).length q1)
                  refine wp_skip (w' := (v7.setCell ⟨L, 0, none⟩ (.slice a1 (E ++ [(⟨e, D, c⟩ : EnL)]).length q1)).setCell ⟨L + 1, 0, none⟩ (.slice a2 (NS ++ [xn]).length q2)) (by have cc := HR7.k5.cell 0; have ff := HR7.k5.frozen 0; have cd := HB5.cell 0; have fd := HB5.frozen 0; go_simp) ?_
                  refine hK _ _ ⟨fun h => absurd h (by decide), fun h => absurd h (by decide)⟩ ?_
                  refine wpAnyF_done (by kernel_rfl) ?_
                  have hfin := HR7.fin hw1 h6 HES.out HNS.out.symm HOS.out
                  exact ⟨hfin.1.1, hfin.1.2, hfin.2⟩
            · have c4 := HR4.k5.cell 0
              refine wp_value (v := B) (by go_simp) ?_
              clear c4
              refine hK _ _ ⟨fun _ => ⟨HR4.k4, HR4.k6⟩, fun _ => HR4.k5⟩ ?_
              clear hK
              simp only [Act.put, List.getElem_toArray, List.getElem_cons_succ, List.getElem_cons_zero, List.setIfInBounds_toArray, List.set_cons_succ, List.set_cons_zero]
              refine wpAnyF_all (rs := [3]) (by kernel_rfl) (by decide) ?_
              refine wpAnyF_cons rfl rfl (fun K hK => ?_) wpAnyF_nil
              · refine wp_append_any _ (.tmp 33) (.tmp 35) 22 rfl (L + 1 + 1 + 1) 33 iS _ 4 56 Tryz.underlying22 hiS hzS hsS hbS rfl (by decide) A _ _ (by rfl) HR4.ls.rowA (g2 + 1) (some ⟨g2, 0, none⟩) 1 1 (enC ⟨e, D, c⟩).toList (by rfl) (blk_reads HG2_4 rfl) (fun u hu => List.all_eq_true.1 (show (enC ⟨e, D, c⟩).toList.all (·.oneCell') = true from rfl) u hu) (by simp only [maxLen]; omega) (by omega) HR4.hz ?_
                intro A1 v6 hown6 hg6 hob6
                have HR6 := HR4.appA hw1 h6 hs4 hown6 hg6 hob6
                have hs6 := Nat.lt_of_lt_of_le hs4 hg6.size
                have HG6_6 := HG6_4.grown hg6 (fun e => own_blk_ne HR4.ls.rowA HG6_4 (by decide) e.symm)
                clear hown6 hg6 hob6
                refine hK _ _ ⟨fun _ => ⟨HR6.k4, HR6.k6⟩, fun _ => HR6.k5⟩ ?_
                clear hK
                simp only [Act.put, List.getElem_toArray, List.getElem_cons_succ, List.getElem_cons_zero, List.setIfInBounds_toArray, List.set_cons_succ, List.set_cons_zero]
                refine wpAnyF_all (rs := [7]) (by kernel_rfl) (by decide) ?_
                refine wpAnyF_cons rfl rfl (fun K hK => ?_) wpAnyF_nil
                · refine wp_append_any _ (.tmp 37) (.tmp 39) 23 rfl (L + 1 + 1 + 1) 3 iI _ 1 8 Tryz.underlying23 hiI hzI hsI hbI rfl (by decide) B _ _ (by rfl) HR6.ls.rowB (g6 + 1) (some ⟨g6, 0, none⟩) 1 1 [.int .i64 (xn : Int)] (by rfl) (blk_reads HG6_6 rfl) (by intro u hu; rw [List.mem_singleton.1 hu]; rfl) (by simp only [maxLen]; omega) (by omega) HR6.hz ?_
                  intro B1 v7 hown7 hg7 _
                  have HR7 := HR6.appB hw1 h6 hown7 hg7
                  clear hown7 hg7
                  refine hK _ _ ⟨fun _ => ⟨HR7.k4, HR7.k6⟩, fun _ => HR7.k5⟩ ?_
                  clear hK
                  simp only [Act.put, List.getElem_toArray, List.getElem_cons_succ, List.getElem_cons_zero, List.setIfInBounds_toArray, List.set_cons_succ, List.set_cons_zero]
                  refine wpAnyF_all (rs := [8]) (by kernel_rfl) (by decide) ?_
                  refine wpAnyF_cons rfl rfl (fun K hK => ?_) wpAnyF_nil
                  obtain ⟨a1, q1, rfl⟩ := own_slG HR7.ls.rowA
                  obtain ⟨a2, q2, rfl⟩ := own_slG HR7.ls.rowB
                  refine wp_skip (w' := v7.setCell ⟨L, 0, none⟩ (.slice a1 (E ++ [(⟨e, D, c⟩ : EnL)]).length q1)) (by have cc := HR7.k4.cell 0; have f := HR7.k4.frozen 0; go_simp) ?_
                  refine hK _ _ ⟨fun h => absurd h (by decide), fun _ => HR7.k5.far (p := ⟨L, 0, none⟩) (by show L + 1 ≠ L; omega) _⟩ ?_
                  refine wpAnyF_all (rs := [9]) (by kernel_rfl) (by decide) ?_
                  refine wpAnyF_cons rfl rfl (fun K hK => ?_) wpAnyF_nil
                  have HB5 := HR7.k5.far (p := ⟨L, 0, none⟩) (by show L + 1 ≠ L; omega) (.slice a1 (E ++ [(⟨e, D, c⟩ : EnL)]).length q1)
                  refine wp_skip (w' := (v7.setCell ⟨L, 0, none⟩ (.slice a1 (E ++ [(⟨e, D, c⟩ : EnL)]).length q1)).setCell ⟨L + 1, 0, none⟩ (.slice a2 (NS ++ [xn]).length q2)) (by have cc := HR7.k5.cell 0; have ff := HR7.k5.frozen 0; have cd := HB5.cell 0; have fd := HB5.frozen 0; go_simp) ?_
                  refine hK _ _ ⟨fun h => absurd h (by decide), fun h => absurd h (by decide)⟩ ?_
                  refine wpAnyF_done (by kernel_rfl) ?_
                  have hfin := HR7.fin hw1 h6 HES.out HNS.out.symm HOS.out
                  exact ⟨hfin.1.1, hfin.1.2, hfin.2⟩
          · have c4 := HR3.k5.cell 0
            refine wp_value (v := B) (by go_simp) ?_
            clear c4
            refine hK _ _ ⟨fun _ => ⟨HR3.k4, HR3.k6⟩, fun _ => HR3.k5⟩ ?_
            clear hK
            simp only [Act.put, List.getElem_toArray, List.getElem_cons_succ, List.getElem_cons_zero, List.setIfInBounds_toArray, List.set_cons_succ, List.set_cons_zero]
            refine wpAnyF_all (rs := [2]) (by kernel_rfl) (by decide) ?_
            refine wpAnyF_cons rfl rfl (fun K hK => ?_) wpAnyF_nil
            · refine wp_built1 22 33 (.tmp 34) (.agg (enC ⟨e, D, c⟩)) rfl (by rfl) Tryz.underlying22 (enC ⟨e, D, c⟩) (built_sum ⟨e, D, c⟩) ?_
              have hb5 : Below v3.heap.size v3 (v3.alloc (.cells (enC ⟨e, D, c⟩) 33)) := (Below.refl _ _).alloc (Nat.le_refl _) _
              have HR5 := HR3.below hb5
              have HG2_5 := Blk.new v3 33 (enC ⟨e, D, c⟩)
              have hs5 := Nat.lt_of_lt_of_le hs3 hb5.size
              have HG6_5 := HG6_3.below hb5 HG6_3.lt
              clear hb5
              generalize v3.alloc (.cells (enC ⟨e, D, c⟩) 33) = v5 at *
              generalize v3.heap.size = g2 at *
              refine hK _ _ ⟨fun _ => ⟨HR5.k4, HR5.k6⟩, fun _ => HR5.k5⟩ ?_
              clear hK
              simp only [Act.put, List.getElem_toArray, List.getElem_cons_succ, List.getElem_cons_zero, List.setIfInBounds_toArray, List.set_cons_succ, List.set_cons_zero]
              refine wpAnyF_all (rs := [3]) (by kernel_rfl) (by decide) ?_
              refine wpAnyF_cons rfl rfl (fun K hK => ?_) wpAnyF_nil
              · refine wp_append_any _ (.tmp 33) (.tmp 35) 22 rfl (L + 1 + 1 + 1) 33 iS _ 4 56 Tryz.underlying22 hiS hzS hsS hbS rfl (by decide) A _ _ (by rfl) HR5.ls.rowA (g2 + 1) (some ⟨g2, 0, none⟩) 1 1 (enC ⟨e, D, c⟩).toList (by rfl) (blk_reads HG2_5 rfl) (fun u hu => List.all_eq_true.1 (show (enC ⟨e, D, c⟩).toList.all (·.oneCell') = true from rfl) u hu) (by simp only [maxLen]; omega) (by omega) HR5.hz ?_
                intro A1 v6 hown6 hg6 hob6
                have HR6 := HR5.appA hw1 h6 hs5 hown6 hg6 hob6
                have hs6 := Nat.lt_of_lt_of_le hs5 hg6.size
                have HG6_6 := HG6_5.grown hg6 (fun e => own_blk_ne HR5.ls.rowA HG6_5 (by decide) e.symm)
                clear hown6 hg6 hob6
                refine hK _ _ ⟨fun _ => ⟨HR6.k4, HR6.k6⟩, fun _ => HR6.k5⟩ ?_
                clear hK
                simp only [Act.put, List.getElem_toArray, List.getElem_cons_succ, List.getElem_cons_zero, List.setIfInBounds_toArray, List.set_cons_succ, List.set_cons_zero]
                refine wpAnyF_all (rs := [7]) (by kernel_rfl) (by decide) ?_
                refine wpAnyF_cons rfl rfl (fun K hK => ?_) wpAnyF_nil
                · refine wp_append_any _ (.tmp 37) (.tmp 39) 23 rfl (L + 1 + 1 + 1) 3 iI _ 1 8 Tryz.underlying23 hiI hzI hsI hbI rfl (by decide) B _ _ (by rfl) HR6.ls.rowB (g6 + 1) (some ⟨g6, 0, none⟩) 1 1 [.int .i64 (xn : Int)] (by rfl) (blk_reads HG6_6 rfl) (by intro u hu; rw [List.mem_singleton.1 hu]; rfl) (by simp only [maxLen]; omega) (by omega) HR6.hz ?_
                  intro B1 v7 hown7 hg7 _
                  have HR7 := HR6.appB hw1 h6 hown7 hg7
                  clear hown7 hg7
                  refine hK _ _ ⟨fun _ => ⟨HR7.k4, HR7.k6⟩, fun _ => HR7.k5⟩ ?_
                  clear hK
                  simp only [Act.put, List.getElem_toArray, List.getElem_cons_succ, List.getElem_cons_zero, List.setIfInBounds_toArray, List.set_cons_succ, List.set_cons_zero]
                  refine wpAnyF_all (rs := [8]) (by kernel_rfl) (by decide) ?_
                  refine wpAnyF_cons rfl rfl (fun K hK => ?_) wpAnyF_nil
                  obtain ⟨a1, q1, rfl⟩ := own_slG HR7.ls.rowA
                  obtain ⟨a2, q2, rfl⟩ := own_slG HR7.ls.rowB
                  refine wp_skip (w' := v7.setCell ⟨L, 0, none⟩ (.slice a1 (E ++ [(⟨e, D, c⟩ : EnL)]).length q1)) (by have cc := HR7.k4.cell 0; have f := HR7.k4.frozen 0; go_simp) ?_
                  refine hK _ _ ⟨fun h => absurd h (by decide), fun _ => HR7.k5.far (p := ⟨L, 0, none⟩) (by show L + 1 ≠ L; omega) _⟩ ?_
                  refine wpAnyF_all (rs := [9]) (by kernel_rfl) (by decide) ?_
                  refine wpAnyF_cons rfl rfl (fun K hK => ?_) wpAnyF_nil
                  have HB5 := HR7.k5.far (p := ⟨L, 0, none⟩) (by show L + 1 ≠ L; omega) (.slice a1 (E ++ [(⟨e, D, c⟩ : EnL)]).length q1)
                  refine wp_skip (w' := (v7.setCell ⟨L, 0, none⟩ (.slice a1 (E ++ [(⟨e, D, c⟩ : EnL)]).length q1)).setCell ⟨L + 1, 0, none⟩ (.slice a2 (NS ++ [xn]).length q2)) (by have cc := HR7.k5.cell 0; have ff := HR7.k5.frozen 0; have cd := HB5.cell 0; have fd := HB5.frozen 0; go_simp) ?_
                  refine hK _ _ ⟨fun h => absurd h (by decide), fun h => absurd h (by decide)⟩ ?_
                  refine wpAnyF_done (by kernel_rfl) ?_
                  have hfin := HR7.fin hw1 h6 HES.out HNS.out.symm HOS.out
                  exact ⟨hfin.1.1, hfin.1.2, hfin.2⟩
      --END
    · have t0 : (er != 0) = true := by simpa using her
      have K1 : Hid (Blk ((w2.alloc (.cells #[.int .i64 e.a, .string e.nm, .slice D e.dg.length c, .bool e.st] 33)).alloc (.cells #[.int .i64 (xn : Int)] 3)) (w.heap.size + 1) 22 #[.slice none 0 0]) := K1.out.alloc _
      have K2 : Hid (Blk ((w2.alloc (.cells #[.int .i64 e.a, .string e.nm, .slice D e.dg.length c, .bool e.st] 33)).alloc (.cells #[.int .i64 (xn : Int)] 3)) (w.heap.size + 1 + 1) 23 #[.slice none 0 0]) := K2.out.alloc _
      have K3 : Hid (Blk ((w2.alloc (.cells #[.int .i64 e.a, .string e.nm, .slice D e.dg.length c, .bool e.st] 33)).alloc (.cells #[.int .i64 (xn : Int)] 3)) (w.heap.size + 1 + 1 + 1) 24 #[.int .i64 0]) := K3.out.alloc _
      have hb5 : Below (w2.alloc (.cells (smC e D e.dg.length c) 33)).heap.size (w2.alloc (.cells (smC e D e.dg.length c) 33)) ((w2.alloc (.cells #[.int .i64 e.a, .string e.nm, .slice D e.dg.length c, .bool e.st] 33)).alloc (.cells #[.int .i64 (xn : Int)] 3)) := (Below.refl _ _).alloc (Nat.le_refl _) _
      have B5 := Lib.hid (B3.out.trans (Bd.below (B := L + 1 + 1 + 1) hb5 (by omega)))
      have HB5 := Lib.hid (below_step HB.out hb5)
      have HN5 : Hid (((w2.alloc (.cells #[.int .i64 e.a, .string e.nm, .slice D e.dg.length c, .bool e.st] 33)).alloc (.cells #[.int .i64 (xn : Int)] 3)).ownsRow (L + 1 + 1 + 1) 3 1 (.slice (some ⟨w2.heap.size + 1, 0, none⟩) 1 1) 1 [.int .i64 (xn : Int)]) := by
        have h := Blk.new (w2.alloc (.cells (smC e D e.dg.length c) 33)) 3 #[.int .i64 (xn : Int)]
        rw [hz3] at h
        exact own_of_full h (by omega) rfl (by simp only [maxLen]; omega)
      have c1 : ((w2.alloc (.cells #[.int .i64 e.a, .string e.nm, .slice D e.dg.length c, .bool e.st] 33)).alloc (.cells #[.int .i64 (xn : Int)] 3)).cell? ⟨w.heap.size + 1, 0, none⟩ = some (.slice none 0 0) := K1.out.cell 0
      have f1 : ((w2.alloc (.cells #[.int .i64 e.a, .string e.nm, .slice D e.dg.length c, .bool e.st] 33)).alloc (.cells #[.int .i64 (xn : Int)] 3)).frozen? ⟨w.heap.size + 1, 0, none⟩ = false := K1.out.frozen 0
      have c2 : ((w2.alloc (.cells #[.int .i64 e.a, .string e.nm, .slice D e.dg.length c, .bool e.st] 33)).alloc (.cells #[.int .i64 (xn : Int)] 3)).cell? ⟨w.heap.size + 1 + 1, 0, none⟩ = some (.slice none 0 0) := K2.out.cell 0
      have f2 : ((w2.alloc (.cells #[.int .i64 e.a, .string e.nm, .slice D e.dg.length c, .bool e.st] 33)).alloc (.cells #[.int .i64 (xn : Int)] 3)).frozen? ⟨w.heap.size + 1 + 1, 0, none⟩ = false := K2.out.frozen 0
      have c3 : ((w2.alloc (.cells #[.int .i64 e.a, .string e.nm, .slice D e.dg.length c, .bool e.st] 33)).alloc (.cells #[.int .i64 (xn : Int)] 3)).cell? ⟨w.heap.size + 1 + 1 + 1, 0, none⟩ = some (.int .i64 0) := K3.out.cell 0
      have f3 : ((w2.alloc (.cells #[.int .i64 e.a, .string e.nm, .slice D e.dg.length c, .bool e.st] 33)).alloc (.cells #[.int .i64 (xn : Int)] 3)).frozen? ⟨w.heap.size + 1 + 1 + 1, 0, none⟩ = false := K3.out.frozen 0
      clear hb5 K0 K4 K5 K6 HLS HO HLD B3 HB
      gi_wp2
      clear c1 f1 c2 f2 c3 f3
      generalize ((w2.alloc (.cells #[.int .i64 e.a, .string e.nm, .slice D e.dg.length c, .bool e.st] 33)).alloc (.cells #[.int .i64 (xn : Int)] 3)) = w5 at *
      obtain ⟨s1, s2, s3⟩ := set3 (x := .slice none 0 0) (y := .slice (some ⟨w2.heap.size + 1, 0, none⟩) 1 1) (z := .int .i64 260) (by omega) (by omega) (by omega) K1.out K2.out K3.out
      refine ⟨?_, rfl, _, (xn, xt), XS.drop (i + 1), HSP.out, HOK.out, ?_, s1, s2, s3, ?_, ?_⟩
      · exact (B5.out.trans (((Bd.setCell _ _ _ (by show L + 1 + 1 ≠ w.heap.size + 1; omega)).trans (Bd.setCell _ _ _ (by show L + 1 + 1 ≠ w.heap.size + 1 + 1; omega))).trans (Bd.setCell _ _ _ (by show L + 1 + 1 ≠ w.heap.size + 1 + 1 + 1; omega)))).1
      · show (rdA (⟨xt.toArray⟩ : ByteArray) p).2.2 ≠ 0
        rw [HR.out]; exact her
      · exact own_far (own_far (own_far HN5.out (grown_setCell _ _ _ _) (by omega)) (grown_setCell _ _ _ _) (by omega)) (grown_setCell _ _ _ _) (by omega)
      · exact ((HB5.out.setCell (p := ⟨w.heap.size + 1, 0, none⟩) (by simp) _).setCell (p := ⟨w.heap.size + 1 + 1, 0, none⟩) (by simp; omega) _).setCell (p := ⟨w.heap.size + 1 + 1 + 1, 0, none⟩) (by simp; omega) _
  case done =>
    rintro D W hD ⟨A, B, E, k0, k1, k2, k3, k4, k5, hls, he, hok, hld, hb, hzW⟩ hK
    rw [List.take_of_length_le (Nat.le_refl _)] at hls he hok
    have hLF := listF_ok hok
    have hLA : LA = if 65536 < (entL p XS).length then ([], [], (2 : Int)) else ((entL p XS).map (·.1), (entL p XS).map (·.2), (0 : Int)) := by
      have := HLA.out
      rwa [hLF] at this
    have hlen : (entL p XS).length = E.length := by
      have := congrArg List.length he
      simp only [List.length_map] at this
      unfold entL
      rw [List.length_map, this]
    rw [hlen] at hLA
    have hA : ∃ a c, A = .slice a E.length c := by
      rcases hls.rowA.2 with ⟨rfl, h0⟩ | ⟨g, cap, cur, rfl, _⟩
      · exact ⟨_, _, by rw [h0]⟩
      · exact ⟨_, _, rfl⟩
    obtain ⟨a, c, rfl⟩ := hA
    have hB : ∃ a c, B = .slice a (XS.map (·.1)).length c := by
      rcases hls.rowB.2 with ⟨rfl, h0⟩ | ⟨g, cap, cur, rfl, _⟩
      · exact ⟨_, _, by rw [h0]⟩
      · exact ⟨_, _, rfl⟩
    obtain ⟨a2, c2, rfl⟩ := hB
    have HLA2 := Lib.hid hLA
    have HLS := Lib.hid hls
    have HE := Lib.hid he
    clear HLA hLF hlen hls hLA he hok
    have d4 := k4.cell 0
    have d5 := k5.cell 0
    have d1 := k1.cell 0
    have d2 := k2.cell 0
    have d3 := k3.cell 0
    have g1 := k1.frozen 0
    have g2 := k2.frozen 0
    have g3 := k3.frozen 0
    have K0 := Lib.hid k0
    have K1 := Lib.hid k1
    have K2 := Lib.hid k2
    have K3 := Lib.hid k3
    have KD := Lib.hid hK
    have HB := Lib.hid hb
    clear k0 k1 k2 k3 k4 k5 hK hb hld
    by_cases hgt : 65536 < E.length
    · have t1 : (65536 : Int) < (E.length : Int) := by omega
      rw [if_pos hgt] at HLA2
      obtain rfl : LA = ([], [], (2 : Int)) := HLA2.out
      clear HLA2 hgt
      gi_wp2
      obtain ⟨s1, s2, s3⟩ := set3 (x := .slice none 0 0) (y := .slice none 0 0) (z := .int .i64 2) (by omega) (by omega) (by omega) K1.out K2.out K3.out
      refine leaveL rfl rfl rfl s1 s2 s3 ?_ (LsI.nil_ _ _) rfl ?_ (by omega)
      · rw [Below.heap_setCell _ _ _ _ (by show D ≠ w.heap.size + 1 + 1 + 1; omega), Below.heap_setCell _ _ _ _ (by show D ≠ w.heap.size + 1 + 1; omega), Below.heap_setCell _ _ _ _ (by show D ≠ w.heap.size + 1; omega)]; exact KD.out
      · exact ((HB.out.setCell (p := ⟨w.heap.size + 1, 0, none⟩) (by simp) _).setCell (p := ⟨w.heap.size + 1 + 1, 0, none⟩) (by simp; omega) _).setCell (p := ⟨w.heap.size + 1 + 1 + 1, 0, none⟩) (by simp; omega) _
    · have t1 : ¬ (65536 : Int) < (E.length : Int) := by omega
      rw [if_neg hgt] at HLA2
      obtain rfl : LA = ((entL p XS).map (·.1), (entL p XS).map (·.2), (0 : Int)) := HLA2.out
      clear HLA2 hgt
      gi_wp2
      refine wpIn_wide.2 ?_
      generalize (XS.map (·.1)).length = nn at *
      go_region
      gi_wp2
      obtain ⟨s1, s2, s3⟩ := set3 (x := .slice a E.length c) (y := .slice a2 nn c2) (z := .int .i64 0) (by omega) (by omega) (by omega) K1.out K2.out K3.out
      have hg3 : ∀ {e : TypeId} {s n : Nat} {v : Value} {xs : List Value}, W.ownsRow (L + 1 + 1 + 1) e s v n xs → (((W.setCell ⟨w.heap.size + 1, 0, none⟩ (.slice a E.length c)).setCell ⟨w.heap.size + 1 + 1, 0, none⟩ (.slice a2 nn c2)).setCell ⟨w.heap.size + 1 + 1 + 1, 0, none⟩ (.int .i64 0)).ownsRow w.heap.size e s v n xs := fun h =>
        own_base (own_far (own_far (own_far h (grown_setCell _ _ _ _) (by omega)) (grown_setCell _ _ _ _) (by omega)) (grown_setCell _ _ _ _) (by omega)) (by omega)
      refine leaveL (E := E) rfl rfl rfl s1.drew s2.drew s3.drew ?_ ?_ ?_ ?_ (by omega)
      · show (((W.setCell ⟨w.heap.size + 1, 0, none⟩ (.slice a E.length c)).setCell ⟨w.heap.size + 1 + 1, 0, none⟩ (.slice a2 nn c2)).setCell ⟨w.heap.size + 1 + 1 + 1, 0, none⟩ (.int .i64 0)).heap[D]? = _
        rw [Below.heap_setCell _ _ _ _ (by show D ≠ w.heap.size + 1 + 1 + 1; omega), Below.heap_setCell _ _ _ _ (by show D ≠ w.heap.size + 1 + 1; omega), Below.heap_setCell _ _ _ _ (by show D ≠ w.heap.size + 1; omega)]; exact KD.out
      · have h := HLS.out
        have e2 : (entL p XS).map (·.2) = XS.map (·.1) := by unfold entL; rw [List.map_map]; rfl
        rw [e2]
        exact ⟨hg3 h.rowA, hg3 h.rowB, fun x hx => hg3 (h.dgs x hx)⟩
      · rw [HE.out]; unfold entL; rw [List.map_map]; rfl
      · exact (((HB.out.setCell (p := ⟨w.heap.size + 1, 0, none⟩) (by simp) _).setCell (p := ⟨w.heap.size + 1 + 1, 0, none⟩) (by simp; omega) _).setCell (p := ⟨w.heap.size + 1 + 1 + 1, 0, none⟩) (by simp; omega) _).drew
  case stop =>
    rintro D c i W hD hi ⟨rfl, B, x, m, hx, hok, hbad, k1, k2, k3, ho, hb⟩ hK
    have hLA : LA = ([], [x.1], (260 : Int)) := by
      have h1 := HLA.out
      have h2 := listF_bad (m := m) hok hbad
      rw [← hx] at h2
      rw [h2] at h1
      exact h1
    subst hLA
    clear HLA
    gi_wp2
    exact leaveL rfl rfl rfl k1 k2 k3 hK ⟨World.ownsRow_nil _ _ _ _, own_base ho (by omega), fun _ h => by cases h⟩ (E := []) rfl hb (by omega)
end Go.Proofs.YtmnkdkibhchglaaGreatDoor
namespace Go.Proofs.YtmnkdkibhchglaaGreatDoor
open Go.RowKit
set_option linter.unusedVariables false
attribute [local go_sem ↓] Go.wp_at_zero Go.wp_at_succ

/-- The cells of rows. -/
def rwV (rs : List (Nat × List UInt8)) : List Value := rs.flatMap fun x => [.string (rowB x), .int .i64 (x.1 : Int)]
/-- Rows in new memory. -/
def OwnR (w W : World) (A : Option Addr) (c : Nat) (rs : List (Nat × List UInt8)) : Prop :=
  W.ownsRow w.heap.size 52 2 (.slice A rs.length c) rs.length (rwV rs) ∧ Below w.heap.size w W
theorem row_info : (Tryz.prog.info? 52).map (fun i => (i.zero, i.size, i.bytes)) = some (some (.agg #[.string ⟨#[]⟩, .int .i64 0]), 2, 24) := by kernel_rfl
theorem built_row (b : ByteArray) (k : Int) : Tryz.prog.builtSlice 52 1 [(0, .agg #[.string b, .int .i64 k])] = some #[.string b, .int .i64 k] := by kernel_rfl
theorem ownR_app {w w1 w2 : World} {A : Option Addr} {c : Nat} {rs : List (Nat × List UInt8)} {x : Nat × List UInt8} {v : Value} (hb : Below w.heap.size w w1) (h : w1.ownsRow w.heap.size 52 2 (.slice A rs.length c) rs.length (rwV rs))
    (hown : w2.ownsRow w.heap.size 52 2 v (rs.length + 1) (rwV rs ++ [.string (rowB x), .int .i64 (x.1 : Int)])) (hg : w1.grownBy w2 (Value.slice A rs.length c).ownBlock) :
    ∃ A' c', v = .slice A' (rs ++ [x]).length c' ∧ OwnR w w2 A' c' (rs ++ [x]) := by
  have e : rwV rs ++ [.string (rowB x), .int .i64 (x.1 : Int)] = rwV (rs ++ [x]) := by simp [rwV]
  have e2 : rs.length + 1 = (rs ++ [x]).length := by simp
  rw [e, e2] at hown
  obtain ⟨A', c', rfl⟩ := own_slG hown
  exact ⟨A', c', rfl, hown, Below.own hb h hg (Nat.le_refl _) hb.size⟩
theorem reads_row (w : World) (b : ByteArray) (k : Int) : Reads (w.alloc (.cells #[.string b, .int .i64 k] 52)) (w.alloc (.cells #[.string b, .int .i64 k] 52)).heap.size 2 (some ⟨w.heap.size, 0, none⟩) 1 [.string b, .int .i64 k] :=
  Reads.of_own (World.ownsRow_lit (e := 52) (size := 2) (base := 0) w #[.string b, .int .i64 k] 1 (Nat.zero_le _) (by decide) rfl)
set_option maxRecDepth 100000 in
set_option maxHeartbeats 4000000 in
theorem c_rRows (s : ByteArray) (hs : s.size ≤ 10000000000) (w : World) : Calls Tryz.prog 14 #[.string s] w fun x w' => ∃ A c, x = .returned (.slice A (rowsS s.data.toList).length c) ∧ OwnR w w' A c (rowsS s.data.toList) := by
  obtain ⟨i0, hi0, hz0, hz1, hz2⟩ := info_parts row_info
  generalize hT : rowsS s.data.toList = R
  have HT := Lib.hid hT
  clear hT
  go_enter Tryz.func14, Tryz.ntmps14
  go_wp2_with fail
  go_loopw [3, 4, 5] (fun v3 v4 v5 wr => ∃ (fr at_ : Nat) (A : Option Addr) (c : Nat) (rs : List (Nat × List UInt8)), v3 = .slice A rs.length c ∧ v4 = .int .i64 (fr : Int) ∧ v5 = .int .i64 (at_ : Int) ∧ fr ≤ s.size + 1 ∧ at_ ≤ fr ∧ rs.length ≤ at_ ∧ Hid (R = rs ++ rowsA (at_ + 1) (s.data.toList.drop fr)) ∧ Hid (OwnR w wr A c rs)) (fun _ v4 _ _ => s.size + 1 - (intOf v4).toNat)
  case atStart => exact ⟨0, 0, none, 0, [], rfl, rfl, rfl, Nat.zero_le _, Nat.zero_le _, Nat.zero_le _, Lib.hid HT.out.symm, Lib.hid ⟨World.ownsRow_nil _ _ _ _, Below.refl _ _⟩⟩
  case round =>
    obtain ⟨fr, at_, A, c, rs, rfl, rfl, rfl, hfr, hat, hrs, HR, HO⟩ := hrel
    by_cases hlt : fr < s.size
    · have hne : s.data.toList.drop fr ≠ [] := by
        intro h
        have := congrArg List.length h
        rw [drop_len] at this
        simp at this
        omega
      have hR2 := HR.out.trans (congrArg (rs ++ ·) (rowsA_cons (at_ + 1) hne))
      have hk : lnk (s.data.toList.drop fr) ≤ s.size - fr := by have := cnt_le nlP (s.data.toList.drop fr); rw [drop_len] at this; exact this
      have HS : Hid (∀ m, fr + m < s.size → m ≤ lnk (s.data.toList.drop fr) → ∀ h : fr + m < s.size, (s[fr + m] = 10 ↔ m = lnk (s.data.toList.drop fr))) := fun m hm hmk h => by
        have hc := cnt_step (p := nlP) hmk (drop_get s fr m hm)
        have h2 : nlP s[fr + m] = !(decide (s[fr + m] = 10)) := by unfold nlP; by_cases h : s[fr + m] = 10 <;> simp [h]
        constructor
        · intro h3
          rw [decide_eq_true h3] at h2
          exact (hc.2 h2).symm
        · intro h3
          by_cases h4 : s[fr + m] = 10
          · exact h4
          · rw [decide_eq_false h4] at h2
            have := hc.1 h2
            have h5 : lnk (s.data.toList.drop fr) = cnt nlP (s.data.toList.drop fr) := rfl
            omega
      have hlf : lnF (s.data.toList.drop fr) = if lnk (s.data.toList.drop fr) < s.size - fr then noCr ((s.data.toList.drop fr).take (lnk (s.data.toList.drop fr))) else (s.data.toList.drop fr) := by unfold lnF; rw [drop_len]
      rw [List.drop_drop] at hR2
      generalize lnF (s.data.toList.drop fr) = lf at *
      generalize lnk (s.data.toList.drop fr) = k at *
      have HLF := Lib.hid hlf
      have HR2 := Lib.hid hR2
      clear hlf hR2 HR hne HT
      go_wp2_with fail
      go_loop [6] (fun v => ∃ m : Nat, v = .int .i64 ((fr + m : Nat) : Int) ∧ fr + m ≤ s.size ∧ Hid (m ≤ k)) (fun v => s.size - (intOf v).toNat)
      case atStart => exact ⟨0, by simp, by omega, Nat.zero_le _⟩
      case round =>
        obtain ⟨m, rfl, hm, HM⟩ := hrel
        by_cases hmk : m < k
        · have h1 : fr + m < s.size := by omega
          have hn10 : ¬ s[fr + m] = 10 := fun h => by have := (HS.out m h1 HM.out h1).1 h; omega
          have b10 := u8_beq s[fr + m] 10 10 rfl
          rw [decide_eq_false hn10] at b10
          clear hn10
          go_wp2_with fail
          go_round
          case rel => exact ⟨m + 1, by go_num, by omega, by show _ ≤ _; omega⟩
          case measure => simp [intOf]; omega
        · obtain rfl : m = k := by have := HM.out; omega
          by_cases h1 : fr + m < s.size
          · have h10 : s[fr + m] = 10 := (HS.out m h1 HM.out h1).2 rfl
            have b10 := u8_beq s[fr + m] 10 10 rfl
            rw [decide_eq_true h10] at b10
            clear h10
            go_upto_region 8 with fail
            have hl := ext_list s fr m
            have hLs : (s.extract fr (fr + m)).size ≤ s.size := by rw [ByteArray.size_extract]; omega
            generalize hL : s.extract fr (fr + m) = L at *
            have hLF2 := HLF.out
            rw [if_pos (by omega), ← hl] at hLF2
            clear hL hl b10
            by_cases hz : L.size = 0
            · have HL2 : Hid (L.data.toList = lf) := by
                show _ = _
                rw [hLF2, show L.data.toList = [] from List.eq_nil_of_length_eq_zero hz]
                rfl
              clear hLF2
              go_upto_region 11 with fail
              clear hz
              generalize L = L2 at *
              by_cases hz : L2.size = 0
              · have e0 : lf = [] := by rw [← HL2.out]; exact List.eq_nil_of_length_eq_zero hz
                obtain rfl : L2 = ⟨#[]⟩ := by
                  have : L2.data.toList = [] := by rw [HL2.out]; exact e0
                  obtain ⟨⟨l⟩⟩ := L2
                  simp only at this
                  subst this
                  rfl
                have HR3 : Hid (R = rs ++ rowsA (at_ + 1 + 1) (List.drop (fr + (m + 1)) s.data.toList)) := by show _ = _; rw [HR2.out, e0]; rfl
                clear HR2 HL2 hz e0 HLF
                go_wp2_with fail
                go_roundw
                case rel => exact ⟨fr + m + 1, at_ + 1, A, c, rs, rfl, by go_num, by go_num, by omega, by omega, by omega, Lib.hid (by rw [HR3.out]; rfl), HO⟩
                case measure => simp [intOf]; omega
              · have hz' : 0 < L2.size := by omega
                obtain ⟨q, hq⟩ : ∃ q, lf = L2[0] :: q := by
                  have h : L2.data.toList[0]? = some L2[0] := by
                    have := drop_get L2 0 0 (by omega)
                    simpa using this
                  rw [HL2.out] at h
                  cases hlf : lf with
                  | nil => rw [hlf] at h; cases h
                  | cons a q => rw [hlf] at h; exact ⟨q, by cases h; rfl⟩
                have hne2 : ¬ L2.toList = [] := fun h => by
                  have h2 : L2.data.toList = [] := (toList_data L2).symm.trans h
                  rw [HL2.out, hq] at h2
                  cases h2
                have hne : L2.toList.isEmpty = false := by
                  rw [Bool.eq_false_iff]
                  intro h
                  exact hne2 (List.isEmpty_iff.1 h)
                have b35 := u8_beq L2[0] 35 35 rfl
                by_cases h35 : L2[0] = 35
                · have HR3 : Hid (R = rs ++ rowsA (at_ + 1 + 1) (List.drop (fr + (m + 1)) s.data.toList)) := by show _ = _; rw [HR2.out, hq, h35]; rfl
                  rw [decide_eq_true h35] at b35
                  clear HR2 HL2 hz HLF hq h35
                  go_wp2_with fail
                  go_roundw
                  case rel => exact ⟨fr + m + 1, at_ + 1, A, c, rs, rfl, by go_num, by go_num, by omega, by omega, by omega, Lib.hid (by rw [HR3.out]; rfl), HO⟩
                  case measure => simp [intOf]; omega
                · have hok : okR lf = true := by rw [hq]; unfold okR; simpa using h35
                  have HR3 : Hid (R = (rs ++ [(at_ + 1, lf)]) ++ rowsA (at_ + 1 + 1) (List.drop (fr + (m + 1)) s.data.toList)) := by show _ = _; rw [HR2.out, if_pos hok, List.append_assoc]
                  rw [decide_eq_false h35] at b35
                  have HRW : Hid (L2 = rowB (at_ + 1, lf)) := by
                    show L2 = ⟨lf.toArray⟩
                    rw [← HL2.out]
                  clear HR2 HL2 hz HLF hq h35 hok
                  have HOA : Hid ((wr.alloc (.cells #[.string L2, .int .i64 ((at_ : Int) + 1)] 52)).ownsRow w.heap.size 52 2 (.slice A rs.length c) rs.length (rwV rs)) := HO.out.1.alloc _
                  have HBA : Hid (Below w.heap.size w (wr.alloc (.cells #[.string L2, .int .i64 ((at_ : Int) + 1)] 52))) := HO.out.2.alloc HO.out.2.size _
                  have HRA := Lib.hid (reads_row wr L2 ((at_ : Int) + 1))
                  go_wp2_with (first | (refine wpList_buildSliceTo rfl 47 52 1 _ rfl wr.heap.size rfl (some 64) rfl Tryz.underlying47 #[.string L2, .int .i64 ((at_ : Int) + 1)] (by exact built_row _ _) ?_) | (at_builtin; refine wpList_append_any _ rfl (.tmp 60) (.tmp 64) 47 rfl w.heap.size 52 i0 _ 2 24 Tryz.underlying47 hi0 hz0 hz1 hz2 rfl (by omega) (.slice A rs.length c) rs.length (rwV rs) rfl HOA.out _ (some ⟨wr.heap.size, 0, none⟩) 1 1 [.string L2, .int .i64 ((at_ : Int) + 1)] rfl HRA.out (by simp [Value.oneCell']) (by simp only [maxLen]; omega) (by omega) HBA.out.size ?_; intro v2 w2 hown2 hg2 _; rw [HRW.out, show ((at_ : Int) + 1) = ((at_ + 1 : Nat) : Int) by omega] at hown2; obtain ⟨A', c', rfl, ho2⟩ := ownR_app (x := (at_ + 1, lf)) HBA.out HOA.out hown2 hg2; have HO2 := Lib.hid ho2; clear ho2 hown2 hg2))
                  go_wp2_with fail
                  go_roundw
                  case rel => exact ⟨fr + m + 1, at_ + 1, A', c', rs ++ [(at_ + 1, lf)], by simp, by go_num, by go_num, by omega, by omega, by simp; omega, Lib.hid (by rw [HR3.out]; rfl), HO2⟩
                  case measure => simp [intOf]; omega
            · have hz1' : 0 < L.size := by omega
              have hlast : L.data.toList.getLast? = some L[L.size - 1] := by
                rw [List.getLast?_eq_getElem?]
                have := drop_get L 0 (L.size - 1) (by omega)
                simpa using this
              have hw : wrap64 ((L.size : Int) - 1) = ((L.size - 1 : Nat) : Int) := by
                unfold wrap64; omega
              have b13 := u8_beq L[L.size - 1] 13 13 rfl
              by_cases h13 : L[L.size - 1] = 13
              · rw [decide_eq_true h13] at b13
                rw [h13] at hlast
                have HLX : Hid ((L.extract 0 (L.size - 1)).data.toList = lf) := by
                  show _ = _
                  rw [hLF2, noCr, if_pos hlast]
                  have := ext_list L 0 (L.size - 1)
                  rw [Nat.zero_add] at this
                  rw [this, List.drop_zero, List.dropLast_eq_take]
                  rfl
                clear hLF2 hlast h13 hz
                go_upto_region 10 with fail
                generalize hL2 : L.extract 0 (L.size - 1) = L2 at *
                have HL2 := HLX
                clear HLX b13 hL2 hw
                go_upto_region 11 with fail
                by_cases hz : L2.size = 0
                · have e0 : lf = [] := by rw [← HL2.out]; exact List.eq_nil_of_length_eq_zero hz
                  obtain rfl : L2 = ⟨#[]⟩ := by
                    have : L2.data.toList = [] := by rw [HL2.out]; exact e0
                    obtain ⟨⟨l⟩⟩ := L2
                    simp only at this
                    subst this
                    rfl
                  have HR3 : Hid (R = rs ++ rowsA (at_ + 1 + 1) (List.drop (fr + (m + 1)) s.data.toList)) := by show _ = _; rw [HR2.out, e0]; rfl
                  clear HR2 HL2 hz e0 HLF
                  go_wp2_with fail
                  go_roundw
                  case rel => exact ⟨fr + m + 1, at_ + 1, A, c, rs, rfl, by go_num, by go_num, by omega, by omega, by omega, Lib.hid (by rw [HR3.out]; rfl), HO⟩
                  case measure => simp [intOf]; omega
                · have hz' : 0 < L2.size := by omega
                  obtain ⟨q, hq⟩ : ∃ q, lf = L2[0] :: q := by
                    have h : L2.data.toList[0]? = some L2[0] := by
                      have := drop_get L2 0 0 (by omega)
                      simpa using this
                    rw [HL2.out] at h
                    cases hlf : lf with
                    | nil => rw [hlf] at h; cases h
                    | cons a q => rw [hlf] at h; exact ⟨q, by cases h; rfl⟩
                  have hne2 : ¬ L2.toList = [] := fun h => by
                    have h2 : L2.data.toList = [] := (toList_data L2).symm.trans h
                    rw [HL2.out, hq] at h2
                    cases h2
                  have hne : L2.toList.isEmpty = false := by
                    rw [Bool.eq_false_iff]
                    intro h
                    exact hne2 (List.isEmpty_iff.1 h)
                  have b35 := u8_beq L2[0] 35 35 rfl
                  by_cases h35 : L2[0] = 35
                  · have HR3 : Hid (R = rs ++ rowsA (at_ + 1 + 1) (List.drop (fr + (m + 1)) s.data.toList)) := by show _ = _; rw [HR2.out, hq, h35]; rfl
                    rw [decide_eq_true h35] at b35
                    clear HR2 HL2 hz HLF hq h35
                    go_wp2_with fail
                    go_roundw
                    case rel => exact ⟨fr + m + 1, at_ + 1, A, c, rs, rfl, by go_num, by go_num, by omega, by omega, by omega, Lib.hid (by rw [HR3.out]; rfl), HO⟩
                    case measure => simp [intOf]; omega
                  · have hok : okR lf = true := by rw [hq]; unfold okR; simpa using h35
                    have HR3 : Hid (R = (rs ++ [(at_ + 1, lf)]) ++ rowsA (at_ + 1 + 1) (List.drop (fr + (m + 1)) s.data.toList)) := by show _ = _; rw [HR2.out, if_pos hok, List.append_assoc]
                    rw [decide_eq_false h35] at b35
                    have HRW : Hid (L2 = rowB (at_ + 1, lf)) := by
                      show L2 = ⟨lf.toArray⟩
                      rw [← HL2.out]
                    clear HR2 HL2 hz HLF hq h35 hok
                    have HOA : Hid ((wr.alloc (.cells #[.string L2, .int .i64 ((at_ : Int) + 1)] 52)).ownsRow w.heap.size 52 2 (.slice A rs.length c) rs.length (rwV rs)) := HO.out.1.alloc _
                    have HBA : Hid (Below w.heap.size w (wr.alloc (.cells #[.string L2, .int .i64 ((at_ : Int) + 1)] 52))) := HO.out.2.alloc HO.out.2.size _
                    have HRA := Lib.hid (reads_row wr L2 ((at_ : Int) + 1))
                    go_wp2_with (first | (refine wpList_buildSliceTo rfl 47 52 1 _ rfl wr.heap.size rfl (some 64) rfl Tryz.underlying47 #[.string L2, .int .i64 ((at_ : Int) + 1)] (by exact built_row _ _) ?_) | (at_builtin; refine wpList_append_any _ rfl (.tmp 60) (.tmp 64) 47 rfl w.heap.size 52 i0 _ 2 24 Tryz.underlying47 hi0 hz0 hz1 hz2 rfl (by omega) (.slice A rs.length c) rs.length (rwV rs) rfl HOA.out _ (some ⟨wr.heap.size, 0, none⟩) 1 1 [.string L2, .int .i64 ((at_ : Int) + 1)] rfl HRA.out (by simp [Value.oneCell']) (by simp only [maxLen]; omega) (by omega) HBA.out.size ?_; intro v2 w2 hown2 hg2 _; rw [HRW.out, show ((at_ : Int) + 1) = ((at_ + 1 : Nat) : Int) by omega] at hown2; obtain ⟨A', c', rfl, ho2⟩ := ownR_app (x := (at_ + 1, lf)) HBA.out HOA.out hown2 hg2; have HO2 := Lib.hid ho2; clear ho2 hown2 hg2))
                    go_wp2_with fail
                    go_roundw
                    case rel => exact ⟨fr + m + 1, at_ + 1, A', c', rs ++ [(at_ + 1, lf)], by simp, by go_num, by go_num, by omega, by omega, by simp; omega, Lib.hid (by rw [HR3.out]; rfl), HO2⟩
                    case measure => simp [intOf]; omega
              · rw [decide_eq_false h13] at b13
                have HL2 : Hid (L.data.toList = lf) := by
                  show _ = _
                  rw [hLF2, noCr, if_neg (by rw [hlast]; intro h; exact h13 (Option.some.inj h))]
                clear hLF2 hlast h13 hz
                go_upto_region 11 with fail
                clear b13 hz1' hw
                generalize L = L2 at *
                by_cases hz : L2.size = 0
                · have e0 : lf = [] := by rw [← HL2.out]; exact List.eq_nil_of_length_eq_zero hz
                  obtain rfl : L2 = ⟨#[]⟩ := by
                    have : L2.data.toList = [] := by rw [HL2.out]; exact e0
                    obtain ⟨⟨l⟩⟩ := L2
                    simp only at this
                    subst this
                    rfl
                  have HR3 : Hid (R = rs ++ rowsA (at_ + 1 + 1) (List.drop (fr + (m + 1)) s.data.toList)) := by show _ = _; rw [HR2.out, e0]; rfl
                  clear HR2 HL2 hz e0 HLF
                  go_wp2_with fail
                  go_roundw
                  case rel => exact ⟨fr + m + 1, at_ + 1, A, c, rs, rfl, by go_num, by go_num, by omega, by omega, by omega, Lib.hid (by rw [HR3.out]; rfl), HO⟩
                  case measure => simp [intOf]; omega
                · have hz' : 0 < L2.size := by omega
                  obtain ⟨q, hq⟩ : ∃ q, lf = L2[0] :: q := by
                    have h : L2.data.toList[0]? = some L2[0] := by
                      have := drop_get L2 0 0 (by omega)
                      simpa using this
                    rw [HL2.out] at h
                    cases hlf : lf with
                    | nil => rw [hlf] at h; cases h
                    | cons a q => rw [hlf] at h; exact ⟨q, by cases h; rfl⟩
                  have hne2 : ¬ L2.toList = [] := fun h => by
                    have h2 : L2.data.toList = [] := (toList_data L2).symm.trans h
                    rw [HL2.out, hq] at h2
                    cases h2
                  have hne : L2.toList.isEmpty = false := by
                    rw [Bool.eq_false_iff]
                    intro h
                    exact hne2 (List.isEmpty_iff.1 h)
                  have b35 := u8_beq L2[0] 35 35 rfl
                  by_cases h35 : L2[0] = 35
                  · have HR3 : Hid (R = rs ++ rowsA (at_ + 1 + 1) (List.drop (fr + (m + 1)) s.data.toList)) := by show _ = _; rw [HR2.out, hq, h35]; rfl
                    rw [decide_eq_true h35] at b35
                    clear HR2 HL2 hz HLF hq h35
                    go_wp2_with fail
                    go_roundw
                    case rel => exact ⟨fr + m + 1, at_ + 1, A, c, rs, rfl, by go_num, by go_num, by omega, by omega, by omega, Lib.hid (by rw [HR3.out]; rfl), HO⟩
                    case measure => simp [intOf]; omega
                  · have hok : okR lf = true := by rw [hq]; unfold okR; simpa using h35
                    have HR3 : Hid (R = (rs ++ [(at_ + 1, lf)]) ++ rowsA (at_ + 1 + 1) (List.drop (fr + (m + 1)) s.data.toList)) := by show _ = _; rw [HR2.out, if_pos hok, List.append_assoc]
                    rw [decide_eq_false h35] at b35
                    have HRW : Hid (L2 = rowB (at_ + 1, lf)) := by
                      show L2 = ⟨lf.toArray⟩
                      rw [← HL2.out]
                    clear HR2 HL2 hz HLF hq h35 hok
                    have HOA : Hid ((wr.alloc (.cells #[.string L2, .int .i64 ((at_ : Int) + 1)] 52)).ownsRow w.heap.size 52 2 (.slice A rs.length c) rs.length (rwV rs)) := HO.out.1.alloc _
                    have HBA : Hid (Below w.heap.size w (wr.alloc (.cells #[.string L2, .int .i64 ((at_ : Int) + 1)] 52))) := HO.out.2.alloc HO.out.2.size _
                    have HRA := Lib.hid (reads_row wr L2 ((at_ : Int) + 1))
                    go_wp2_with (first | (refine wpList_buildSliceTo rfl 47 52 1 _ rfl wr.heap.size rfl (some 64) rfl Tryz.underlying47 #[.string L2, .int .i64 ((at_ : Int) + 1)] (by exact built_row _ _) ?_) | (at_builtin; refine wpList_append_any _ rfl (.tmp 60) (.tmp 64) 47 rfl w.heap.size 52 i0 _ 2 24 Tryz.underlying47 hi0 hz0 hz1 hz2 rfl (by omega) (.slice A rs.length c) rs.length (rwV rs) rfl HOA.out _ (some ⟨wr.heap.size, 0, none⟩) 1 1 [.string L2, .int .i64 ((at_ : Int) + 1)] rfl HRA.out (by simp [Value.oneCell']) (by simp only [maxLen]; omega) (by omega) HBA.out.size ?_; intro v2 w2 hown2 hg2 _; rw [HRW.out, show ((at_ : Int) + 1) = ((at_ + 1 : Nat) : Int) by omega] at hown2; obtain ⟨A', c', rfl, ho2⟩ := ownR_app (x := (at_ + 1, lf)) HBA.out HOA.out hown2 hg2; have HO2 := Lib.hid ho2; clear ho2 hown2 hg2))
                    go_wp2_with fail
                    go_roundw
                    case rel => exact ⟨fr + m + 1, at_ + 1, A', c', rs ++ [(at_ + 1, lf)], by simp, by go_num, by go_num, by omega, by omega, by simp; omega, Lib.hid (by rw [HR3.out]; rfl), HO2⟩
                    case measure => simp [intOf]; omega
          · have hl := ext_list s fr m
            go_upto_region 8 with fail
            generalize hL : s.extract fr (fr + m) = L at *
            have HL2 : Hid (L.data.toList = lf) := by
              show _ = _
              have hLF2 := HLF.out
              rw [if_neg (by omega)] at hLF2
              rw [hLF2, hl]
              exact List.take_of_length_le (by rw [drop_len]; omega)
            clear hL hl
            go_upto_region 11 with fail
            generalize L = L2 at *
            by_cases hz : L2.size = 0
            · have e0 : lf = [] := by rw [← HL2.out]; exact List.eq_nil_of_length_eq_zero hz
              obtain rfl : L2 = ⟨#[]⟩ := by
                have : L2.data.toList = [] := by rw [HL2.out]; exact e0
                obtain ⟨⟨l⟩⟩ := L2
                simp only at this
                subst this
                rfl
              have HR3 : Hid (R = rs ++ rowsA (at_ + 1 + 1) (List.drop (fr + (m + 1)) s.data.toList)) := by show _ = _; rw [HR2.out, e0]; rfl
              clear HR2 HL2 hz e0 HLF
              go_wp2_with fail
              go_roundw
              case rel => exact ⟨fr + m + 1, at_ + 1, A, c, rs, rfl, by go_num, by go_num, by omega, by omega, by omega, Lib.hid (by rw [HR3.out]; rfl), HO⟩
              case measure => simp [intOf]; omega
            · have hz' : 0 < L2.size := by omega
              obtain ⟨q, hq⟩ : ∃ q, lf = L2[0] :: q := by
                have h : L2.data.toList[0]? = some L2[0] := by
                  have := drop_get L2 0 0 (by omega)
                  simpa using this
                rw [HL2.out] at h
                cases hlf : lf with
                | nil => rw [hlf] at h; cases h
                | cons a q => rw [hlf] at h; exact ⟨q, by cases h; rfl⟩
              have hne2 : ¬ L2.toList = [] := fun h => by
                have h2 : L2.data.toList = [] := (toList_data L2).symm.trans h
                rw [HL2.out, hq] at h2
                cases h2
              have hne : L2.toList.isEmpty = false := by
                rw [Bool.eq_false_iff]
                intro h
                exact hne2 (List.isEmpty_iff.1 h)
              have b35 := u8_beq L2[0] 35 35 rfl
              by_cases h35 : L2[0] = 35
              · have HR3 : Hid (R = rs ++ rowsA (at_ + 1 + 1) (List.drop (fr + (m + 1)) s.data.toList)) := by show _ = _; rw [HR2.out, hq, h35]; rfl
                rw [decide_eq_true h35] at b35
                clear HR2 HL2 hz HLF hq h35
                go_wp2_with fail
                go_roundw
                case rel => exact ⟨fr + m + 1, at_ + 1, A, c, rs, rfl, by go_num, by go_num, by omega, by omega, by omega, Lib.hid (by rw [HR3.out]; rfl), HO⟩
                case measure => simp [intOf]; omega
              · have hok : okR lf = true := by rw [hq]; unfold okR; simpa using h35
                have HR3 : Hid (R = (rs ++ [(at_ + 1, lf)]) ++ rowsA (at_ + 1 + 1) (List.drop (fr + (m + 1)) s.data.toList)) := by show _ = _; rw [HR2.out, if_pos hok, List.append_assoc]
                rw [decide_eq_false h35] at b35
                have HRW : Hid (L2 = rowB (at_ + 1, lf)) := by
                  show L2 = ⟨lf.toArray⟩
                  rw [← HL2.out]
                clear HR2 HL2 hz HLF hq h35 hok
                have HOA : Hid ((wr.alloc (.cells #[.string L2, .int .i64 ((at_ : Int) + 1)] 52)).ownsRow w.heap.size 52 2 (.slice A rs.length c) rs.length (rwV rs)) := HO.out.1.alloc _
                have HBA : Hid (Below w.heap.size w (wr.alloc (.cells #[.string L2, .int .i64 ((at_ : Int) + 1)] 52))) := HO.out.2.alloc HO.out.2.size _
                have HRA := Lib.hid (reads_row wr L2 ((at_ : Int) + 1))
                go_wp2_with (first | (refine wpList_buildSliceTo rfl 47 52 1 _ rfl wr.heap.size rfl (some 64) rfl Tryz.underlying47 #[.string L2, .int .i64 ((at_ : Int) + 1)] (by exact built_row _ _) ?_) | (at_builtin; refine wpList_append_any _ rfl (.tmp 60) (.tmp 64) 47 rfl w.heap.size 52 i0 _ 2 24 Tryz.underlying47 hi0 hz0 hz1 hz2 rfl (by omega) (.slice A rs.length c) rs.length (rwV rs) rfl HOA.out _ (some ⟨wr.heap.size, 0, none⟩) 1 1 [.string L2, .int .i64 ((at_ : Int) + 1)] rfl HRA.out (by simp [Value.oneCell']) (by simp only [maxLen]; omega) (by omega) HBA.out.size ?_; intro v2 w2 hown2 hg2 _; rw [HRW.out, show ((at_ : Int) + 1) = ((at_ + 1 : Nat) : Int) by omega] at hown2; obtain ⟨A', c', rfl, ho2⟩ := ownR_app (x := (at_ + 1, lf)) HBA.out HOA.out hown2 hg2; have HO2 := Lib.hid ho2; clear ho2 hown2 hg2))
                go_wp2_with fail
                go_roundw
                case rel => exact ⟨fr + m + 1, at_ + 1, A', c', rs ++ [(at_ + 1, lf)], by simp, by go_num, by go_num, by omega, by omega, by simp; omega, Lib.hid (by rw [HR3.out]; rfl), HO2⟩
                case measure => simp [intOf]; omega
    · -- END
      have HR2 : Hid (R = rs) := by
        show _ = _
        rw [HR.out, List.drop_eq_nil_of_le (by show s.size ≤ fr; omega), rowsA_nil, List.append_nil]
      clear HR HT
      go_wp2_with fail
      go_ret
      exact ⟨A, c, by rw [HR2.out]; rfl, by rw [HR2.out]; exact HO.out⟩
end Go.Proofs.YtmnkdkibhchglaaGreatDoor
namespace Go.Proofs.YtmnkdkibhchglaaGreatDoor
open Go.RowKit
set_option linter.unusedVariables false
attribute [local go_sem ↓] Go.wp_at_zero Go.wp_at_succ

/-- Both rows of a list under way. -/
structure RL (w1 W : World) (A B : Value) (E : List EnL) (ns : List Nat) : Prop where
  ls : LsI w1.heap.size W A B E ns
  hb : Below w1.heap.size w1 W
section
variable {w1 W W' : World} {A B A' B' : Value} {E : List EnL} {ns : List Nat} {x : EnL}
theorem RL.below (h : RL w1 W A B E ns) (hb : Below W.heap.size W W') : RL w1 W' A B E ns :=
  ⟨h.ls.kept (fun k => own_below k hb), below_step h.hb hb⟩
theorem RL.alloc (h : RL w1 W A B E ns) (o : Obj) : RL w1 (W.alloc o) A B E ns := h.below ((Below.refl _ _).alloc (Nat.le_refl _) _)
theorem RL.appA (h : RL w1 W A B E ns) (ho : W.ownsRow w1.heap.size 5 1 (.slice x.D x.e.dg.length x.c) x.e.dg.length (bys x.e.dg))
    (hown : W'.ownsRow w1.heap.size 33 4 A' (E.length + 1) (E.flatMap (fun x => (enC x).toList) ++ (enC x).toList)) (hg : W.grownBy W' A.ownBlock) : RL w1 W' A' B (E ++ [x]) ns := by
  have hra := h.ls.rowA
  refine ⟨⟨?_, h.ls.rowB.kept hg (own_apart h.ls.rowB hra (by decide)), ?_⟩, Below.own h.hb hra hg (Nat.le_refl _) h.hb.size⟩
  · rw [List.length_append, List.flatMap_append]
    simpa using hown
  · intro y hy
    rcases List.mem_append.1 hy with hy | hy
    · exact (h.ls.dgs y hy).kept hg (own_apart (h.ls.dgs y hy) hra (by decide))
    · rw [List.mem_singleton.1 hy]
      exact ho.kept hg (own_apart ho hra (by decide))
theorem RL.appB (h : RL w1 W A B E ns) {k : Nat} (hown : W'.ownsRow w1.heap.size 3 1 B' (ns.length + 1) (ns.map (fun (k : Nat) => Value.int .i64 (k : Int)) ++ [.int .i64 (k : Int)])) (hg : W.grownBy W' B.ownBlock) : RL w1 W' A B' E (ns ++ [k]) := by
  have hrb := h.ls.rowB
  exact ⟨⟨h.ls.rowA.kept hg (own_apart h.ls.rowA hrb (by decide)), by rw [List.length_append, List.map_append]; simpa using hown, fun y hy => (h.ls.dgs y hy).kept hg (own_apart (h.ls.dgs y hy) hrb (by decide))⟩, Below.own h.hb hrb hg (Nat.le_refl _) h.hb.size⟩
end
theorem rwV_get : ∀ (rs : List (Nat × List UInt8)) (i : Nat) (x : Nat × List UInt8), rs[i]? = some x → (rwV rs)[i * 2]? = some (.string (rowB x)) ∧ (rwV rs)[i * 2 + 1]? = some (.int .i64 (x.1 : Int))
  | [], i, x, h => by simp at h
  | y :: l, 0, x, h => by
    have : y = x := by simpa using h
    subst this
    simp [rwV]
  | y :: l, i + 1, x, h => by
    have ih := rwV_get l i x (by simpa using h)
    have e : rwV (y :: l) = .string (rowB y) :: .int .i64 (y.1 : Int) :: rwV l := rfl
    rw [e, show (i + 1) * 2 = i * 2 + 1 + 1 by omega, show i * 2 + 1 + 1 + 1 = (i * 2 + 1) + 1 + 1 by omega]
    simpa using ih
/-- A row of a text in memory. -/
theorem rw_get {V : World} {base c i : Nat} {A : Option Addr} {rs : List (Nat × List UInt8)} (h : V.ownsRow base 52 2 (.slice A rs.length c) rs.length (rwV rs)) {x : Nat × List UInt8} (hx : rs[i]? = some x) :
    ∃ g, A = some ⟨g, 0, none⟩ ∧ g < V.heap.size ∧ V.cell? ⟨g, i * 2, none⟩ = some (.string (rowB x)) ∧ V.cell? ⟨g, i * 2 + 1, none⟩ = some (.int .i64 (x.1 : Int)) := by
  have hl : i < rs.length := (List.getElem?_eq_some_iff.1 hx).1
  obtain ⟨h0, h1⟩ := rwV_get rs i x hx
  have hr := (Reads.of_own h).2 (by omega)
  obtain ⟨ad, hA, hb, hc⟩ := hr
  have hA2 : ∃ g, A = some ⟨g, 0, none⟩ := by
    rcases h.2 with ⟨h2, _⟩ | ⟨g, cap, cur, h2, _⟩
    · injection h2 with h3 _ _
      rw [hA] at h3; cases h3
    · injection h2 with h3 _ _
      exact ⟨g, h3⟩
  obtain ⟨g, rfl⟩ := hA2
  cases hA
  refine ⟨g, rfl, hb, ?_, ?_⟩
  · have := hc _ _ h0
    have ea : (⟨g, 0, none⟩ : Addr).add (i * 2) = ⟨g, i * 2, none⟩ := by
      rcases Nat.eq_zero_or_pos i with rfl | hi
      · rfl
      · unfold Addr.add; rw [if_neg (by omega)]; simp
    rwa [ea] at this
  · have := hc _ _ h1
    simpa [Addr.add] using this
theorem entL_1 (p : Int) (R : List (Nat × List UInt8)) : (entL p R).map (·.1) = R.map (fun x => (rdA (rowB x) p).1) := by
  unfold entL; rw [List.map_map]; rfl
theorem entL_2 (p : Int) (R : List (Nat × List UInt8)) : (entL p R).map (·.2) = R.map (·.1) := by
  unfold entL; rw [List.map_map]; rfl
set_option maxRecDepth 100000 in
set_option maxHeartbeats 8000000 in
theorem c_rList (T : ByteArray) (p : Int) (w : World) (hT : T.size ≤ 10000000000) :
    Calls Tryz.prog 6 #[.string T, .int .i64 p] w (OutL w (lsA T.data.toList p).1 (lsA T.data.toList p).2.1 (lsA T.data.toList p).2.2) := by
  obtain ⟨iS, hiS, hzS, hsS, hbS⟩ := info_parts sum_info
  obtain ⟨iI, hiI, hzI, hsI, hbI⟩ := info_parts int_info
  have HM := Lib.hid (fun W => c_rMost p W)
  have HRW := Lib.hid (fun W => c_rRows T hT W)
  have HLA : Hid (lsA T.data.toList p = if smost p = 0 then ([], [], (1 : Int)) else match listF p (rowsS T.data.toList) with
    | .inl n => ([], [n], (260 : Int))
    | .inr es => if 65536 < es.length then ([], [], (2 : Int)) else (es.map (·.1), es.map (·.2), (0 : Int))) := rfl
  have hRl : (rowsS T.data.toList).length ≤ 10000000000 := Nat.le_trans (rowsS_len _) hT
  have HRG : Hid (∀ (i : Nat) (x : Nat × List UInt8), (rowsS T.data.toList)[i]? = some x → x.1 ≤ 10000000000 ∧ x.2.length ≤ 10000000000) := fun i x h => by
    have := rowsS_get h
    have h2 : T.data.toList.length = T.size := rfl
    omega
  generalize lsA T.data.toList p = LA at *
  generalize rowsS T.data.toList = R at *
  generalize smost p = mo at *
  go_enter Tryz.func6, Tryz.ntmps6
  go_wp2_with fail
  refine (HM.out _).mono ?_
  rintro x w' ⟨rfl, rfl⟩
  by_cases hm : mo = 0
  · have HLX := Lib.hid (HLA.out.trans (if_pos hm))
    have hmb : ((mo : Int) == 0) = true := by simp [hm]
    clear HLA
    go_wp2_with fail
    go_ret3
    exact ⟨.slice none 0 0, .slice none 0 0, [], by rw [HLX.out]; rfl, by rw [HLX.out]; exact LsI.nil_ _ _, by rw [HLX.out]; rfl, Below.refl _ _⟩
  have HLX := Lib.hid (HLA.out.trans (if_neg hm))
  have hmb : ((mo : Int) == 0) = false := by simp [hm]
  clear HLA HM
  go_wp2_with fail
  refine (HRW.out _).mono ?_
  rintro x w1 ⟨AR, cR, rfl, HOR⟩
  have HOR := Lib.hid HOR
  have hz1 := HOR.out.2.size
  clear HRW
  have HRS : Hid (∀ (i : Nat) (x : Nat × List UInt8), R[i]? = some x → ∃ g, AR = some ⟨g, 0, none⟩ ∧ ∀ W, Below w1.heap.size w1 W → W.cell? ⟨g, i * 2, none⟩ = some (.string (rowB x)) ∧ W.cell? ⟨g, i * 2 + 1, none⟩ = some (.int .i64 (x.1 : Int))) := fun i x hx => by
    obtain ⟨g, hA, hg, h0, h1⟩ := rw_get HOR.out.1 hx
    exact ⟨g, hA, fun W hb => ⟨(hb.cell (by exact hg)).trans h0, (hb.cell (by exact hg)).trans h1⟩⟩
  have HBW := Lib.hid HOR.out.2
  clear HOR
  go_wp2_with fail
  go_loopw [7, 8, 10] (fun va vb vi wr => ∃ (i : Nat) (E : List EnL), vi = .int .i64 i ∧ i ≤ R.length ∧ Hid (RL w1 wr va vb E ((R.take i).map (·.1))) ∧ Hid (E.map (·.e) = (R.take i).map (fun x => (rdA (rowB x) p).1)) ∧ Hid (okL p (R.take i))) (fun _ _ vi _ => R.length - (intOf vi).toNat)
  case atStart => exact ⟨0, [], rfl, Nat.zero_le _, Lib.hid ⟨by simpa using LsI.nil_ _ _, Below.refl _ _⟩, Lib.hid rfl, Lib.hid (by intro x hx; simp at hx)⟩
  case round =>
    obtain ⟨i, E, rfl, hi, HRL, HE, HOK⟩ := hrel
    by_cases hlt : i < R.length
    · obtain ⟨x, hx⟩ : ∃ x, R[i]? = some x := ⟨_, List.getElem?_eq_getElem (by omega)⟩
      obtain ⟨g, hA, HC⟩ := HRS.out i x hx
      have HC := Lib.hid HC
      obtain ⟨hx1, hx2⟩ := HRG.out i x hx
      have htk : R.take (i + 1) = R.take i ++ [x] := by rw [List.take_add_one, hx]; rfl
      have HEs : Hid (E.map (·.e) ++ [(rdA (rowB x) p).1] = (R.take (i + 1)).map (fun x => (rdA (rowB x) p).1)) := by show _ = _; rw [htk, List.map_append, HE.out]; rfl
      have HNs : Hid ((R.take i).map (·.1) ++ [x.1] = (R.take (i + 1)).map (·.1)) := by show _ = _; rw [htk, List.map_append]; rfl
      have HOk : Hid ((rdA (rowB x) p).2.2 = 0 → okL p (R.take (i + 1))) := fun h => by
        rw [htk]
        intro y hy
        rcases List.mem_append.1 hy with hy | hy
        · exact HOK.out y hy
        · rw [List.mem_singleton.1 hy]; exact h
      have HBad : Hid ((rdA (rowB x) p).2.2 ≠ 0 → LA = ([], [x.1], (260 : Int))) := fun h => by
        have e : R = R.take i ++ x :: R.drop (i + 1) := by
          conv => lhs; rw [← List.take_append_drop i R]
          rw [List.drop_eq_getElem_cons hlt]
          have : R[i] = x := by have := List.getElem?_eq_getElem hlt; rw [hx] at this; exact (Option.some.inj this).symm
          rw [this]
        have h2 := HLX.out
        rw [e, listF_bad HOK.out h] at h2
        exact h2
      have HRR := Lib.hid (fun W => c_rRead (rowB x) p W (by show x.2.length ≤ _; omega))
      have hEl : E.length = i := by
        have := congrArg List.length HE.out
        simp at this
        omega
      have hNl : ((R.take i).map (·.1)).length = i := by simp; omega
      clear HE HOK htk hx
      generalize rdA (rowB x) p = ra at *
      generalize rowB x = xb at *
      generalize x.1 = xn at *
      generalize (R.take i).map (·.1) = ns at *
      obtain ⟨e, ix, er⟩ := ra
      simp only at HEs HOk HBad HRR
      subst hA
      obtain ⟨d0, d1⟩ := HC.out wr HRL.out.hb
      clear hx2
      go_wp2_with fail
      refine (HRR.out _).mono ?_
      rintro y w2 ⟨D, c, rfl, ho, hb2⟩
      have HO2 : Hid (w2.ownsRow w1.heap.size 5 1 (.slice D e.dg.length c) e.dg.length (bys e.dg)) := own_base ho HRL.out.hb.size
      have HL2 : Hid (RL w1 w2 u7 u8 E ns) := HRL.out.below hb2
      clear HRL ho hb2 d0 d1 HRR
      have K3 := Lib.hid (Blk.new w2 33 (smC e D e.dg.length c))
      have HO3 := Lib.hid (HO2.out.alloc (.cells (smC e D e.dg.length c) 33))
      have HL3 := Lib.hid (HL2.out.alloc (.cells (smC e D e.dg.length c) 33))
      clear HO2 HL2
      by_cases her : er = 0
      · have hrb : (er == 0) = true := by simp [her]
        have hrb2 : (er != 0) = false := by simp [her]
        have HOk2 := Lib.hid (HOk.out her)
        subst her
        clear HOk HBad hrb hrb2
        go_upto_region 12 with fail
        have hz3 : w2.heap.size < (w2.alloc (.cells (smC e D e.dg.length c) 33)).heap.size := by simp
        generalize w2.alloc (.cells #[.int .i64 e.a, .string e.nm, .slice D e.dg.length c, .bool e.st] 33) = w3 at *
        have HO4 := Lib.hid (HO3.out.alloc (.cells (enC ⟨e, D, c⟩) 33))
        have HL4 := Lib.hid (HL3.out.alloc (.cells (enC ⟨e, D, c⟩) 33))
        have HRA := Lib.hid (blk_reads (Blk.new w3 33 (enC ⟨e, D, c⟩)) (xs := (enC ⟨e, D, c⟩).toList) (size := 4) rfl)
        go_upto_region 13 with (first
          | (refine wpList_load_row rfl 33 (.tmp 11) rfl w2.heap.size rfl 33 _ (0, 0) _ K3.out Tryz.underlying33 rfl (by kernel_rfl) ?_)
          | (refine wpList_buildSliceTo rfl 22 33 1 _ rfl w3.heap.size rfl (some 46) rfl Tryz.underlying22 (enC ⟨e, D, c⟩) (by exact built_sum ⟨e, D, c⟩) ?_)
          | (at_builtin; refine wpList_append_any _ rfl (.tmp 44) (.tmp 46) 22 rfl w1.heap.size 33 iS _ 4 56 Tryz.underlying22 hiS hzS hsS hbS rfl (by omega) _ _ _ rfl HL4.out.ls.rowA _ (some ⟨w3.heap.size, 0, none⟩) 1 1 (enC ⟨e, D, c⟩).toList rfl HRA.out (fun u hu => List.all_eq_true.1 (show (enC ⟨e, D, c⟩).toList.all (·.oneCell') = true from rfl) u hu) (by simp only [maxLen]; omega) (by omega) HL4.out.hb.size ?_; intro A5 w5 hown5 hg5 _; have HL5 := Lib.hid (HL4.out.appA HO4.out hown5 hg5); clear hown5 hg5))
        clear HL4 HO4 HRA HL3 HO3 K3
        obtain ⟨_, d1⟩ := HC.out w5 HL5.out.hb
        have HL6 := Lib.hid (HL5.out.alloc (.cells #[.int .i64 (xn : Int)] 3))
        have HRB := Lib.hid (blk_reads (Blk.new w5 3 #[.int .i64 (xn : Int)]) (xs := [.int .i64 (xn : Int)]) (size := 1) rfl)
        go_wp2_with (first
          | (refine wpList_buildSliceTo rfl 23 3 1 _ rfl w5.heap.size rfl (some 54) rfl Tryz.underlying23 #[.int .i64 (xn : Int)] (by exact built_int _) ?_)
          | (at_builtin; refine wpList_append_any _ rfl (.tmp 48) (.tmp 54) 23 rfl w1.heap.size 3 iI _ 1 8 Tryz.underlying23 hiI hzI hsI hbI rfl (by omega) _ _ _ rfl HL6.out.ls.rowB _ (some ⟨w5.heap.size, 0, none⟩) 1 1 [.int .i64 (xn : Int)] rfl HRB.out (by intro u hu; rw [List.mem_singleton.1 hu]; rfl) (by simp only [maxLen]; omega) (by omega) HL6.out.hb.size ?_; intro B7 w7 hown7 hg7 _; have HL7 := Lib.hid (HL6.out.appB hown7 hg7); clear hown7 hg7))
        go_roundw
        case rel => exact ⟨i + 1, E ++ [⟨e, D, c⟩], by go_num, by omega, Lib.hid (by rw [← HNs.out]; exact HL7.out), Lib.hid (by rw [List.map_append, ← HEs.out]; rfl), HOk2⟩
        case measure => simp [intOf]; omega
      · have hrb2 : (er != 0) = true := by simp [her]
        have HBad2 := Lib.hid (HBad.out her)
        clear HOk HBad her
        go_upto_region 11 with fail
        generalize w2.alloc (.cells #[.int .i64 e.a, .string e.nm, .slice D e.dg.length c, .bool e.st] 33) = w3 at *
        obtain ⟨_, d1⟩ := HC.out w3 HL3.out.hb
        clear HC
        go_region
        have HOX : Hid ((w3.alloc (.cells #[.int .i64 (xn : Int)] 3)).drew.ownsRow w.heap.size 3 1 (.slice (some ⟨w3.heap.size, 0, none⟩) 1 1) 1 [.int .i64 (xn : Int)]) :=
          own_below (World.ownsRow_lit (e := 3) (size := 1) (base := w.heap.size) w3 #[.int .i64 (xn : Int)] 1 (Nat.le_trans hz1 HL3.out.hb.size) (by decide) rfl) (Below.refl _ _).drew
        have HBX : Hid (Below w.heap.size w (w3.alloc (.cells #[.int .i64 (xn : Int)] 3)).drew) := (below_step HBW.out ((HL3.out.hb.alloc HL3.out.hb.size _))).drew
        clear HL3 HO3 K3 d1
        generalize (w3.alloc (.cells #[.int .i64 (xn : Int)] 3)).drew = w4 at *
        go_wp2_with fail
        go_ret3
        refine ⟨.slice none 0 0, .slice (some ⟨w3.heap.size, 0, none⟩) 1 1, [], by rw [HBad2.out]; rfl, ?_, by rw [HBad2.out]; rfl, HBX.out⟩
        rw [HBad2.out]
        exact ⟨World.ownsRow_nil _ _ _ _, HOX.out, fun _ h => by cases h⟩
    · obtain rfl : i = R.length := by omega
      rw [List.take_length] at HRL HE HOK
      have hLX := HLX.out
      rw [listF_ok HOK.out] at hLX
      have hEl : E.length = R.length := by
        have := congrArg List.length HE.out
        simpa using this
      have hel : (entL p R).length = R.length := by simp [entL]
      change LA = (if 65536 < (entL p R).length then ([], [], (2 : Int)) else ((entL p R).map (·.1), (entL p R).map (·.2), (0 : Int))) at hLX
      rw [hel] at hLX
      obtain ⟨a, ca, rfl⟩ := own_slG HRL.out.ls.rowA
      by_cases hbig : 65536 < R.length
      · rw [if_pos hbig] at hLX
        have HLX := Lib.hid hLX
        clear hLX hel
        go_wp2_with fail
        go_ret3
        exact ⟨.slice none 0 0, .slice none 0 0, [], by rw [HLX.out]; rfl, by rw [HLX.out]; exact LsI.nil_ _ _, by rw [HLX.out]; rfl, below_step HBW.out HRL.out.hb⟩
      · rw [if_neg hbig] at hLX
        have HLX := Lib.hid hLX
        clear hLX hel
        go_wp2_with fail
        go_ret3
        refine ⟨.slice a E.length ca, u8, E, by rw [HLX.out]; rfl, ?_, ?_, below_step HBW.out HRL.out.hb⟩
        · rw [HLX.out]
          show LsI _ _ _ _ _ ((entL p R).map (·.2))
          rw [entL_2]
          exact HRL.out.ls.base hz1
        · rw [HLX.out]
          show _ = (entL p R).map (·.1)
          rw [entL_1]
          exact HE.out
end Go.Proofs.YtmnkdkibhchglaaGreatDoor
namespace Go.Proofs.YtmnkdkibhchglaaGreatDoor
open Go.RowKit
set_option linter.unusedVariables false
attribute [local go_sem ↓] Go.wp_at_zero Go.wp_at_succ

theorem listF_mem {p : Int} : ∀ {l : List (Nat × List UInt8)} {es : List (Sm × Nat)}, listF p l = .inr es → ∀ y ∈ es, y.1.dg.length ≤ 1000000
  | [], es, h => by
    unfold listF at h
    cases h
    intro y hy; cases hy
  | x :: l, es, h => by
    unfold listF at h
    by_cases hx : (rdA (rowB x) p).2.2 ≠ 0
    · rw [if_pos hx] at h; cases h
    rw [if_neg hx] at h
    cases hl : listF p l with
    | inl n => rw [hl] at h; cases h
    | inr es2 =>
      rw [hl] at h
      cases h
      intro y hy
      rcases List.mem_cons.1 hy with rfl | hy
      · exact rdA_len _ _
      · exact listF_mem hl y hy
theorem lsA_len (t : List UInt8) (p : Int) : (∀ e ∈ (lsA t p).1, e.dg.length ≤ 1000000) ∧ (lsA t p).1.length ≤ 65536 ∧ (lsA t p).2.1.length ≤ 65536 := by
  unfold lsA
  split
  · exact ⟨fun e h => (by cases h), by simp, by simp⟩
  cases hl : listF p (rowsS t) with
  | inl n => exact ⟨fun e h => (by cases h), by simp, by simp⟩
  | inr es =>
    simp only
    split
    · exact ⟨fun e h => (by cases h), by simp, by simp⟩
    · refine ⟨fun e h => ?_, by simp; omega, by simp; omega⟩
      obtain ⟨y, hy, rfl⟩ := List.mem_map.1 h
      exact listF_mem hl y hy
theorem flat_get {α β : Type} (f : α → List β) (n : Nat) (hn : ∀ x, (f x).length = n) : ∀ (l : List α) (i : Nat) (x : α), l[i]? = some x → ∀ (j : Nat) (u : β), (f x)[j]? = some u → (l.flatMap f)[i * n + j]? = some u
  | [], i, x, h, j, u, hu => by simp at h
  | y :: l, 0, x, h, j, u, hu => by
    have : y = x := by simpa using h
    subst this
    have hj : j < (f y).length := (List.getElem?_eq_some_iff.1 hu).1
    rw [List.flatMap_cons, Nat.zero_mul, Nat.zero_add, List.getElem?_append_left hj]
    exact hu
  | y :: l, i + 1, x, h, j, u, hu => by
    have ih := flat_get f n hn l i x (by simpa using h) j u hu
    rw [List.flatMap_cons, List.getElem?_append_right (by rw [hn, Nat.add_mul]; omega), hn, show (i + 1) * n + j - n = i * n + j by rw [Nat.add_mul]; omega]
    exact ih
theorem own_head {W : World} {base n size : Nat} {e : TypeId} {A : Option Addr} {c : Nat} {xs : List Value} (h : W.ownsRow base e size (.slice A n c) n xs) (hA : A ≠ none) : ∃ g, A = some ⟨g, 0, none⟩ := by
  rcases h.2 with ⟨h2, _⟩ | ⟨g, cap, cur, h2, _⟩
  · injection h2 with h3 _ _
    exact absurd h3 hA
  · injection h2 with h3 _ _
    exact ⟨g, h3⟩
theorem add_at (g k : Nat) : (⟨g, 0, none⟩ : Addr).add k = ⟨g, k, none⟩ := by
  rcases Nat.eq_zero_or_pos k with rfl | hi
  · rfl
  · unfold Addr.add; rw [if_neg (by omega)]; simp
/-- An entry of a list in memory. -/
theorem ls_get {n0 : Nat} {W : World} {A B : Value} {E : List EnL} {ns : List Nat} (h : LsI n0 W A B E ns) {k : Nat} {x : EnL} (hx : E[k]? = some x) :
    ∃ g c, A = .slice (some ⟨g, 0, none⟩) E.length c ∧ ∀ W', Below W.heap.size W W' → ∀ j u, (enC x).toList[j]? = some u → W'.cell? ((⟨g, k * 4, none⟩ : Addr).add j) = some u := by
  have hl : k < E.length := (List.getElem?_eq_some_iff.1 hx).1
  obtain ⟨a, c, rfl⟩ := own_slG h.rowA
  obtain ⟨ad, hA, hb, hc⟩ := (Reads.of_own h.rowA).2 (by omega)
  obtain ⟨g, hg⟩ := own_head h.rowA (by rw [hA]; simp)
  subst hg
  cases hA
  refine ⟨g, c, rfl, fun W' hW j u hu => ?_⟩
  have h2 := hc _ _ (flat_get (fun x => (enC x).toList) 4 (fun _ => rfl) E k x hx j u hu)
  rw [add_at] at h2
  have h3 : (⟨g, k * 4, none⟩ : Addr).add j = ⟨g, k * 4 + j, none⟩ := by
    rcases Nat.eq_zero_or_pos j with rfl | hi
    · rfl
    · unfold Addr.add; rw [if_neg (by omega)]
  rw [h3]
  exact (hW.cell (by exact hb)).trans h2
theorem ns_get {n0 : Nat} {W : World} {A B : Value} {E : List EnL} {ns : List Nat} (h : LsI n0 W A B E ns) {k : Nat} {x : Nat} (hx : ns[k]? = some x) :
    ∃ g c, B = .slice (some ⟨g, 0, none⟩) ns.length c ∧ ∀ W', Below W.heap.size W W' → W'.cell? ⟨g, k, none⟩ = some (.int .i64 (x : Int)) := by
  have hl : k < ns.length := (List.getElem?_eq_some_iff.1 hx).1
  obtain ⟨a, c, rfl⟩ := own_slG h.rowB
  obtain ⟨ad, hA, hb, hc⟩ := (Reads.of_own h.rowB).2 (by omega)
  obtain ⟨g, hg⟩ := own_head h.rowB (by rw [hA]; simp)
  subst hg
  cases hA
  refine ⟨g, c, rfl, fun W' hW => ?_⟩
  have h2 := hc k (.int .i64 (x : Int)) (by rw [List.getElem?_map, hx]; rfl)
  rw [add_at] at h2
  exact (hW.cell (by exact hb)).trans h2
set_option maxRecDepth 100000 in
set_option maxHeartbeats 8000000 in
theorem c_SumsLists (T : ByteArray) (p : Int) (w : World) (hT : T.size ≤ 1048576) (hL : Laid w) :
    Calls Tryz.prog 3 #[.string T, .int .i64 p] w fun e w' => e = .returned (.bool true) ∧ Below w.heap.size w w' := by
  have HLS := Lib.hid (c_List T p w (by omega) hL)
  have HRL := Lib.hid (fun W => c_rList T p W (by omega))
  obtain ⟨hdg, hl1, hl2⟩ := lsA_len T.data.toList p
  have HDG := Lib.hid hdg
  generalize (lsA T.data.toList p).1 = es at *
  generalize (lsA T.data.toList p).2.1 = ns at *
  generalize (lsA T.data.toList p).2.2 = er at *
  clear hdg hL
  go_enter Tryz.func3, Tryz.ntmps3
  go_wp2_with fail
  refine HLS.out.mono ?_
  rintro x w1 ⟨A, B, E, rfl, hls1, hE1, hb1⟩
  have HL1 := Lib.hid hls1
  have HB1 := Lib.hid hb1
  clear hls1 hb1 HLS
  go_wp2_with fail
  refine (HRL.out w1).mono ?_
  rintro x w2 ⟨A', B', E', rfl, hls2, hE2, hb2⟩
  have HL1 : Hid (LsI w.heap.size w2 A B E ns) := HL1.out.kept (fun k => own_below k hb2)
  have HL2 : Hid (LsI w1.heap.size w2 A' B' E' ns) := hls2
  have HB2 := Lib.hid (below_step HB1.out hb2)
  clear hls2 hb2 HRL HB1
  obtain ⟨a, c, rfl⟩ := own_slG HL1.out.rowA
  obtain ⟨b, d, rfl⟩ := own_slG HL1.out.rowB
  obtain ⟨a', c', rfl⟩ := own_slG HL2.out.rowA
  obtain ⟨b', d', rfl⟩ := own_slG HL2.out.rowB
  have hn1 : E.length = es.length := by rw [← hE1, List.length_map]
  have hn2 : E'.length = es.length := by rw [← hE2, List.length_map]
  have HE := Lib.hid (hE1.trans hE2.symm)
  have HED : Hid (∀ x ∈ E, x.e.dg.length ≤ 1000000) := fun x hx => HDG.out _ (by rw [← hE1]; exact List.mem_map.2 ⟨x, hx, rfl⟩)
  clear hE1 hE2 HDG
  have hne1 : (er != er) = false := by simp
  have hne2 : ((E.length : Int) != (E'.length : Int)) = false := by simp [hn1, hn2]
  have hne3 : ((ns.length : Int) != (ns.length : Int)) = false := by simp
  have hw2 := HB2.out.size
  go_wp2_with fail
  go_loopw [11] (fun v wr => ∃ k : Nat, v = .int .i64 (k : Int) ∧ k ≤ es.length ∧ Hid (Below w2.heap.size w2 wr)) (fun v _ => es.length - (intOf v).toNat)
  case atStart => exact ⟨0, rfl, Nat.zero_le _, Lib.hid (Below.refl _ _)⟩
  case round =>
    obtain ⟨k, rfl, hk, HB⟩ := hrel
    by_cases hlt : k < es.length
    · obtain ⟨x, hx⟩ : ∃ x, E[k]? = some x := ⟨_, List.getElem?_eq_getElem (by omega)⟩
      obtain ⟨y, hy⟩ : ∃ y, E'[k]? = some y := ⟨_, List.getElem?_eq_getElem (by omega)⟩
      have hxy : x.e = y.e := by
        have h := congrArg (·[k]?) HE.out
        simp only [List.getElem?_map, hx, hy, Option.map_some] at h
        exact Option.some.inj h
      obtain ⟨g, cg, hg, hc⟩ := ls_get HL1.out hx
      obtain ⟨g', cg', hg', hc'⟩ := ls_get HL2.out hy
      cases hg; cases hg'
      have HC := Lib.hid hc
      have HC' := Lib.hid hc'
      have HD1 := Lib.hid (HL1.out.dgs x (List.mem_of_getElem? hx))
      have HD2 := Lib.hid (HL2.out.dgs y (List.mem_of_getElem? hy))
      have hdl := HED.out x (List.mem_of_getElem? hx)
      clear hc hc' hx hy
      obtain ⟨e, D, c1⟩ := x
      obtain ⟨e', D', c2⟩ := y
      simp only at hxy hdl
      subst hxy
      simp only [] at HD1 HD2
      have HAL : Hid (∀ W, Below w2.heap.size w2 W → Calls Tryz.prog 7 #[.agg (enC ⟨e, D, c1⟩), .agg (enC ⟨e, D', c2⟩)] W fun x w' => x = .returned (.bool true) ∧ Below W.heap.size W w') := fun W hb =>
        c_alike e D D' e.dg.length c1 c2 W _ (Nat.le_refl _) (Reads.of_own (own_below HD1.out hb)) (Reads.of_own (own_below HD2.out hb)) (by omega)
      clear HD1 HD2
      go_upto_region 8 with fail
      have f0 : wr.cell? ⟨g, k * 4, none⟩ = some (.int .i64 e.a) := HC.out _ HB.out 0 _ rfl
      have f1 : wr.cell? ⟨g, k * 4 + 1, none⟩ = some (.string e.nm) := HC.out _ HB.out 1 _ rfl
      have f2 : wr.cell? ⟨g, k * 4 + 2, none⟩ = some (.slice D e.dg.length c1) := HC.out _ HB.out 2 _ rfl
      have f3 : wr.cell? ⟨g, k * 4 + 3, none⟩ = some (.bool e.st) := HC.out _ HB.out 3 _ rfl
      have e0 : wr.cell? ⟨g', k * 4, none⟩ = some (.int .i64 e.a) := HC'.out _ HB.out 0 _ rfl
      have e1 : wr.cell? ⟨g', k * 4 + 1, none⟩ = some (.string e.nm) := HC'.out _ HB.out 1 _ rfl
      have e2 : wr.cell? ⟨g', k * 4 + 2, none⟩ = some (.slice D' e.dg.length c2) := HC'.out _ HB.out 2 _ rfl
      have e3 : wr.cell? ⟨g', k * 4 + 3, none⟩ = some (.bool e.st) := HC'.out _ HB.out 3 _ rfl
      go_still_tail 8, (by kernel_rfl)
      change wpList _ _ _ _ _ wr.drew
      have HBd := Lib.hid HB.out.drew
      generalize wr.drew = w3 at *
      clear f0 f1 f2 f3 e0 e1 e2 e3
      go_wp2_with (first
        | (refine wpList_load_any rfl 33 (.tmp 52) rfl ⟨g, k * 4, none⟩ rfl (enC ⟨e, D, c1⟩).toList _ (HC.out _ HBd.out) Tryz.underlying33 rfl (by kernel_rfl) ?_)
        | (refine wpList_load_any rfl 33 (.tmp 56) rfl ⟨g', k * 4, none⟩ rfl (enC ⟨e, D', c2⟩).toList _ (HC'.out _ HBd.out) Tryz.underlying33 rfl (by kernel_rfl) ?_)
        | (go_at_call 7; refine (HAL.out _ HBd.out).mono ?_; rintro x w4 ⟨rfl, hb4⟩; have HB4 := Lib.hid (below_step HBd.out hb4); clear hb4))
      go_roundw
      case rel => exact ⟨k + 1, by go_num, by omega, HB4⟩
      case measure => simp [intOf]; omega
    · obtain rfl : k = es.length := by omega
      clear HE HED
      go_wp2_with fail
      go_loopw [12] (fun v wr2 => ∃ k : Nat, v = .int .i64 (k : Int) ∧ k ≤ ns.length ∧ Hid (Below w2.heap.size w2 wr2)) (fun v _ => ns.length - (intOf v).toNat)
      case atStart => exact ⟨0, rfl, Nat.zero_le _, HB⟩
      case round =>
        clear HB
        obtain ⟨k, rfl, hk2, HB⟩ := hrel
        by_cases hlt : k < ns.length
        · obtain ⟨x, hx⟩ : ∃ x, ns[k]? = some x := ⟨_, List.getElem?_eq_getElem (by omega)⟩
          obtain ⟨g, cg, hg, hc⟩ := ns_get HL1.out hx
          obtain ⟨g', cg', hg', hc'⟩ := ns_get HL2.out hx
          cases hg; cases hg'
          clear HL1 HL2 hx
          go_upto_region 13 with fail
          have d1 := hc _ HB.out
          have d2 := hc' _ HB.out
          have HBd := Lib.hid HB.out.drew
          clear hc hc' HB
          have hxx : ((x : Int) != (x : Int)) = false := by simp
          go_region
          clear d1 d2
          generalize World.drew _ = w4 at *
          go_wp2_with fail
          go_roundw
          case rel => exact ⟨k + 1, by go_num, by omega, HBd⟩
          case measure => simp [intOf]; omega
        · clear HL1 HL2
          go_wp2_with fail
          go_ret
          exact ⟨rfl, below_step HB2.out HB.out⟩
theorem l_SumsLists (W : World) (hL : Laid W) (s : ByteArray) (hs : s.size ≤ 140737488351232) (p : Int) (wp : (Lit.int .i64 p).wf = true) (hb : s.size ≤ 1048576) :
    Calls Tryz.prog 3 #[.string s, .int .i64 p] W fun e W' => e = .returned (.bool true) ∧ Below W.heap.size W W' := c_SumsLists s p W hb hL
end Go.Proofs.YtmnkdkibhchglaaGreatDoor
namespace Go.Proofs.YtmnkdkibhchglaaGreatDoor
open Go.RowKit
set_option linter.unusedVariables false

theorem une_esc (l : List UInt8) : ∀ (i : Nat) (acc : List UInt8), une (esc l) i acc = .inl (acc ++ l) := by
  induction l with
  | nil => intro i acc; simp [esc, une]
  | cons c l ih =>
    intro i acc
    have e : esc (c :: l) = esc1 c ++ esc l := by simp [esc]
    rw [e]
    unfold esc1
    by_cases h1 : c = 92
    · subst h1
      rw [if_pos rfl]
      show une (92 :: 92 :: esc l) i acc = _
      rw [une_cons, if_neg (by decide), if_pos rfl]
      simp only [if_true]
      rw [ih, List.append_assoc]; rfl
    rw [if_neg h1]
    by_cases h2 : c = 10
    · subst h2
      rw [if_pos rfl]
      show une (92 :: 110 :: esc l) i acc = _
      rw [une_cons, if_neg (by decide), if_pos rfl]
      simp only [show ((110 : UInt8) = 92) = False by decide, if_false, if_true]
      rw [ih, List.append_assoc]; rfl
    rw [if_neg h2]
    by_cases h3 : c = 13
    · subst h3
      rw [if_pos rfl]
      show une (92 :: 114 :: esc l) i acc = _
      rw [une_cons, if_neg (by decide), if_pos rfl]
      simp only [show ((114 : UInt8) = 92) = False by decide, show ((114 : UInt8) = 110) = False by decide, if_false, if_true]
      rw [ih, List.append_assoc]; rfl
    rw [if_neg h3]
    show une (c :: esc l) i acc = _
    rw [une_cons, if_neg (by simp [h2, h3]), if_neg h1, ih, List.append_assoc]; rfl
/-- An escaped name's answer. -/
theorem un_esc {t : ByteArray} {l : List UInt8} (ht : t.data.toList = esc l) (hf : fileB l = true) : unN t = l ∧ unI t = 0 ∧ unE t = 0 := by
  have h : uneAt t 0 [] = .inl l := by
    unfold uneAt
    rw [ht, List.drop_zero, une_esc]; rfl
  unfold unN unI unE
  rw [h]
  simp [hf]
theorem toList_eq (s : ByteArray) : s.toList = s.data.toList := toList_data s
/-- The name that a name's own text says. -/
theorem nm_esc {t nm : ByteArray} (ht : t.data.toList = esc nm.data.toList) (hf : fileB nm.data.toList = true) : nmS (escD nm) t = some nm.data.toList := by
  unfold nmS
  cases he : escD nm with
  | true =>
    have := un_esc ht hf
    simp [this.1, this.2.2]
  | false =>
    have h2 : esc nm.data.toList = nm.data.toList := by
      unfold escD at he
      rw [toList_eq] at he
      simpa using he
    rw [h2] at ht
    simp [ht, hf]
theorem hd_low : ∀ k : Fin 16, hP (UInt8.ofNat (hdg (k.val : Int)).toNat) = true ∧ hV (UInt8.ofNat (hdg (k.val : Int)).toNat).toNat = k.val ∧ (UInt8.ofNat (hdg (k.val : Int)).toNat) ≠ 66 ∧ (UInt8.ofNat (hdg (k.val : Int)).toNat) ≠ 92 ∧ (UInt8.ofNat (hdg (k.val : Int)).toNat) ≠ 41 := by decide
/-- A small digit. -/
def lowd (c : UInt8) : Prop := hP c = true ∧ c ≠ 66 ∧ c ≠ 92 ∧ c ≠ 41
theorem hx_cons (c : UInt8) (l : List UInt8) : ∃ a b, hx (c :: l) = a :: b :: hx l ∧ lowd a ∧ lowd b ∧ hV a.toNat = c.toNat / 16 ∧ hV b.toNat = c.toNat % 16 := by
  have hc := c.toNat_lt
  have h1 := hd_low ⟨c.toNat / 16, by omega⟩
  have h2 := hd_low ⟨c.toNat % 16, by omega⟩
  refine ⟨UInt8.ofNat (hdg ((c.toNat / 16 : Nat) : Int)).toNat, UInt8.ofNat (hdg ((c.toNat % 16 : Nat) : Int)).toNat, ?_, ⟨h1.1, h1.2.2⟩, ⟨h2.1, h2.2.2⟩, h1.2.1, h2.2.1⟩
  unfold hx
  rw [List.map_cons, hxs]
  rfl
theorem hx_all (l : List UInt8) : ∀ c ∈ hx l, lowd c := by
  induction l with
  | nil => intro c hc; cases hc
  | cons c l ih =>
    obtain ⟨a, b, e, ha, hb, _⟩ := hx_cons c l
    rw [e]
    intro d hd
    rcases List.mem_cons.1 hd with rfl | hd
    · exact ha
    rcases List.mem_cons.1 hd with rfl | hd
    · exact hb
    · exact ih d hd
theorem getD_cons2 (a b : UInt8) (l : List UInt8) (k : Nat) : (a :: b :: l).getD (k + 2) 0 = l.getD k 0 := by simp [List.getD]
theorem uhk_hx (l : List UInt8) (m : List UInt8) : uhk (hx l ++ m) l.length = l := by
  induction l with
  | nil => rfl
  | cons c l ih =>
    obtain ⟨a, b, e, _, _, h1, h2⟩ := hx_cons c l
    rw [e]
    show uhk (a :: b :: (hx l ++ m)) (l.length + 1) = _
    unfold uhk at ih ⊢
    rw [List.range_succ_eq_map, List.map_cons, List.map_map]
    have e1 : UInt8.ofNat (16 * hV a.toNat + hV b.toNat) = c := by
      rw [h1, h2, show 16 * (c.toNat / 16) + c.toNat % 16 = c.toNat by omega]
      exact UInt8.ofNat_toNat
    have e2 : List.map ((fun j => UInt8.ofNat (16 * hV ((a :: b :: (hx l ++ m)).getD (2 * j) 0).toNat + hV ((a :: b :: (hx l ++ m)).getD (2 * j + 1) 0).toNat)) ∘ Nat.succ) (List.range l.length) = l := by
      refine Eq.trans ?_ ih
      apply List.map_congr_left
      intro j _
      show UInt8.ofNat (16 * hV ((a :: b :: (hx l ++ m)).getD (2 * (j + 1)) 0).toNat + hV ((a :: b :: (hx l ++ m)).getD (2 * (j + 1) + 1) 0).toNat) = _
      rw [show 2 * (j + 1) = 2 * j + 2 by omega, show 2 * j + 2 + 1 = 2 * j + 1 + 2 by omega, getD_cons2, getD_cons2]
    rw [e2]
    exact congrArg (fun x => x :: l) e1
theorem uhp_hx (l : List UInt8) : uhp (hx l) = l := by
  unfold uhp
  rw [hx_len, show 2 * l.length / 2 = l.length by omega]
  have := uhk_hx l []
  rwa [List.append_nil] at this
theorem cnt_all {p : UInt8 → Bool} {l m : List UInt8} (h : ∀ c ∈ l, p c = true) (hm : ∀ c, m.head? = some c → p c = false) : cnt p (l ++ m) = l.length := by
  induction l with
  | nil =>
    cases m with
    | nil => rfl
    | cons c m =>
      show cnt p (c :: m) = 0
      unfold cnt
      rw [if_neg (by rw [hm c rfl]; decide)]
  | cons c l ih =>
    show cnt p (c :: (l ++ m)) = _
    unfold cnt
    rw [if_pos (h c List.mem_cons_self), ih (fun d hd => h d (List.mem_cons_of_mem _ hd))]; rfl
theorem hex_cnt (l m : List UInt8) (hm : ∀ c, m.head? = some c → hP c = false) : cnt hP (hx l ++ m) = 2 * l.length := by
  rw [cnt_all (fun c hc => (hx_all l c hc).1) hm, hx_len]
theorem take_app {α : Type} (l m : List α) {n : Nat} (h : l.length = n) : (l ++ m).take n = l := by subst h; simp
theorem drop_app {α : Type} (l m : List α) {n : Nat} (h : l.length = n) : (l ++ m).drop n = m := by subst h; simp
theorem get_app {α : Type} (l m : List α) {n : Nat} (h : l.length = n) : (l ++ m)[n]? = m[0]? := by subst h; rw [List.getElem?_append_right (Nat.le_refl _), Nat.sub_self]
theorem pre_no66 {w m : List UInt8} (h : w.head? = some 66) (hm : ∀ c, m.head? = some c → c ≠ 66) : w.isPrefixOf m = false := by
  cases w with
  | nil => cases h
  | cons x w =>
    cases m with
    | nil => rfl
    | cons c m =>
      have hx : x = 66 := by simpa using h
      subst hx
      have := hm c rfl
      simp [List.isPrefixOf, Ne.symm this]
theorem swrd_head {a : Int} (h1 : 1 ≤ a) (h4 : a ≤ 4) : (swrd a).head? = some 66 := by
  obtain rfl | rfl | rfl | rfl : a = 1 ∨ a = 2 ∨ a = 3 ∨ a = 4 := by omega
  all_goals decide
theorem ext_all (s : ByteArray) (i : Nat) : (s.extract i s.size).data.toList = s.data.toList.drop i := by
  rcases Nat.lt_or_ge s.size i with h | h
  · have h1 : (s.extract i s.size).data.toList.length = 0 := by
      show (s.extract i s.size).size = 0
      rw [ByteArray.size_extract]; omega
    rw [List.eq_nil_of_length_eq_zero h1, List.drop_eq_nil_of_le (by show s.size ≤ i; omega)]
  · exact ext_drop s i h
theorem smost_le (a : Int) : smost a ≤ 64 := by unfold smost; split; omega; split <;> omega
theorem hp_head {s : ByteArray} {L : List UInt8} (h : s.data.toList = L) : hpB s 92 = (L.head? == some 92) := by unfold hpB; rw [h]
theorem head_app {l m : List UInt8} (h : l ≠ []) : (l ++ m).head? = l.head? := by cases l with | nil => exact absurd rfl h | cons c l => rfl
theorem hx_ne {l : List UInt8} (h : 1 ≤ l.length) : ∃ c m, hx l = c :: m ∧ lowd c := by
  cases l with
  | nil => simp at h
  | cons c l =>
    obtain ⟨a, b, e, ha, _⟩ := hx_cons c l
    exact ⟨a, _, e, ha⟩
/-- A printed line is no longer than a line may be. -/
theorem esc_file {l : List UInt8} (h : fileB l = true) : (esc l).length ≤ 8192 := by
  have := (esc_len l).2
  unfold fileB at h
  simp only [Bool.and_eq_true, decide_eq_true_eq] at h
  omega
theorem ahdL (s : ByteArray) : (ahd s).length = if escD s = true then 1 else 0 := by unfold ahd; split <;> rfl
theorem ba_back (nm : ByteArray) : (⟨nm.data.toList.toArray⟩ : ByteArray) = nm := (ba_eq rfl).symm
theorem smost_some {a : Int} (h : 0 < smost a) : 1 ≤ a ∧ a ≤ 4 := by
  rcases algo_cases a with rfl | rfl | rfl | rfl | ⟨_, _, _, _, e, _⟩
  iterate 4 exact ⟨by decide, by decide⟩
  omega
set_option maxHeartbeats 1000000 in
/-- An entry's line says the entry. -/
theorem rd_plain (e : Sm) (h : rightS e = true) : rdA ⟨(plainS e).toArray⟩ e.a = (e, 0, 0) := by
  unfold rightS at h
  simp only [Bool.and_eq_true, decide_eq_true_eq] at h
  obtain ⟨⟨hd1, hd2⟩, hf⟩ := h
  obtain ⟨s, hs⟩ : ∃ s : ByteArray, (⟨(plainS e).toArray⟩ : ByteArray) = s := ⟨_, rfl⟩
  have hL : s.data.toList = ahd e.nm ++ (hx e.dg ++ (32 :: (if e.st = true then 42 else 32) :: esc e.nm.data.toList)) := by
    rw [← hs, ba_mk]
    unfold plainS
    cases e.st <;> simp
  have hsz : s.size = (ahd e.nm).length + (2 * e.dg.length + (2 + (esc e.nm.data.toList).length)) := by
    show s.data.toList.length = _
    rw [hL]; simp [hx_len]; omega
  have he := esc_file hf
  have hal := ahdL e.nm
  have hmost : smost e.a ≠ 0 := by omega
  have h64 := smost_le e.a
  have hsmall : ¬ 16384 < s.size := by rw [hsz, hal]; split <;> omega
  obtain ⟨c0, m0, hx0, hl0⟩ := hx_ne hd1
  have hmk : hpB s 92 = escD e.nm := by
    rw [hp_head hL]
    unfold ahd
    cases escD e.nm with
    | true => rfl
    | false =>
      rw [hx0]
      show (some c0 == some 92) = false
      simpa using hl0.2.2.1
  have hi : (if hpB s 92 = true then 1 else 0) = (ahd e.nm).length := by rw [hmk, hal]
  have hdr : s.data.toList.drop (ahd e.nm).length = hx e.dg ++ (32 :: (if e.st = true then 42 else 32) :: esc e.nm.data.toList) := by rw [hL, drop_app _ _ rfl]
  have hway : wayAt s (ahd e.nm).length = 0 := wayAt_no s _ fun b h1 h5 => by
    unfold wayB
    rw [hdr, pre_no66 (swrd_head h1 (by omega))]
    · rfl
    · intro c hc
      rw [hx0] at hc
      have : c0 = c := by simpa using hc
      rw [← this]; exact hl0.2.1
  have hN : hexN s (ahd e.nm).length = 2 * e.dg.length := by
    unfold hexN
    rw [hdr, hex_cnt]
    intro c hc
    have : 32 = c := by simpa using hc
    rw [← this]; decide
  have g0 : s.data.toList[(ahd e.nm).length + 2 * e.dg.length]? = some 32 := by
    rw [hL, ← List.append_assoc, get_app _ _ (by simp [hx_len])]; rfl
  have g1 : s.data.toList[(ahd e.nm).length + 2 * e.dg.length + 1]? = some (if e.st = true then 42 else 32) := by
    rw [hL, show ahd e.nm ++ (hx e.dg ++ (32 :: (if e.st = true then 42 else 32) :: esc e.nm.data.toList)) = (ahd e.nm ++ (hx e.dg ++ [32])) ++ ((if e.st = true then 42 else 32) :: esc e.nm.data.toList) by simp, get_app _ _ (by simp [hx_len]; omega)]; rfl
  have hnm : nmS (escD e.nm) (s.extract ((ahd e.nm).length + 2 * e.dg.length + 2) s.size) = some e.nm.data.toList := by
    apply nm_esc _ hf
    rw [ext_all, hL, show ahd e.nm ++ (hx e.dg ++ (32 :: (if e.st = true then 42 else 32) :: esc e.nm.data.toList)) = (ahd e.nm ++ (hx e.dg ++ [32, if e.st = true then 42 else 32])) ++ esc e.nm.data.toList by simp, drop_app _ _ (by simp [hx_len]; omega)]
  rw [hs]
  unfold rdA
  rw [if_neg hmost, if_neg hsmall]
  unfold lineS
  rw [hi, hway, if_neg (by simp), hmk]
  unfold bareS
  rw [hN, if_neg (by omega), if_neg (by omega), if_neg (by rw [g0]; simp), if_neg (by rw [g1]; cases e.st <;> simp), hnm]
  simp only
  rw [hdr, take_app _ _ (hx_len e.dg), uhp_hx, ba_back, g1]
  have hst : (some (if e.st = true then (42 : UInt8) else 32) == some 42) = e.st := by cases e.st <;> rfl
  rw [hst]
theorem dec_val (u : Nat) : dval (Lib.decDigits u) = u ∧ (∀ c ∈ Lib.decDigits u, dP c = true) ∧ 0 < (Lib.decDigits u).length ∧ (0 < u → (Lib.decDigits u)[0]? ≠ some 48) := by
  induction u using Nat.strongRecOn with
  | _ u ih =>
    rw [Lib.decDigits]
    have hb : ∀ k, k < 10 → (UInt8.ofNat (48 + k)).toNat = 48 + k := fun k hk => by simp; omega
    split
    · rename_i h
      refine ⟨?_, ?_, by simp, ?_⟩
      · show 10 * 0 + ((UInt8.ofNat (48 + u)).toNat - 48) = u
        rw [hb u h]; omega
      · intro c hc
        rw [List.mem_singleton.1 hc]
        simp only [dP, Bool.and_eq_true, decide_eq_true_eq]
        rw [hb u h]; omega
      · intro h0 hc
        have h1 : UInt8.ofNat (48 + u) = 48 := by simpa using hc
        have h2 := congrArg UInt8.toNat h1
        rw [hb u h] at h2
        have : (48 : UInt8).toNat = 48 := rfl
        omega
    · rename_i h
      obtain ⟨i1, i2, i3, i4⟩ := ih (u / 10) (by omega)
      refine ⟨?_, ?_, by simp, ?_⟩
      · rw [dval_snoc, i1, hb (u % 10) (by omega)]; omega
      · intro c hc
        rcases List.mem_append.1 hc with hc | hc
        · exact i2 c hc
        · rw [List.mem_singleton.1 hc]
          simp only [dP, Bool.and_eq_true, decide_eq_true_eq]
          rw [hb (u % 10) (by omega)]; omega
      · intro _
        rw [List.getElem?_append_left i3]
        exact i4 (by omega)
theorem wayAt_word {s : ByteArray} {i : Nat} {a : Int} (h1 : 1 ≤ a) (h4 : a ≤ 4) {x : UInt8} {m : List UInt8} (hx : x = 32 ∨ x = 45) (hd : s.data.toList.drop i = swrd a ++ x :: m) : wayAt s i = a := by
  have hg : ∀ k, s.data.toList[i + k]? = (swrd a ++ x :: m)[k]? := fun k => by rw [← hd, List.getElem?_drop]
  obtain rfl | rfl | rfl | rfl : a = 1 ∨ a = 2 ∨ a = 3 ∨ a = 4 := by omega
  all_goals
    refine wayAt_hit s i _ h1 h4 (fun b b1 b2 => ?_) ?_
    · obtain rfl | rfl | rfl : b = 1 ∨ b = 2 ∨ b = 3 := by omega
      all_goals first
        | omega
        | (unfold wayB; rw [hd, hg]; simp [swrd, List.isPrefixOf])
    · unfold wayB
      rw [hd, hg]
      rcases hx with rfl | rfl <;> simp [swrd, List.isPrefixOf]
theorem last_tail {s : ByteArray} {P : List UInt8} {dg : List UInt8} (hL : s.data.toList = P ++ ([41, 32, 61, 32] ++ hx dg)) : Lib.lastIndex s.data.toList [41, 32, 61, 32] = (P.length : Int) := by
  have hsz : s.size = P.length + (4 + (hx dg).length) := by
    show s.data.toList.length = _
    rw [hL]; simp; omega
  refine last_found (by omega) ?_ ?_
  · unfold begB
    rw [hL, drop_app _ _ rfl]; rfl
  · intro q h1 h2
    have hh : (s.data.toList.drop q).head? ≠ some 41 := by
      rw [List.head?_drop, hL, List.getElem?_append_right (by omega)]
      obtain ⟨k, hk⟩ : ∃ k, q - P.length = k + 1 := ⟨q - P.length - 1, by omega⟩
      rw [hk]
      show ([32, 61, 32] ++ hx dg)[k]? ≠ some 41
      intro hc
      have hm := List.mem_of_getElem? hc
      rcases List.mem_append.1 hm with hm | hm
      · revert hm; decide
      · exact (hx_all dg 41 hm).2.2.2 rfl
    unfold begB
    cases hdq : s.data.toList.drop q with
    | nil => rfl
    | cons c m =>
      rw [hdq] at hh
      have hc : c ≠ 41 := by simpa using hh
      simp [List.isPrefixOf, Ne.symm hc]
set_option maxHeartbeats 1000000 in
theorem tail_say {s nm : ByteArray} {j n : Nat} {a : Int} {P dg : List UInt8} (hP : P.length = j) (hL : s.data.toList = P ++ (32 :: 40 :: (esc nm.data.toList ++ ([41, 32, 61, 32] ++ hx dg)))) (hn : dg.length = n) (hf : fileB nm.data.toList = true) :
    tailS s j n a (escD nm) = .inr ⟨a, nm, dg, false⟩ := by
  have hsz : s.size = j + (2 + ((esc nm.data.toList).length + (4 + 2 * n))) := by
    show s.data.toList.length = _
    rw [hL]; simp [hx_len, hP, hn]; omega
  have g0 : s.data.toList[j]? = some 32 := by rw [hL, get_app _ _ hP]; rfl
  have g1 : s.data.toList[j + 1]? = some 40 := by
    rw [hL, show P ++ (32 :: 40 :: (esc nm.data.toList ++ ([41, 32, 61, 32] ++ hx dg))) = (P ++ [32]) ++ (40 :: (esc nm.data.toList ++ ([41, 32, 61, 32] ++ hx dg))) by simp, get_app _ _ (by simp [hP])]; rfl
  have hlast : Lib.lastIndex s.data.toList [41, 32, 61, 32] = ((j + 2 + (esc nm.data.toList).length : Nat) : Int) := by
    rw [last_tail (P := P ++ (32 :: 40 :: esc nm.data.toList)) (dg := dg) (by rw [hL]; simp)]
    simp [hP]; omega
  have hnm : nmS (escD nm) (s.extract (j + 2) (j + 2 + (esc nm.data.toList).length)) = some nm.data.toList := by
    apply nm_esc _ hf
    rw [ext_list, hL, show P ++ (32 :: 40 :: (esc nm.data.toList ++ ([41, 32, 61, 32] ++ hx dg))) = (P ++ [32, 40]) ++ (esc nm.data.toList ++ ([41, 32, 61, 32] ++ hx dg)) by simp, drop_app _ _ (by simp [hP]), take_app _ _ rfl]
  have hdr : s.data.toList.drop (j + 2 + (esc nm.data.toList).length + 4) = hx dg := by
    rw [hL, show P ++ (32 :: 40 :: (esc nm.data.toList ++ ([41, 32, 61, 32] ++ hx dg))) = (P ++ (32 :: 40 :: (esc nm.data.toList ++ [41, 32, 61, 32]))) ++ hx dg by simp, drop_app _ _ (by simp [hP]; omega)]
  have hN : hexN s (j + 2 + (esc nm.data.toList).length + 4) = 2 * n := by
    unfold hexN
    rw [hdr]
    have := hex_cnt dg [] (by intro c hc; cases hc)
    rw [List.append_nil] at this
    rw [this, hn]
  have hto : ((j + 2 + (esc nm.data.toList).length : Nat) : Int).toNat = j + 2 + (esc nm.data.toList).length := Int.toNat_natCast _
  unfold tailS
  rw [hlast, hto, hN, hnm, hdr, if_neg (by rw [g0]; simp), if_neg (by rw [g1]; simp), if_neg (by omega)]
  simp only
  rw [if_neg (by omega), List.take_of_length_le (by rw [hx_len, hn]; exact Nat.le_refl _), uhp_hx, ba_back]
set_option maxHeartbeats 1000000 in
/-- An entry's line in the other form says the entry, without its mark. -/
theorem rd_tagged (e : Sm) (h : rightS e = true) : rdA ⟨(tagS e).toArray⟩ 1 = (⟨e.a, e.nm, e.dg, false⟩, 0, 0) := by
  unfold rightS at h
  simp only [Bool.and_eq_true, decide_eq_true_eq] at h
  obtain ⟨⟨hd1, hd2⟩, hf⟩ := h
  obtain ⟨a1, a4⟩ := smost_some (a := e.a) (by omega)
  obtain ⟨s, hs⟩ : ∃ s : ByteArray, (⟨(tagS e).toArray⟩ : ByteArray) = s := ⟨_, rfl⟩
  have hL : s.data.toList = ahd e.nm ++ (swrd e.a ++ (dsh e ++ (32 :: 40 :: (esc e.nm.data.toList ++ ([41, 32, 61, 32] ++ hx e.dg))))) := by
    rw [← hs, ba_mk]
    unfold tagS
    simp
  have he := esc_file hf
  have hal := ahdL e.nm
  have h64 := smost_le e.a
  have hwl := swrd_len e.a
  have hdv := dec_val (8 * e.dg.length)
  have hdl : (dsh e).length ≤ 4 := by
    unfold dsh
    split
    · have : (Lib.decDigits (8 * e.dg.length)).length ≤ 3 := dig_len 2 (8 * e.dg.length) (by omega)
      simp; omega
    · exact Nat.zero_le _
  have hsz : s.size = (ahd e.nm).length + ((swrd e.a).length + ((dsh e).length + (2 + ((esc e.nm.data.toList).length + (4 + 2 * e.dg.length))))) := by
    show s.data.toList.length = _
    rw [hL]; simp [hx_len]; omega
  have hsmall : ¬ 16384 < s.size := by rw [hsz, hal]; split <;> omega
  have hwne : swrd e.a ≠ [] := by
    intro h
    have := swrd_head a1 a4
    rw [h] at this; cases this
  have hmk : hpB s 92 = escD e.nm := by
    rw [hp_head hL]
    unfold ahd
    cases escD e.nm with
    | true => rfl
    | false =>
      show ((swrd e.a ++ _).head? == some 92) = false
      rw [head_app hwne, swrd_head a1 a4]; rfl
  have hi : (if hpB s 92 = true then 1 else 0) = (ahd e.nm).length := by rw [hmk, hal]
  have hdr : s.data.toList.drop (ahd e.nm).length = swrd e.a ++ (dsh e ++ (32 :: 40 :: (esc e.nm.data.toList ++ ([41, 32, 61, 32] ++ hx e.dg)))) := by rw [hL, drop_app _ _ rfl]
  have hway : wayAt s (ahd e.nm).length = e.a := by
    unfold dsh at hdr
    split at hdr
    · exact wayAt_word a1 a4 (.inr rfl) hdr
    · exact wayAt_word a1 a4 (.inl rfl) hdr
  have hbit : bitS s ((ahd e.nm).length + (swrd e.a).length) (smost e.a) = .inr ((ahd e.nm).length + (swrd e.a).length + (dsh e).length, e.dg.length) := by
    have hL2 : s.data.toList = (ahd e.nm ++ swrd e.a) ++ (dsh e ++ (32 :: 40 :: (esc e.nm.data.toList ++ ([41, 32, 61, 32] ++ hx e.dg)))) := by rw [hL]; simp
    have hpl : (ahd e.nm ++ swrd e.a).length = (ahd e.nm).length + (swrd e.a).length := by simp
    rw [← hpl]
    generalize ahd e.nm ++ swrd e.a = P at *
    unfold bitS dsh
    unfold dsh at hL2
    by_cases hlt : e.dg.length < smost e.a
    · rw [if_pos hlt] at hL2 ⊢
      have g0 : s.data.toList[P.length]? = some 45 := by rw [hL2, get_app _ _ rfl]; rfl
      have hL3 : s.data.toList = (P ++ [45]) ++ (Lib.decDigits (8 * e.dg.length) ++ (32 :: 40 :: (esc e.nm.data.toList ++ ([41, 32, 61, 32] ++ hx e.dg)))) := by rw [hL2]; simp
      have hd3 : s.data.toList.drop (P.length + 1) = Lib.decDigits (8 * e.dg.length) ++ (32 :: 40 :: (esc e.nm.data.toList ++ ([41, 32, 61, 32] ++ hx e.dg))) := by rw [hL3, drop_app _ _ (by simp)]
      have hn3 : digN s (P.length + 1) = (Lib.decDigits (8 * e.dg.length)).length := by
        unfold digN
        rw [hd3, cnt_all hdv.2.1]
        intro c hc
        have : 32 = c := by simpa using hc
        rw [← this]; decide
      have g1 : s.data.toList[P.length + 1]? ≠ some 48 := by
        rw [hL3, get_app _ _ (by simp), List.getElem?_append_left hdv.2.2.1]
        exact hdv.2.2.2 (by omega)
      have hl0 := hdv.2.2.1
      rw [if_pos g0, hn3, hd3, take_app _ _ rfl, hdv.1, if_neg (by rintro (h | h | h | h) <;> first | exact g1 h | omega)]
      congr 1
      ext
      · simp; omega
      · show 8 * e.dg.length / 8 = _
        omega
    · rw [if_neg hlt] at hL2 ⊢
      have g0 : s.data.toList[P.length]? = some 32 := by rw [hL2, get_app _ _ rfl]; rfl
      rw [if_neg (by rw [g0]; decide)]
      congr 1
      ext
      · rfl
      · show smost e.a = _
        omega
  have htail := tail_say (s := s) (nm := e.nm) (a := e.a) (P := ahd e.nm ++ (swrd e.a ++ dsh e)) (dg := e.dg) (j := (ahd e.nm).length + (swrd e.a).length + (dsh e).length) (n := e.dg.length) (by simp; omega) (by rw [hL]; simp) rfl hf
  rw [hs]
  unfold rdA
  rw [if_neg (by decide), if_neg hsmall]
  unfold lineS
  rw [hi, hway, if_pos (by omega), hmk]
  unfold tggS
  rw [hbit]
  simp only
  rw [htail]
end Go.Proofs.YtmnkdkibhchglaaGreatDoor
namespace Go.Proofs.YtmnkdkibhchglaaGreatDoor
open Go.RowKit
set_option linter.unusedVariables false
attribute [local go_sem ↓] Go.wp_at_zero Go.wp_at_succ

set_option maxRecDepth 100000 in
theorem c_alive26 (w : World) : Calls Tryz.prog 8 #[] w fun x w' => x = .returned (.bool true) ∧ Below w.heap.size w w' := by
  obtain ⟨i0, hi0, hz0, hz1, hz2⟩ := info_parts u8_info
  have HPL : Hid (∀ D c W, RdS W ⟨1, ⟨#[120]⟩, [10], false⟩ D 1 c → Calls Tryz.prog 17 #[.agg #[.int .i64 1, .string ⟨#[120]⟩, .slice D 1 c, .bool false]] W fun x w' => x = .returned (.tuple #[.string ⟨#[48, 97, 32, 32, 120]⟩, .int .i64 0]) ∧ Below W.heap.size W w') := fun D c W h => by
    refine (c_Plain ⟨1, ⟨#[120]⟩, [10], false⟩ D 1 c W h (by omega)).mono ?_
    rintro x w' ⟨h1, h2⟩
    refine ⟨?_, h2⟩
    have e1 : rightS ⟨1, ⟨#[120]⟩, [10], false⟩ = true := by decide
    have e2 : plainS ⟨1, ⟨#[120]⟩, [10], false⟩ = [48, 97, 32, 32, 120] := by kernel_rfl
    unfold LineIs at h1
    rw [e1, e2] at h1
    exact h1
  go_enter Tryz.func8, Tryz.ntmps8
  go_wp2_with (first | (at_builtin; refine wpList_append_any _ rfl (.tmp 5) (.tmp 6) _ rfl (w.heap.size + 1) 5 i0 _ 1 1 Tryz.underlying31 hi0 hz0 hz1 hz2 rfl (by omega) (.slice none 0 0) 0 [] rfl ⟨by simp, .inl ⟨rfl, rfl⟩⟩ _ _ 1 1 [.int .u8 10] rfl (reads_one _ _ _) (by intro u hu; rw [List.mem_singleton.1 hu]; rfl) (by simp only [maxLen]; omega) (by omega) (by simp) ?_; intro v1 w2 hown1 hg1 _; rw [Nat.zero_add, List.nil_append] at hown1; obtain ⟨A1, c1, rfl⟩ := own_slice hown1; have hb2 := below_of_grown hg1; have HB2 := Lib.hid (below_step ((Below.refl w.heap.size w).alloc (Nat.le_refl _) (.cells #[.int .u8 10] 5)) hb2); have HR2 : Hid (RdS w2 ⟨1, ⟨#[120]⟩, [10], false⟩ A1 1 c1) := ⟨rfl, by show 1 ≤ _; omega, Reads.of_own hown1⟩; clear hown1 hg1 hb2) | (go_at_call 17; refine (HPL.out _ _ _ HR2.out).mono ?_; rintro x w3 ⟨rfl, hb3⟩; have HB3 := Lib.hid (below_step HB2.out hb3); clear hb3))
  go_ret
  exact ⟨rfl, HB3.out⟩
end Go.Proofs.YtmnkdkibhchglaaGreatDoor
namespace Go.Proofs.YtmnkdkibhchglaaGreatDoor
open Go.RowKit
set_option linter.unusedVariables false

theorem uhp_len (l : List UInt8) : (uhp l).length = l.length / 2 := uhk_len _ _
theorem right_of {a : Int} {nm dg : List UInt8} {st : Bool} (h1 : 1 ≤ dg.length) (h2 : dg.length ≤ smost a) (hf : fileB nm = true) : rightS ⟨a, ⟨nm.toArray⟩, dg, st⟩ = true := by
  unfold rightS
  simp only [Bool.and_eq_true, decide_eq_true_eq]
  exact ⟨⟨h1, h2⟩, hf⟩
theorem bare_right {s : ByteArray} {i : Nat} {p : Int} {mk : Bool} {e : Sm} (h : bareS s i p mk = .inr e) : rightS e = true := by
  unfold bareS at h
  by_cases h1 : 2 * smost p < hexN s i
  · rw [if_pos h1] at h; cases h
  rw [if_neg h1] at h
  by_cases h2 : hexN s i = 0 ∨ hexN s i % 2 = 1
  · rw [if_pos h2] at h; cases h
  rw [if_neg h2] at h
  split at h
  · cases h
  split at h
  · cases h
  split at h
  · cases h
  · rename_i nm hn
    cases h
    have hl : ((s.data.toList.drop i).take (hexN s i)).length = hexN s i := by
      rw [List.length_take]
      have := cnt_le hP (s.data.toList.drop i)
      exact Nat.min_eq_left this
    exact right_of (by rw [uhp_len, hl]; omega) (by rw [uhp_len, hl]; omega) (nmS_file hn)
theorem tail_right {s : ByteArray} {i n : Nat} {a : Int} {mk : Bool} {e : Sm} (hn1 : 1 ≤ n) (hn2 : n ≤ smost a) (h : tailS s i n a mk = .inr e) : rightS e = true := by
  unfold tailS at h
  split at h
  · cases h
  split at h
  · cases h
  split at h
  · cases h
  split at h
  · cases h
  rename_i nm hn
  generalize (Lib.lastIndex s.data.toList [41, 32, 61, 32]).toNat + 4 = j at *
  by_cases h2 : hexN s j ≠ 2 * n ∨ j + hexN s j < s.size
  · rw [if_pos h2] at h; cases h
  rw [if_neg h2] at h
  cases h
  have hl : ((s.data.toList.drop j).take (hexN s j)).length = hexN s j := by
    rw [List.length_take]
    exact Nat.min_eq_left (cnt_le hP (s.data.toList.drop j))
  exact right_of (by rw [uhp_len, hl]; omega) (by rw [uhp_len, hl]; omega) (nmS_file hn)
theorem dval_pos {c : UInt8} {l : List UInt8} (hc : dP c = true) (h0 : c ≠ 48) : 1 ≤ dval (c :: l) := by
  have h := dval_from l (10 * 0 + (c.toNat - 48))
  have h2 : 48 ≤ c.toNat := by simp only [dP, Bool.and_eq_true, decide_eq_true_eq] at hc; exact hc.1
  have h3 : c.toNat ≠ 48 := fun h => h0 (UInt8.toNat_inj.1 h)
  exact Nat.le_trans (by omega) h
theorem bits_right {s : ByteArray} {i m j n : Nat} (hm : 1 ≤ m) (h : bitS s i m = .inr (j, n)) : 1 ≤ n ∧ n ≤ m := by
  unfold bitS at h
  split at h
  · by_cases h2 : digN s (i + 1) = 0 ∨ s.data.toList[i + 1]? = some 48 ∨ dval ((s.data.toList.drop (i + 1)).take (digN s (i + 1))) % 8 ≠ 0 ∨ 8 * m < dval ((s.data.toList.drop (i + 1)).take (digN s (i + 1)))
    · rw [if_pos h2] at h; cases h
    rw [if_neg h2] at h
    cases h
    have hk : 0 < cnt dP (s.data.toList.drop (i + 1)) := by
      have : digN s (i + 1) = cnt dP (s.data.toList.drop (i + 1)) := rfl
      omega
    obtain ⟨c, hc, hd⟩ := cnt_in hk
    cases hl : s.data.toList.drop (i + 1) with
    | nil => rw [hl] at hc; cases hc
    | cons c' l =>
      rw [hl] at hc
      have : c' = c := by simpa using hc
      subst this
      have h48 : c' ≠ 48 := fun e => h2 (.inr (.inl (by
        have := congrArg (·[0]?) hl
        simp only [List.getElem?_drop, Nat.add_zero] at this
        rw [this, e]; rfl)))
      obtain ⟨d, hd2⟩ : ∃ d, digN s (i + 1) = d + 1 := ⟨digN s (i + 1) - 1, by omega⟩
      rw [hl, hd2, List.take_succ_cons] at h2
      rw [hd2, List.take_succ_cons]
      have := dval_pos (l := l.take d) hd h48
      omega
  · cases h
    exact ⟨hm, Nat.le_refl _⟩
theorem way_most (s : ByteArray) (i : Nat) (h : wayAt s i ≠ 0) : 1 ≤ smost (wayAt s i) := by
  unfold wayAt at h ⊢
  split
  · decide
  split
  · decide
  split
  · decide
  split
  · decide
  · simp_all
theorem line_right {s : ByteArray} {p : Int} {e : Sm} (h : lineS s p = .inr e) : rightS e = true := by
  unfold lineS at h
  generalize (if hpB s 92 = true then 1 else 0) = i at *
  by_cases hw : wayAt s i ≠ 0
  · rw [if_pos hw] at h
    unfold tggS at h
    split at h
    · cases h
    · rename_i j n hb
      obtain ⟨h1, h2⟩ := bits_right (way_most s i hw) hb
      exact tail_right h1 h2 h
  · rw [if_neg hw] at h
    exact bare_right h
/-- What is read may be printed. -/
theorem rd_right {s : ByteArray} {p : Int} (h : (rdA s p).2.2 = 0) : rightS (rdA s p).1 = true := by
  unfold rdA at h ⊢
  by_cases h1 : smost p = 0
  · rw [if_pos h1] at h; cases h
  rw [if_neg h1] at h ⊢
  by_cases h2 : 16384 < s.size
  · rw [if_pos h2] at h; cases h
  rw [if_neg h2] at h ⊢
  cases hl : lineS s p with
  | inl i => rw [hl] at h; cases h
  | inr e => exact line_right hl
theorem hx_clean (l : List UInt8) : ∀ c ∈ hx l, c ≠ 10 ∧ c ≠ 13 ∧ c ≠ 35 := by
  intro c hc
  have h := (hx_all l c hc).1
  refine ⟨?_, ?_, ?_⟩ <;> (rintro rfl; revert h; decide)
theorem esc_clean (l : List UInt8) : ∀ c ∈ esc l, c ≠ 10 ∧ c ≠ 13 := by
  intro c hc
  obtain ⟨d, _, hd⟩ := List.mem_flatMap.1 hc
  unfold esc1 at hd
  split at hd
  · simp at hd; subst hd; decide
  split at hd
  · simp at hd; rcases hd with rfl | rfl <;> decide
  split at hd
  · simp at hd; rcases hd with rfl | rfl <;> decide
  · rw [List.mem_singleton.1 hd]
    exact ⟨by assumption, by assumption⟩
theorem plain_clean (e : Sm) : ∀ c ∈ plainS e, c ≠ 10 ∧ c ≠ 13 := by
  intro c hc
  unfold plainS ahd at hc
  simp only [List.append_nil] at hc
  rcases List.mem_append.1 hc with h | h
  · split at h
    · rw [List.mem_singleton.1 h]; decide
    · cases h
  rcases List.mem_append.1 h with h | h
  · rcases List.mem_append.1 h with h | h
    · exact ⟨(hx_clean _ c h).1, (hx_clean _ c h).2.1⟩
    · split at h <;> (simp at h; first | (rcases h with rfl | rfl <;> decide) | (subst h; decide))
  · exact esc_clean _ c h
theorem plain_okR {e : Sm} (h : rightS e = true) : okR (plainS e) = true := by
  have h1 : 1 ≤ e.dg.length := (right_parts h).1
  unfold plainS ahd
  split
  · rfl
  · obtain ⟨c, m, hc, hl⟩ := hx_ne h1
    rw [hc]
    have : c ≠ 35 := (hx_clean e.dg c (by rw [hc]; exact List.mem_cons_self)).2.2
    show okR (c :: _) = true
    unfold okR
    simpa using this
theorem cnt_nl {l : List UInt8} (h : ∀ c ∈ l, c ≠ 10) (m : List UInt8) : lnk (l ++ 10 :: m) = l.length :=
  cnt_all (p := nlP) (fun c hc => by simpa [nlP] using h c hc) (fun c hc => by simp at hc; subst hc; rfl)
theorem noCr_clean {l : List UInt8} (h : ∀ c ∈ l, c ≠ 13) : noCr l = l := by
  unfold noCr
  split
  · rename_i hl
    exact absurd rfl (h 13 (List.mem_of_getLast? hl))
  · rfl
/-- Printed lines, as rows. -/
theorem rows_lns : ∀ (es : List Sm) (n : Nat), (∀ e ∈ es, rightS e = true) → rowsA n (es.flatMap fun e => plainS e ++ [10]) = (es.zipIdx n).map fun y => (y.2, plainS y.1)
  | [], n, _ => rfl
  | e :: es, n, h => by
    have h1 := h e List.mem_cons_self
    have h2 := rows_lns es (n + 1) fun y hy => h y (List.mem_cons_of_mem _ hy)
    have hL : (List.flatMap (fun e => plainS e ++ [10]) (e :: es)) = plainS e ++ 10 :: es.flatMap (fun e => plainS e ++ [10]) := by simp
    rw [hL, rowsA_cons n (by simp), cnt_nl (fun c hc => (plain_clean e c hc).1)]
    have hF : lnF (plainS e ++ 10 :: es.flatMap (fun e => plainS e ++ [10])) = plainS e := by
      unfold lnF
      rw [cnt_nl (fun c hc => (plain_clean e c hc).1), if_pos (by rw [List.length_append, List.length_cons]; omega), List.take_left]
      exact noCr_clean fun c hc => (plain_clean e c hc).2
    rw [hF, plain_okR h1, if_pos rfl]
    have hD : (plainS e ++ 10 :: es.flatMap (fun e => plainS e ++ [10])).drop ((plainS e).length + 1) = es.flatMap (fun e => plainS e ++ [10]) := by
      rw [List.drop_append]
      simp
    rw [hD, h2]
    rfl
theorem rd_line (e : Sm) (h : rightS e = true) (h1 : e.a = 1) (n : Nat) : rdA (rowB (n, plainS e)) 1 = (e, 0, 0) := by
  have := rd_plain e h
  rw [h1] at this
  exact this
theorem listF_lns : ∀ (es : List Sm) (n : Nat), (∀ e ∈ es, rightS e = true ∧ e.a = 1) → listF 1 ((es.zipIdx n).map fun y => (y.2, plainS y.1)) = .inr (es.zipIdx n)
  | [], n, _ => rfl
  | e :: es, n, h => by
    obtain ⟨h1, h2⟩ := h e List.mem_cons_self
    have ih := listF_lns es (n + 1) fun y hy => h y (List.mem_cons_of_mem _ hy)
    rw [List.zipIdx_cons, List.map_cons]
    unfold listF
    rw [rd_line e h1 h2 n, if_neg (by simp), ih]
/-- What is printed of entries is a list of the same entries, one a line. -/
theorem lsA_lns (es : List Sm) (h : ∀ e ∈ es, rightS e = true ∧ e.a = 1) (hn : es.length ≤ 65536) : lsA (es.flatMap fun e => plainS e ++ [10]) 1 = (es, (List.range' 1 es.length), 0) := by
  unfold lsA rowsS
  rw [rows_lns es 1 fun e he => (h e he).1, listF_lns es 1 h, if_neg (by decide)]
  simp only [List.length_zipIdx]
  rw [if_neg (by omega), List.zipIdx_map_fst, List.zipIdx_map_snd]
theorem listF_right {p : Int} : ∀ {l : List (Nat × List UInt8)} {es : List (Sm × Nat)}, listF p l = .inr es → ∀ y ∈ es, rightS y.1 = true
  | [], es, h => by
    unfold listF at h
    cases h
    intro y hy; cases hy
  | x :: l, es, h => by
    unfold listF at h
    by_cases hx : (rdA (rowB x) p).2.2 ≠ 0
    · rw [if_pos hx] at h; cases h
    rw [if_neg hx] at h
    cases hl : listF p l with
    | inl n => rw [hl] at h; cases h
    | inr es2 =>
      rw [hl] at h
      cases h
      intro y hy
      rcases List.mem_cons.1 hy with rfl | hy
      · exact rd_right (Decidable.of_not_not hx)
      · exact listF_right hl y hy
/-- What List answers. -/
theorem lsA_says (t : List UInt8) (p : Int) : (∀ e ∈ (lsA t p).1, rightS e = true) ∧ ((lsA t p).2.2 ≠ 0 → (lsA t p).1 = []) := by
  unfold lsA
  split
  · exact ⟨fun e h => (by cases h), fun _ => rfl⟩
  cases hl : listF p (rowsS t) with
  | inl n => exact ⟨fun e h => (by cases h), fun _ => rfl⟩
  | inr es =>
    simp only
    split
    · exact ⟨fun e h => (by cases h), fun _ => rfl⟩
    · refine ⟨fun e h => ?_, fun h => absurd rfl h⟩
      obtain ⟨y, hy, rfl⟩ := List.mem_map.1 h
      exact listF_right hl y hy
end Go.Proofs.YtmnkdkibhchglaaGreatDoor
namespace Go.Proofs.YtmnkdkibhchglaaGreatDoor
open Go.RowKit
set_option linter.unusedVariables false
attribute [local go_sem ↓] Go.wp_at_zero Go.wp_at_succ

/-- An entry in memory, as it is printed. -/
def entOf (x : EnL) : Ent := ⟨x.e, x.D, x.e.dg.length, x.c⟩
theorem rdl_of {n0 : Nat} {W : World} {a : Option Addr} {n c : Nat} {B : Value} {E : List EnL} {ns : List Nat} (h : LsI n0 W (.slice a n c) B E ns) (hr : ∀ x ∈ E, rightS x.e = true) : RdL W a (E.map entOf) := by
  refine ⟨fun hl => ?_, fun y hy => ?_⟩
  · obtain ⟨a', c', h0⟩ := own_slG h.rowA
    cases h0
    obtain ⟨ad, hA, hb, hc⟩ := (Reads.of_own h.rowA).2 (by simpa using hl)
    obtain ⟨g, hg⟩ := own_head h.rowA (by rw [hA]; simp)
    subst hg
    cases hA
    refine ⟨_, rfl, hb, fun k y hy j u hu => ?_⟩
    rw [List.getElem?_map] at hy
    cases hx : E[k]? with
    | none => rw [hx] at hy; cases hy
    | some x =>
      rw [hx] at hy
      cases hy
      obtain ⟨g', c2, hg', hc'⟩ := ls_get h hx
      cases hg'
      have := hc' W (Below.refl _ _) j u hu
      rw [add_at]
      exact this
  · obtain ⟨x, hx, rfl⟩ := List.mem_map.1 hy
    obtain ⟨p1, p2, p3, p4⟩ := right_parts (hr x hx)
    have h4 := fileB_le p4
    exact ⟨⟨rfl, by show x.e.nm.size ≤ _; have : x.e.nm.data.toList.length = x.e.nm.size := rfl; omega, Reads.of_own (h.dgs x hx)⟩, by show x.e.dg.length ≤ _; omega⟩
theorem lns_ent (E : List EnL) : lnsS false (E.map entOf) = (E.map (·.e)).flatMap fun e => plainS e ++ [10] := by
  unfold lnsS
  rw [List.flatMap_map, List.flatMap_map]
  rfl
theorem ok_ent {E : List EnL} (hr : ∀ x ∈ E, rightS x.e = true) : okS (E.map entOf) = true := by
  unfold okS
  rw [List.all_eq_true]
  intro y hy
  obtain ⟨x, hx, rfl⟩ := List.mem_map.1 hy
  exact hr x hx
set_option maxRecDepth 100000 in
set_option maxHeartbeats 8000000 in
theorem c_SumsAgain (T : ByteArray) (p : Int) (w : World) (hT : T.size ≤ 1048576) (htab : Lib.TabIs Tryz.prog w "internal/strconv.uint64pow10" .u64 Lib.pow10Tab) (hL : Laid w) :
    Calls Tryz.prog 4 #[.string T, .int .i64 p] w fun e w' => e = .returned (.bool true) ∧ Below w.heap.size w w' := by
  have HAV := Lib.hid (fun W => c_alive26 W)
  have HT : Hid (∀ W, Below w.heap.size w W → Lib.TabIs Tryz.prog W "internal/strconv.uint64pow10" .u64 Lib.pow10Tab) := fun W hb => Lib.tabBelow_of_tabIs htab W hb
  have HL : Hid (∀ W, Below w.heap.size w W → Laid W) := fun W hb => hL.below hb
  have HLS : Hid (∀ W, Below w.heap.size w W → Calls Tryz.prog 5 #[.string T, .int .i64 p] W (OutL W (lsA T.data.toList p).1 (lsA T.data.toList p).2.1 (lsA T.data.toList p).2.2)) := fun W hb => c_List T p W (by omega) (HL.out W hb)
  have HL2 : Hid (∀ (Z : List UInt8) W, Z.length ≤ 10000000000 → Below w.heap.size w W → Calls Tryz.prog 5 #[bstr Z, .int .i64 1] W (OutL W (lsA Z 1).1 (lsA Z 1).2.1 (lsA Z 1).2.2)) := fun Z W hz hb => c_List ⟨Z.toArray⟩ 1 W hz (HL.out W hb)
  obtain ⟨hdg, hl1, hl2⟩ := lsA_len T.data.toList p
  obtain ⟨hri, hne⟩ := lsA_says T.data.toList p
  have HDG := Lib.hid hdg
  have HRI := Lib.hid hri
  have HNE := Lib.hid hne
  generalize (lsA T.data.toList p).1 = es at *
  generalize (lsA T.data.toList p).2.1 = ns at *
  generalize (lsA T.data.toList p).2.2 = er at *
  clear hdg hri hne hL htab hl2 HL
  go_enter Tryz.func4, Tryz.ntmps4
  go_wp2_with fail
  refine (HAV.out _).mono ?_
  rintro x w0 ⟨rfl, hb0⟩
  have HB0 := Lib.hid hb0
  clear hb0 HAV
  go_wp2_with fail
  refine (HLS.out _ HB0.out).mono ?_
  rintro x w1 ⟨A, B, E, rfl, hls1, hE1, hb1⟩
  have HL1 : Hid (LsI w0.heap.size w1 A B E ns) := hls1
  have HB1 := Lib.hid (below_step HB0.out hb1)
  clear hls1 hb1 HLS HB0
  obtain ⟨a, c, rfl⟩ := own_slG HL1.out.rowA
  have hn1 : E.length = es.length := by rw [← hE1, List.length_map]
  have HE1 := Lib.hid hE1
  clear hE1
  by_cases her : er = 0
  · subst her
    clear HNE
    go_wp2_with fail
    go_loopw [8] (fun v wr => ∃ k : Nat, v = .int .i64 (k : Int) ∧ k ≤ es.length ∧ Hid (∀ e ∈ es.take k, e.a = 1) ∧ Hid (Below w1.heap.size w1 wr)) (fun v _ => es.length - (intOf v).toNat)
    case atStart => exact ⟨0, rfl, Nat.zero_le _, Lib.hid (by simp), Lib.hid (Below.refl _ _)⟩
    case round =>
      obtain ⟨k, rfl, hk, HA1, HB⟩ := hrel
      by_cases hlt : k < es.length
      · obtain ⟨x, hx⟩ : ∃ x, E[k]? = some x := ⟨_, List.getElem?_eq_getElem (by omega)⟩
        have hex : es[k]? = some x.e := by rw [← HE1.out, List.getElem?_map, hx]; rfl
        obtain ⟨g, cg, hg, hc⟩ := ls_get HL1.out hx
        cases hg
        have d1 : wr.cell? ⟨g, k * 4, none⟩ = some (.int .i64 x.e.a) := by
          have := hc _ HB.out 0 (.int .i64 x.e.a) rfl
          simpa [Addr.add] using this
        by_cases ha : x.e.a = 1
        · have hne : (x.e.a != 1) = false := by simp [ha]
          have HA2 : Hid (∀ e ∈ es.take (k + 1), e.a = 1) := fun e he => by
            rw [List.take_add_one, hex] at he
            rcases List.mem_append.1 he with h | h
            · exact HA1.out e h
            · have : e = x.e := by simpa using h
              rw [this]; exact ha
          clear HA1 hx hc hex ha HRI HDG HE1
          go_wp2_with fail
          go_roundw
          case rel => exact ⟨k + 1, by go_num, by omega, HA2, HB⟩
          case measure => simp [intOf]; omega
        · have hne : (x.e.a != 1) = true := by simpa using ha
          clear HA1 hx hc hex HRI HDG HE1
          go_wp2_with fail
          go_ret
          exact ⟨rfl, below_step HB1.out HB.out⟩
      · obtain rfl : k = es.length := by omega
        have HA : Hid (∀ e ∈ es, rightS e = true ∧ e.a = 1) := fun e he => ⟨HRI.out e he, HA1.out e (by rw [List.take_of_length_le (Nat.le_refl _)]; exact he)⟩
        have HEr : Hid (∀ x ∈ E, rightS x.e = true ∧ x.e.a = 1) := fun x hx => HA.out _ (by rw [← HE1.out]; exact List.mem_map.2 ⟨x, hx, rfl⟩)
        have HL1b : Hid (LsI w0.heap.size wr (.slice a E.length c) B E ns) := HL1.out.kept (fun k => own_below k HB.out)
        have HBr := Lib.hid (below_step HB1.out HB.out)
        have hz0 := lns_len false (E.map entOf) (fun y hy => by obtain ⟨x, hx, rfl⟩ := List.mem_map.1 hy; exact (HEr.out x hx).1)
        rw [lns_ent, HE1.out, List.length_map] at hz0
        have HPR : Hid (Calls Tryz.prog 9 #[.slice a E.length c, .bool false] wr fun x w' => x = .returned (.tuple #[bstr (es.flatMap fun e => plainS e ++ [10]), .int .i64 0]) ∧ Below wr.heap.size wr w') := by
          refine (c_Print false a (E.map entOf) E.length c (by simp) wr (rdl_of HL1b.out (fun x hx => (HEr.out x hx).1)) (by omega) (HT.out wr HBr.out)).mono ?_
          rintro x w' ⟨h1, h2⟩
          refine ⟨?_, h2⟩
          unfold PrnIs at h1
          rw [ok_ent (fun x hx => (HEr.out x hx).1), lns_ent, HE1.out] at h1
          exact h1
        have hlz := lsA_lns es HA.out (by omega)
        have HLZ : Hid (∀ W, Below w.heap.size w W → Calls Tryz.prog 5 #[bstr (es.flatMap fun e => plainS e ++ [10]), .int .i64 1] W (OutL W es (List.range' 1 es.length) 0)) := fun W hb => by
          have h := HL2.out (es.flatMap fun e => plainS e ++ [10]) W (by omega) hb
          rw [hlz] at h
          exact h
        obtain ⟨ns2, hns2⟩ : ∃ l, l = List.range' 1 es.length := ⟨_, rfl⟩
        have hnl : ns2.length = es.length := by rw [hns2, List.length_range']
        have HNG : Hid (∀ k, k < es.length → ns2[k]? = some (k + 1)) := fun k hk => by
          rw [hns2, List.getElem?_range' hk]; congr 1; omega
        rw [← hns2] at HLZ
        clear hns2 hlz hz0 HL2 HT HA HA1 HRI HB HB1 HL1
        generalize (es.flatMap fun e => plainS e ++ [10]) = Z at *
        rw [hn1] at HPR
        go_wp2_with fail
        refine HPR.out.mono ?_
        rintro x w2 ⟨rfl, hb2⟩
        have HL1c : Hid (LsI w0.heap.size w2 (.slice a E.length c) B E ns) := HL1b.out.kept (fun k => own_below k hb2)
        have HB2 := Lib.hid (below_step HBr.out hb2)
        clear HL1b HBr HPR hb2
        go_wp2_with fail
        refine (HLZ.out _ HB2.out).mono ?_
        rintro x w3 ⟨A', B', E', rfl, hls3, hE2, hb3⟩
        have HL1 : Hid (LsI w0.heap.size w3 (.slice a E.length c) B E ns) := HL1c.out.kept (fun k => own_below k hb3)
        have HL2 : Hid (LsI w2.heap.size w3 A' B' E' ns2) := hls3
        have HB3 := Lib.hid (below_step HB2.out hb3)
        clear HL1c HB2 HLZ hb3 hls3
        obtain ⟨a', c', rfl⟩ := own_slG HL2.out.rowA
        obtain ⟨b', d', rfl⟩ := own_slG HL2.out.rowB
        have hn2 : E'.length = es.length := by rw [← hE2, List.length_map]
        have HE := Lib.hid (HE1.out.trans hE2.symm)
        have HED : Hid (∀ x ∈ E, x.e.dg.length ≤ 1000000) := fun x hx => HDG.out _ (by rw [← HE1.out]; exact List.mem_map.2 ⟨x, hx, rfl⟩)
        clear hE2 HDG HE1 HEr
        have hne2 : ((E'.length : Int) != (E.length : Int)) = false := by simp [hn1, hn2]
        have hne3 : ((ns2.length : Int) != (E.length : Int)) = false := by simp [hnl, hn1]
        go_wp2_with fail
        go_loopw [13] (fun v wr => ∃ k : Nat, v = .int .i64 (k : Int) ∧ k ≤ es.length ∧ Hid (Below w3.heap.size w3 wr)) (fun v _ => es.length - (intOf v).toNat)
        case atStart => exact ⟨0, rfl, Nat.zero_le _, Lib.hid (Below.refl _ _)⟩
        case round =>
          obtain ⟨k, rfl, hk, HB⟩ := hrel
          by_cases hlt : k < es.length
          · obtain ⟨x, hx⟩ : ∃ x, E[k]? = some x := ⟨_, List.getElem?_eq_getElem (by omega)⟩
            obtain ⟨y, hy⟩ : ∃ y, E'[k]? = some y := ⟨_, List.getElem?_eq_getElem (by omega)⟩
            have hxy : x.e = y.e := by
              have h := congrArg (·[k]?) HE.out
              simp only [List.getElem?_map, hx, hy, Option.map_some] at h
              exact Option.some.inj h
            obtain ⟨g, cg, hg, hc⟩ := ls_get HL1.out hx
            obtain ⟨g', cg', hg', hc'⟩ := ls_get HL2.out hy
            obtain ⟨g2, cg2, hg2, hc2⟩ := ns_get HL2.out (HNG.out k hlt)
            cases hg; cases hg'; cases hg2
            have HC := Lib.hid hc
            have HC' := Lib.hid hc'
            have HC2 := Lib.hid hc2
            have HD1 := Lib.hid (HL1.out.dgs x (List.mem_of_getElem? hx))
            have HD2 := Lib.hid (HL2.out.dgs y (List.mem_of_getElem? hy))
            have hdl := HED.out x (List.mem_of_getElem? hx)
            clear hc hc' hc2 hx hy
            obtain ⟨e, D, c1⟩ := x
            obtain ⟨e', D', c2⟩ := y
            simp only at hxy hdl
            subst hxy
            simp only [] at HD1 HD2
            have HAL : Hid (∀ W, Below w3.heap.size w3 W → Calls Tryz.prog 7 #[.agg (enC ⟨e, D, c1⟩), .agg (enC ⟨e, D', c2⟩)] W fun x w' => x = .returned (.bool true) ∧ Below W.heap.size W w') := fun W hb =>
              c_alike e D D' e.dg.length c1 c2 W _ (Nat.le_refl _) (Reads.of_own (own_below HD1.out hb)) (Reads.of_own (own_below HD2.out hb)) (by omega)
            clear HD1 HD2 HL1 HL2 HE HED HNG
            have HCA : Hid (∀ W, Below w3.heap.size w3 W → W.cell? ⟨g, k * 4, none⟩ = some (.int .i64 e.a) ∧ W.cell? ⟨g, k * 4 + 1, none⟩ = some (.string e.nm) ∧ W.cell? ⟨g, k * 4 + 2, none⟩ = some (.slice D e.dg.length c1) ∧ W.cell? ⟨g, k * 4 + 3, none⟩ = some (.bool e.st) ∧ W.cell? ⟨g', k * 4, none⟩ = some (.int .i64 e.a) ∧ W.cell? ⟨g', k * 4 + 1, none⟩ = some (.string e.nm) ∧ W.cell? ⟨g', k * 4 + 2, none⟩ = some (.slice D' e.dg.length c2) ∧ W.cell? ⟨g', k * 4 + 3, none⟩ = some (.bool e.st) ∧ W.cell? ⟨g2, k, none⟩ = some (.int .i64 ((k + 1 : Nat) : Int))) := fun W hb =>
              ⟨HC.out _ hb 0 _ rfl, HC.out _ hb 1 _ rfl, HC.out _ hb 2 _ rfl, HC.out _ hb 3 _ rfl, HC'.out _ hb 0 _ rfl, HC'.out _ hb 1 _ rfl, HC'.out _ hb 2 _ rfl, HC'.out _ hb 3 _ rfl, HC2.out _ hb⟩
            clear HC HC' HC2
            go_upto_region 18 with fail
            obtain ⟨f0, f1, f2, f3, e0, e1, e2, e3, n0⟩ := HCA.out _ HB.out
            have hkk : (((k : Int) + 1) != IntKind.wrap .i64 ((k : Int) + 1)) = false := by
              rw [IntKind.wrap_i64, show (((k : Int) + 1 + 9223372036854775808) % 18446744073709551616 - 9223372036854775808) = (k : Int) + 1 by omega]
              simp
            go_region_held3 (fun W => W.cell? ⟨g, k * 4, none⟩ = some (.int .i64 e.a) ∧ W.cell? ⟨g, k * 4 + 1, none⟩ = some (.string e.nm) ∧ W.cell? ⟨g, k * 4 + 2, none⟩ = some (.slice D e.dg.length c1) ∧ W.cell? ⟨g, k * 4 + 3, none⟩ = some (.bool e.st) ∧ W.cell? ⟨g', k * 4, none⟩ = some (.int .i64 e.a) ∧ W.cell? ⟨g', k * 4 + 1, none⟩ = some (.string e.nm) ∧ W.cell? ⟨g', k * 4 + 2, none⟩ = some (.slice D' e.dg.length c2) ∧ W.cell? ⟨g', k * 4 + 3, none⟩ = some (.bool e.st) ∧ W.cell? ⟨g2, k, none⟩ = some (.int .i64 ((k + 1 : Nat) : Int))) (go_keep) (first | (go_at_call 7; refine (HAL.out _ HB.out.drew).mono ?_; rintro x w4 ⟨rfl, hb4⟩; have HB4 := Lib.hid (below_step HB.out.drew hb4); obtain ⟨j0, j1, j2, j3, j4, j5, j6, j7, j8⟩ := HCA.out _ HB4.out; clear hb4))
            clear f0 f1 f2 f3 e0 e1 e2 e3 n0 j0 j1 j2 j3 j4 j5 j6 j7 j8 HCA HAL
            go_wp2_with fail
            go_roundw
            case rel => exact ⟨k + 1, by go_num, by omega, HB4⟩
            case measure => simp [intOf]; omega
          · obtain rfl : k = es.length := by omega
            clear HL1 HL2 HE HED HNG
            go_wp2_with fail
            go_ret
            exact ⟨rfl, below_step HB3.out HB.out⟩
  · have h0 : es = [] := HNE.out her
    have hz : E.length = 0 := by rw [hn1, h0]; rfl
    have hne : (er != 0) = true := by simpa using her
    clear HNE HRI HDG HE1 HL2 HT hn1 h0
    go_wp2_with fail
    go_ret
    exact ⟨by simp, HB1.out⟩
theorem l_SumsAgain (W : World) (htab : Lib.TabIs Tryz.prog W "internal/strconv.uint64pow10" .u64 Lib.pow10Tab) (hL : Laid W) (s : ByteArray) (hs : s.size ≤ 140737488351232) (p : Int) (wp : (Lit.int .i64 p).wf = true) (hb : s.size ≤ 1048576) :
    Calls Tryz.prog 4 #[.string s, .int .i64 p] W fun e W' => e = .returned (.bool true) ∧ Below W.heap.size W W' := c_SumsAgain s p W hb htab hL
end Go.Proofs.YtmnkdkibhchglaaGreatDoor
