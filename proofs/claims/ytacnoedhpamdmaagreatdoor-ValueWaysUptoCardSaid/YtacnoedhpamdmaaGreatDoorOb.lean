/- Walks: the order of two values in the program (value.compare). Conditions: both as they read; fields as the kinds say; bulk at most 1048576. -/
import Derived.Test.YtacnoedhpamdmaaGreatDoorOa
import Derived.Test.YtacnoedhpamdmaaGreatDoorLc
import Derived.Deep.RegionHeld3
namespace Go.Proofs.YtacnoedhpamdmaaGreatDoor
open Go.RowKit Go.Shelf
set_option linter.unusedVariables false
attribute [local go_sem ↓] Go.wp_at_zero Go.wp_at_succ

theorem c_sign (b : Bool) (w : World) : Calls Tryz.prog 86 #[.bool b] w fun e w' => e = .returned (.int .i64 (sg1 b)) ∧ w' = w := by
  cases b
  · go_enter Tryz.func86, Tryz.ntmps86
    go_wp2
    go_ret
    exact ⟨rfl, rfl⟩
  · go_enter Tryz.func86, Tryz.ntmps86
    go_wp2
    go_ret
    exact ⟨rfl, rfl⟩
theorem c_rsign (a b : Bool) (w : World) : Calls Tryz.prog 89 #[.bool a, .bool b] w fun e w' => e = .returned (.int .i64 (sg2 a b)) ∧ w' = w := by
  cases a <;> cases b
  all_goals
    go_enter Tryz.func89, Tryz.ntmps89
    go_wp2
    go_ret
    exact ⟨rfl, rfl⟩
theorem c_sCmp (a b : ByteArray) (w : World) : Calls Tryz.prog 88 #[.string a, .string b] w fun e w' => e = .returned (.int .i64 (scmp a b)) ∧ w' = w := Any.strings_Compare lays106 a b w
theorem RV.drew {w : World} {v : Val} {cs : List Value} (h : RV w v cs) : RV w.drew v cs := ⟨h.rd.drewN 1, h.wf, h.bd⟩
theorem Box.drew {W : World} {g : Nat} {cs : List Value} (h : Box W g cs) : Box W.drew g cs := ⟨h.blk.drew, h.lt⟩
theorem Box.drewN {W : World} {g : Nat} {cs : List Value} (h : Box W g cs) (k : Nat) : Box (W.drewN k) g cs := ⟨h.blk.drewN k, h.lt⟩
theorem below_undrew {B : Nat} {a w : World} (h : Below B a.drew w) : Below B a w := ⟨h.os, h.tape, h.output, h.size, h.block⟩
/-- Two boxes made one behind the other. -/
theorem two_boxes (w : World) (cs cs' : List Value) : Box ((w.alloc (.cells cs.toArray 30)).alloc (.cells cs'.toArray 30)) w.heap.size cs ∧ Box ((w.alloc (.cells cs.toArray 30)).alloc (.cells cs'.toArray 30)) (w.heap.size + 1) cs' ∧
    Below w.heap.size w ((w.alloc (.cells cs.toArray 30)).alloc (.cells cs'.toArray 30)) := by
  have h0 := Box.new w cs
  have h1 := Box.new (w.alloc (.cells cs.toArray 30)) cs'
  rw [World.size_alloc] at h1
  have hb : Below (w.alloc (.cells cs.toArray 30)).heap.size (w.alloc (.cells cs.toArray 30)) ((w.alloc (.cells cs.toArray 30)).alloc (.cells cs'.toArray 30)) := (Below.refl _ _).alloc (Nat.le_refl _) _
  exact ⟨h0.step hb, h1, (((Below.refl _ _).alloc (Nat.le_refl _) _).trans (hb.mono (by simp)))⟩
set_option maxRecDepth 100000 in
set_option maxHeartbeats 4000000 in
theorem c_compare : ∀ (a b : Val) (cs cs' : List Value) (w : World), RV w a cs → RV w b cs' → okV a → okV b → Calls Tryz.prog 62 #[.agg cs.toArray, .agg cs'.toArray] w fun e w' => e = .returned (.int .i64 (ord a b)) ∧ Below w.heap.size w w' := by
  refine Val.ind fun a ih b cs cs' w h h' hok hok' => ?_
  obtain ⟨A1, B1, c1, d1, hcs, hn1, hop1⟩ := h.open_
  obtain ⟨A2, B2, c2, d2, hcs', hn2, hop2⟩ := h'.open_
  obtain ⟨C, HC⟩ : ∃ C, Hid (ord a b = C) := ⟨_, Lib.hid rfl⟩
  rw [HC.out]
  have HE := Lib.hid ((ord_eq a b).symm.trans HC.out)
  have HNM1 := Lib.hid (fun hk => okV_nms hok hk)
  have HNM2 := Lib.hid (fun hk => okV_nms hok' hk)
  have HIH : Hid (∀ (i : Nat) (hi : i < a.its.length) (j : Nat) (hj : j < b.its.length) (cs cs' : List Value) (W : World), RV W a.its[i] cs → RV W b.its[j] cs' → Calls Tryz.prog 62 #[.agg cs.toArray, .agg cs'.toArray] W fun e w' => e = .returned (.int .i64 (ord a.its[i] b.its[j])) ∧ Below W.heap.size W w') :=
    fun i hi j hj cs cs' W hr hr' => ih _ (List.getElem_mem hi) _ cs cs' W hr hr' (okV_item hok (List.getElem_mem hi)) (okV_item hok' (List.getElem_mem hj))
  have hlen1 : a.its.length < 1048577 := by have := (bnd_len a).1; have := h.bd; omega
  have hlen2 : b.its.length < 1048577 := by have := (bnd_len b).1; have := h'.bd; omega
  have hf1 : a.f < 18446744073709551616 := wfV_f h.wf
  have hf2 : b.f < 18446744073709551616 := wfV_f h'.wf
  have HTB := two_boxes w cs cs'
  have HX1 := Lib.hid HTB.1
  have HX2 := Lib.hid HTB.2.1
  have HB0 := Lib.hid HTB.2.2
  have HN1 := Lib.hid hn1
  have HN2 := Lib.hid hn2
  have HOP1 := Lib.hid hop1
  have HOP2 := Lib.hid hop2
  clear h h' hok hok' HC ih HTB hn1 hn2 hop1 hop2
  cases a with | mk k i f t its nms =>
  cases b with | mk k' i' f' t' its' nms' =>
  dsimp only [vcs, Val.k, Val.i, Val.f, Val.t, Val.its, Val.nms] at *
  have HCF := Lib.hid (fun W => c_Compare f f' hf1 hf2 W)
  have HCT := Lib.hid (fun W => c_sCmp t t' W)
  clear hf1 hf2
  generalize fcmp f f' = F at *
  generalize scmp t t' = G at *
  go_enter Tryz.func62, Tryz.ntmps62
  go_upto_region 1 with fail
  subst hcs hcs'
  generalize World.alloc (w.alloc _) _ = w0 at *
  have k0 : w0.cell? ⟨w.heap.size, 0, none⟩ = some (.int .i64 k) := HX1.out.blk.cell 0
  have l0 : w0.cell? ⟨w.heap.size + 1, 0, none⟩ = some (.int .i64 k') := HX2.out.blk.cell 0
  by_cases hk : k = k'
  rotate_left
  · have t0 : (k != k') = true := by simpa using hk
    have HR : Hid (sg1 (decide (k < k')) = C) := by
      have := HE.out
      rw [thn_ne (icmp_ne hk)] at this
      rw [← this]; exact sg1_int hk
    go_wp2_with fail
    refine (c_sign _ _).mono ?_; rintro e w1 ⟨rfl, rfl⟩
    go_wp2_with fail
    go_ret
    exact ⟨by rw [← HR.out]; rfl, HB0.out⟩
  subst hk
  have t0 : (k != k) = false := by simp
  replace HE := Lib.hid ((thn_zero _).symm.trans ((congrArg (fun x => thn x _) (icmp_self _).symm).trans HE.out))
  have k1 : w0.cell? ⟨w.heap.size, 1, none⟩ = some (.int .i64 i) := HX1.out.blk.cell 1
  have l1 : w0.cell? ⟨w.heap.size + 1, 1, none⟩ = some (.int .i64 i') := HX2.out.blk.cell 1
  by_cases hi : i = i'
  rotate_left
  · have t1 : (i != i') = true := by simpa using hi
    have HR : Hid (sg1 (decide (i < i')) = C) := by
      have := HE.out
      rw [thn_ne (icmp_ne hi)] at this
      rw [← this]; exact sg1_int hi
    go_wp2_with fail
    refine (c_sign _ _).mono ?_; rintro e w1 ⟨rfl, rfl⟩
    go_wp2_with fail
    go_ret
    exact ⟨by rw [← HR.out]; rfl, HB0.out⟩
  subst hi
  have t1 : (i != i) = false := by simp
  replace HE := Lib.hid ((thn_zero _).symm.trans ((congrArg (fun x => thn x _) (icmp_self _).symm).trans HE.out))
  have k2 : w0.cell? ⟨w.heap.size, 2, none⟩ = some (.float .f64 f) := HX1.out.blk.cell 2
  have l2 : w0.cell? ⟨w.heap.size + 1, 2, none⟩ = some (.float .f64 f') := HX2.out.blk.cell 2
  go_wp2_with fail
  refine (HCF.out _).mono ?_; rintro e w1 ⟨rfl, rfl⟩
  by_cases hf : F = 0
  rotate_left
  · have t2 : (F != 0) = true := by simpa using hf
    have HR : Hid (F = C) := by
      have := HE.out
      rw [thn_ne hf] at this
      exact this
    go_wp2_with fail
    go_ret
    exact ⟨by rw [← HR.out]; rfl, HB0.out⟩
  subst hf
  replace HE := Lib.hid ((thn_zero _).symm.trans HE.out)
  have k3 : w0.cell? ⟨w.heap.size, 3, none⟩ = some (.string t) := HX1.out.blk.cell 3
  have l3 : w0.cell? ⟨w.heap.size + 1, 3, none⟩ = some (.string t') := HX2.out.blk.cell 3
  go_wp2_with fail
  refine (HCT.out _).mono ?_; rintro e w1 ⟨rfl, rfl⟩
  by_cases hf : G = 0
  rotate_left
  · have t2 : (G != 0) = true := by simpa using hf
    have HR : Hid (G = C) := by
      have := HE.out
      rw [thn_ne hf] at this
      exact this
    go_wp2_with fail
    go_ret
    exact ⟨by rw [← HR.out]; rfl, HB0.out⟩
  subst hf
  replace HE := Lib.hid ((thn_zero _).symm.trans HE.out)
  have k4 : w1.cell? ⟨w.heap.size, 4, none⟩ = some (.slice A1 its.length c1) := HX1.out.blk.cell 4
  have l4 : w1.cell? ⟨w.heap.size + 1, 4, none⟩ = some (.slice A2 its'.length c2) := HX2.out.blk.cell 4
  obtain ⟨M, hM⟩ : ∃ M : Nat, min (its.length : Int) (its'.length : Int) = (M : Int) := ⟨min its.length its'.length, by omega⟩
  go_wp2_with fail
  clear k0 l0 k1 l1 k2 l2 k3 l3 k4 l4 t0 t1 HCF HCT
  go_loopw [55] (fun vi wr => ∃ n : Nat, vi = .int .i64 n ∧ n ≤ M ∧ Hid (ordL (k == 7) (nms.drop n) (its.drop n) (nms'.drop n) (its'.drop n) = C) ∧ Hid (Below w.heap.size w wr) ∧ Hid (Box wr w.heap.size [.int .i64 k, .int .i64 i, .float .f64 f, .string t, .slice A1 its.length c1, .slice B1 nms.length d1]) ∧ Hid (Box wr (w.heap.size + 1) [.int .i64 k, .int .i64 i, .float .f64 f', .string t', .slice A2 its'.length c2, .slice B2 nms'.length d2])) (fun vi _ => M - (intOf vi).toNat)
  case atStart => exact ⟨0, rfl, Nat.zero_le _, HE, HB0, HX1, HX2⟩
  case round =>
    obtain ⟨n, rfl, hn, HEr, HBr, HY1, HY2⟩ := hrel
    clear HE HX1 HX2 HB0
    by_cases hlt : n < M
    · have hm1 : n < its.length := by omega
      have hm2 : n < its'.length := by omega
      have HST := Lib.hid ((ordL_step (m := k == 7) (n := nms) (n' := nms') hm1 hm2).symm.trans HEr.out)
      obtain ⟨b1, o1, hA1, hbl1, hr1⟩ := HOP1.out (by omega)
      obtain ⟨b2, o2, hA2, hbl2, hr2⟩ := HOP2.out (by omega)
      subst hA1 hA2
      have d1' : (n : Int) < (its.length : Int) := by omega
      have d2' : (n : Int) < (its'.length : Int) := by omega
      have d3' : (n : Int) < (M : Int) := by omega
      -- from the items on
      have k0 : wr.cell? ⟨w.heap.size, 0, none⟩ = some (.int .i64 k) := HY1.out.blk.cell 0
      have l0 : wr.cell? ⟨w.heap.size + 1, 0, none⟩ = some (.int .i64 k) := HY2.out.blk.cell 0
      by_cases h7 : k = 7
      · subst h7
        have hl1 : nms.length = its.length := HNM1.out rfl
        have hl2 : nms'.length = its'.length := HNM2.out rfl
        have HR1 := HN1.out.below HBr.out
        have HR2 := HN2.out.below HBr.out
        obtain ⟨b3, o3, hB1, hb31, hb32, hc3⟩ := HR1.form (by omega)
        obtain ⟨b4, o4, hB2, hb41, hb42, hc4⟩ := HR2.form (by omega)
        subst hB1 hB2
        have kn1 := hc3 n (by omega)
        have kn2 := hc4 n (by omega)
        rw [show (strs nms).getD n undef = .string (nms.getD n ⟨#[]⟩) by simp [List.getD, List.getElem?_eq_getElem (show n < nms.length by omega)]] at kn1
        rw [show (strs nms').getD n undef = .string (nms'.getD n ⟨#[]⟩) by simp [List.getD, List.getElem?_eq_getElem (show n < nms'.length by omega)]] at kn2
        have HCS := Lib.hid (fun W => c_sCmp (nms.getD n ⟨#[]⟩) (nms'.getD n ⟨#[]⟩) W)
        obtain ⟨G2, hG2⟩ : ∃ G2, scmp (nms.getD n ⟨#[]⟩) (nms'.getD n ⟨#[]⟩) = G2 := ⟨_, rfl⟩
        have HSX : Hid (thn G2 (thn (ord its[n] its'[n]) (ordL ((7 : Int) == 7) (nms.drop (n + 1)) (its.drop (n + 1)) (nms'.drop (n + 1)) (its'.drop (n + 1)))) = C) := by
          have := HST.out
          rw [← hG2]
          exact this
        rw [hG2] at HCS
        replace HST := HSX
        obtain ⟨sx, hsx⟩ : ∃ s, nms.getD n ⟨#[]⟩ = s := ⟨_, rfl⟩
        obtain ⟨sy, hsy⟩ : ∃ s, nms'.getD n ⟨#[]⟩ = s := ⟨_, rfl⟩
        rw [hsx] at kn1 HCS
        rw [hsy] at kn2 HCS
        have k5 : wr.cell? ⟨w.heap.size, 5, none⟩ = some (.slice (some ⟨b3, o3, none⟩) nms.length d1) := HY1.out.blk.cell 5
        have l5 : wr.cell? ⟨w.heap.size + 1, 5, none⟩ = some (.slice (some ⟨b4, o4, none⟩) nms'.length d2) := HY2.out.blk.cell 5
        have d4' : (n : Int) < (nms.length : Int) := by omega
        have d5' : (n : Int) < (nms'.length : Int) := by omega
        clear hG2 hsx hsy hl1 hl2 HR1 HR2 hc3 hc4 hb31 hb32 hb41 hb42
        go_wp2_with fail
        go_quiet ((go_at_call 88; exact Calls.quiet_of_same (HCS.out _)))
        have HBs := Lib.hid (below_drewN HBr.out nq)
        have HS1 := Lib.hid (HY1.out.drewN nq)
        have HS2 := Lib.hid (HY2.out.drewN nq)
        generalize wr.drewN nq = ws at *
        clear kn1 kn2 k5 l5 k0 l0 HCS d4' d5'
        by_cases hG0 : G2 = 0
        · subst hG0
          replace HST := Lib.hid ((thn_zero _).symm.trans HST.out)
          go_wp2_with fail
          obtain ⟨cx, hvx, hcx⟩ := hr1 ws HBs.out n hm1
          obtain ⟨cy, hvy, hcy⟩ := hr2 ws HBs.out n hm2
          obtain ⟨x0, x1, x2, x3, x4, x5, hx⟩ := six_list hvx.six.1
          obtain ⟨y0, y1, y2, y3, y4, y5, hy⟩ := six_list hvy.six.1
          subst hx hy
          have hsz := HBs.out.size
          have hz1 := HS1.out.lt
          have hz2 := HS2.out.lt
          have HCA : Hid (∀ V, Below ws.heap.size ws V → V.cell? ⟨w.heap.size, 4, none⟩ = some (.slice (some ⟨b1, o1, none⟩) its.length c1) ∧ V.cell? ⟨w.heap.size + 1, 4, none⟩ = some (.slice (some ⟨b2, o2, none⟩) its'.length c2) ∧ V.cell? ⟨b1, o1 + n * 6, none⟩ = some x0 ∧ V.cell? ⟨b1, o1 + n * 6 + 1, none⟩ = some x1 ∧ V.cell? ⟨b1, o1 + n * 6 + 2, none⟩ = some x2 ∧ V.cell? ⟨b1, o1 + n * 6 + 3, none⟩ = some x3 ∧ V.cell? ⟨b1, o1 + n * 6 + 4, none⟩ = some x4 ∧ V.cell? ⟨b1, o1 + n * 6 + 5, none⟩ = some x5 ∧ V.cell? ⟨b2, o2 + n * 6, none⟩ = some y0 ∧ V.cell? ⟨b2, o2 + n * 6 + 1, none⟩ = some y1 ∧ V.cell? ⟨b2, o2 + n * 6 + 2, none⟩ = some y2 ∧ V.cell? ⟨b2, o2 + n * 6 + 3, none⟩ = some y3 ∧ V.cell? ⟨b2, o2 + n * 6 + 4, none⟩ = some y4 ∧ V.cell? ⟨b2, o2 + n * 6 + 5, none⟩ = some y5) := fun V hbW => ⟨((hbW.cell (p := ⟨w.heap.size, 4, none⟩) (by simp only; omega)).trans (HS1.out.blk.cell 4)), ((hbW.cell (p := ⟨w.heap.size + 1, 4, none⟩) (by simp only; omega)).trans (HS2.out.blk.cell 4)), ((hbW.cell (p := ⟨b1, o1 + n * 6, none⟩) (by simp only; omega)).trans (hcx 0 _ rfl)), ((hbW.cell (p := ⟨b1, o1 + n * 6 + 1, none⟩) (by simp only; omega)).trans (hcx 1 _ rfl)), ((hbW.cell (p := ⟨b1, o1 + n * 6 + 2, none⟩) (by simp only; omega)).trans (hcx 2 _ rfl)), ((hbW.cell (p := ⟨b1, o1 + n * 6 + 3, none⟩) (by simp only; omega)).trans (hcx 3 _ rfl)), ((hbW.cell (p := ⟨b1, o1 + n * 6 + 4, none⟩) (by simp only; omega)).trans (hcx 4 _ rfl)), ((hbW.cell (p := ⟨b1, o1 + n * 6 + 5, none⟩) (by simp only; omega)).trans (hcx 5 _ rfl)), ((hbW.cell (p := ⟨b2, o2 + n * 6, none⟩) (by simp only; omega)).trans (hcy 0 _ rfl)), ((hbW.cell (p := ⟨b2, o2 + n * 6 + 1, none⟩) (by simp only; omega)).trans (hcy 1 _ rfl)), ((hbW.cell (p := ⟨b2, o2 + n * 6 + 2, none⟩) (by simp only; omega)).trans (hcy 2 _ rfl)), ((hbW.cell (p := ⟨b2, o2 + n * 6 + 3, none⟩) (by simp only; omega)).trans (hcy 3 _ rfl)), ((hbW.cell (p := ⟨b2, o2 + n * 6 + 4, none⟩) (by simp only; omega)).trans (hcy 4 _ rfl)), ((hbW.cell (p := ⟨b2, o2 + n * 6 + 5, none⟩) (by simp only; omega)).trans (hcy 5 _ rfl))⟩
          have HVX := Lib.hid hvx
          have HVY := Lib.hid hvy
          obtain ⟨O, hO⟩ : ∃ O, ord its[n] its'[n] = O := ⟨_, rfl⟩
          have HIHn := Lib.hid (HIH.out n hm1 n hm2 [x0, x1, x2, x3, x4, x5] [y0, y1, y2, y3, y4, y5] ws.drew HVX.out.drew HVY.out.drew)
          rw [hO] at HIHn HST
          obtain ⟨p0, p1, p2, p3, p4, p5, p6, p7, p8, p9, p10, p11, p12, p13⟩ := HCA.out ws (Below.refl _ _)
          clear hvx hvy hcx hcy hO HVX HVY
          go_region_held3 (fun V => V.cell? ⟨w.heap.size, 4, none⟩ = some (.slice (some ⟨b1, o1, none⟩) its.length c1) ∧ V.cell? ⟨w.heap.size + 1, 4, none⟩ = some (.slice (some ⟨b2, o2, none⟩) its'.length c2) ∧ V.cell? ⟨b1, o1 + n * 6, none⟩ = some x0 ∧ V.cell? ⟨b1, o1 + n * 6 + 1, none⟩ = some x1 ∧ V.cell? ⟨b1, o1 + n * 6 + 2, none⟩ = some x2 ∧ V.cell? ⟨b1, o1 + n * 6 + 3, none⟩ = some x3 ∧ V.cell? ⟨b1, o1 + n * 6 + 4, none⟩ = some x4 ∧ V.cell? ⟨b1, o1 + n * 6 + 5, none⟩ = some x5 ∧ V.cell? ⟨b2, o2 + n * 6, none⟩ = some y0 ∧ V.cell? ⟨b2, o2 + n * 6 + 1, none⟩ = some y1 ∧ V.cell? ⟨b2, o2 + n * 6 + 2, none⟩ = some y2 ∧ V.cell? ⟨b2, o2 + n * 6 + 3, none⟩ = some y3 ∧ V.cell? ⟨b2, o2 + n * 6 + 4, none⟩ = some y4 ∧ V.cell? ⟨b2, o2 + n * 6 + 5, none⟩ = some y5) (first | go_keep | (refine ⟨?_, ?_, ?_, ?_, ?_, ?_, ?_, ?_, ?_, ?_, ?_, ?_, ?_, ?_⟩ <;> assumption)) ((go_at_call 62; refine (HIHn.out).mono ?_; rintro e w5 ⟨rfl, hb5⟩; have HB5 : Hid (Below w.heap.size w w5) := HBs.out.trans ((below_undrew hb5).mono HBs.out.size); have HZ1 : Hid (Box w5 w.heap.size _) := Box.step (Box.drew HS1.out) hb5; have HZ2 : Hid (Box w5 (w.heap.size + 1) _) := Box.step (Box.drew HS2.out) hb5; obtain ⟨p0, p1, p2, p3, p4, p5, p6, p7, p8, p9, p10, p11, p12, p13⟩ := HCA.out w5 (below_undrew hb5); clear hb5))
          rename _ ∧ _ => hh
          clear hh
          clear p0 p1 p2 p3 p4 p5 p6 p7 p8 p9 p10 p11 p12 p13 HCA HIHn
          by_cases hO0 : O = 0
          · subst hO0
            replace HST := Lib.hid ((thn_zero _).symm.trans HST.out)
            go_wp2_with fail
            go_roundw
            case rel => exact ⟨n + 1, by go_num, hlt, HST, HB5, HZ1, HZ2⟩
            case measure => simp [intOf]; omega
          · have tO : (O != 0) = true := by simpa using hO0
            replace HST := Lib.hid ((thn_ne hO0 _).symm.trans HST.out)
            go_wp2_with fail
            go_ret
            exact ⟨by rw [← HST.out]; rfl, HB5.out⟩
        · have tO : (G2 != 0) = true := by simpa using hG0
          replace HST := Lib.hid ((thn_ne hG0 _).symm.trans HST.out)
          go_wp2_with fail
          go_ret
          exact ⟨by rw [← HST.out]; rfl, HBs.out⟩
      · have t7 : (k == 7) = false := by simpa using h7
        have HS2 : Hid (thn (ord its[n] its'[n]) (ordL (k == 7) (nms.drop (n + 1)) (its.drop (n + 1)) (nms'.drop (n + 1)) (its'.drop (n + 1))) = C) := by
          have := HST.out
          rw [t7] at this ⊢
          exact (thn_zero _).symm.trans this
        replace HST := HS2
        go_wp2_with fail
        obtain ⟨cx, hvx, hcx⟩ := hr1 wr HBr.out n hm1
        obtain ⟨cy, hvy, hcy⟩ := hr2 wr HBr.out n hm2
        obtain ⟨x0, x1, x2, x3, x4, x5, hx⟩ := six_list hvx.six.1
        obtain ⟨y0, y1, y2, y3, y4, y5, hy⟩ := six_list hvy.six.1
        subst hx hy
        have hsz := HBr.out.size
        have hz1 := HY1.out.lt
        have hz2 := HY2.out.lt
        have HCA : Hid (∀ V, Below wr.heap.size wr V → V.cell? ⟨w.heap.size, 4, none⟩ = some (.slice (some ⟨b1, o1, none⟩) its.length c1) ∧ V.cell? ⟨w.heap.size + 1, 4, none⟩ = some (.slice (some ⟨b2, o2, none⟩) its'.length c2) ∧ V.cell? ⟨b1, o1 + n * 6, none⟩ = some x0 ∧ V.cell? ⟨b1, o1 + n * 6 + 1, none⟩ = some x1 ∧ V.cell? ⟨b1, o1 + n * 6 + 2, none⟩ = some x2 ∧ V.cell? ⟨b1, o1 + n * 6 + 3, none⟩ = some x3 ∧ V.cell? ⟨b1, o1 + n * 6 + 4, none⟩ = some x4 ∧ V.cell? ⟨b1, o1 + n * 6 + 5, none⟩ = some x5 ∧ V.cell? ⟨b2, o2 + n * 6, none⟩ = some y0 ∧ V.cell? ⟨b2, o2 + n * 6 + 1, none⟩ = some y1 ∧ V.cell? ⟨b2, o2 + n * 6 + 2, none⟩ = some y2 ∧ V.cell? ⟨b2, o2 + n * 6 + 3, none⟩ = some y3 ∧ V.cell? ⟨b2, o2 + n * 6 + 4, none⟩ = some y4 ∧ V.cell? ⟨b2, o2 + n * 6 + 5, none⟩ = some y5) := fun V hbW => ⟨((hbW.cell (p := ⟨w.heap.size, 4, none⟩) (by simp only; omega)).trans (HY1.out.blk.cell 4)), ((hbW.cell (p := ⟨w.heap.size + 1, 4, none⟩) (by simp only; omega)).trans (HY2.out.blk.cell 4)), ((hbW.cell (p := ⟨b1, o1 + n * 6, none⟩) (by simp only; omega)).trans (hcx 0 _ rfl)), ((hbW.cell (p := ⟨b1, o1 + n * 6 + 1, none⟩) (by simp only; omega)).trans (hcx 1 _ rfl)), ((hbW.cell (p := ⟨b1, o1 + n * 6 + 2, none⟩) (by simp only; omega)).trans (hcx 2 _ rfl)), ((hbW.cell (p := ⟨b1, o1 + n * 6 + 3, none⟩) (by simp only; omega)).trans (hcx 3 _ rfl)), ((hbW.cell (p := ⟨b1, o1 + n * 6 + 4, none⟩) (by simp only; omega)).trans (hcx 4 _ rfl)), ((hbW.cell (p := ⟨b1, o1 + n * 6 + 5, none⟩) (by simp only; omega)).trans (hcx 5 _ rfl)), ((hbW.cell (p := ⟨b2, o2 + n * 6, none⟩) (by simp only; omega)).trans (hcy 0 _ rfl)), ((hbW.cell (p := ⟨b2, o2 + n * 6 + 1, none⟩) (by simp only; omega)).trans (hcy 1 _ rfl)), ((hbW.cell (p := ⟨b2, o2 + n * 6 + 2, none⟩) (by simp only; omega)).trans (hcy 2 _ rfl)), ((hbW.cell (p := ⟨b2, o2 + n * 6 + 3, none⟩) (by simp only; omega)).trans (hcy 3 _ rfl)), ((hbW.cell (p := ⟨b2, o2 + n * 6 + 4, none⟩) (by simp only; omega)).trans (hcy 4 _ rfl)), ((hbW.cell (p := ⟨b2, o2 + n * 6 + 5, none⟩) (by simp only; omega)).trans (hcy 5 _ rfl))⟩
        have HVX := Lib.hid hvx
        have HVY := Lib.hid hvy
        obtain ⟨O, hO⟩ : ∃ O, ord its[n] its'[n] = O := ⟨_, rfl⟩
        have HIHn := Lib.hid (HIH.out n hm1 n hm2 [x0, x1, x2, x3, x4, x5] [y0, y1, y2, y3, y4, y5] wr.drew HVX.out.drew HVY.out.drew)
        rw [hO] at HIHn HST
        obtain ⟨p0, p1, p2, p3, p4, p5, p6, p7, p8, p9, p10, p11, p12, p13⟩ := HCA.out wr (Below.refl _ _)
        clear hvx hvy hcx hcy hO HVX HVY
        go_region_held3 (fun V => V.cell? ⟨w.heap.size, 4, none⟩ = some (.slice (some ⟨b1, o1, none⟩) its.length c1) ∧ V.cell? ⟨w.heap.size + 1, 4, none⟩ = some (.slice (some ⟨b2, o2, none⟩) its'.length c2) ∧ V.cell? ⟨b1, o1 + n * 6, none⟩ = some x0 ∧ V.cell? ⟨b1, o1 + n * 6 + 1, none⟩ = some x1 ∧ V.cell? ⟨b1, o1 + n * 6 + 2, none⟩ = some x2 ∧ V.cell? ⟨b1, o1 + n * 6 + 3, none⟩ = some x3 ∧ V.cell? ⟨b1, o1 + n * 6 + 4, none⟩ = some x4 ∧ V.cell? ⟨b1, o1 + n * 6 + 5, none⟩ = some x5 ∧ V.cell? ⟨b2, o2 + n * 6, none⟩ = some y0 ∧ V.cell? ⟨b2, o2 + n * 6 + 1, none⟩ = some y1 ∧ V.cell? ⟨b2, o2 + n * 6 + 2, none⟩ = some y2 ∧ V.cell? ⟨b2, o2 + n * 6 + 3, none⟩ = some y3 ∧ V.cell? ⟨b2, o2 + n * 6 + 4, none⟩ = some y4 ∧ V.cell? ⟨b2, o2 + n * 6 + 5, none⟩ = some y5) (first | go_keep | (refine ⟨?_, ?_, ?_, ?_, ?_, ?_, ?_, ?_, ?_, ?_, ?_, ?_, ?_, ?_⟩ <;> assumption)) ((go_at_call 62; refine (HIHn.out).mono ?_; rintro e w5 ⟨rfl, hb5⟩; have HB5 : Hid (Below w.heap.size w w5) := HBr.out.trans ((below_undrew hb5).mono HBr.out.size); have HZ1 : Hid (Box w5 w.heap.size _) := Box.step (Box.drew HY1.out) hb5; have HZ2 : Hid (Box w5 (w.heap.size + 1) _) := Box.step (Box.drew HY2.out) hb5; obtain ⟨p0, p1, p2, p3, p4, p5, p6, p7, p8, p9, p10, p11, p12, p13⟩ := HCA.out w5 (below_undrew hb5); clear hb5))
        rename _ ∧ _ => hh
        clear hh
        clear p0 p1 p2 p3 p4 p5 p6 p7 p8 p9 p10 p11 p12 p13 HCA HIHn
        by_cases hO0 : O = 0
        · subst hO0
          replace HST := Lib.hid ((thn_zero _).symm.trans HST.out)
          go_wp2_with fail
          go_roundw
          case rel => exact ⟨n + 1, by go_num, hlt, HST, HB5, HZ1, HZ2⟩
          case measure => simp [intOf]; omega
        · have tO : (O != 0) = true := by simpa using hO0
          replace HST := Lib.hid ((thn_ne hO0 _).symm.trans HST.out)
          go_wp2_with fail
          go_ret
          exact ⟨by rw [← HST.out]; rfl, HB5.out⟩
    · have hnM : n = M := by omega
      subst hnM
      have d3' : ¬ (n : Int) < (n : Int) := by omega
      have k4 : wr.cell? ⟨w.heap.size, 4, none⟩ = some (.slice A1 its.length c1) := HY1.out.blk.cell 4
      have l4 : wr.cell? ⟨w.heap.size + 1, 4, none⟩ = some (.slice A2 its'.length c2) := HY2.out.blk.cell 4
      have HL : Hid (icmp its.length its'.length = C) := (ordL_last (i := n) (by omega) (by omega) (by omega)).symm.trans HEr.out
      by_cases he : its.length = its'.length
      · have t4 : ((its.length : Int) != (its'.length : Int)) = false := by simp [he]
        have HL0 : Hid (C = 0) := by
          have := HL.out
          rw [he, icmp_self] at this
          exact this.symm
        have he2 := Lib.hid he
        clear he
        go_wp2_with fail
        go_ret
        exact ⟨by rw [HL0.out]; rfl, HBr.out⟩
      · have t4 : ((its.length : Int) != (its'.length : Int)) = true := by simp; omega
        have HLI : Hid (sg1 (decide ((its.length : Int) < (its'.length : Int))) = C) := (sg1_int (by omega)).trans HL.out
        have HL0 : Hid (sg1 (decide (its.length < its'.length)) = C) := by
          show _ = _
          rw [← HLI.out]; simp only [Int.ofNat_lt]
        clear HLI
        go_wp2_with fail
        refine (c_sign _ _).mono ?_; rintro e w5 ⟨rfl, rfl⟩
        go_wp2_with fail
        go_ret
        exact ⟨by rw [← HL0.out]; rfl, HBr.out⟩
end Go.Proofs.YtacnoedhpamdmaaGreatDoor
