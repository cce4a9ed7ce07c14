/- Walk: the items of a map read out of bytes ((*value.pen).items). Conditions: as stated. -/
import Derived.Test.YtacnoedhpamdmaaGreatDoorZd
namespace Go.Proofs.YtacnoedhpamdmaaGreatDoor
open Go.RowKit
set_option linter.unusedVariables false
attribute [local go_sem ↓] Go.wp_at_zero Go.wp_at_succ

set_option maxRecDepth 100000 in
set_option maxHeartbeats 16000000 in
theorem c_items7 (xs : List Int) (A : Option Addr) (N c d : Nat) (hV : VC xs A N c d) (hx : Bts xs) (hN : N ≤ 1048576) (hNc : N ≤ c) (hc : c ≤ 9223372036854775807) (g gv a p : Nat) (D : Int) (hD : D + 1 = 65 - (d : Int)) (hD0 : 0 ≤ D) (hD1 : D ≤ 65) (w : World)
    (hB : Blk w g 97 (PnC A N c a p)) (hr : Reads w g 1 A N (u8s xs)) (hv : Blk w gv 30 (vkC 7 none 0 0 none 0 0)) (hgg : g < gv) (ha : a + 4 ≤ N) (hp : p ≤ 65536) :
    Calls Tryz.prog 96 #[.pointer (some ⟨g, 0, none⟩), .pointer (some ⟨gv, 0, none⟩), .int .i64 D] w (IPost w g gv A N c (decI (decV xs d) xs 7 (numL (sub xs a 4)) (a + 4) p [] [])) := by
  have hl : xs.length = N := by simpa using hr.1
  obtain ⟨i0, hi0, hz0, hz1, hz2⟩ := info_parts v_info88
  obtain ⟨s0, hs0, hsz0, hsz1, hsz2⟩ := info_parts s_info16
  have HC := Lib.hid (c_num g A N c a p xs w hB hr hx hN hNc hc ha)
  have hM : numL (sub xs a 4) < 4294967296 := by
    have := numL_lt _ (sub_bts hx a 4)
    rw [sub_len (by omega)] at this
    omega
  obtain ⟨R, hR⟩ : ∃ R, decI (decV xs d) xs 7 (numL (sub xs a 4)) (a + 4) p [] [] = R := ⟨_, rfl⟩
  rw [hR]
  have HR := Lib.hid hR
  have HVC := Lib.hid hV
  have HX := Lib.hid hx
  have HL := Lib.hid hl
  have HRD := Lib.hid hr
  have HV0 := Lib.hid hv
  have hgs : g < w.heap.size := hB.lt
  have hgvs : gv < w.heap.size := hv.lt
  have HDD := Lib.hid hD
  generalize numL (sub xs a 4) = M at *
  clear hB hr hv hx hl hR hV hD
  go_enter Tryz.func96, Tryz.ntmps96
  go_wp2_with fail
  refine (HC.out).mono ?_; rintro e w1 ⟨rfl, hb1, hg1⟩
  have HW1 : Hid (Row w w1 g gv 7 A N c (a + 4) p [] [] none 0 0 none 0 0 [] []) :=
    ⟨hb1, HV0.out.grown hg1 (by intro e; injection e with e; omega), World.ownsRow_nil _ _ _ _, World.ownsRow_nil _ _ _ _, Chs.nil _ _ _, Kept2.fst hg1 gv, hgs, hgvs, hgg⟩
  clear hb1 hg1 HC HV0
  go_wp2_with fail
  go_loopw [6] (fun vn wr => ∃ (m a p nI nN : Nat) (its : List Val) (nms : List ByteArray) (css : List (List Value)) (AI : Option Addr) (cI : Nat) (AN : Option Addr) (cN : Nat), vn = .int .i64 (m : Int) ∧ m < 4294967296 ∧ a ≤ N ∧ p ≤ 65536 ∧ nI ≤ a ∧ nN ≤ a ∧ Hid (its.length = nI ∧ nms.length = nN) ∧ Hid (decI (decV xs d) xs 7 m a p its nms = R) ∧
    Hid (Row w wr g gv 7 A N c a p nms css.flatten AI nI cI AN nN cN its css)) (fun vn _ => (intOf vn).toNat)
  case atStart => exact ⟨M, a + 4, p, 0, 0, [], [], [], none, 0, none, 0, rfl, hM, ha, hp, Nat.zero_le _, Nat.zero_le _, ⟨rfl, rfl⟩, HR, HW1⟩
  case round =>
    clear HR HW1 hM ha hp
    obtain ⟨m, a, p, nI, nN, its, nms, css, AI, cI, AN, cN, rfl, hm, ha, hp, hnI, hnN, HLN, HRr, HWr⟩ := hrel
    rcases Nat.eq_zero_or_pos m with hm0 | hm0
    · subst hm0
      have HRF : Hid (R = .ok (.mk 7 0 0 ⟨#[]⟩ its nms) a p) := HRr.out.symm.trans (by rw [decI])
      go_wp2_with fail
      rw [HRF.out]
      go_end0
      obtain ⟨l1, l2⟩ := HLN.out
      subst l1 l2
      exact ⟨rfl, _, HWr.out.bv, fresh_of _ HWr.out.oi HWr.out.on HWr.out.ch (Nat.le_refl _), HWr.out.bk, HWr.out.kp⟩
    obtain ⟨q, rfl⟩ : ∃ q, m = q + 1 := ⟨m - 1, by omega⟩
    have v0 : wr.cell? ⟨gv, 0, none⟩ = some (.int .i64 7) := HWr.out.bv.cell 0
    by_cases h1 : N < a + 4
    · have HRF : Hid (R = .bad a 3) := by
        show _ = _
        rw [← HRr.out, decI_7]
        unfold nameD
        rw [HL.out, if_pos h1]
      go_wp2_with fail
      refine (c_num_bad g A N c a p wr HWr.out.bk ha hN h1).mono ?_; rintro e w2 ⟨rfl, hg2⟩
      exact ⟨rfl, by rw [HRF.out]; exact ⟨rfl, Kept2.trans HWr.out.kp (Kept2.fst hg2 gv)⟩⟩
    have hM : numL (sub xs a 4) < 4294967296 := by
      have := numL_lt _ (sub_bts HX.out a 4)
      rw [sub_len (by have := HL.out; omega)] at this
      omega
    have HRDr := Lib.hid (HWr.out.kp.reads HRD.out hgg hgs)
    obtain ⟨M, hMe⟩ : ∃ M, numL (sub xs a 4) = M := ⟨_, rfl⟩
    rw [hMe] at hM
    have HME := Lib.hid hMe
    clear hMe
    go_wp2_with fail
    refine (c_num g A N c a p xs wr HWr.out.bk HRDr.out HX.out hN hNc hc (by omega)).mono ?_; rintro e w2 ⟨rfl, hb2, hg2⟩
    rw [HME.out]
    have HW2 := Lib.hid (HWr.out.pen hg2 hb2)
    have HRD2 := Lib.hid (HW2.out.kp.reads HRD.out hgg hgs)
    have p1 : w2.cell? ⟨g, 1, none⟩ = some (.int .i64 ((a + 4 : Nat) : Int)) := HW2.out.bk.cell 1
    clear hb2 hg2 HWr HRDr v0
    by_cases h2 : N < a + 4 + M
    · have HRF : Hid (R = .bad (a + 4) 3) := by
        show _ = _
        rw [← HRr.out, decI_7]
        unfold nameD
        rw [HL.out, if_neg h1, HME.out, if_pos h2]
      go_wp2_with fail
      refine (c_take_bad g A N c (a + 4) p M w2 HW2.out.bk (by omega) hN h2 hM).mono ?_; rintro e w3 ⟨rfl, hg3⟩
      exact ⟨rfl, by rw [HRF.out]; exact ⟨rfl, Kept2.trans HW2.out.kp (Kept2.fst hg3 gv)⟩⟩
    go_wp2_with fail
    refine (c_take g A N c (a + 4) p M xs w2 HW2.out.bk HRD2.out hN hNc hc (by omega)).mono ?_; rintro e w3 ⟨A4, c4, rfl, hc4, hr4, hb4, hg4⟩
    have hcv := run_conv (P := Tryz.prog) w3 23 5 9 Tryz.underlying23 Tryz.underlying5 Tryz.underlying9 (c := c4) hr4
    obtain ⟨s, hs⟩ : ∃ s, strL (sub xs (a + 4) M) = s := ⟨_, rfl⟩
    rw [show strOfNums (sub xs (a + 4) M) = s from hs] at hcv
    have HSE := Lib.hid hs
    have HW3' := Lib.hid (HW2.out.pen hg4 hb4)
    clear hs hr4 hb4 hg4 HW2 HRD2 p1
    have v5 : w3.cell? ⟨gv, 5, none⟩ = some (.slice AN nN cN) := HW3'.out.bv.cell 5
    have HND : Hid (nameD xs a nms = if nms ≠ [] ∧ s = nms.getLastD ⟨#[]⟩ then .bad (a + 4) 232 else if nms ≠ [] ∧ Op.bytesLess s.toList (nms.getLastD ⟨#[]⟩).toList = true then .bad (a + 4) 233 else .ok s (a + 4 + M)) := by
      show _ = _
      unfold nameD
      rw [HL.out, if_neg h1, HME.out, if_neg h2, HSE.out]
    have HN2 : Hid (nms.length = nN) := HLN.out.2
    obtain ⟨last, hlast⟩ : ∃ last, nms.getLastD ⟨#[]⟩ = last := ⟨_, rfl⟩
    rw [hlast] at HND
    obtain ⟨T8, hT8⟩ : ∃ T, (decide (0 < nN) && (s.toList == last.toList)) = T := ⟨_, rfl⟩
    obtain ⟨T10, hT10⟩ : ∃ T, (decide (0 < nN) && Op.bytesLess s.toList last.toList) = T := ⟨_, rfl⟩
    have hnn : nms ≠ [] ↔ 0 < nN := by
      have := HN2.out
      constructor
      · intro h
        rcases Nat.eq_zero_or_pos nN with h0 | h0
        · rw [h0] at this; exact absurd (List.eq_nil_of_length_eq_zero this) h
        · exact h0
      · rintro h rfl
        simp at this
        omega
    have hst : (s.toList == last.toList) = true ↔ s = last := by
      rw [beq_iff_eq]
      constructor
      · intro e
        rw [ByteArray.toList_eq, ByteArray.toList_eq] at e
        cases s; cases last
        simp only at e
        rw [Array.toList_inj.1 e]
      · rintro rfl; rfl
    have HRR := Lib.hid (decI_7.symm.trans HRr.out)
    have HRF1 : Hid (T8 = true → R = .bad (a + 4) 232) := fun h => by
      rw [← hT8, Bool.and_eq_true, decide_eq_true_eq, hst] at h
      have h1 := HRR.out
      rw [HND.out, if_pos ⟨hnn.2 h.1, h.2⟩] at h1
      exact h1.symm
    have hf8 : T8 = false → ¬ (nms ≠ [] ∧ s = last) := fun h h2 => by
      rw [← hT8, Bool.and_eq_false_iff] at h
      rcases h with h | h
      · rw [decide_eq_false_iff_not] at h; exact h (hnn.1 h2.1)
      · rw [hst.2 h2.2] at h; exact Bool.noConfusion h
    have HRF2 : Hid (T8 = false → T10 = true → R = .bad (a + 4) 233) := fun h8 h => by
      rw [← hT10, Bool.and_eq_true, decide_eq_true_eq] at h
      have h1 := HRR.out
      rw [HND.out, if_neg (hf8 h8), if_pos ⟨hnn.2 h.1, h.2⟩] at h1
      exact h1.symm
    have HOKN : Hid (T8 = false → T10 = false → nameD xs a nms = .ok s (a + 4 + M)) := fun h8 h => by
      rw [HND.out, if_neg (hf8 h8), if_neg]
      rintro ⟨h1, h2⟩
      rw [← hT10, h2, decide_eq_true (hnn.1 h1)] at h
      exact Bool.noConfusion h
    have HLS : Hid (∀ r rn, nN = r + 1 → AN = some ⟨rn, 0, none⟩ → w3.cell? ⟨rn, r, none⟩ = some (.string last)) := fun r rn e1 e2 => by
      subst e1 e2
      have h := World.ownsRow.cellAt HW3'.out.on r (by omega)
      have hl2 : nms.length = r + 1 := HN2.out
      rw [h, List.getElem?_map]
      have : nms[r]? = some last := by
        rw [← hlast, List.getLastD_eq_getLast?, List.getLast?_eq_getElem?, hl2, Nat.add_sub_cancel, List.getElem?_eq_getElem (by omega)]
        rfl
      rw [this]; rfl
    have HF1 : Hid (∀ r rn, nN = r + 1 → AN = some ⟨rn, 0, none⟩ → True) := fun _ _ _ _ => trivial
    have HT8 := Lib.hid hT8
    have HT10 := Lib.hid hT10
    have hAN : 0 < nN → ∃ rn, AN = some ⟨rn, 0, none⟩ := fun h => own_form1 HW3'.out.on h
    have HAN := Lib.hid hAN
    clear hT8 hT10 hnn hst hf8 hlast hAN HND HRr HF1
    go_upto_region 8 with fail
    clear hcv
    go_cut [50] (fun vt wx => vt = .bool T8 ∧ w3 = wx)
    case first =>
      rcases Nat.eq_zero_or_pos nN with hn0 | hn0
      · subst hn0
        have HTF : Hid (T8 = false) := HT8.out.symm.trans (by simp)
        have t0 : ¬ (0 : Int) < ((0 : Nat) : Int) := by omega
        go_wp2_with fail
        go_meet
        exact ⟨by rw [HTF.out], rfl⟩
      · obtain ⟨r, rfl⟩ : ∃ r, nN = r + 1 := ⟨nN - 1, by omega⟩
        obtain ⟨rn, hrn⟩ := HAN.out (by omega)
        subst hrn
        have kl := HLS.out r rn rfl rfl
        have HTF : Hid (T8 = (s.toList == last.toList)) := HT8.out.symm.trans (by simp)
        have t0 : (0 : Int) < ((r + 1 : Nat) : Int) := by omega
        have ti : ((r + 1 : Nat) : Int) - 1 = (r : Int) := by omega
        have tj : (r : Int) < ((r + 1 : Nat) : Int) := by omega
        go_wp2_with fail
        go_meet
        exact ⟨by rw [HTF.out], rfl⟩
    case rest =>
      obtain ⟨rfl, rfl⟩ := hcut
      cases T8 with
      | true =>
        have HR1 := Lib.hid (HRF1.out rfl)
        clear HRF1 HRF2 HOKN HT8 HT10
        go_wp2_with fail
        refine (c_pfail g (a + 4) 232 _).mono ?_; rintro e w4 ⟨rfl, rfl⟩
        exact ⟨rfl, by rw [HR1.out]; exact ⟨rfl, HW3'.out.kp⟩⟩
      | false =>
      clear HRF1 HT8
      go_upto_region 10 with fail
      go_cut [67] (fun vt wx => vt = .bool T10 ∧ w3 = wx)
      case first =>
        rcases Nat.eq_zero_or_pos nN with hn0 | hn0
        · subst hn0
          have HTF : Hid (T10 = false) := HT10.out.symm.trans (by simp)
          have t0 : ¬ (0 : Int) < ((0 : Nat) : Int) := by omega
          go_wp2_with fail
          go_meet
          exact ⟨by rw [HTF.out], rfl⟩
        · obtain ⟨r, rfl⟩ : ∃ r, nN = r + 1 := ⟨nN - 1, by omega⟩
          obtain ⟨rn, hrn⟩ := HAN.out (by omega)
          subst hrn
          have kl := HLS.out r rn rfl rfl
          have HTF : Hid (T10 = Op.bytesLess s.toList last.toList) := HT10.out.symm.trans (by simp)
          have t0 : (0 : Int) < ((r + 1 : Nat) : Int) := by omega
          have ti : ((r + 1 : Nat) : Int) - 1 = (r : Int) := by omega
          have tj : (r : Int) < ((r + 1 : Nat) : Int) := by omega
          go_wp2_with fail
          go_meet
          exact ⟨by rw [HTF.out], rfl⟩
      case rest =>
        obtain ⟨rfl, rfl⟩ := hcut
        cases T10 with
        | true =>
          have HR1 := Lib.hid (HRF2.out rfl rfl)
          clear HRF2 HOKN HT10
          go_wp2_with fail
          refine (c_pfail g (a + 4) 233 _).mono ?_; rintro e w4 ⟨rfl, rfl⟩
          exact ⟨rfl, by rw [HR1.out]; exact ⟨rfl, HW3'.out.kp⟩⟩
        | false =>
        have HNM := Lib.hid (HOKN.out rfl rfl)
        clear HRF2 HOKN HT10 HLS HAN
        have HRT : Hid ((match decV xs d (a + 4 + M) p with | .bad a e => DR.bad a e | .ok v a' p' => decI (decV xs d) xs 7 q a' p' (its ++ [v]) (nms ++ [s])) = R) := by
          have h1 := HRR.out
          rw [HNM.out] at h1
          exact h1
        clear HNM HRR
        have HWa := Lib.hid (HW3'.out.alloc (.cells #[.string s] 9))
        have HRs := Lib.hid (reads_one w3 9 (.string s))
        go_upto_region 13 with (at_builtin; refine wpList_append_any _ rfl (.tmp 75) (.tmp 77) 28 rfl w.heap.size 9 s0 _ 1 16 Tryz.underlying28 hs0 hsz0 hsz1 hsz2 rfl (by omega) (.slice AN nN cN) nN (strs nms) rfl HWa.out.on _ (some ⟨w3.heap.size, 0, none⟩) 1 1 [.string s] rfl HRs.out (by simp [Value.oneCell']) (by simp only [maxLen]; omega) (by omega) HWa.out.kp.size ?_; intro v6 w6 hown6 hg6 hbk6; obtain ⟨A6, cN3, hv6⟩ := own_slice6 hown6; subst hv6; obtain ⟨rN, hrN⟩ := own_form1 hown6 (by omega); subst hrN; have HV6 := Lib.hid (HWa.out.gvN hg6); have c6' : w6.cell? ⟨gv, 5, none⟩ = some (.slice AN nN cN) := HV6.out.cell 5; have f6 : w6.frozen? ⟨gv, 5, none⟩ = false := HV6.out.frozen 5; have HW3 := Lib.hid (Row.name (nms2 := nms ++ [s]) HWa.out (by rw [show strs (nms ++ [s]) = strs nms ++ [.string s] from List.map_append]; exact hown6) hg6 hbk6); clear hown6 hg6 hbk6)
        clear c6' f6 HV6 HWa HRs HW3' v5
        generalize w6.setCell ⟨gv, 5, none⟩ (.slice (some ⟨rN, 0, none⟩) (nN + 1) cN3) = w7 at *
        have ha3 : a + 4 + M ≤ N := by omega
        have v0 : w7.cell? ⟨gv, 0, none⟩ = some (.int .i64 7) := HW3.out.bv.cell 0
        have hNL : (nms ++ [s]).length = nN + 1 := by rw [List.length_append, HLN.out.2]; rfl
        have v4 : w7.cell? ⟨gv, 4, none⟩ = some (.slice AI nI cI) := HW3.out.bv.cell 4
        have HCV : Hid (∀ W', Below w7.heap.size w7 W' → Calls Tryz.prog 65 #[.pointer (some ⟨g, 0, none⟩), .int .i64 (D + 1)] W' (DPost W' g A N c (decV xs d (a + 4 + M) p))) := fun W' hb =>
          HVC.out g (a + 4 + M) p W' (D + 1) HDD.out (HW3.out.bk.below hb HW3.out.bk.lt) ((HW3.out.kp.reads HRD.out hgg hgs).below (hb.mono (Nat.le_of_lt HW3.out.bk.lt))) ha3 hp
        have hg3 : g < w7.heap.size := HW3.out.bk.lt
        have hgv3 : gv < w7.heap.size := HW3.out.bv.lt
        have hwr : IntKind.i64.wrap (D + 1) = D + 1 := IntWalk.i64_in _ (by omega)
        cases hdv : decV xs d (a + 4 + M) p with
        | bad a4 e4 =>
          rw [hdv] at HCV
          have HRF : Hid (R = .bad a4 e4) := HRT.out.symm.trans (by rw [hdv])
          go_wp2_with fail
          refine wp_region_any (by kernel_rfl) ?_
          try (change wpAny _ _ _ _ _ _ _ (World.drew _))
          refine wpAny_take (i := 0) (v := .pointer (some ⟨gv, 0, none⟩)) (by rw [List.getElem?_toArray]; exact rfl) (by kernel_rfl) (by kernel_rfl) (by kernel_rfl) (by exact fun _ _ _ h => h) (Or.inl ⟨by rfl, fun w => by go_simp⟩) ?_
          try simp only [Act.put, List.setIfInBounds_toArray, List.set_cons_zero, List.set_cons_succ]
          refine wpAny_take (i := 1) (v := .pointer (some ⟨gv, 0, none⟩)) (by rw [List.getElem?_toArray]; exact rfl) (by kernel_rfl) (by kernel_rfl) (by kernel_rfl) (by exact fun _ _ _ h => h) (Or.inl ⟨by rfl, fun w => by go_simp⟩) ?_
          try simp only [Act.put, List.setIfInBounds_toArray, List.set_cons_zero, List.set_cons_succ]
          refine wpAny_take (i := 2) (v := .pointer (some ⟨gv, 4, none⟩)) (by rw [List.getElem?_toArray]; exact rfl) (by kernel_rfl) (by kernel_rfl) (by kernel_rfl) (by exact fun _ _ _ h => h) (Or.inl ⟨by rfl, fun w => by go_simp⟩) ?_
          try simp only [Act.put, List.setIfInBounds_toArray, List.set_cons_zero, List.set_cons_succ]
          refine wpAny_take (i := 4) (v := .pointer (some ⟨g, 0, none⟩)) (by rw [List.getElem?_toArray]; exact rfl) (by kernel_rfl) (by kernel_rfl) (by kernel_rfl) (by exact fun _ _ _ h => h) (Or.inl ⟨by rfl, fun w => by go_simp⟩) ?_
          try simp only [Act.put, List.setIfInBounds_toArray, List.set_cons_zero, List.set_cons_succ]
          refine wpAny_take (i := 5) (v := .int .i64 D) (by rw [List.getElem?_toArray]; exact rfl) (by kernel_rfl) (by kernel_rfl) (by kernel_rfl) (by exact fun _ _ _ h => h) (Or.inl ⟨by rfl, fun w => by go_simp⟩) ?_
          try simp only [Act.put, List.setIfInBounds_toArray, List.set_cons_zero, List.set_cons_succ]
          refine wpAny_take (i := 6) (v := .int .i64 (D + 1)) (by rw [List.getElem?_toArray]; exact rfl) (by kernel_rfl) (by kernel_rfl) (by kernel_rfl) (by exact fun _ _ _ h => h) (Or.inl ⟨by rfl, fun w => by go_simp⟩) ?_
          try simp only [Act.put, List.setIfInBounds_toArray, List.set_cons_zero, List.set_cons_succ]
          refine wpAny_ready (rs := [3, 7, 9]) (by kernel_rfl) (by simp) ?_
          intro jj hjj
          rcases List.mem_cons.1 hjj with rfl | hjj
          · refine wpOp_step (by rw [List.getElem?_toArray]; exact rfl) (fun K hK => ?_)
            go_simp
            refine hK _ _ ?_
            clear hK K
            try simp only [Act.put, List.setIfInBounds_toArray, List.set_cons_zero, List.set_cons_succ]
            refine wpAny_take (i := 8) (v := .int .i64 (nI : Int)) (by rw [List.getElem?_toArray]; exact rfl) (by kernel_rfl) (by kernel_rfl) (by kernel_rfl) (by exact fun _ _ _ h => h) (Or.inl ⟨by rfl, fun w => by go_simp⟩) ?_
            try simp only [Act.put, List.setIfInBounds_toArray, List.set_cons_zero, List.set_cons_succ]
            refine wpAny_ready (rs := [7, 9]) (by kernel_rfl) (by simp) ?_
            intro jj hjj
            rcases List.mem_cons.1 hjj with rfl | hjj
            · refine wpOp_step (by rw [List.getElem?_toArray]; exact rfl) (fun K hK => ?_)
              go_simp
              refine (HCV.out _ ((Below.refl _ _).drew)).mono ?_
              rintro e w5 ⟨rfl, hg5⟩
              exact ⟨rfl, by rw [HRF.out]; exact ⟨rfl, Kept2.trans HW3.out.kp ⟨hg5.os, hg5.tape, hg5.output, Nat.le_trans (by simp) hg5.size, fun i hi h1 h2 => by first | exact hg5.block i hi (fun e => h1 (by injection e)) | exact (hg5.block i (by simp; omega) (fun e => h1 (by injection e))).trans (Below.heap_alloc _ _ i hi)⟩⟩⟩
            rcases List.mem_cons.1 hjj with rfl | hjj
            · refine wpOp_step (by rw [List.getElem?_toArray]; exact rfl) (fun K hK => ?_)
              go_simp
              refine hK _ _ ?_
              clear hK K
              try simp only [Act.put, List.setIfInBounds_toArray, List.set_cons_zero, List.set_cons_succ]
              refine wpAny_ready (rs := [7]) (by kernel_rfl) (by simp) ?_
              intro jj hjj
              rcases List.mem_cons.1 hjj with rfl | hjj
              · refine wpOp_step (by rw [List.getElem?_toArray]; exact rfl) (fun K hK => ?_)
                go_simp
                refine (HCV.out _ (((Below.refl _ _).drew).alloc (Nat.le_refl _) _)).mono ?_
                rintro e w5 ⟨rfl, hg5⟩
                exact ⟨rfl, by rw [HRF.out]; exact ⟨rfl, Kept2.trans HW3.out.kp ⟨hg5.os, hg5.tape, hg5.output, Nat.le_trans (by simp) hg5.size, fun i hi h1 h2 => by first | exact hg5.block i hi (fun e => h1 (by injection e)) | exact (hg5.block i (by simp; omega) (fun e => h1 (by injection e))).trans (Below.heap_alloc _ _ i hi)⟩⟩⟩
              · cases hjj
            · cases hjj
          rcases List.mem_cons.1 hjj with rfl | hjj
          · refine wpOp_step (by rw [List.getElem?_toArray]; exact rfl) (fun K hK => ?_)
            go_simp
            refine (HCV.out _ ((Below.refl _ _).drew)).mono ?_
            rintro e w5 ⟨rfl, hg5⟩
            exact ⟨rfl, by rw [HRF.out]; exact ⟨rfl, Kept2.trans HW3.out.kp ⟨hg5.os, hg5.tape, hg5.output, Nat.le_trans (by simp) hg5.size, fun i hi h1 h2 => by first | exact hg5.block i hi (fun e => h1 (by injection e)) | exact (hg5.block i (by simp; omega) (fun e => h1 (by injection e))).trans (Below.heap_alloc _ _ i hi)⟩⟩⟩
          rcases List.mem_cons.1 hjj with rfl | hjj
          · refine wpOp_step (by rw [List.getElem?_toArray]; exact rfl) (fun K hK => ?_)
            go_simp
            refine hK _ _ ?_
            clear hK K
            try simp only [Act.put, List.setIfInBounds_toArray, List.set_cons_zero, List.set_cons_succ]
            refine wpAny_ready (rs := [3, 7]) (by kernel_rfl) (by simp) ?_
            intro jj hjj
            rcases List.mem_cons.1 hjj with rfl | hjj
            · refine wpOp_step (by rw [List.getElem?_toArray]; exact rfl) (fun K hK => ?_)
              go_simp
              refine hK _ _ ?_
              clear hK K
              try simp only [Act.put, List.setIfInBounds_toArray, List.set_cons_zero, List.set_cons_succ]
              refine wpAny_take (i := 8) (v := .int .i64 (nI : Int)) (by rw [List.getElem?_toArray]; exact rfl) (by kernel_rfl) (by kernel_rfl) (by kernel_rfl) (by exact fun _ _ _ h => h) (Or.inl ⟨by rfl, fun w => by go_simp⟩) ?_
              try simp only [Act.put, List.setIfInBounds_toArray, List.set_cons_zero, List.set_cons_succ]
              refine wpAny_ready (rs := [7]) (by kernel_rfl) (by simp) ?_
              intro jj hjj
              rcases List.mem_cons.1 hjj with rfl | hjj
              · refine wpOp_step (by rw [List.getElem?_toArray]; exact rfl) (fun K hK => ?_)
                go_simp
                refine (HCV.out _ (((Below.refl _ _).drew).alloc (Nat.le_refl _) _)).mono ?_
                rintro e w5 ⟨rfl, hg5⟩
                exact ⟨rfl, by rw [HRF.out]; exact ⟨rfl, Kept2.trans HW3.out.kp ⟨hg5.os, hg5.tape, hg5.output, Nat.le_trans (by simp) hg5.size, fun i hi h1 h2 => by first | exact hg5.block i hi (fun e => h1 (by injection e)) | exact (hg5.block i (by simp; omega) (fun e => h1 (by injection e))).trans (Below.heap_alloc _ _ i hi)⟩⟩⟩
              · cases hjj
            rcases List.mem_cons.1 hjj with rfl | hjj
            · refine wpOp_step (by rw [List.getElem?_toArray]; exact rfl) (fun K hK => ?_)
              go_simp
              refine (HCV.out _ (((Below.refl _ _).drew).alloc (Nat.le_refl _) _)).mono ?_
              rintro e w5 ⟨rfl, hg5⟩
              exact ⟨rfl, by rw [HRF.out]; exact ⟨rfl, Kept2.trans HW3.out.kp ⟨hg5.os, hg5.tape, hg5.output, Nat.le_trans (by simp) hg5.size, fun i hi h1 h2 => by first | exact hg5.block i hi (fun e => h1 (by injection e)) | exact (hg5.block i (by simp; omega) (fun e => h1 (by injection e))).trans (Below.heap_alloc _ _ i hi)⟩⟩⟩
            · cases hjj
          · cases hjj
        | ok v a' p' =>
          rw [hdv] at HCV
          have HR8 : Hid (decI (decV xs d) xs 7 q a' p' (its ++ [v]) (nms ++ [s]) = R) := by
            have := HRT.out
            rw [hdv] at this
            exact this
          have hdo := decV_ok HX.out d (a + 4 + M) p v a' p' (by rw [HL.out]; exact ha3) hdv
          have haN : a' ≤ N := by have := hdo.hi; rw [HL.out] at this; exact this
          have halo : (a + 4 + M) < a' := hdo.lo
          have hp' := decV_parts d (a + 4 + M) p v a' p' hp hdv
          clear hdo
          go_wp2_with fail
          refine wp_region_any (by kernel_rfl) ?_
          try (change wpAny _ _ _ _ _ _ _ (World.drew _))
          refine wpAny_take (i := 0) (v := .pointer (some ⟨gv, 0, none⟩)) (by rw [List.getElem?_toArray]; exact rfl) (by kernel_rfl) (by kernel_rfl) (by kernel_rfl) (by exact fun _ _ _ h => h) (Or.inl ⟨by rfl, fun w => by go_simp⟩) ?_
          try simp only [Act.put, List.setIfInBounds_toArray, List.set_cons_zero, List.set_cons_succ]
          refine wpAny_take (i := 1) (v := .pointer (some ⟨gv, 0, none⟩)) (by rw [List.getElem?_toArray]; exact rfl) (by kernel_rfl) (by kernel_rfl) (by kernel_rfl) (by exact fun _ _ _ h => h) (Or.inl ⟨by rfl, fun w => by go_simp⟩) ?_
          try simp only [Act.put, List.setIfInBounds_toArray, List.set_cons_zero, List.set_cons_succ]
          refine wpAny_take (i := 2) (v := .pointer (some ⟨gv, 4, none⟩)) (by rw [List.getElem?_toArray]; exact rfl) (by kernel_rfl) (by kernel_rfl) (by kernel_rfl) (by exact fun _ _ _ h => h) (Or.inl ⟨by rfl, fun w => by go_simp⟩) ?_
          try simp only [Act.put, List.setIfInBounds_toArray, List.set_cons_zero, List.set_cons_succ]
          refine wpAny_take (i := 4) (v := .pointer (some ⟨g, 0, none⟩)) (by rw [List.getElem?_toArray]; exact rfl) (by kernel_rfl) (by kernel_rfl) (by kernel_rfl) (by exact fun _ _ _ h => h) (Or.inl ⟨by rfl, fun w => by go_simp⟩) ?_
          try simp only [Act.put, List.setIfInBounds_toArray, List.set_cons_zero, List.set_cons_succ]
          refine wpAny_take (i := 5) (v := .int .i64 D) (by rw [List.getElem?_toArray]; exact rfl) (by kernel_rfl) (by kernel_rfl) (by kernel_rfl) (by exact fun _ _ _ h => h) (Or.inl ⟨by rfl, fun w => by go_simp⟩) ?_
          try simp only [Act.put, List.setIfInBounds_toArray, List.set_cons_zero, List.set_cons_succ]
          refine wpAny_take (i := 6) (v := .int .i64 (D + 1)) (by rw [List.getElem?_toArray]; exact rfl) (by kernel_rfl) (by kernel_rfl) (by kernel_rfl) (by exact fun _ _ _ h => h) (Or.inl ⟨by rfl, fun w => by go_simp⟩) ?_
          try simp only [Act.put, List.setIfInBounds_toArray, List.set_cons_zero, List.set_cons_succ]
          refine wpAny_ready (rs := [3, 7, 9]) (by kernel_rfl) (by simp) ?_
          intro jj hjj
          rcases List.mem_cons.1 hjj with rfl | hjj
          · refine wpOp_step (by rw [List.getElem?_toArray]; exact rfl) (fun K hK => ?_)
            go_simp
            refine hK _ _ ?_
            clear hK K
            try simp only [Act.put, List.setIfInBounds_toArray, List.set_cons_zero, List.set_cons_succ]
            refine wpAny_take (i := 8) (v := .int .i64 (nI : Int)) (by rw [List.getElem?_toArray]; exact rfl) (by kernel_rfl) (by kernel_rfl) (by kernel_rfl) (by exact fun _ _ _ h => h) (Or.inl ⟨by rfl, fun w => by go_simp⟩) ?_
            try simp only [Act.put, List.setIfInBounds_toArray, List.set_cons_zero, List.set_cons_succ]
            refine wpAny_ready (rs := [7, 9]) (by kernel_rfl) (by simp) ?_
            intro jj hjj
            rcases List.mem_cons.1 hjj with rfl | hjj
            · refine wpOp_step (by rw [List.getElem?_toArray]; exact rfl) (fun K hK => ?_)
              go_simp
              refine (HCV.out _ ((Below.refl _ _).drew)).mono ?_
              rintro e w5 ⟨cs5, rfl, hf5, hk5, hg5⟩
              have HG5 : Hid (w7.grownBy w5 (some g)) := only_trans (only_drew (World.grownBy.refl w7 _)) hg5
              have HW5 := Lib.hid (Row.kid HW3.out HG5.out hk5 hf5 (by simp))
              have HS5 := Lib.hid (six_of hf5.rd)
              have HI5 := Lib.hid (info_six HS5.out.1)
              have v4' : w5.cell? ⟨gv, 4, none⟩ = some (.slice AI nI cI) := HW5.out.bv.cell 4
              have v4a : ∀ o : Obj, (w5.alloc o).cell? ⟨gv, 4, none⟩ = some (.slice AI nI cI) := fun o => (HW5.out.bv.alloc o).cell 4
              clear hf5 hk5 hg5
              refine hK _ _ ?_
              clear hK K
              try simp only [Act.put, List.setIfInBounds_toArray, List.set_cons_zero, List.set_cons_succ]
              refine wpAny_ready (rs := [9]) (by kernel_rfl) (by simp) ?_
              intro jj hjj
              rcases List.mem_cons.1 hjj with rfl | hjj
              · refine wpOp_step (by rw [List.getElem?_toArray]; exact rfl) (fun K hK => ?_)
                go_simp
                refine hK _ _ ?_
                clear hK K
                try simp only [Act.put, List.setIfInBounds_toArray, List.set_cons_zero, List.set_cons_succ]
                refine wpAny_ready (rs := [10]) (by kernel_rfl) (by simp) ?_
                intro jj hjj
                rcases List.mem_cons.1 hjj with rfl | hjj
                · refine wpOp_step (by rw [List.getElem?_toArray]; exact rfl) (fun K hK => ?_)
                  have HWA := Lib.hid (HW5.out.alloc (.cells zv6.toArray 30))
                  have HZA := Lib.hid (reads_zv w5)
                  refine step_append_any _ rfl (.tmp 84) (.tmp 90) 27 rfl w.heap.size 30 i0 _ 6 88 Tryz.underlying27 hi0 hz0 hz1 hz2 rfl (by omega) (.slice AI nI cI) nI css.flatten (by simp [Act.eval]) HWA.out.oi _ (some ⟨w5.heap.size, 0, none⟩) 1 1 zv6 (by simp [Act.eval]) HZA.out (by simp [Value.oneCell']) (by simp only [maxLen]; omega) (by omega) HWA.out.kp.size ?_
                  intro v6 w6 hown6 hg6 hbk6
                  obtain ⟨A6, c6, hv6⟩ := own_slice6 hown6
                  subst hv6
                  obtain ⟨r6, hr6⟩ := own_form6 hown6 (by omega)
                  subst hr6
                  obtain ⟨cur6, hb6, hs6, ho6⟩ := own_last hown6 (by rw [flat_six css HW3.out.ch.six, HW3.out.ch.len, HLN.out.1]) HS5.out.1
                  have HB6 := Lib.hid hb6
                  have HO6 := Lib.hid hown6
                  have HG6 := Lib.hid hg6
                  have HK6 := Lib.hid hbk6
                  have HL6 := Lib.hid ho6
                  have HSZ6 := Lib.hid hs6
                  clear hb6 hown6 hg6 hbk6 ho6 hs6
                  refine hK _ _ ?_
                  clear hK K
                  try simp only [Act.put, List.setIfInBounds_toArray, List.set_cons_zero, List.set_cons_succ]
                  refine wpAny_take (i := 11) (v := .pointer (some ⟨r6, nI * 6, none⟩)) (by rw [List.getElem?_toArray]; exact rfl) (by kernel_rfl) (by kernel_rfl) (by kernel_rfl) (by exact fun _ _ _ h => h) (Or.inl ⟨by rfl, fun w => by go_simp; first | done | (intro h; exact absurd h (by omega))⟩) ?_
                  try simp only [Act.put, List.setIfInBounds_toArray, List.set_cons_zero, List.set_cons_succ]
                  refine wpAny_take (i := 13) (v := .pointer (some ⟨gv, 0, none⟩)) (by rw [List.getElem?_toArray]; exact rfl) (by kernel_rfl) (by kernel_rfl) (by kernel_rfl) (by exact fun _ _ _ h => h) (Or.inl ⟨by rfl, fun w => by go_simp⟩) ?_
                  try simp only [Act.put, List.setIfInBounds_toArray, List.set_cons_zero, List.set_cons_succ]
                  refine wpAny_take (i := 14) (v := .pointer (some ⟨gv, 4, none⟩)) (by rw [List.getElem?_toArray]; exact rfl) (by kernel_rfl) (by kernel_rfl) (by kernel_rfl) (by exact fun _ _ _ h => h) (Or.inl ⟨by rfl, fun w => by go_simp⟩) ?_
                  try simp only [Act.put, List.setIfInBounds_toArray, List.set_cons_zero, List.set_cons_succ]
                  refine wpAny_ready (rs := [12, 15]) (by kernel_rfl) (by simp) ?_
                  intro jj hjj
                  rcases List.mem_cons.1 hjj with rfl | hjj
                  · refine wpOp_step (by rw [List.getElem?_toArray]; exact rfl) (fun K hK => ?_)
                    refine step_store_midB rfl 30 (.tmp 92) (.tmp 88) rfl rfl r6 (nI * 6) cs5.toArray (by go_simp) (by go_simp) HB6.out HI5.out HSZ6.out HS5.out.2 ?_
                    intro w7 hb7 hg7 hz7
                    have HV7 : Hid (Blk w7 gv 30 (vkC 7 AI nI cI (some ⟨rN, 0, none⟩) (nN + 1) cN3)) := (HWA.out.gv6 HG6.out).grown hg7 (by have h6x : w.heap.size ≤ r6 := (own_at HO6.out rfl).1; have := HWA.out.lv; intro e; injection e with e; omega)
                    have HW8 := Lib.hid (Row.item HWA.out HO6.out HG6.out HK6.out hg7 hz7 (HL6.out w7 hb7))
                    have c7 : w7.cell? ⟨gv, 4, none⟩ = some (.slice AI nI cI) := HV7.out.cell 4
                    have f7 : w7.frozen? ⟨gv, 4, none⟩ = false := HV7.out.frozen 4
                    clear hb7 hg7 hz7
                    refine hK _ _ ?_
                    clear hK K
                    try simp only [Act.put, List.setIfInBounds_toArray, List.set_cons_zero, List.set_cons_succ]
                    refine wpAny_ready (rs := [15]) (by kernel_rfl) (by simp) ?_
                    intro jj hjj
                    rcases List.mem_cons.1 hjj with rfl | hjj
                    · refine wpOp_step (by rw [List.getElem?_toArray]; exact rfl) (fun K hK => ?_)
                      go_simp
                      refine hK _ _ ?_
                      clear hK K
                      try simp only [Act.put, List.setIfInBounds_toArray, List.set_cons_zero, List.set_cons_succ]
                      refine wpAny_done (by kernel_rfl) ?_ _
                      clear c7 f7
                      generalize w7.setCell ⟨gv, 4, none⟩ (.slice (some ⟨r6, 0, none⟩) (nI + 1) c6) = w8 at *
                      have HR9 : Hid (Row w w8 g gv 7 A N c a' p' (nms ++ [s]) (css ++ [cs5]).flatten (some ⟨r6, 0, none⟩) (nI + 1) c6 (some ⟨rN, 0, none⟩) (nN + 1) cN3 (its ++ [v]) (css ++ [cs5])) := by show Row _ _ _ _ _ _ _ _ _ _ _ _ _ _ _ _ _ _ _ _; rw [List.flatten_append, List.flatten_singleton]; exact HW8.out
                      clear HG5 HW5 HS5 HWA HZA HB6 HO6 HG6 HK6 HL6 HSZ6 HW8 v4 v4' v4a v0 HCV HRT HW3
                      go_wp2_with fail
                      go_roundw
                      case rel => exact ⟨q, a', p', nI + 1, (nN + 1), its ++ [v], (nms ++ [s]), css ++ [cs5], _, _, _, _, by go_num, by omega, haN, hp', by omega, by omega, ⟨by simp [HLN.out.1], hNL⟩, HR8, HR9⟩
                      case measure => simp [intOf]
                    · cases hjj
                  rcases List.mem_cons.1 hjj with rfl | hjj
                  · refine wpOp_step (by rw [List.getElem?_toArray]; exact rfl) (fun K hK => ?_)
                    have HV6 := Lib.hid (HWA.out.gv6 HG6.out)
                    have c6' : w6.cell? ⟨gv, 4, none⟩ = some (.slice AI nI cI) := HV6.out.cell 4
                    have f6 : w6.frozen? ⟨gv, 4, none⟩ = false := HV6.out.frozen 4
                    go_simp
                    refine hK _ _ ?_
                    clear hK K
                    try simp only [Act.put, List.setIfInBounds_toArray, List.set_cons_zero, List.set_cons_succ]
                    refine wpAny_ready (rs := [12]) (by kernel_rfl) (by simp) ?_
                    intro jj hjj
                    rcases List.mem_cons.1 hjj with rfl | hjj
                    · refine wpOp_step (by rw [List.getElem?_toArray]; exact rfl) (fun K hK => ?_)
                      have HB6' : Hid (Blk (w6.setCell ⟨gv, 4, none⟩ (.slice (some ⟨r6, 0, none⟩) (nI + 1) c6)) r6 30 cur6) := HB6.out.far (by have h6x : w.heap.size ≤ r6 := (own_at HO6.out rfl).1; have := HWA.out.lv; simp only; omega) _
                      refine step_store_midB rfl 30 (.tmp 92) (.tmp 88) rfl rfl r6 (nI * 6) cs5.toArray (by go_simp) (by go_simp) HB6'.out HI5.out HSZ6.out HS5.out.2 ?_
                      intro w8 hb7 hg7 hz7
                      have HW8 := Lib.hid (Row.item' HWA.out HO6.out HG6.out HK6.out hg7 hz7 (HL6.out w8 hb7))
                      clear hb7 hg7 hz7 c6' f6 HB6'
                      refine hK _ _ ?_
                      clear hK K
                      try simp only [Act.put, List.setIfInBounds_toArray, List.set_cons_zero, List.set_cons_succ]
                      refine wpAny_done (by kernel_rfl) ?_ _
                      have HR9 : Hid (Row w w8 g gv 7 A N c a' p' (nms ++ [s]) (css ++ [cs5]).flatten (some ⟨r6, 0, none⟩) (nI + 1) c6 (some ⟨rN, 0, none⟩) (nN + 1) cN3 (its ++ [v]) (css ++ [cs5])) := by show Row _ _ _ _ _ _ _ _ _ _ _ _ _ _ _ _ _ _ _ _; rw [List.flatten_append, List.flatten_singleton]; exact HW8.out
                      clear HG5 HW5 HS5 HWA HZA HB6 HO6 HG6 HK6 HL6 HSZ6 HW8 v4 v4' v4a v0 HCV HRT HW3
                      go_wp2_with fail
                      go_roundw
                      case rel => exact ⟨q, a', p', nI + 1, (nN + 1), its ++ [v], (nms ++ [s]), css ++ [cs5], _, _, _, _, by go_num, by omega, haN, hp', by omega, by omega, ⟨by simp [HLN.out.1], hNL⟩, HR8, HR9⟩
                      case measure => simp [intOf]
                    · cases hjj
                  · cases hjj
                · cases hjj
              · cases hjj
            rcases List.mem_cons.1 hjj with rfl | hjj
            · refine wpOp_step (by rw [List.getElem?_toArray]; exact rfl) (fun K hK => ?_)
              go_simp
              refine hK _ _ ?_
              clear hK K
              try simp only [Act.put, List.setIfInBounds_toArray, List.set_cons_zero, List.set_cons_succ]
              refine wpAny_ready (rs := [7]) (by kernel_rfl) (by simp) ?_
              intro jj hjj
              rcases List.mem_cons.1 hjj with rfl | hjj
              · refine wpOp_step (by rw [List.getElem?_toArray]; exact rfl) (fun K hK => ?_)
                go_simp
                refine (HCV.out _ (((Below.refl _ _).drew).alloc (Nat.le_refl _) _)).mono ?_
                rintro e w5 ⟨cs5, rfl, hf5, hk5, hg5⟩
                have HG5 : Hid (w7.grownBy w5 (some g)) := only_trans (only_alloc (only_drew (World.grownBy.refl w7 _)) _) hg5
                have HZ5 := Lib.hid (zv_keep hg5 hg3)
                have HW5 := Lib.hid (Row.kid HW3.out HG5.out hk5 hf5 (by simp))
                have HS5 := Lib.hid (six_of hf5.rd)
                have HI5 := Lib.hid (info_six HS5.out.1)
                have v4' : w5.cell? ⟨gv, 4, none⟩ = some (.slice AI nI cI) := HW5.out.bv.cell 4
                have v4a : ∀ o : Obj, (w5.alloc o).cell? ⟨gv, 4, none⟩ = some (.slice AI nI cI) := fun o => (HW5.out.bv.alloc o).cell 4
                clear hf5 hk5 hg5
                refine hK _ _ ?_
                clear hK K
                try simp only [Act.put, List.setIfInBounds_toArray, List.set_cons_zero, List.set_cons_succ]
                refine wpAny_ready (rs := [10]) (by kernel_rfl) (by simp) ?_
                intro jj hjj
                rcases List.mem_cons.1 hjj with rfl | hjj
                · refine wpOp_step (by rw [List.getElem?_toArray]; exact rfl) (fun K hK => ?_)
                  have HWA := HW5
                  have HZA := HZ5
                  refine step_append_any _ rfl (.tmp 84) (.tmp 90) 27 rfl w.heap.size 30 i0 _ 6 88 Tryz.underlying27 hi0 hz0 hz1 hz2 rfl (by omega) (.slice AI nI cI) nI css.flatten (by simp [Act.eval]) HWA.out.oi _ (some ⟨w7.heap.size, 0, none⟩) 1 1 zv6 (by simp [Act.eval]) HZA.out (by simp [Value.oneCell']) (by simp only [maxLen]; omega) (by omega) HWA.out.kp.size ?_
                  intro v6 w6 hown6 hg6 hbk6
                  obtain ⟨A6, c6, hv6⟩ := own_slice6 hown6
                  subst hv6
                  obtain ⟨r6, hr6⟩ := own_form6 hown6 (by omega)
                  subst hr6
                  obtain ⟨cur6, hb6, hs6, ho6⟩ := own_last hown6 (by rw [flat_six css HW3.out.ch.six, HW3.out.ch.len, HLN.out.1]) HS5.out.1
                  have HB6 := Lib.hid hb6
                  have HO6 := Lib.hid hown6
                  have HG6 := Lib.hid hg6
                  have HK6 := Lib.hid hbk6
                  have HL6 := Lib.hid ho6
                  have HSZ6 := Lib.hid hs6
                  clear hb6 hown6 hg6 hbk6 ho6 hs6
                  refine hK _ _ ?_
                  clear hK K
                  try simp only [Act.put, List.setIfInBounds_toArray, List.set_cons_zero, List.set_cons_succ]
                  refine wpAny_take (i := 11) (v := .pointer (some ⟨r6, nI * 6, none⟩)) (by rw [List.getElem?_toArray]; exact rfl) (by kernel_rfl) (by kernel_rfl) (by kernel_rfl) (by exact fun _ _ _ h => h) (Or.inl ⟨by rfl, fun w => by go_simp; first | done | (intro h; exact absurd h (by omega))⟩) ?_
                  try simp only [Act.put, List.setIfInBounds_toArray, List.set_cons_zero, List.set_cons_succ]
                  refine wpAny_take (i := 13) (v := .pointer (some ⟨gv, 0, none⟩)) (by rw [List.getElem?_toArray]; exact rfl) (by kernel_rfl) (by kernel_rfl) (by kernel_rfl) (by exact fun _ _ _ h => h) (Or.inl ⟨by rfl, fun w => by go_simp⟩) ?_
                  try simp only [Act.put, List.setIfInBounds_toArray, List.set_cons_zero, List.set_cons_succ]
                  refine wpAny_take (i := 14) (v := .pointer (some ⟨gv, 4, none⟩)) (by rw [List.getElem?_toArray]; exact rfl) (by kernel_rfl) (by kernel_rfl) (by kernel_rfl) (by exact fun _ _ _ h => h) (Or.inl ⟨by rfl, fun w => by go_simp⟩) ?_
                  try simp only [Act.put, List.setIfInBounds_toArray, List.set_cons_zero, List.set_cons_succ]
                  refine wpAny_ready (rs := [12, 15]) (by kernel_rfl) (by simp) ?_
                  intro jj hjj
                  rcases List.mem_cons.1 hjj with rfl | hjj
                  · refine wpOp_step (by rw [List.getElem?_toArray]; exact rfl) (fun K hK => ?_)
                    refine step_store_midB rfl 30 (.tmp 92) (.tmp 88) rfl rfl r6 (nI * 6) cs5.toArray (by go_simp) (by go_simp) HB6.out HI5.out HSZ6.out HS5.out.2 ?_
                    intro w7 hb7 hg7 hz7
                    have HV7 : Hid (Blk w7 gv 30 (vkC 7 AI nI cI (some ⟨rN, 0, none⟩) (nN + 1) cN3)) := (HWA.out.gv6 HG6.out).grown hg7 (by have h6x : w.heap.size ≤ r6 := (own_at HO6.out rfl).1; have := HWA.out.lv; intro e; injection e with e; omega)
                    have HW8 := Lib.hid (Row.item HWA.out HO6.out HG6.out HK6.out hg7 hz7 (HL6.out w7 hb7))
                    have c7 : w7.cell? ⟨gv, 4, none⟩ = some (.slice AI nI cI) := HV7.out.cell 4
                    have f7 : w7.frozen? ⟨gv, 4, none⟩ = false := HV7.out.frozen 4
                    clear hb7 hg7 hz7
                    refine hK _ _ ?_
                    clear hK K
                    try simp only [Act.put, List.setIfInBounds_toArray, List.set_cons_zero, List.set_cons_succ]
                    refine wpAny_ready (rs := [15]) (by kernel_rfl) (by simp) ?_
                    intro jj hjj
                    rcases List.mem_cons.1 hjj with rfl | hjj
                    · refine wpOp_step (by rw [List.getElem?_toArray]; exact rfl) (fun K hK => ?_)
                      go_simp
                      refine hK _ _ ?_
                      clear hK K
                      try simp only [Act.put, List.setIfInBounds_toArray, List.set_cons_zero, List.set_cons_succ]
                      refine wpAny_done (by kernel_rfl) ?_ _
                      clear c7 f7
                      generalize w7.setCell ⟨gv, 4, none⟩ (.slice (some ⟨r6, 0, none⟩) (nI + 1) c6) = w8 at *
                      have HR9 : Hid (Row w w8 g gv 7 A N c a' p' (nms ++ [s]) (css ++ [cs5]).flatten (some ⟨r6, 0, none⟩) (nI + 1) c6 (some ⟨rN, 0, none⟩) (nN + 1) cN3 (its ++ [v]) (css ++ [cs5])) := by show Row _ _ _ _ _ _ _ _ _ _ _ _ _ _ _ _ _ _ _ _; rw [List.flatten_append, List.flatten_singleton]; exact HW8.out
                      clear HG5 HW5 HS5 HWA HZA HB6 HO6 HG6 HK6 HL6 HSZ6 HW8 v4 v4' v4a v0 HCV HRT HW3
                      go_wp2_with fail
                      go_roundw
                      case rel => exact ⟨q, a', p', nI + 1, (nN + 1), its ++ [v], (nms ++ [s]), css ++ [cs5], _, _, _, _, by go_num, by omega, haN, hp', by omega, by omega, ⟨by simp [HLN.out.1], hNL⟩, HR8, HR9⟩
                      case measure => simp [intOf]
                    · cases hjj
                  rcases List.mem_cons.1 hjj with rfl | hjj
                  · refine wpOp_step (by rw [List.getElem?_toArray]; exact rfl) (fun K hK => ?_)
                    have HV6 := Lib.hid (HWA.out.gv6 HG6.out)
                    have c6' : w6.cell? ⟨gv, 4, none⟩ = some (.slice AI nI cI) := HV6.out.cell 4
                    have f6 : w6.frozen? ⟨gv, 4, none⟩ = false := HV6.out.frozen 4
                    go_simp
                    refine hK _ _ ?_
                    clear hK K
                    try simp only [Act.put, List.setIfInBounds_toArray, List.set_cons_zero, List.set_cons_succ]
                    refine wpAny_ready (rs := [12]) (by kernel_rfl) (by simp) ?_
                    intro jj hjj
                    rcases List.mem_cons.1 hjj with rfl | hjj
                    · refine wpOp_step (by rw [List.getElem?_toArray]; exact rfl) (fun K hK => ?_)
                      have HB6' : Hid (Blk (w6.setCell ⟨gv, 4, none⟩ (.slice (some ⟨r6, 0, none⟩) (nI + 1) c6)) r6 30 cur6) := HB6.out.far (by have h6x : w.heap.size ≤ r6 := (own_at HO6.out rfl).1; have := HWA.out.lv; simp only; omega) _
                      refine step_store_midB rfl 30 (.tmp 92) (.tmp 88) rfl rfl r6 (nI * 6) cs5.toArray (by go_simp) (by go_simp) HB6'.out HI5.out HSZ6.out HS5.out.2 ?_
                      intro w8 hb7 hg7 hz7
                      have HW8 := Lib.hid (Row.item' HWA.out HO6.out HG6.out HK6.out hg7 hz7 (HL6.out w8 hb7))
                      clear hb7 hg7 hz7 c6' f6 HB6'
                      refine hK _ _ ?_
                      clear hK K
                      try simp only [Act.put, List.setIfInBounds_toArray, List.set_cons_zero, List.set_cons_succ]
                      refine wpAny_done (by kernel_rfl) ?_ _
                      have HR9 : Hid (Row w w8 g gv 7 A N c a' p' (nms ++ [s]) (css ++ [cs5]).flatten (some ⟨r6, 0, none⟩) (nI + 1) c6 (some ⟨rN, 0, none⟩) (nN + 1) cN3 (its ++ [v]) (css ++ [cs5])) := by show Row _ _ _ _ _ _ _ _ _ _ _ _ _ _ _ _ _ _ _ _; rw [List.flatten_append, List.flatten_singleton]; exact HW8.out
                      clear HG5 HW5 HS5 HWA HZA HB6 HO6 HG6 HK6 HL6 HSZ6 HW8 v4 v4' v4a v0 HCV HRT HW3
                      go_wp2_with fail
                      go_roundw
                      case rel => exact ⟨q, a', p', nI + 1, (nN + 1), its ++ [v], (nms ++ [s]), css ++ [cs5], _, _, _, _, by go_num, by omega, haN, hp', by omega, by omega, ⟨by simp [HLN.out.1], hNL⟩, HR8, HR9⟩
                      case measure => simp [intOf]
                    · cases hjj
                  · cases hjj
                · cases hjj
              · cases hjj
            · cases hjj
          rcases List.mem_cons.1 hjj with rfl | hjj
          · refine wpOp_step (by rw [List.getElem?_toArray]; exact rfl) (fun K hK => ?_)
            go_simp
            refine (HCV.out _ ((Below.refl _ _).drew)).mono ?_
            rintro e w5 ⟨cs5, rfl, hf5, hk5, hg5⟩
            have HG5 : Hid (w7.grownBy w5 (some g)) := only_trans (only_drew (World.grownBy.refl w7 _)) hg5
            have HW5 := Lib.hid (Row.kid HW3.out HG5.out hk5 hf5 (by simp))
            have HS5 := Lib.hid (six_of hf5.rd)
            have HI5 := Lib.hid (info_six HS5.out.1)
            have v4' : w5.cell? ⟨gv, 4, none⟩ = some (.slice AI nI cI) := HW5.out.bv.cell 4
            have v4a : ∀ o : Obj, (w5.alloc o).cell? ⟨gv, 4, none⟩ = some (.slice AI nI cI) := fun o => (HW5.out.bv.alloc o).cell 4
            clear hf5 hk5 hg5
            refine hK _ _ ?_
            clear hK K
            try simp only [Act.put, List.setIfInBounds_toArray, List.set_cons_zero, List.set_cons_succ]
            refine wpAny_ready (rs := [3, 9]) (by kernel_rfl) (by simp) ?_
            intro jj hjj
            rcases List.mem_cons.1 hjj with rfl | hjj
            · refine wpOp_step (by rw [List.getElem?_toArray]; exact rfl) (fun K hK => ?_)
              go_simp
              refine hK _ _ ?_
              clear hK K
              try simp only [Act.put, List.setIfInBounds_toArray, List.set_cons_zero, List.set_cons_succ]
              refine wpAny_take (i := 8) (v := .int .i64 (nI : Int)) (by rw [List.getElem?_toArray]; exact rfl) (by kernel_rfl) (by kernel_rfl) (by kernel_rfl) (by exact fun _ _ _ h => h) (Or.inl ⟨by rfl, fun w => by go_simp⟩) ?_
              try simp only [Act.put, List.setIfInBounds_toArray, List.set_cons_zero, List.set_cons_succ]
              refine wpAny_ready (rs := [9]) (by kernel_rfl) (by simp) ?_
              intro jj hjj
              rcases List.mem_cons.1 hjj with rfl | hjj
              · refine wpOp_step (by rw [List.getElem?_toArray]; exact rfl) (fun K hK => ?_)
                go_simp
                refine hK _ _ ?_
                clear hK K
                try simp only [Act.put, List.setIfInBounds_toArray, List.set_cons_zero, List.set_cons_succ]
                refine wpAny_ready (rs := [10]) (by kernel_rfl) (by simp) ?_
                intro jj hjj
                rcases List.mem_cons.1 hjj with rfl | hjj
                · refine wpOp_step (by rw [List.getElem?_toArray]; exact rfl) (fun K hK => ?_)
                  have HWA := Lib.hid (HW5.out.alloc (.cells zv6.toArray 30))
                  have HZA := Lib.hid (reads_zv w5)
                  refine step_append_any _ rfl (.tmp 84) (.tmp 90) 27 rfl w.heap.size 30 i0 _ 6 88 Tryz.underlying27 hi0 hz0 hz1 hz2 rfl (by omega) (.slice AI nI cI) nI css.flatten (by simp [Act.eval]) HWA.out.oi _ (some ⟨w5.heap.size, 0, none⟩) 1 1 zv6 (by simp [Act.eval]) HZA.out (by simp [Value.oneCell']) (by simp only [maxLen]; omega) (by omega) HWA.out.kp.size ?_
                  intro v6 w6 hown6 hg6 hbk6
                  obtain ⟨A6, c6, hv6⟩ := own_slice6 hown6
                  subst hv6
                  obtain ⟨r6, hr6⟩ := own_form6 hown6 (by omega)
                  subst hr6
                  obtain ⟨cur6, hb6, hs6, ho6⟩ := own_last hown6 (by rw [flat_six css HW3.out.ch.six, HW3.out.ch.len, HLN.out.1]) HS5.out.1
                  have HB6 := Lib.hid hb6
                  have HO6 := Lib.hid hown6
                  have HG6 := Lib.hid hg6
                  have HK6 := Lib.hid hbk6
                  have HL6 := Lib.hid ho6
                  have HSZ6 := Lib.hid hs6
                  clear hb6 hown6 hg6 hbk6 ho6 hs6
                  refine hK _ _ ?_
                  clear hK K
                  try simp only [Act.put, List.setIfInBounds_toArray, List.set_cons_zero, List.set_cons_succ]
                  refine wpAny_take (i := 11) (v := .pointer (some ⟨r6, nI * 6, none⟩)) (by rw [List.getElem?_toArray]; exact rfl) (by kernel_rfl) (by kernel_rfl) (by kernel_rfl) (by exact fun _ _ _ h => h) (Or.inl ⟨by rfl, fun w => by go_simp; first | done | (intro h; exact absurd h (by omega))⟩) ?_
                  try simp only [Act.put, List.setIfInBounds_toArray, List.set_cons_zero, List.set_cons_succ]
                  refine wpAny_take (i := 13) (v := .pointer (some ⟨gv, 0, none⟩)) (by rw [List.getElem?_toArray]; exact rfl) (by kernel_rfl) (by kernel_rfl) (by kernel_rfl) (by exact fun _ _ _ h => h) (Or.inl ⟨by rfl, fun w => by go_simp⟩) ?_
                  try simp only [Act.put, List.setIfInBounds_toArray, List.set_cons_zero, List.set_cons_succ]
                  refine wpAny_take (i := 14) (v := .pointer (some ⟨gv, 4, none⟩)) (by rw [List.getElem?_toArray]; exact rfl) (by kernel_rfl) (by kernel_rfl) (by kernel_rfl) (by exact fun _ _ _ h => h) (Or.inl ⟨by rfl, fun w => by go_simp⟩) ?_
                  try simp only [Act.put, List.setIfInBounds_toArray, List.set_cons_zero, List.set_cons_succ]
                  refine wpAny_ready (rs := [12, 15]) (by kernel_rfl) (by simp) ?_
                  intro jj hjj
                  rcases List.mem_cons.1 hjj with rfl | hjj
                  · refine wpOp_step (by rw [List.getElem?_toArray]; exact rfl) (fun K hK => ?_)
                    refine step_store_midB rfl 30 (.tmp 92) (.tmp 88) rfl rfl r6 (nI * 6) cs5.toArray (by go_simp) (by go_simp) HB6.out HI5.out HSZ6.out HS5.out.2 ?_
                    intro w7 hb7 hg7 hz7
                    have HV7 : Hid (Blk w7 gv 30 (vkC 7 AI nI cI (some ⟨rN, 0, none⟩) (nN + 1) cN3)) := (HWA.out.gv6 HG6.out).grown hg7 (by have h6x : w.heap.size ≤ r6 := (own_at HO6.out rfl).1; have := HWA.out.lv; intro e; injection e with e; omega)
                    have HW8 := Lib.hid (Row.item HWA.out HO6.out HG6.out HK6.out hg7 hz7 (HL6.out w7 hb7))
                    have c7 : w7.cell? ⟨gv, 4, none⟩ = some (.slice AI nI cI) := HV7.out.cell 4
                    have f7 : w7.frozen? ⟨gv, 4, none⟩ = false := HV7.out.frozen 4
                    clear hb7 hg7 hz7
                    refine hK _ _ ?_
                    clear hK K
                    try simp only [Act.put, List.setIfInBounds_toArray, List.set_cons_zero, List.set_cons_succ]
                    refine wpAny_ready (rs := [15]) (by kernel_rfl) (by simp) ?_
                    intro jj hjj
                    rcases List.mem_cons.1 hjj with rfl | hjj
                    · refine wpOp_step (by rw [List.getElem?_toArray]; exact rfl) (fun K hK => ?_)
                      go_simp
                      refine hK _ _ ?_
                      clear hK K
                      try simp only [Act.put, List.setIfInBounds_toArray, List.set_cons_zero, List.set_cons_succ]
                      refine wpAny_done (by kernel_rfl) ?_ _
                      clear c7 f7
                      generalize w7.setCell ⟨gv, 4, none⟩ (.slice (some ⟨r6, 0, none⟩) (nI + 1) c6) = w8 at *
                      have HR9 : Hid (Row w w8 g gv 7 A N c a' p' (nms ++ [s]) (css ++ [cs5]).flatten (some ⟨r6, 0, none⟩) (nI + 1) c6 (some ⟨rN, 0, none⟩) (nN + 1) cN3 (its ++ [v]) (css ++ [cs5])) := by show Row _ _ _ _ _ _ _ _ _ _ _ _ _ _ _ _ _ _ _ _; rw [List.flatten_append, List.flatten_singleton]; exact HW8.out
                      clear HG5 HW5 HS5 HWA HZA HB6 HO6 HG6 HK6 HL6 HSZ6 HW8 v4 v4' v4a v0 HCV HRT HW3
                      go_wp2_with fail
                      go_roundw
                      case rel => exact ⟨q, a', p', nI + 1, (nN + 1), its ++ [v], (nms ++ [s]), css ++ [cs5], _, _, _, _, by go_num, by omega, haN, hp', by omega, by omega, ⟨by simp [HLN.out.1], hNL⟩, HR8, HR9⟩
                      case measure => simp [intOf]
                    · cases hjj
                  rcases List.mem_cons.1 hjj with rfl | hjj
                  · refine wpOp_step (by rw [List.getElem?_toArray]; exact rfl) (fun K hK => ?_)
                    have HV6 := Lib.hid (HWA.out.gv6 HG6.out)
                    have c6' : w6.cell? ⟨gv, 4, none⟩ = some (.slice AI nI cI) := HV6.out.cell 4
                    have f6 : w6.frozen? ⟨gv, 4, none⟩ = false := HV6.out.frozen 4
                    go_simp
                    refine hK _ _ ?_
                    clear hK K
                    try simp only [Act.put, List.setIfInBounds_toArray, List.set_cons_zero, List.set_cons_succ]
                    refine wpAny_ready (rs := [12]) (by kernel_rfl) (by simp) ?_
                    intro jj hjj
                    rcases List.mem_cons.1 hjj with rfl | hjj
                    · refine wpOp_step (by rw [List.getElem?_toArray]; exact rfl) (fun K hK => ?_)
                      have HB6' : Hid (Blk (w6.setCell ⟨gv, 4, none⟩ (.slice (some ⟨r6, 0, none⟩) (nI + 1) c6)) r6 30 cur6) := HB6.out.far (by have h6x : w.heap.size ≤ r6 := (own_at HO6.out rfl).1; have := HWA.out.lv; simp only; omega) _
                      refine step_store_midB rfl 30 (.tmp 92) (.tmp 88) rfl rfl r6 (nI * 6) cs5.toArray (by go_simp) (by go_simp) HB6'.out HI5.out HSZ6.out HS5.out.2 ?_
                      intro w8 hb7 hg7 hz7
                      have HW8 := Lib.hid (Row.item' HWA.out HO6.out HG6.out HK6.out hg7 hz7 (HL6.out w8 hb7))
                      clear hb7 hg7 hz7 c6' f6 HB6'
                      refine hK _ _ ?_
                      clear hK K
                      try simp only [Act.put, List.setIfInBounds_toArray, List.set_cons_zero, List.set_cons_succ]
                      refine wpAny_done (by kernel_rfl) ?_ _
                      have HR9 : Hid (Row w w8 g gv 7 A N c a' p' (nms ++ [s]) (css ++ [cs5]).flatten (some ⟨r6, 0, none⟩) (nI + 1) c6 (some ⟨rN, 0, none⟩) (nN + 1) cN3 (its ++ [v]) (css ++ [cs5])) := by show Row _ _ _ _ _ _ _ _ _ _ _ _ _ _ _ _ _ _ _ _; rw [List.flatten_append, List.flatten_singleton]; exact HW8.out
                      clear HG5 HW5 HS5 HWA HZA HB6 HO6 HG6 HK6 HL6 HSZ6 HW8 v4 v4' v4a v0 HCV HRT HW3
                      go_wp2_with fail
                      go_roundw
                      case rel => exact ⟨q, a', p', nI + 1, (nN + 1), its ++ [v], (nms ++ [s]), css ++ [cs5], _, _, _, _, by go_num, by omega, haN, hp', by omega, by omega, ⟨by simp [HLN.out.1], hNL⟩, HR8, HR9⟩
                      case measure => simp [intOf]
                    · cases hjj
                  · cases hjj
                · cases hjj
              · cases hjj
            rcases List.mem_cons.1 hjj with rfl | hjj
            · refine wpOp_step (by rw [List.getElem?_toArray]; exact rfl) (fun K hK => ?_)
              go_simp
              refine hK _ _ ?_
              clear hK K
              try simp only [Act.put, List.setIfInBounds_toArray, List.set_cons_zero, List.set_cons_succ]
              refine wpAny_ready (rs := [3]) (by kernel_rfl) (by simp) ?_
              intro jj hjj
              rcases List.mem_cons.1 hjj with rfl | hjj
              · refine wpOp_step (by rw [List.getElem?_toArray]; exact rfl) (fun K hK => ?_)
                go_simp
                refine hK _ _ ?_
                clear hK K
                try simp only [Act.put, List.setIfInBounds_toArray, List.set_cons_zero, List.set_cons_succ]
                refine wpAny_take (i := 8) (v := .int .i64 (nI : Int)) (by rw [List.getElem?_toArray]; exact rfl) (by kernel_rfl) (by kernel_rfl) (by kernel_rfl) (by exact fun _ _ _ h => h) (Or.inl ⟨by rfl, fun w => by go_simp⟩) ?_
                try simp only [Act.put, List.setIfInBounds_toArray, List.set_cons_zero, List.set_cons_succ]
                refine wpAny_ready (rs := [10]) (by kernel_rfl) (by simp) ?_
                intro jj hjj
                rcases List.mem_cons.1 hjj with rfl | hjj
                · refine wpOp_step (by rw [List.getElem?_toArray]; exact rfl) (fun K hK => ?_)
                  have HWA := Lib.hid (HW5.out.alloc (.cells zv6.toArray 30))
                  have HZA := Lib.hid (reads_zv w5)
                  refine step_append_any _ rfl (.tmp 84) (.tmp 90) 27 rfl w.heap.size 30 i0 _ 6 88 Tryz.underlying27 hi0 hz0 hz1 hz2 rfl (by omega) (.slice AI nI cI) nI css.flatten (by simp [Act.eval]) HWA.out.oi _ (some ⟨w5.heap.size, 0, none⟩) 1 1 zv6 (by simp [Act.eval]) HZA.out (by simp [Value.oneCell']) (by simp only [maxLen]; omega) (by omega) HWA.out.kp.size ?_
                  intro v6 w6 hown6 hg6 hbk6
                  obtain ⟨A6, c6, hv6⟩ := own_slice6 hown6
                  subst hv6
                  obtain ⟨r6, hr6⟩ := own_form6 hown6 (by omega)
                  subst hr6
                  obtain ⟨cur6, hb6, hs6, ho6⟩ := own_last hown6 (by rw [flat_six css HW3.out.ch.six, HW3.out.ch.len, HLN.out.1]) HS5.out.1
                  have HB6 := Lib.hid hb6
                  have HO6 := Lib.hid hown6
                  have HG6 := Lib.hid hg6
                  have HK6 := Lib.hid hbk6
                  have HL6 := Lib.hid ho6
                  have HSZ6 := Lib.hid hs6
                  clear hb6 hown6 hg6 hbk6 ho6 hs6
                  refine hK _ _ ?_
                  clear hK K
                  try simp only [Act.put, List.setIfInBounds_toArray, List.set_cons_zero, List.set_cons_succ]
                  refine wpAny_take (i := 11) (v := .pointer (some ⟨r6, nI * 6, none⟩)) (by rw [List.getElem?_toArray]; exact rfl) (by kernel_rfl) (by kernel_rfl) (by kernel_rfl) (by exact fun _ _ _ h => h) (Or.inl ⟨by rfl, fun w => by go_simp; first | done | (intro h; exact absurd h (by omega))⟩) ?_
                  try simp only [Act.put, List.setIfInBounds_toArray, List.set_cons_zero, List.set_cons_succ]
                  refine wpAny_take (i := 13) (v := .pointer (some ⟨gv, 0, none⟩)) (by rw [List.getElem?_toArray]; exact rfl) (by kernel_rfl) (by kernel_rfl) (by kernel_rfl) (by exact fun _ _ _ h => h) (Or.inl ⟨by rfl, fun w => by go_simp⟩) ?_
                  try simp only [Act.put, List.setIfInBounds_toArray, List.set_cons_zero, List.set_cons_succ]
                  refine wpAny_take (i := 14) (v := .pointer (some ⟨gv, 4, none⟩)) (by rw [List.getElem?_toArray]; exact rfl) (by kernel_rfl) (by kernel_rfl) (by kernel_rfl) (by exact fun _ _ _ h => h) (Or.inl ⟨by rfl, fun w => by go_simp⟩) ?_
                  try simp only [Act.put, List.setIfInBounds_toArray, List.set_cons_zero, List.set_cons_succ]
                  refine wpAny_ready (rs := [12, 15]) (by kernel_rfl) (by simp) ?_
                  intro jj hjj
                  rcases List.mem_cons.1 hjj with rfl | hjj
                  · refine wpOp_step (by rw [List.getElem?_toArray]; exact rfl) (fun K hK => ?_)
                    refine step_store_midB rfl 30 (.tmp 92) (.tmp 88) rfl rfl r6 (nI * 6) cs5.toArray (by go_simp) (by go_simp) HB6.out HI5.out HSZ6.out HS5.out.2 ?_
                    intro w7 hb7 hg7 hz7
                    have HV7 : Hid (Blk w7 gv 30 (vkC 7 AI nI cI (some ⟨rN, 0, none⟩) (nN + 1) cN3)) := (HWA.out.gv6 HG6.out).grown hg7 (by have h6x : w.heap.size ≤ r6 := (own_at HO6.out rfl).1; have := HWA.out.lv; intro e; injection e with e; omega)
                    have HW8 := Lib.hid (Row.item HWA.out HO6.out HG6.out HK6.out hg7 hz7 (HL6.out w7 hb7))
                    have c7 : w7.cell? ⟨gv, 4, none⟩ = some (.slice AI nI cI) := HV7.out.cell 4
                    have f7 : w7.frozen? ⟨gv, 4, none⟩ = false := HV7.out.frozen 4
                    clear hb7 hg7 hz7
                    refine hK _ _ ?_
                    clear hK K
                    try simp only [Act.put, List.setIfInBounds_toArray, List.set_cons_zero, List.set_cons_succ]
                    refine wpAny_ready (rs := [15]) (by kernel_rfl) (by simp) ?_
                    intro jj hjj
                    rcases List.mem_cons.1 hjj with rfl | hjj
                    · refine wpOp_step (by rw [List.getElem?_toArray]; exact rfl) (fun K hK => ?_)
                      go_simp
                      refine hK _ _ ?_
                      clear hK K
                      try simp only [Act.put, List.setIfInBounds_toArray, List.set_cons_zero, List.set_cons_succ]
                      refine wpAny_done (by kernel_rfl) ?_ _
                      clear c7 f7
                      generalize w7.setCell ⟨gv, 4, none⟩ (.slice (some ⟨r6, 0, none⟩) (nI + 1) c6) = w8 at *
                      have HR9 : Hid (Row w w8 g gv 7 A N c a' p' (nms ++ [s]) (css ++ [cs5]).flatten (some ⟨r6, 0, none⟩) (nI + 1) c6 (some ⟨rN, 0, none⟩) (nN + 1) cN3 (its ++ [v]) (css ++ [cs5])) := by show Row _ _ _ _ _ _ _ _ _ _ _ _ _ _ _ _ _ _ _ _; rw [List.flatten_append, List.flatten_singleton]; exact HW8.out
                      clear HG5 HW5 HS5 HWA HZA HB6 HO6 HG6 HK6 HL6 HSZ6 HW8 v4 v4' v4a v0 HCV HRT HW3
                      go_wp2_with fail
                      go_roundw
                      case rel => exact ⟨q, a', p', nI + 1, (nN + 1), its ++ [v], (nms ++ [s]), css ++ [cs5], _, _, _, _, by go_num, by omega, haN, hp', by omega, by omega, ⟨by simp [HLN.out.1], hNL⟩, HR8, HR9⟩
                      case measure => simp [intOf]
                    · cases hjj
                  rcases List.mem_cons.1 hjj with rfl | hjj
                  · refine wpOp_step (by rw [List.getElem?_toArray]; exact rfl) (fun K hK => ?_)
                    have HV6 := Lib.hid (HWA.out.gv6 HG6.out)
                    have c6' : w6.cell? ⟨gv, 4, none⟩ = some (.slice AI nI cI) := HV6.out.cell 4
                    have f6 : w6.frozen? ⟨gv, 4, none⟩ = false := HV6.out.frozen 4
                    go_simp
                    refine hK _ _ ?_
                    clear hK K
                    try simp only [Act.put, List.setIfInBounds_toArray, List.set_cons_zero, List.set_cons_succ]
                    refine wpAny_ready (rs := [12]) (by kernel_rfl) (by simp) ?_
                    intro jj hjj
                    rcases List.mem_cons.1 hjj with rfl | hjj
                    · refine wpOp_step (by rw [List.getElem?_toArray]; exact rfl) (fun K hK => ?_)
                      have HB6' : Hid (Blk (w6.setCell ⟨gv, 4, none⟩ (.slice (some ⟨r6, 0, none⟩) (nI + 1) c6)) r6 30 cur6) := HB6.out.far (by have h6x : w.heap.size ≤ r6 := (own_at HO6.out rfl).1; have := HWA.out.lv; simp only; omega) _
                      refine step_store_midB rfl 30 (.tmp 92) (.tmp 88) rfl rfl r6 (nI * 6) cs5.toArray (by go_simp) (by go_simp) HB6'.out HI5.out HSZ6.out HS5.out.2 ?_
                      intro w8 hb7 hg7 hz7
                      have HW8 := Lib.hid (Row.item' HWA.out HO6.out HG6.out HK6.out hg7 hz7 (HL6.out w8 hb7))
                      clear hb7 hg7 hz7 c6' f6 HB6'
                      refine hK _ _ ?_
                      clear hK K
                      try simp only [Act.put, List.setIfInBounds_toArray, List.set_cons_zero, List.set_cons_succ]
                      refine wpAny_done (by kernel_rfl) ?_ _
                      have HR9 : Hid (Row w w8 g gv 7 A N c a' p' (nms ++ [s]) (css ++ [cs5]).flatten (some ⟨r6, 0, none⟩) (nI + 1) c6 (some ⟨rN, 0, none⟩) (nN + 1) cN3 (its ++ [v]) (css ++ [cs5])) := by show Row _ _ _ _ _ _ _ _ _ _ _ _ _ _ _ _ _ _ _ _; rw [List.flatten_append, List.flatten_singleton]; exact HW8.out
                      clear HG5 HW5 HS5 HWA HZA HB6 HO6 HG6 HK6 HL6 HSZ6 HW8 v4 v4' v4a v0 HCV HRT HW3
                      go_wp2_with fail
                      go_roundw
                      case rel => exact ⟨q, a', p', nI + 1, (nN + 1), its ++ [v], (nms ++ [s]), css ++ [cs5], _, _, _, _, by go_num, by omega, haN, hp', by omega, by omega, ⟨by simp [HLN.out.1], hNL⟩, HR8, HR9⟩
                      case measure => simp [intOf]
                    · cases hjj
                  · cases hjj
                · cases hjj
              · cases hjj
            · cases hjj
          rcases List.mem_cons.1 hjj with rfl | hjj
          · refine wpOp_step (by rw [List.getElem?_toArray]; exact rfl) (fun K hK => ?_)
            go_simp
            refine hK _ _ ?_
            clear hK K
            try simp only [Act.put, List.setIfInBounds_toArray, List.set_cons_zero, List.set_cons_succ]
            refine wpAny_ready (rs := [3, 7]) (by kernel_rfl) (by simp) ?_
            intro jj hjj
            rcases List.mem_cons.1 hjj with rfl | hjj
            · refine wpOp_step (by rw [List.getElem?_toArray]; exact rfl) (fun K hK => ?_)
              go_simp
              refine hK _ _ ?_
              clear hK K
              try simp only [Act.put, List.setIfInBounds_toArray, List.set_cons_zero, List.set_cons_succ]
              refine wpAny_take (i := 8) (v := .int .i64 (nI : Int)) (by rw [List.getElem?_toArray]; exact rfl) (by kernel_rfl) (by kernel_rfl) (by kernel_rfl) (by exact fun _ _ _ h => h) (Or.inl ⟨by rfl, fun w => by go_simp⟩) ?_
              try simp only [Act.put, List.setIfInBounds_toArray, List.set_cons_zero, List.set_cons_succ]
              refine wpAny_ready (rs := [7]) (by kernel_rfl) (by simp) ?_
              intro jj hjj
              rcases List.mem_cons.1 hjj with rfl | hjj
              · refine wpOp_step (by rw [List.getElem?_toArray]; exact rfl) (fun K hK => ?_)
                go_simp
                refine (HCV.out _ (((Below.refl _ _).drew).alloc (Nat.le_refl _) _)).mono ?_
                rintro e w5 ⟨cs5, rfl, hf5, hk5, hg5⟩
                have HG5 : Hid (w7.grownBy w5 (some g)) := only_trans (only_alloc (only_drew (World.grownBy.refl w7 _)) _) hg5
                have HZ5 := Lib.hid (zv_keep hg5 hg3)
                have HW5 := Lib.hid (Row.kid HW3.out HG5.out hk5 hf5 (by simp))
                have HS5 := Lib.hid (six_of hf5.rd)
                have HI5 := Lib.hid (info_six HS5.out.1)
                have v4' : w5.cell? ⟨gv, 4, none⟩ = some (.slice AI nI cI) := HW5.out.bv.cell 4
                have v4a : ∀ o : Obj, (w5.alloc o).cell? ⟨gv, 4, none⟩ = some (.slice AI nI cI) := fun o => (HW5.out.bv.alloc o).cell 4
                clear hf5 hk5 hg5
                refine hK _ _ ?_
                clear hK K
                try simp only [Act.put, List.setIfInBounds_toArray, List.set_cons_zero, List.set_cons_succ]
                refine wpAny_ready (rs := [10]) (by kernel_rfl) (by simp) ?_
                intro jj hjj
                rcases List.mem_cons.1 hjj with rfl | hjj
                · refine wpOp_step (by rw [List.getElem?_toArray]; exact rfl) (fun K hK => ?_)
                  have HWA := HW5
                  have HZA := HZ5
                  refine step_append_any _ rfl (.tmp 84) (.tmp 90) 27 rfl w.heap.size 30 i0 _ 6 88 Tryz.underlying27 hi0 hz0 hz1 hz2 rfl (by omega) (.slice AI nI cI) nI css.flatten (by simp [Act.eval]) HWA.out.oi _ (some ⟨w7.heap.size, 0, none⟩) 1 1 zv6 (by simp [Act.eval]) HZA.out (by simp [Value.oneCell']) (by simp only [maxLen]; omega) (by omega) HWA.out.kp.size ?_
                  intro v6 w6 hown6 hg6 hbk6
                  obtain ⟨A6, c6, hv6⟩ := own_slice6 hown6
                  subst hv6
                  obtain ⟨r6, hr6⟩ := own_form6 hown6 (by omega)
                  subst hr6
                  obtain ⟨cur6, hb6, hs6, ho6⟩ := own_last hown6 (by rw [flat_six css HW3.out.ch.six, HW3.out.ch.len, HLN.out.1]) HS5.out.1
                  have HB6 := Lib.hid hb6
                  have HO6 := Lib.hid hown6
                  have HG6 := Lib.hid hg6
                  have HK6 := Lib.hid hbk6
                  have HL6 := Lib.hid ho6
                  have HSZ6 := Lib.hid hs6
                  clear hb6 hown6 hg6 hbk6 ho6 hs6
                  refine hK _ _ ?_
                  clear hK K
                  try simp only [Act.put, List.setIfInBounds_toArray, List.set_cons_zero, List.set_cons_succ]
                  refine wpAny_take (i := 11) (v := .pointer (some ⟨r6, nI * 6, none⟩)) (by rw [List.getElem?_toArray]; exact rfl) (by kernel_rfl) (by kernel_rfl) (by kernel_rfl) (by exact fun _ _ _ h => h) (Or.inl ⟨by rfl, fun w => by go_simp; first | done | (intro h; exact absurd h (by omega))⟩) ?_
                  try simp only [Act.put, List.setIfInBounds_toArray, List.set_cons_zero, List.set_cons_succ]
                  refine wpAny_take (i := 13) (v := .pointer (some ⟨gv, 0, none⟩)) (by rw [List.getElem?_toArray]; exact rfl) (by kernel_rfl) (by kernel_rfl) (by kernel_rfl) (by exact fun _ _ _ h => h) (Or.inl ⟨by rfl, fun w => by go_simp⟩) ?_
                  try simp only [Act.put, List.setIfInBounds_toArray, List.set_cons_zero, List.set_cons_succ]
                  refine wpAny_take (i := 14) (v := .pointer (some ⟨gv, 4, none⟩)) (by rw [List.getElem?_toArray]; exact rfl) (by kernel_rfl) (by kernel_rfl) (by kernel_rfl) (by exact fun _ _ _ h => h) (Or.inl ⟨by rfl, fun w => by go_simp⟩) ?_
                  try simp only [Act.put, List.setIfInBounds_toArray, List.set_cons_zero, List.set_cons_succ]
                  refine wpAny_ready (rs := [12, 15]) (by kernel_rfl) (by simp) ?_
                  intro jj hjj
                  rcases List.mem_cons.1 hjj with rfl | hjj
                  · refine wpOp_step (by rw [List.getElem?_toArray]; exact rfl) (fun K hK => ?_)
                    refine step_store_midB rfl 30 (.tmp 92) (.tmp 88) rfl rfl r6 (nI * 6) cs5.toArray (by go_simp) (by go_simp) HB6.out HI5.out HSZ6.out HS5.out.2 ?_
                    intro w7 hb7 hg7 hz7
                    have HV7 : Hid (Blk w7 gv 30 (vkC 7 AI nI cI (some ⟨rN, 0, none⟩) (nN + 1) cN3)) := (HWA.out.gv6 HG6.out).grown hg7 (by have h6x : w.heap.size ≤ r6 := (own_at HO6.out rfl).1; have := HWA.out.lv; intro e; injection e with e; omega)
                    have HW8 := Lib.hid (Row.item HWA.out HO6.out HG6.out HK6.out hg7 hz7 (HL6.out w7 hb7))
                    have c7 : w7.cell? ⟨gv, 4, none⟩ = some (.slice AI nI cI) := HV7.out.cell 4
                    have f7 : w7.frozen? ⟨gv, 4, none⟩ = false := HV7.out.frozen 4
                    clear hb7 hg7 hz7
                    refine hK _ _ ?_
                    clear hK K
                    try simp only [Act.put, List.setIfInBounds_toArray, List.set_cons_zero, List.set_cons_succ]
                    refine wpAny_ready (rs := [15]) (by kernel_rfl) (by simp) ?_
                    intro jj hjj
                    rcases List.mem_cons.1 hjj with rfl | hjj
                    · refine wpOp_step (by rw [List.getElem?_toArray]; exact rfl) (fun K hK => ?_)
                      go_simp
                      refine hK _ _ ?_
                      clear hK K
                      try simp only [Act.put, List.setIfInBounds_toArray, List.set_cons_zero, List.set_cons_succ]
                      refine wpAny_done (by kernel_rfl) ?_ _
                      clear c7 f7
                      generalize w7.setCell ⟨gv, 4, none⟩ (.slice (some ⟨r6, 0, none⟩) (nI + 1) c6) = w8 at *
                      have HR9 : Hid (Row w w8 g gv 7 A N c a' p' (nms ++ [s]) (css ++ [cs5]).flatten (some ⟨r6, 0, none⟩) (nI + 1) c6 (some ⟨rN, 0, none⟩) (nN + 1) cN3 (its ++ [v]) (css ++ [cs5])) := by show Row _ _ _ _ _ _ _ _ _ _ _ _ _ _ _ _ _ _ _ _; rw [List.flatten_append, List.flatten_singleton]; exact HW8.out
                      clear HG5 HW5 HS5 HWA HZA HB6 HO6 HG6 HK6 HL6 HSZ6 HW8 v4 v4' v4a v0 HCV HRT HW3
                      go_wp2_with fail
                      go_roundw
                      case rel => exact ⟨q, a', p', nI + 1, (nN + 1), its ++ [v], (nms ++ [s]), css ++ [cs5], _, _, _, _, by go_num, by omega, haN, hp', by omega, by omega, ⟨by simp [HLN.out.1], hNL⟩, HR8, HR9⟩
                      case measure => simp [intOf]
                    · cases hjj
                  rcases List.mem_cons.1 hjj with rfl | hjj
                  · refine wpOp_step (by rw [List.getElem?_toArray]; exact rfl) (fun K hK => ?_)
                    have HV6 := Lib.hid (HWA.out.gv6 HG6.out)
                    have c6' : w6.cell? ⟨gv, 4, none⟩ = some (.slice AI nI cI) := HV6.out.cell 4
                    have f6 : w6.frozen? ⟨gv, 4, none⟩ = false := HV6.out.frozen 4
                    go_simp
                    refine hK _ _ ?_
                    clear hK K
                    try simp only [Act.put, List.setIfInBounds_toArray, List.set_cons_zero, List.set_cons_succ]
                    refine wpAny_ready (rs := [12]) (by kernel_rfl) (by simp) ?_
                    intro jj hjj
                    rcases List.mem_cons.1 hjj with rfl | hjj
                    · refine wpOp_step (by rw [List.getElem?_toArray]; exact rfl) (fun K hK => ?_)
                      have HB6' : Hid (Blk (w6.setCell ⟨gv, 4, none⟩ (.slice (some ⟨r6, 0, none⟩) (nI + 1) c6)) r6 30 cur6) := HB6.out.far (by have h6x : w.heap.size ≤ r6 := (own_at HO6.out rfl).1; have := HWA.out.lv; simp only; omega) _
                      refine step_store_midB rfl 30 (.tmp 92) (.tmp 88) rfl rfl r6 (nI * 6) cs5.toArray (by go_simp) (by go_simp) HB6'.out HI5.out HSZ6.out HS5.out.2 ?_
                      intro w8 hb7 hg7 hz7
                      have HW8 := Lib.hid (Row.item' HWA.out HO6.out HG6.out HK6.out hg7 hz7 (HL6.out w8 hb7))
                      clear hb7 hg7 hz7 c6' f6 HB6'
                      refine hK _ _ ?_
                      clear hK K
                      try simp only [Act.put, List.setIfInBounds_toArray, List.set_cons_zero, List.set_cons_succ]
                      refine wpAny_done (by kernel_rfl) ?_ _
                      have HR9 : Hid (Row w w8 g gv 7 A N c a' p' (nms ++ [s]) (css ++ [cs5]).flatten (some ⟨r6, 0, none⟩) (nI + 1) c6 (some ⟨rN, 0, none⟩) (nN + 1) cN3 (its ++ [v]) (css ++ [cs5])) := by show Row _ _ _ _ _ _ _ _ _ _ _ _ _ _ _ _ _ _ _ _; rw [List.flatten_append, List.flatten_singleton]; exact HW8.out
                      clear HG5 HW5 HS5 HWA HZA HB6 HO6 HG6 HK6 HL6 HSZ6 HW8 v4 v4' v4a v0 HCV HRT HW3
                      go_wp2_with fail
                      go_roundw
                      case rel => exact ⟨q, a', p', nI + 1, (nN + 1), its ++ [v], (nms ++ [s]), css ++ [cs5], _, _, _, _, by go_num, by omega, haN, hp', by omega, by omega, ⟨by simp [HLN.out.1], hNL⟩, HR8, HR9⟩
                      case measure => simp [intOf]
                    · cases hjj
                  · cases hjj
                · cases hjj
              · cases hjj
            rcases List.mem_cons.1 hjj with rfl | hjj
            · refine wpOp_step (by rw [List.getElem?_toArray]; exact rfl) (fun K hK => ?_)
              go_simp
              refine (HCV.out _ (((Below.refl _ _).drew).alloc (Nat.le_refl _) _)).mono ?_
              rintro e w5 ⟨cs5, rfl, hf5, hk5, hg5⟩
              have HG5 : Hid (w7.grownBy w5 (some g)) := only_trans (only_alloc (only_drew (World.grownBy.refl w7 _)) _) hg5
              have HZ5 := Lib.hid (zv_keep hg5 hg3)
              have HW5 := Lib.hid (Row.kid HW3.out HG5.out hk5 hf5 (by simp))
              have HS5 := Lib.hid (six_of hf5.rd)
              have HI5 := Lib.hid (info_six HS5.out.1)
              have v4' : w5.cell? ⟨gv, 4, none⟩ = some (.slice AI nI cI) := HW5.out.bv.cell 4
              have v4a : ∀ o : Obj, (w5.alloc o).cell? ⟨gv, 4, none⟩ = some (.slice AI nI cI) := fun o => (HW5.out.bv.alloc o).cell 4
              clear hf5 hk5 hg5
              refine hK _ _ ?_
              clear hK K
              try simp only [Act.put, List.setIfInBounds_toArray, List.set_cons_zero, List.set_cons_succ]
              refine wpAny_ready (rs := [3]) (by kernel_rfl) (by simp) ?_
              intro jj hjj
              rcases List.mem_cons.1 hjj with rfl | hjj
              · refine wpOp_step (by rw [List.getElem?_toArray]; exact rfl) (fun K hK => ?_)
                go_simp
                refine hK _ _ ?_
                clear hK K
                try simp only [Act.put, List.setIfInBounds_toArray, List.set_cons_zero, List.set_cons_succ]
                refine wpAny_take (i := 8) (v := .int .i64 (nI : Int)) (by rw [List.getElem?_toArray]; exact rfl) (by kernel_rfl) (by kernel_rfl) (by kernel_rfl) (by exact fun _ _ _ h => h) (Or.inl ⟨by rfl, fun w => by go_simp⟩) ?_
                try simp only [Act.put, List.setIfInBounds_toArray, List.set_cons_zero, List.set_cons_succ]
                refine wpAny_ready (rs := [10]) (by kernel_rfl) (by simp) ?_
                intro jj hjj
                rcases List.mem_cons.1 hjj with rfl | hjj
                · refine wpOp_step (by rw [List.getElem?_toArray]; exact rfl) (fun K hK => ?_)
                  have HWA := HW5
                  have HZA := HZ5
                  refine step_append_any _ rfl (.tmp 84) (.tmp 90) 27 rfl w.heap.size 30 i0 _ 6 88 Tryz.underlying27 hi0 hz0 hz1 hz2 rfl (by omega) (.slice AI nI cI) nI css.flatten (by simp [Act.eval]) HWA.out.oi _ (some ⟨w7.heap.size, 0, none⟩) 1 1 zv6 (by simp [Act.eval]) HZA.out (by simp [Value.oneCell']) (by simp only [maxLen]; omega) (by omega) HWA.out.kp.size ?_
                  intro v6 w6 hown6 hg6 hbk6
                  obtain ⟨A6, c6, hv6⟩ := own_slice6 hown6
                  subst hv6
                  obtain ⟨r6, hr6⟩ := own_form6 hown6 (by omega)
                  subst hr6
                  obtain ⟨cur6, hb6, hs6, ho6⟩ := own_last hown6 (by rw [flat_six css HW3.out.ch.six, HW3.out.ch.len, HLN.out.1]) HS5.out.1
                  have HB6 := Lib.hid hb6
                  have HO6 := Lib.hid hown6
                  have HG6 := Lib.hid hg6
                  have HK6 := Lib.hid hbk6
                  have HL6 := Lib.hid ho6
                  have HSZ6 := Lib.hid hs6
                  clear hb6 hown6 hg6 hbk6 ho6 hs6
                  refine hK _ _ ?_
                  clear hK K
                  try simp only [Act.put, List.setIfInBounds_toArray, List.set_cons_zero, List.set_cons_succ]
                  refine wpAny_take (i := 11) (v := .pointer (some ⟨r6, nI * 6, none⟩)) (by rw [List.getElem?_toArray]; exact rfl) (by kernel_rfl) (by kernel_rfl) (by kernel_rfl) (by exact fun _ _ _ h => h) (Or.inl ⟨by rfl, fun w => by go_simp; first | done | (intro h; exact absurd h (by omega))⟩) ?_
                  try simp only [Act.put, List.setIfInBounds_toArray, List.set_cons_zero, List.set_cons_succ]
                  refine wpAny_take (i := 13) (v := .pointer (some ⟨gv, 0, none⟩)) (by rw [List.getElem?_toArray]; exact rfl) (by kernel_rfl) (by kernel_rfl) (by kernel_rfl) (by exact fun _ _ _ h => h) (Or.inl ⟨by rfl, fun w => by go_simp⟩) ?_
                  try simp only [Act.put, List.setIfInBounds_toArray, List.set_cons_zero, List.set_cons_succ]
                  refine wpAny_take (i := 14) (v := .pointer (some ⟨gv, 4, none⟩)) (by rw [List.getElem?_toArray]; exact rfl) (by kernel_rfl) (by kernel_rfl) (by kernel_rfl) (by exact fun _ _ _ h => h) (Or.inl ⟨by rfl, fun w => by go_simp⟩) ?_
                  try simp only [Act.put, List.setIfInBounds_toArray, List.set_cons_zero, List.set_cons_succ]
                  refine wpAny_ready (rs := [12, 15]) (by kernel_rfl) (by simp) ?_
                  intro jj hjj
                  rcases List.mem_cons.1 hjj with rfl | hjj
                  · refine wpOp_step (by rw [List.getElem?_toArray]; exact rfl) (fun K hK => ?_)
                    refine step_store_midB rfl 30 (.tmp 92) (.tmp 88) rfl rfl r6 (nI * 6) cs5.toArray (by go_simp) (by go_simp) HB6.out HI5.out HSZ6.out HS5.out.2 ?_
                    intro w7 hb7 hg7 hz7
                    have HV7 : Hid (Blk w7 gv 30 (vkC 7 AI nI cI (some ⟨rN, 0, none⟩) (nN + 1) cN3)) := (HWA.out.gv6 HG6.out).grown hg7 (by have h6x : w.heap.size ≤ r6 := (own_at HO6.out rfl).1; have := HWA.out.lv; intro e; injection e with e; omega)
                    have HW8 := Lib.hid (Row.item HWA.out HO6.out HG6.out HK6.out hg7 hz7 (HL6.out w7 hb7))
                    have c7 : w7.cell? ⟨gv, 4, none⟩ = some (.slice AI nI cI) := HV7.out.cell 4
                    have f7 : w7.frozen? ⟨gv, 4, none⟩ = false := HV7.out.frozen 4
                    clear hb7 hg7 hz7
                    refine hK _ _ ?_
                    clear hK K
                    try simp only [Act.put, List.setIfInBounds_toArray, List.set_cons_zero, List.set_cons_succ]
                    refine wpAny_ready (rs := [15]) (by kernel_rfl) (by simp) ?_
                    intro jj hjj
                    rcases List.mem_cons.1 hjj with rfl | hjj
                    · refine wpOp_step (by rw [List.getElem?_toArray]; exact rfl) (fun K hK => ?_)
                      go_simp
                      refine hK _ _ ?_
                      clear hK K
                      try simp only [Act.put, List.setIfInBounds_toArray, List.set_cons_zero, List.set_cons_succ]
                      refine wpAny_done (by kernel_rfl) ?_ _
                      clear c7 f7
                      generalize w7.setCell ⟨gv, 4, none⟩ (.slice (some ⟨r6, 0, none⟩) (nI + 1) c6) = w8 at *
                      have HR9 : Hid (Row w w8 g gv 7 A N c a' p' (nms ++ [s]) (css ++ [cs5]).flatten (some ⟨r6, 0, none⟩) (nI + 1) c6 (some ⟨rN, 0, none⟩) (nN + 1) cN3 (its ++ [v]) (css ++ [cs5])) := by show Row _ _ _ _ _ _ _ _ _ _ _ _ _ _ _ _ _ _ _ _; rw [List.flatten_append, List.flatten_singleton]; exact HW8.out
                      clear HG5 HW5 HS5 HWA HZA HB6 HO6 HG6 HK6 HL6 HSZ6 HW8 v4 v4' v4a v0 HCV HRT HW3
                      go_wp2_with fail
                      go_roundw
                      case rel => exact ⟨q, a', p', nI + 1, (nN + 1), its ++ [v], (nms ++ [s]), css ++ [cs5], _, _, _, _, by go_num, by omega, haN, hp', by omega, by omega, ⟨by simp [HLN.out.1], hNL⟩, HR8, HR9⟩
                      case measure => simp [intOf]
                    · cases hjj
                  rcases List.mem_cons.1 hjj with rfl | hjj
                  · refine wpOp_step (by rw [List.getElem?_toArray]; exact rfl) (fun K hK => ?_)
                    have HV6 := Lib.hid (HWA.out.gv6 HG6.out)
                    have c6' : w6.cell? ⟨gv, 4, none⟩ = some (.slice AI nI cI) := HV6.out.cell 4
                    have f6 : w6.frozen? ⟨gv, 4, none⟩ = false := HV6.out.frozen 4
                    go_simp
                    refine hK _ _ ?_
                    clear hK K
                    try simp only [Act.put, List.setIfInBounds_toArray, List.set_cons_zero, List.set_cons_succ]
                    refine wpAny_ready (rs := [12]) (by kernel_rfl) (by simp) ?_
                    intro jj hjj
                    rcases List.mem_cons.1 hjj with rfl | hjj
                    · refine wpOp_step (by rw [List.getElem?_toArray]; exact rfl) (fun K hK => ?_)
                      have HB6' : Hid (Blk (w6.setCell ⟨gv, 4, none⟩ (.slice (some ⟨r6, 0, none⟩) (nI + 1) c6)) r6 30 cur6) := HB6.out.far (by have h6x : w.heap.size ≤ r6 := (own_at HO6.out rfl).1; have := HWA.out.lv; simp only; omega) _
                      refine step_store_midB rfl 30 (.tmp 92) (.tmp 88) rfl rfl r6 (nI * 6) cs5.toArray (by go_simp) (by go_simp) HB6'.out HI5.out HSZ6.out HS5.out.2 ?_
                      intro w8 hb7 hg7 hz7
                      have HW8 := Lib.hid (Row.item' HWA.out HO6.out HG6.out HK6.out hg7 hz7 (HL6.out w8 hb7))
                      clear hb7 hg7 hz7 c6' f6 HB6'
                      refine hK _ _ ?_
                      clear hK K
                      try simp only [Act.put, List.setIfInBounds_toArray, List.set_cons_zero, List.set_cons_succ]
                      refine wpAny_done (by kernel_rfl) ?_ _
                      have HR9 : Hid (Row w w8 g gv 7 A N c a' p' (nms ++ [s]) (css ++ [cs5]).flatten (some ⟨r6, 0, none⟩) (nI + 1) c6 (some ⟨rN, 0, none⟩) (nN + 1) cN3 (its ++ [v]) (css ++ [cs5])) := by show Row _ _ _ _ _ _ _ _ _ _ _ _ _ _ _ _ _ _ _ _; rw [List.flatten_append, List.flatten_singleton]; exact HW8.out
                      clear HG5 HW5 HS5 HWA HZA HB6 HO6 HG6 HK6 HL6 HSZ6 HW8 v4 v4' v4a v0 HCV HRT HW3
                      go_wp2_with fail
                      go_roundw
                      case rel => exact ⟨q, a', p', nI + 1, (nN + 1), its ++ [v], (nms ++ [s]), css ++ [cs5], _, _, _, _, by go_num, by omega, haN, hp', by omega, by omega, ⟨by simp [HLN.out.1], hNL⟩, HR8, HR9⟩
                      case measure => simp [intOf]
                    · cases hjj
                  · cases hjj
                · cases hjj
              · cases hjj
            · cases hjj
          · cases hjj
end Go.Proofs.YtacnoedhpamdmaaGreatDoor
