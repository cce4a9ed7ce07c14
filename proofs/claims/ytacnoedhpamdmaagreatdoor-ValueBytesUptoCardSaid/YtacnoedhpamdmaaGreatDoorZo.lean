/- Walk: the items of a map read out of bytes, the document's ((*quernref23.bytesIn).items). Conditions: as stated. -/
import Derived.Test.YtacnoedhpamdmaaGreatDoorZm
import Derived.Deep.RegionLaw
namespace Go.Proofs.YtacnoedhpamdmaaGreatDoor
open Go.RowKit
set_option linter.unusedVariables false
set_option linter.unusedSimpArgs false
attribute [local go_sem ↓] Go.wp_at_zero Go.wp_at_succ

set_option linter.unnecessarySimpa false
theorem RowB.retA7 {w wr w3 : World} {g nI cI nN cN a p : Nat} {k : Int} {AI AN : Option Addr} {its : List Val} {css : List (List Value)} {nms : List ByteArray} {A : Option Addr} {N c : Nat} {X : Nat → Prop} (h : RowB w wr g k AI nI cI AN nN cN css.flatten nms) (h1 : its.length = nI) (h2 : nms.length = nN) (hc : Chs (w.heap.size + 2) wr X its css) (hk : Blk wr g 102 (RnC A N c a (p : Int) 0 0)) (hg : wr.grownBy w3 (some (w.heap.size + 1))) :
    RPost w g A N c (.ok (.mk k 0 0 ⟨#[]⟩ its nms) a p) (.returned (.agg (vkC k AI nI cI AN nN cN))) w3 := by
  subst h1 h2
  exact h.retA hc hk hg
theorem RU.ofE {w w' : World} {g N c a4 a : Nat} {A : Option Addr} {e : Int} {E : Ending} (he : e ≠ 0) (h : E = .returned (.agg zv6.toArray) ∧ (∃ q', Blk w' g 102 (RnC A N c a q' (a4 : Int) e)) ∧ w.grownBy w' (some g)) : RU w g A N c (.bad a4 e) E w' := by
  obtain ⟨h1, ⟨q', h2⟩, h3⟩ := h
  exact ⟨zv6, a, q', a4, e, h1, rfl, rfl, h2, h3, .inr ⟨a4, rfl, rfl, he⟩⟩
theorem rtx_why {xs : List Int} {h : Bool} {a a4 : Nat} {e4 : Int} (hr : rtx xs h a = .bad a4 e4) : e4 ≠ 0 := by
  unfold rtx at hr
  repeat' split at hr
  all_goals first | (injection hr with _ hr; subst hr; decide) | (cases hr; done)
theorem rtx_okn {xs : List Int} {a a3 : Nat} {s : ByteArray} (hx : Bts xs) (hr : rtx xs false a = .ok s a3) : a3 = a + 4 + s.size ∧ a3 ≤ xs.length := by
  unfold rtx at hr
  split at hr
  · cases hr
  split at hr
  · cases hr
  split at hr
  · cases hr
  · rename_i h1 h2 h3
    injection hr with e1 e2
    have hz : s.size = numL (sub xs a 4) := by
      have := congrArg List.length (txB_strL (sub_bts hx (a + 4) (numL (sub xs a 4))))
      rw [txB_len, e1, sub_len (by omega)] at this
      exact this
    omega
theorem nameD_bad {xs : List Int} {a a4 : Nat} {e4 : Int} {nms : List ByteArray} (hr : rtx xs false a = .bad a4 e4) : nameD xs a nms = .bad a4 e4 := by
  unfold rtx at hr
  unfold nameD
  simp only [Bool.false_eq_true, false_and, if_false] at hr
  split at hr
  · rename_i h1
    rw [if_pos h1]; exact hr
  · rename_i h1
    rw [if_neg h1]
    split at hr
    · rename_i h2
      rw [if_pos h2]; exact hr
    · cases hr
theorem nameD_okr {xs : List Int} {a a3 : Nat} {s : ByteArray} {nms : List ByteArray} (hr : rtx xs false a = .ok s a3) : nameD xs a nms = if nms ≠ [] ∧ s = nms.getLastD ⟨#[]⟩ then .bad (a + 4) 232 else if nms ≠ [] ∧ Op.bytesLess s.toList (nms.getLastD ⟨#[]⟩).toList = true then .bad (a + 4) 233 else .ok s a3 := by
  unfold rtx at hr
  unfold nameD
  simp only [Bool.false_eq_true, false_and, if_false] at hr
  split at hr
  · cases hr
  · rename_i h1
    rw [if_neg h1]
    split at hr
    · cases hr
    · rename_i h2
      rw [if_neg h2]
      injection hr with e1 e2
      rw [e1, e2]
theorem RowB.chp {w wr w5 : World} {g nI cI nN cN : Nat} {k : Int} {AI AN : Option Addr} {rows : List Value} {nms : List ByteArray} {its : List Val} {css : List (List Value)} (h : RowB w wr g k AI nI cI AN nN cN rows nms)
    (hc : Chs (w.heap.size + 2) wr (XOf AI nI cI AN nN cN) its css) (hg : wr.grownBy w5 (some g)) : Chs (w.heap.size + 2) w5 (XOf AI nI cI AN nN cN) its css := by
  have hlg := h.lg
  exact hc.on hg.size fun i hi hj hx => ⟨hg.block i hj (fun e => by injection e with e; omega), hx⟩
set_option maxRecDepth 100000 in
set_option maxHeartbeats 16000000 in
theorem c_ritems7 (xs : List Int) (A : Option Addr) (N c d : Nat) (hV : RVC xs A N c d) (hE : RVE A N c) (hx : Bts xs) (hN : N ≤ 1048576) (hNc : N ≤ c) (hc : c ≤ 9223372036854775807) (g a p : Nat) (D : Int) (hD : D + 1 = 65 - (d : Int)) (hD0 : 0 ≤ D) (hD1 : D ≤ 65) (w : World)
    (hB : Blk w g 102 (RnC A N c a (p : Int) 0 0)) (hr : Reads w g 1 A N (u8s xs)) (ha : a + 4 ≤ N) (hp : p ≤ 65536) :
    Calls Tryz.prog 100 #[.pointer (some ⟨g, 0, none⟩), .agg (vkC 7 none 0 0 none 0 0), .int .i64 D] w (RPost w g A N c (decI (decV xs d) xs 7 (numL (sub xs a 4)) (a + 4) p [] [])) := by
  have hl : xs.length = N := by simpa using hr.1
  obtain ⟨i0, hi0, hz0, hz1, hz2⟩ := info_parts v_info88
  obtain ⟨s0, hs0, hsz0, hsz1, hsz2⟩ := info_parts s_info16
  have hM : numL (sub xs a 4) < 4294967296 := by
    have := numL_lt _ (sub_bts hx a 4)
    rw [sub_len (by omega)] at this
    omega
  have HC : Hid (∀ W, Blk W g 102 (RnC A N c a (p : Int) 0 0) → Reads W g 1 A N (u8s xs) → _) := fun W h1 h2 => c_rword g a 4 A N c (p : Int) 0 xs W h1 h2 hx hN hNc hc ha (by decide)
  obtain ⟨R, hR⟩ : ∃ R, decI (decV xs d) xs 7 (numL (sub xs a 4)) (a + 4) p [] [] = R := ⟨_, rfl⟩
  rw [hR]
  have HR := Lib.hid hR
  have HVC := Lib.hid hV
  have HVE := Lib.hid hE
  have HX := Lib.hid hx
  have HL := Lib.hid hl
  have HRD := Lib.hid hr
  have HB := Lib.hid hB
  have hgs : g < w.heap.size := hB.lt
  have HDD := Lib.hid hD
  have hw1 : IntKind.i64.wrap (D + 1) = D + 1 := IntWalk.i64_in _ (by omega)
  obtain ⟨M, hMe⟩ : ∃ M, numL (sub xs a 4) = M := ⟨_, rfl⟩
  rw [hMe] at hM HR HC
  have hwM : IntKind.i64.wrap (M : Int) = (M : Int) := IntWalk.i64_in _ (by omega)
  clear hB hr hx hl hR hV hE hD hMe
  go_enter Tryz.func100, Tryz.ntmps100
  go_wp2_with fail
  refine (HC.out _ ((HB.out.alloc _).alloc _) ((HRD.out.alloc (Nat.le_of_lt hgs) _).alloc (by simp; omega) _)).mono ?_
  rintro e w1 ⟨rfl, hb1, hg1⟩
  have HB1 : Hid (RowB w w1 g 7 none 0 0 none 0 0 [] []) := by
    have hv : Blk ((w.alloc (.cells (vkC 7 none 0 0 none 0 0) 30)).alloc (.cells vz 30)) w.heap.size 30 (vkC 7 none 0 0 none 0 0) := (Blk.new w 30 _).alloc _
    have hr : Blk ((w.alloc (.cells (vkC 7 none 0 0 none 0 0) 30)).alloc (.cells vz 30)) (w.heap.size + 1) 30 vz := by
      have := Blk.new (w.alloc (.cells (vkC 7 none 0 0 none 0 0) 30)) 30 vz
      rw [World.size_alloc] at this
      exact this
    exact ⟨hv.grown hg1 (by intro e; injection e with e; omega), hr.grown hg1 (by intro e; injection e with e; omega), World.ownsRow_nil _ _ _ _, World.ownsRow_nil _ _ _ _, only_trans (only_alloc (only_alloc (World.grownBy.refl w _) _) _) hg1, hgs, by have := hg1.size; simp at this; omega⟩
  have HM1 : Hid (RM xs w w1 g A N c d 7 M R 0) := rm_nil HB1.out hb1 ha hp HR.out
  clear hb1 hg1 HC HB HR HB1
  go_wp2_with fail
  go_loopw [8] (fun vi wr => ∃ (i : Nat), vi = .int .i64 (i : Int) ∧ i ≤ M ∧ Hid (RM xs w wr g A N c d 7 M R i)) (fun vi _ => (M - (intOf vi).toNat))
  case atStart => exact ⟨0, rfl, Nat.zero_le _, HM1⟩
  case round =>
    clear HM1 ha hp
    obtain ⟨i, rfl, hi, HM⟩ := hrel
    obtain ⟨AI, nI, cI, AN, nN, cN, rows, nms, a, q, pl, e, hr, hk, hm⟩ := HM.out
    have HRr := Lib.hid hr
    have HK := Lib.hid hk
    clear hr hk HM
    have g4 : wr.cell? ⟨g, 4, none⟩ = some (.int .i64 e) := HK.out.cell 4
    rcases hm with ⟨rfl, rfl, p, its, css, rfl, ha, hp, hnI, hil, hnl, hk7, rfl, hcs, hR⟩ | ⟨hne, a4, rfl, hR⟩
    rotate_left
    · have h0 : (e == 0) = false := by simpa using hne
      have HRR := Lib.hid hR
      clear hne hR
      rcases Nat.lt_or_ge i M with hlt | hge
      · have t1 : (i : Int) < (M : Int) := by omega
        go_wp2_with (first
          | (refine wpList_load_row rfl 30 (.tmp 4) rfl w.heap.size rfl 30 _ (0, 0) _ HRr.out.bv Tryz.underlying30 rfl v_info ?_)
          | (refine wpList_storeB rfl 30 (.tmp 6) (.tmp 101) rfl rfl (w.heap.size + 1) (vkC 7 AI nI cI AN nN cN) rfl rfl HRr.out.br v_info rfl rfl ?_; intro w3 hB3 hg3 hz3))
        refine bodyPost_ret (results_cellB (p := 6) rfl _ hB3 _ rfl Tryz.underlying30 rfl v_info) rfl ?_
        rw [HRR.out]
        exact HRr.out.retB HK.out hg3
      · have t1 : ¬ (i : Int) < (M : Int) := by omega
        go_wp2_with (first
          | (refine wpList_load_row rfl 30 (.tmp 4) rfl w.heap.size rfl 30 _ (0, 0) _ HRr.out.bv Tryz.underlying30 rfl v_info ?_)
          | (refine wpList_storeB rfl 30 (.tmp 6) (.tmp 101) rfl rfl (w.heap.size + 1) (vkC 7 AI nI cI AN nN cN) rfl rfl HRr.out.br v_info rfl rfl ?_; intro w3 hB3 hg3 hz3))
        refine bodyPost_ret (results_cellB (p := 6) rfl _ hB3 _ rfl Tryz.underlying30 rfl v_info) rfl ?_
        rw [HRR.out]
        exact HRr.out.retB HK.out hg3
    have HCS := Lib.hid hcs
    have HRR := Lib.hid hR
    clear hcs hR
    have HNL := Lib.hid hnl
    have h7 : nI = nN := hnI.trans (hk7 rfl).symm
    clear hnl hk7
    subst hnI
    subst h7
    rcases Nat.lt_or_ge nI M with hlt | hge
    rotate_left
    · have t1 : ¬ (nI : Int) < (M : Int) := by omega
      have HRF : Hid (R = .ok (.mk 7 0 0 ⟨#[]⟩ its nms) a p) := by
        have := HRR.out
        rw [show M - nI = 0 by omega, decI] at this
        exact this.symm
      go_wp2_with (first
        | (refine wpList_load_row rfl 30 (.tmp 4) rfl w.heap.size rfl 30 _ (0, 0) _ HRr.out.bv Tryz.underlying30 rfl v_info ?_)
        | (refine wpList_storeB rfl 30 (.tmp 6) (.tmp 101) rfl rfl (w.heap.size + 1) (vkC 7 AI nI cI AN nI cN) rfl rfl HRr.out.br v_info rfl rfl ?_; intro w3 hB3 hg3 hz3))
      refine bodyPost_ret (results_cellB (p := 6) rfl _ hB3 _ rfl Tryz.underlying30 rfl v_info) rfl ?_
      rw [HRF.out]
      exact HRr.out.retA7 hil HNL.out HCS.out HK.out hg3
    have t1 : (nI : Int) < (M : Int) := by omega
    obtain ⟨m, hm⟩ : ∃ m, M - nI = m + 1 := ⟨M - nI - 1, by omega⟩
    have hm2 : M - (nI + 1) = m := by omega
    rw [hm] at HRR
    have v0 : wr.cell? ⟨w.heap.size, 0, none⟩ = some (.int .i64 7) := HRr.out.bv.cell 0
    have HRD1 : Hid (Reads wr g 1 A N (u8s xs)) := HRD.out.grown HRr.out.gr (Nat.le_of_lt hgs) (fun g' h => by cases h; exact Nat.le_refl _)
    have HRT := Lib.hid (decI_7.symm.trans HRR.out)
    go_wp2_with fail
    refine (c_rtext g a false A N c (p : Int) 0 xs wr HK.out HRD1.out HX.out ha hN hNc hc).mono ?_
    intro ee w2 ht
    cases hrt : rtx xs false a with
    | bad a4 e4 =>
      rw [hrt] at ht
      obtain ⟨⟨s, a2, he, hk2⟩, hg2⟩ := ht
      subst he
      have hne : e4 ≠ 0 := rtx_why hrt
      have HRF : Hid (R = .bad a4 e4) := by
        show _ = _
        have := HRT.out
        rw [nameD_bad hrt] at this
        exact this.symm
      have HK2 := Lib.hid hk2
      have HR2 := Lib.hid (HRr.out.pen hg2)
      clear hk2 hg2 hrt g4 v0
      have h0 : (e4 == 0) = false := by simpa using hne
      have g4 : w2.cell? ⟨g, 4, none⟩ = some (.int .i64 e4) := HK2.out.cell 4
      have HWa : Hid ((w2.alloc (.cells #[.string s] 9)).ownsRow (w.heap.size + 2) 9 1 (.slice AN nI cN) nI (strs nms)) := own_keep HR2.out.on fun r hr => Below.heap_alloc w2 _ r (own_at HR2.out.on hr).2.1
      have HRs := Lib.hid (reads_one w2 9 (.string s))
      have v5 : w2.cell? ⟨w.heap.size, 5, none⟩ = some (.slice AN nI cN) := HR2.out.bv.cell 5
      go_upto_region 12 with (at_builtin; refine wpList_append_any _ rfl (.tmp 87) (.tmp 89) 28 rfl (w.heap.size + 2) 9 s0 _ 1 16 Tryz.underlying28 hs0 hsz0 hsz1 hsz2 rfl (by omega) (.slice AN nI cN) nI (strs nms) (by simp [Act.eval]) HWa.out _ (some ⟨w2.heap.size, 0, none⟩) 1 1 [.string s] (by simp [Act.eval]) HRs.out (by simp [Value.oneCell']) (by simp only [maxLen]; omega) (by omega) (by have := HR2.out.lz; simp; omega) ?_; intro v6 w6 hown6 hg6 hbk6; obtain ⟨AM, cM, hv6⟩ := own_slice6 hown6; subst hv6; have HS7 := Lib.hid (RowB.stepN HR2.out HK2.out hown6 hg6 hbk6); have hx6 : Blk w6 w.heap.size 30 (vkC 7 AI nI cI AN nI cN) := (HR2.out.bv.alloc _).grown hg6 (fun e => by have := (own_at HR2.out.on e.symm).1; omega); have c6' : w6.cell? ⟨w.heap.size, 5, none⟩ = some (.slice AN nI cN) := hx6.cell 5; have f6 := hx6.frozen 5; clear hown6 hg6 hbk6 hx6)
      clear c6' f6 v5 HWa HRs g4
      generalize w6.setCell ⟨w.heap.size, 5, none⟩ (.slice AM (nI + 1) cM) = w7 at *
      have HR7 := Lib.hid HS7.out.1
      have HK7 := Lib.hid HS7.out.2.1
      have HCV : Hid (∀ W', Below w7.heap.size w7 W' → Calls Tryz.prog 67 #[.pointer (some ⟨g, 0, none⟩), .int .i64 (D + 1)] W' (RU W' g A N c (.bad a4 e4))) := fun W' hb =>
        (HVE.out g a2 (p : Int) ((a4 : Nat) : Int) e4 W' (D + 1) hne (by omega) (by omega) (HK7.out.below hb HK7.out.lt)).mono fun E W h => RU.ofE hne h
      have HBD : Hid (∀ b4 f4, DR.bad a4 e4 = .bad b4 f4 → R = .bad b4 f4) := fun b4 f4 h => by rw [← h]; exact HRF.out
      have HOK : Hid (∀ v a' p', DR.bad a4 e4 = .ok v a' p' → ∃ (its : List Val) (css2 : List (List Value)), a' ≤ N ∧ p' ≤ 65536 ∧ nI = nI ∧ its.length = nI ∧ (nms ++ [s]).length = nI + 1 ∧ ((7 : Int) = 7 → nI + 1 = nI + 1) ∧ css.flatten = css2.flatten ∧ Chs (w.heap.size + 2) w7 (XOf AI nI cI AM (nI + 1) cM) its css2 ∧ decI (decV xs d) xs 7 (M - (nI + 1)) a' p' (its ++ [v]) (nms ++ [s]) = R) := fun v a' p' h => by cases h
      have v0 := HR7
      have g4 := HK7
      have c4 : w7.cell? ⟨w.heap.size, 4, none⟩ = some (.slice AI nI cI) := HR7.out.bv.cell 4
      go_wp2_with fail
      go_region_law (first
        | (go_simp; go_at_call 67; have hcv := HCV.out w7.drew ((Below.refl _ _).drew); refine hcv.mono ?_; intro ee w5 hru; clear hcv; obtain ⟨cs5, a5, q5, pl5, e5, he5, h6, hall, hk5, hg5, ho5⟩ := hru; subst he5; obtain ⟨x0, x1, x2, x3, x4, x5, rfl⟩ := l_six6 h6; have HG5 : Hid (w7.grownBy w5 (some g)) := only_trans (only_drew (World.grownBy.refl w7 _)) hg5; have HR5 := Lib.hid (HR7.out.pen HG5.out); have HK5 := Lib.hid hk5; have HO5 := Lib.hid ho5; have HAL := Lib.hid hall; have c5 : w5.cell? ⟨w.heap.size, 4, none⟩ = some (.slice AI nI cI) := HR5.out.bv.cell 4; have HRA := Lib.hid (Reads.of_own (World.ownsRow_lit (e := 30) (size := 6) (base := 0) w5 #[x0, x1, x2, x3, x4, x5] 1 (Nat.zero_le _) (by decide) rfl) : Reads (w5.alloc (.cells #[x0, x1, x2, x3, x4, x5] 30)) _ 6 (some ⟨w5.heap.size, 0, none⟩) 1 [x0, x1, x2, x3, x4, x5]); have HOA : Hid ((w5.alloc (.cells #[x0, x1, x2, x3, x4, x5] 30)).ownsRow (w.heap.size + 2) 30 6 (.slice AI nI cI) nI css.flatten) := own_keep HR5.out.oi fun r hr => Below.heap_alloc w5 _ r (own_at HR5.out.oi hr).2.1; have c5a : ∀ o : Obj, (w5.alloc o).cell? ⟨w.heap.size, 4, none⟩ = some (.slice AI nI cI) := fun o => (HR5.out.bv.alloc o).cell 4; clear h6 hall hk5 hg5 ho5)
        | ((refine step_append_any _ rfl (.tmp 93) (.tmp 98) 27 rfl (w.heap.size + 2) 30 i0 _ 6 88 Tryz.underlying27 hi0 hz0 hz1 hz2 rfl (by omega) (.slice AI nI cI) nI css.flatten (by simp [Act.eval]) HOA.out _ (some ⟨w5.heap.size, 0, none⟩) 1 1 [x0, x1, x2, x3, x4, x5] (by simp [Act.eval]) HRA.out (by simpa using HAL.out) (by simp only [maxLen]; omega) (by omega) (by have := HR5.out.lz; simp; omega) ?_); intro v6 w6 hown6 hg6 hbk6; obtain ⟨A6, c6, hv6⟩ := own_slice6 hown6; subst hv6; have HS6 := Lib.hid (RowB.stepI HR5.out HK5.out hown6 hg6 hbk6); have hx6 : Blk w6 w.heap.size 30 (vkC 7 AI nI cI AM (nI + 1) cM) := (HR5.out.bv.alloc _).grown hg6 (fun e => by have := (own_at HR5.out.oi e.symm).1; omega); have c6' : w6.cell? ⟨w.heap.size, 4, none⟩ = some (.slice AI nI cI) := hx6.cell 4; have f6 := hx6.frozen 4; clear hown6 hg6 hbk6 hx6))
      all_goals
        clear c4 c5 c5a HRA HOA HR5 HK5
        clear c6' f6
        generalize w6.setCell ⟨w.heap.size, 4, none⟩ (.slice A6 (nI + 1) c6) = w7 at *
        have HNX : Hid (RM xs w w7 g A N c d 7 M R (nI + 1)) := RM.next HR7.out HG5.out (by simp) HO5.out HS6.out HBD.out (by simpa using HOK.out)
        clear HS6 HO5 HG5 HBD HOK HCV v0 g4
        go_wp2_with fail
        go_roundw
        case rel => exact ⟨nI + 1, by go_num, by omega, HNX⟩
        case measure => simp [intOf]; omega
    | ok s a3 =>
      rw [hrt] at ht
      obtain ⟨he, hk2, hg2⟩ := ht
      subst he
      have hok := rtx_okn HX.out hrt
      rw [HL.out] at hok
      have HND := Lib.hid (nameD_okr (nms := nms) hrt)
      have HK2 := Lib.hid hk2
      have HR2 := Lib.hid (HRr.out.pen hg2)
      have HCS2 := Lib.hid (HRr.out.chp HCS.out hg2)
      clear hk2 hg2 hrt g4 v0
      have g4 : w2.cell? ⟨g, 4, none⟩ = some (.int .i64 0) := HK2.out.cell 4
      have g1 : w2.cell? ⟨g, 1, none⟩ = some (.int .i64 (a3 : Int)) := HK2.out.cell 1
      have v5 : w2.cell? ⟨w.heap.size, 5, none⟩ = some (.slice AN nI cN) := HR2.out.bv.cell 5
      obtain ⟨last, hlast⟩ : ∃ last, nms.getLastD ⟨#[]⟩ = last := ⟨_, rfl⟩
      rw [hlast] at HND
      obtain ⟨T8, hT8⟩ : ∃ T, (decide (0 < nI) && (s.toList == last.toList)) = T := ⟨_, rfl⟩
      obtain ⟨T10, hT10⟩ : ∃ T, (decide (0 < nI) && Op.bytesLess s.toList last.toList) = T := ⟨_, rfl⟩
      have hnil : nms ≠ [] ↔ 0 < nI := by
        constructor
        · intro h
          rcases Nat.eq_zero_or_pos nI with h0 | h0
          · have hnn := HNL.out; rw [h0] at hnn; exact absurd (List.eq_nil_of_length_eq_zero hnn) h
          · exact h0
        · rintro h rfl
          have hnn := HNL.out
          simp at hnn
          omega
      have hst : (s.toList == last.toList) = true ↔ s = last := by
        rw [beq_iff_eq]
        constructor
        · intro e
          rw [ByteArray.toList_eq, ByteArray.toList_eq] at e
          cases s; cases last
          simp only at e
          rw [Array.toList_inj.1 e]
        · rintro rfl; rfl
      have HRF1 : Hid (T8 = true → R = .bad (a + 4) 232) := fun h => by
        rw [← hT8, Bool.and_eq_true, decide_eq_true_eq, hst] at h
        have h1 := HRT.out
        rw [HND.out, if_pos ⟨hnil.2 h.1, h.2⟩] at h1
        exact h1.symm
      have hf8 : T8 = false → ¬ (nms ≠ [] ∧ s = last) := fun h h2 => by
        rw [← hT8, Bool.and_eq_false_iff] at h
        rcases h with h | h
        · rw [decide_eq_false_iff_not] at h; exact h (hnil.1 h2.1)
        · rw [hst.2 h2.2] at h; exact Bool.noConfusion h
      have HRF2 : Hid (T8 = false → T10 = true → R = .bad (a + 4) 233) := fun h8 h => by
        rw [← hT10, Bool.and_eq_true, decide_eq_true_eq] at h
        have h1 := HRT.out
        rw [HND.out, if_neg (hf8 h8), if_pos ⟨hnil.2 h.1, h.2⟩] at h1
        exact h1.symm
      have HOKN : Hid (T8 = false → T10 = false → nameD xs a nms = .ok s a3) := fun h8 h => by
        rw [HND.out, if_neg (hf8 h8), if_neg]
        rintro ⟨h1, h2⟩
        rw [← hT10, h2, decide_eq_true (hnil.1 h1)] at h
        exact Bool.noConfusion h
      have HLS : Hid (∀ r rn, nI = r + 1 → AN = some ⟨rn, 0, none⟩ → w2.cell? ⟨rn, r, none⟩ = some (.string last)) := fun r rn e1 e2 => by
        subst e1 e2
        have h := World.ownsRow.cellAt HR2.out.on r (by omega)
        rw [h, List.getElem?_map]
        have : nms[r]? = some last := by
          have hnn : nms.length = r + 1 := HNL.out
          rw [← hlast, List.getLastD_eq_getLast?, List.getLast?_eq_getElem?, hnn, Nat.add_sub_cancel, List.getElem?_eq_getElem (by omega)]
          rfl
        rw [this]; rfl
      have HAN : Hid (0 < nI → ∃ rn, AN = some ⟨rn, 0, none⟩) := fun h => own_form1 HR2.out.on (by omega)
      have HT8 := Lib.hid hT8
      have HT10 := Lib.hid hT10
      clear hT8 hT10 hnil hst hf8 hlast HND
      have hsz1' : IntKind.i64.wrap ((a3 : Int) - (s.size : Int)) = ((a + 4 : Nat) : Int) := by rw [show (a3 : Int) - (s.size : Int) = ((a + 4 : Nat) : Int) by omega]; exact IntWalk.i64_in _ (by omega)
      have hsz2' : (a3 : Int) - (s.size : Int) = ((a + 4 : Nat) : Int) := by omega
      have hslt : s.size ≤ 1048576 := by omega
      go_upto_region 7 with fail
      go_cut [48] (fun vt wx => vt = .bool T8 ∧ w2 = wx)
      case first =>
        rcases Nat.eq_zero_or_pos nI with hn0 | hn0
        · subst hn0
          have HTF : Hid (T8 = false) := HT8.out.symm.trans (by simp)
          have t0 : ¬ (0 : Int) < ((0 : Nat) : Int) := by omega
          go_wp2_with fail
          go_meet
          exact ⟨by rw [HTF.out], rfl⟩
        · obtain ⟨r, hr⟩ : ∃ r, nI = r + 1 := ⟨nI - 1, by omega⟩
          obtain ⟨rn, hrn⟩ := HAN.out (by omega)
          have kl := HLS.out r rn hr hrn
          have HTF : Hid (T8 = (s.toList == last.toList)) := HT8.out.symm.trans (by simp [hn0])
          have t0 : (0 : Int) < (nI : Int) := by omega
          have ti : (nI : Int) - 1 = (r : Int) := by omega
          have tj : (r : Int) < (nI : Int) := by omega
          rw [hrn] at v5
          go_wp2_with fail
          go_meet
          exact ⟨by rw [HTF.out], rfl⟩
      case rest =>
        obtain ⟨rfl, rfl⟩ := hcut
        cases T8 with
        | true =>
          have HRF := Lib.hid (HRF1.out rfl)
          clear HRF1 HRF2 HOKN HT8 HT10
          go_wp2_with fail
          refine (c_rfail g a3 A N c (p : Int) 0 ((a + 4 : Nat) : Int) 232 _ HK2.out).mono ?_
          rintro e w3 ⟨rfl, hk3, hg3⟩
          have HK3 := Lib.hid hk3
          have HR3 := Lib.hid (HR2.out.pen hg3)
          clear hk3 hg3 g4 g1 v5 HK2 HR2 HCS2
          have hne : (232 : Int) ≠ 0 := by decide
          have g4 : w3.cell? ⟨g, 4, none⟩ = some (.int .i64 232) := HK3.out.cell 4
          have HWa : Hid ((w3.alloc (.cells #[.string s] 9)).ownsRow (w.heap.size + 2) 9 1 (.slice AN nI cN) nI (strs nms)) := own_keep HR3.out.on fun r hr => Below.heap_alloc w3 _ r (own_at HR3.out.on hr).2.1
          have HRs := Lib.hid (reads_one w3 9 (.string s))
          have v5 : w3.cell? ⟨w.heap.size, 5, none⟩ = some (.slice AN nI cN) := HR3.out.bv.cell 5
          go_upto_region 12 with (at_builtin; refine wpList_append_any _ rfl (.tmp 87) (.tmp 89) 28 rfl (w.heap.size + 2) 9 s0 _ 1 16 Tryz.underlying28 hs0 hsz0 hsz1 hsz2 rfl (by omega) (.slice AN nI cN) nI (strs nms) (by simp [Act.eval]) HWa.out _ (some ⟨w3.heap.size, 0, none⟩) 1 1 [.string s] (by simp [Act.eval]) HRs.out (by simp [Value.oneCell']) (by simp only [maxLen]; omega) (by omega) (by have := HR3.out.lz; simp; omega) ?_; intro v6 w6 hown6 hg6 hbk6; obtain ⟨AM, cM, hv6⟩ := own_slice6 hown6; subst hv6; have HS7 := Lib.hid (RowB.stepN HR3.out HK3.out hown6 hg6 hbk6); have hx6 : Blk w6 w.heap.size 30 (vkC 7 AI nI cI AN nI cN) := (HR3.out.bv.alloc _).grown hg6 (fun e => by have := (own_at HR3.out.on e.symm).1; omega); have c6' : w6.cell? ⟨w.heap.size, 5, none⟩ = some (.slice AN nI cN) := hx6.cell 5; have f6 := hx6.frozen 5; clear hown6 hg6 hbk6 hx6)
          clear c6' f6 v5 HWa HRs g4
          generalize w6.setCell ⟨w.heap.size, 5, none⟩ (.slice AM (nI + 1) cM) = w7 at *
          have HR7 := Lib.hid HS7.out.1
          have HK7 := Lib.hid HS7.out.2.1
          have HCV : Hid (∀ W', Below w7.heap.size w7 W' → Calls Tryz.prog 67 #[.pointer (some ⟨g, 0, none⟩), .int .i64 (D + 1)] W' (RU W' g A N c (.bad (a + 4) 232))) := fun W' hb =>
            (HVE.out g a3 (p : Int) (((a + 4) : Nat) : Int) 232 W' (D + 1) hne (by omega) (by omega) (HK7.out.below hb HK7.out.lt)).mono fun E W h => RU.ofE hne h
          have HBD : Hid (∀ b4 f4, DR.bad (a + 4) 232 = .bad b4 f4 → R = .bad b4 f4) := fun b4 f4 h => by rw [← h]; exact HRF.out
          have HOK : Hid (∀ v a' p', DR.bad (a + 4) 232 = .ok v a' p' → ∃ (its : List Val) (css2 : List (List Value)), a' ≤ N ∧ p' ≤ 65536 ∧ nI = nI ∧ its.length = nI ∧ (nms ++ [s]).length = nI + 1 ∧ ((7 : Int) = 7 → nI + 1 = nI + 1) ∧ css.flatten = css2.flatten ∧ Chs (w.heap.size + 2) w7 (XOf AI nI cI AM (nI + 1) cM) its css2 ∧ decI (decV xs d) xs 7 (M - (nI + 1)) a' p' (its ++ [v]) (nms ++ [s]) = R) := fun v a' p' h => by cases h
          have v0 := HR7
          have g4 := HK7
          have c4 : w7.cell? ⟨w.heap.size, 4, none⟩ = some (.slice AI nI cI) := HR7.out.bv.cell 4
          go_wp2_with fail
          go_region_law (first
            | (go_simp; go_at_call 67; have hcv := HCV.out w7.drew ((Below.refl _ _).drew); refine hcv.mono ?_; intro ee w5 hru; clear hcv; obtain ⟨cs5, a5, q5, pl5, e5, he5, h6, hall, hk5, hg5, ho5⟩ := hru; subst he5; obtain ⟨x0, x1, x2, x3, x4, x5, rfl⟩ := l_six6 h6; have HG5 : Hid (w7.grownBy w5 (some g)) := only_trans (only_drew (World.grownBy.refl w7 _)) hg5; have HR5 := Lib.hid (HR7.out.pen HG5.out); have HK5 := Lib.hid hk5; have HO5 := Lib.hid ho5; have HAL := Lib.hid hall; have c5 : w5.cell? ⟨w.heap.size, 4, none⟩ = some (.slice AI nI cI) := HR5.out.bv.cell 4; have HRA := Lib.hid (Reads.of_own (World.ownsRow_lit (e := 30) (size := 6) (base := 0) w5 #[x0, x1, x2, x3, x4, x5] 1 (Nat.zero_le _) (by decide) rfl) : Reads (w5.alloc (.cells #[x0, x1, x2, x3, x4, x5] 30)) _ 6 (some ⟨w5.heap.size, 0, none⟩) 1 [x0, x1, x2, x3, x4, x5]); have HOA : Hid ((w5.alloc (.cells #[x0, x1, x2, x3, x4, x5] 30)).ownsRow (w.heap.size + 2) 30 6 (.slice AI nI cI) nI css.flatten) := own_keep HR5.out.oi fun r hr => Below.heap_alloc w5 _ r (own_at HR5.out.oi hr).2.1; have c5a : ∀ o : Obj, (w5.alloc o).cell? ⟨w.heap.size, 4, none⟩ = some (.slice AI nI cI) := fun o => (HR5.out.bv.alloc o).cell 4; clear h6 hall hk5 hg5 ho5)
            | ((refine step_append_any _ rfl (.tmp 93) (.tmp 98) 27 rfl (w.heap.size + 2) 30 i0 _ 6 88 Tryz.underlying27 hi0 hz0 hz1 hz2 rfl (by omega) (.slice AI nI cI) nI css.flatten (by simp [Act.eval]) HOA.out _ (some ⟨w5.heap.size, 0, none⟩) 1 1 [x0, x1, x2, x3, x4, x5] (by simp [Act.eval]) HRA.out (by simpa using HAL.out) (by simp only [maxLen]; omega) (by omega) (by have := HR5.out.lz; simp; omega) ?_); intro v6 w6 hown6 hg6 hbk6; obtain ⟨A6, c6, hv6⟩ := own_slice6 hown6; subst hv6; have HS6 := Lib.hid (RowB.stepI HR5.out HK5.out hown6 hg6 hbk6); have hx6 : Blk w6 w.heap.size 30 (vkC 7 AI nI cI AM (nI + 1) cM) := (HR5.out.bv.alloc _).grown hg6 (fun e => by have := (own_at HR5.out.oi e.symm).1; omega); have c6' : w6.cell? ⟨w.heap.size, 4, none⟩ = some (.slice AI nI cI) := hx6.cell 4; have f6 := hx6.frozen 4; clear hown6 hg6 hbk6 hx6))
          all_goals
            clear c4 c5 c5a HRA HOA HR5 HK5
            clear c6' f6
            generalize w6.setCell ⟨w.heap.size, 4, none⟩ (.slice A6 (nI + 1) c6) = w7 at *
            have HNX : Hid (RM xs w w7 g A N c d 7 M R (nI + 1)) := RM.next HR7.out HG5.out (by simp) HO5.out HS6.out HBD.out (by simpa using HOK.out)
            clear HS6 HO5 HG5 HBD HOK HCV v0 g4
            go_wp2_with fail
            go_roundw
            case rel => exact ⟨nI + 1, by go_num, by omega, HNX⟩
            case measure => simp [intOf]; omega
        | false =>
        clear HRF1 HT8
        go_upto_region 9 with fail
        go_cut [76] (fun vt wx => vt = .bool T10 ∧ w2 = wx)
        case first =>
          rcases Nat.eq_zero_or_pos nI with hn0 | hn0
          · subst hn0
            have HTF : Hid (T10 = false) := HT10.out.symm.trans (by simp)
            have t0 : ¬ (0 : Int) < ((0 : Nat) : Int) := by omega
            go_wp2_with fail
            go_meet
            exact ⟨by rw [HTF.out], rfl⟩
          · obtain ⟨r, rfl⟩ : ∃ r, nI = r + 1 := ⟨nI - 1, by omega⟩
            obtain ⟨rn, hrn⟩ := HAN.out (by omega)
            subst hrn
            have kl := HLS.out r rn rfl rfl
            have HTF : Hid (T10 = Op.bytesLess s.toList last.toList) := HT10.out.symm.trans (by simp)
            have t0 : (0 : Int) < ((r + 1 : Nat) : Int) := by omega
            have ti : ((r + 1 : Nat) : Int) - 1 = (r : Int) := by omega
            have tj : (r : Int) < ((r + 1 : Nat) : Int) := by omega
            go_wp2_with fail
            go_meet
            exact ⟨by rw [HTF.out], rfl⟩
        case rest =>
          obtain ⟨rfl, rfl⟩ := hcut
          cases T10 with
          | true =>
            have HRF := Lib.hid (HRF2.out rfl rfl)
            clear HRF2 HOKN HT10
            go_wp2_with fail
            refine (c_rfail g a3 A N c (p : Int) 0 ((a + 4 : Nat) : Int) 233 _ HK2.out).mono ?_
            rintro e w3 ⟨rfl, hk3, hg3⟩
            have HK3 := Lib.hid hk3
            have HR3 := Lib.hid (HR2.out.pen hg3)
            clear hk3 hg3 g4 g1 v5 HK2 HR2 HCS2
            have hne : (233 : Int) ≠ 0 := by decide
            have g4 : w3.cell? ⟨g, 4, none⟩ = some (.int .i64 233) := HK3.out.cell 4
            have HWa : Hid ((w3.alloc (.cells #[.string s] 9)).ownsRow (w.heap.size + 2) 9 1 (.slice AN nI cN) nI (strs nms)) := own_keep HR3.out.on fun r hr => Below.heap_alloc w3 _ r (own_at HR3.out.on hr).2.1
            have HRs := Lib.hid (reads_one w3 9 (.string s))
            have v5 : w3.cell? ⟨w.heap.size, 5, none⟩ = some (.slice AN nI cN) := HR3.out.bv.cell 5
            go_upto_region 12 with (at_builtin; refine wpList_append_any _ rfl (.tmp 87) (.tmp 89) 28 rfl (w.heap.size + 2) 9 s0 _ 1 16 Tryz.underlying28 hs0 hsz0 hsz1 hsz2 rfl (by omega) (.slice AN nI cN) nI (strs nms) (by simp [Act.eval]) HWa.out _ (some ⟨w3.heap.size, 0, none⟩) 1 1 [.string s] (by simp [Act.eval]) HRs.out (by simp [Value.oneCell']) (by simp only [maxLen]; omega) (by omega) (by have := HR3.out.lz; simp; omega) ?_; intro v6 w6 hown6 hg6 hbk6; obtain ⟨AM, cM, hv6⟩ := own_slice6 hown6; subst hv6; have HS7 := Lib.hid (RowB.stepN HR3.out HK3.out hown6 hg6 hbk6); have hx6 : Blk w6 w.heap.size 30 (vkC 7 AI nI cI AN nI cN) := (HR3.out.bv.alloc _).grown hg6 (fun e => by have := (own_at HR3.out.on e.symm).1; omega); have c6' : w6.cell? ⟨w.heap.size, 5, none⟩ = some (.slice AN nI cN) := hx6.cell 5; have f6 := hx6.frozen 5; clear hown6 hg6 hbk6 hx6)
            clear c6' f6 v5 HWa HRs g4
            generalize w6.setCell ⟨w.heap.size, 5, none⟩ (.slice AM (nI + 1) cM) = w7 at *
            have HR7 := Lib.hid HS7.out.1
            have HK7 := Lib.hid HS7.out.2.1
            have HCV : Hid (∀ W', Below w7.heap.size w7 W' → Calls Tryz.prog 67 #[.pointer (some ⟨g, 0, none⟩), .int .i64 (D + 1)] W' (RU W' g A N c (.bad (a + 4) 233))) := fun W' hb =>
              (HVE.out g a3 (p : Int) (((a + 4) : Nat) : Int) 233 W' (D + 1) hne (by omega) (by omega) (HK7.out.below hb HK7.out.lt)).mono fun E W h => RU.ofE hne h
            have HBD : Hid (∀ b4 f4, DR.bad (a + 4) 233 = .bad b4 f4 → R = .bad b4 f4) := fun b4 f4 h => by rw [← h]; exact HRF.out
            have HOK : Hid (∀ v a' p', DR.bad (a + 4) 233 = .ok v a' p' → ∃ (its : List Val) (css2 : List (List Value)), a' ≤ N ∧ p' ≤ 65536 ∧ nI = nI ∧ its.length = nI ∧ (nms ++ [s]).length = nI + 1 ∧ ((7 : Int) = 7 → nI + 1 = nI + 1) ∧ css.flatten = css2.flatten ∧ Chs (w.heap.size + 2) w7 (XOf AI nI cI AM (nI + 1) cM) its css2 ∧ decI (decV xs d) xs 7 (M - (nI + 1)) a' p' (its ++ [v]) (nms ++ [s]) = R) := fun v a' p' h => by cases h
            have v0 := HR7
            have g4 := HK7
            have c4 : w7.cell? ⟨w.heap.size, 4, none⟩ = some (.slice AI nI cI) := HR7.out.bv.cell 4
            go_wp2_with fail
            go_region_law (first
              | (go_simp; go_at_call 67; have hcv := HCV.out w7.drew ((Below.refl _ _).drew); refine hcv.mono ?_; intro ee w5 hru; clear hcv; obtain ⟨cs5, a5, q5, pl5, e5, he5, h6, hall, hk5, hg5, ho5⟩ := hru; subst he5; obtain ⟨x0, x1, x2, x3, x4, x5, rfl⟩ := l_six6 h6; have HG5 : Hid (w7.grownBy w5 (some g)) := only_trans (only_drew (World.grownBy.refl w7 _)) hg5; have HR5 := Lib.hid (HR7.out.pen HG5.out); have HK5 := Lib.hid hk5; have HO5 := Lib.hid ho5; have HAL := Lib.hid hall; have c5 : w5.cell? ⟨w.heap.size, 4, none⟩ = some (.slice AI nI cI) := HR5.out.bv.cell 4; have HRA := Lib.hid (Reads.of_own (World.ownsRow_lit (e := 30) (size := 6) (base := 0) w5 #[x0, x1, x2, x3, x4, x5] 1 (Nat.zero_le _) (by decide) rfl) : Reads (w5.alloc (.cells #[x0, x1, x2, x3, x4, x5] 30)) _ 6 (some ⟨w5.heap.size, 0, none⟩) 1 [x0, x1, x2, x3, x4, x5]); have HOA : Hid ((w5.alloc (.cells #[x0, x1, x2, x3, x4, x5] 30)).ownsRow (w.heap.size + 2) 30 6 (.slice AI nI cI) nI css.flatten) := own_keep HR5.out.oi fun r hr => Below.heap_alloc w5 _ r (own_at HR5.out.oi hr).2.1; have c5a : ∀ o : Obj, (w5.alloc o).cell? ⟨w.heap.size, 4, none⟩ = some (.slice AI nI cI) := fun o => (HR5.out.bv.alloc o).cell 4; clear h6 hall hk5 hg5 ho5)
              | ((refine step_append_any _ rfl (.tmp 93) (.tmp 98) 27 rfl (w.heap.size + 2) 30 i0 _ 6 88 Tryz.underlying27 hi0 hz0 hz1 hz2 rfl (by omega) (.slice AI nI cI) nI css.flatten (by simp [Act.eval]) HOA.out _ (some ⟨w5.heap.size, 0, none⟩) 1 1 [x0, x1, x2, x3, x4, x5] (by simp [Act.eval]) HRA.out (by simpa using HAL.out) (by simp only [maxLen]; omega) (by omega) (by have := HR5.out.lz; simp; omega) ?_); intro v6 w6 hown6 hg6 hbk6; obtain ⟨A6, c6, hv6⟩ := own_slice6 hown6; subst hv6; have HS6 := Lib.hid (RowB.stepI HR5.out HK5.out hown6 hg6 hbk6); have hx6 : Blk w6 w.heap.size 30 (vkC 7 AI nI cI AM (nI + 1) cM) := (HR5.out.bv.alloc _).grown hg6 (fun e => by have := (own_at HR5.out.oi e.symm).1; omega); have c6' : w6.cell? ⟨w.heap.size, 4, none⟩ = some (.slice AI nI cI) := hx6.cell 4; have f6 := hx6.frozen 4; clear hown6 hg6 hbk6 hx6))
            all_goals
              clear c4 c5 c5a HRA HOA HR5 HK5
              clear c6' f6
              generalize w6.setCell ⟨w.heap.size, 4, none⟩ (.slice A6 (nI + 1) c6) = w7 at *
              have HNX : Hid (RM xs w w7 g A N c d 7 M R (nI + 1)) := RM.next HR7.out HG5.out (by simp) HO5.out HS6.out HBD.out (by simpa using HOK.out)
              clear HS6 HO5 HG5 HBD HOK HCV v0 g4
              go_wp2_with fail
              go_roundw
              case rel => exact ⟨nI + 1, by go_num, by omega, HNX⟩
              case measure => simp [intOf]; omega
          | false =>
          have HNM := Lib.hid (HOKN.out rfl rfl)
          clear HRF2 HOKN HT10 HLS HAN g4 g1 v5
          have HRT2 : Hid ((match decV xs d a3 p with | .bad a e => DR.bad a e | .ok v a' p' => decI (decV xs d) xs 7 m a' p' (its ++ [v]) (nms ++ [s])) = R) := by
            have h1 := HRT.out
            rw [HNM.out] at h1
            exact h1
          clear HNM HRT
          have g4 : w2.cell? ⟨g, 4, none⟩ = some (.int .i64 0) := HK2.out.cell 4
          have HWa : Hid ((w2.alloc (.cells #[.string s] 9)).ownsRow (w.heap.size + 2) 9 1 (.slice AN nI cN) nI (strs nms)) := own_keep HR2.out.on fun r hr => Below.heap_alloc w2 _ r (own_at HR2.out.on hr).2.1
          have HRs := Lib.hid (reads_one w2 9 (.string s))
          have v5 : w2.cell? ⟨w.heap.size, 5, none⟩ = some (.slice AN nI cN) := HR2.out.bv.cell 5
          go_upto_region 12 with (at_builtin; refine wpList_append_any _ rfl (.tmp 87) (.tmp 89) 28 rfl (w.heap.size + 2) 9 s0 _ 1 16 Tryz.underlying28 hs0 hsz0 hsz1 hsz2 rfl (by omega) (.slice AN nI cN) nI (strs nms) (by simp [Act.eval]) HWa.out _ (some ⟨w2.heap.size, 0, none⟩) 1 1 [.string s] (by simp [Act.eval]) HRs.out (by simp [Value.oneCell']) (by simp only [maxLen]; omega) (by omega) (by have := HR2.out.lz; simp; omega) ?_; intro v6 w6 hown6 hg6 hbk6; obtain ⟨AM, cM, hv6⟩ := own_slice6 hown6; subst hv6; have HS7 := Lib.hid (RowB.stepN HR2.out HK2.out hown6 hg6 hbk6); have hx6 : Blk w6 w.heap.size 30 (vkC 7 AI nI cI AN nI cN) := (HR2.out.bv.alloc _).grown hg6 (fun e => by have := (own_at HR2.out.on e.symm).1; omega); have c6' : w6.cell? ⟨w.heap.size, 5, none⟩ = some (.slice AN nI cN) := hx6.cell 5; have f6 := hx6.frozen 5; clear hown6 hg6 hbk6 hx6)
          clear c6' f6 v5 HWa HRs g4
          generalize w6.setCell ⟨w.heap.size, 5, none⟩ (.slice AM (nI + 1) cM) = w7 at *
          have HR7 := Lib.hid HS7.out.1
          have HK7 := Lib.hid HS7.out.2.1
          have HCV : Hid (∀ W', Below w7.heap.size w7 W' → Calls Tryz.prog 67 #[.pointer (some ⟨g, 0, none⟩), .int .i64 (D + 1)] W' (RU W' g A N c (decV xs d a3 p))) := fun W' hb =>
            (HVC.out g a3 p W' (D + 1) HDD.out (HK7.out.below hb HK7.out.lt) ((HRD.out.grown HR7.out.gr (Nat.le_of_lt hgs) (fun g' h => by cases h; exact Nat.le_refl _)).below (hb.mono (Nat.le_of_lt HK7.out.lt))) hok.2 hp).mono fun E W h => RU.of h fun a4 e4 => decV_why xs d a3 p a4 e4
          have HBD : Hid (∀ a4 e4, decV xs d a3 p = .bad a4 e4 → R = .bad a4 e4) := fun a4 e4 h => by
            have := HRT2.out
            rw [h] at this
            exact this.symm
          have HOK : Hid (∀ v a' p', decV xs d a3 p = .ok v a' p' → ∃ (its : List Val) (css2 : List (List Value)), a' ≤ N ∧ p' ≤ 65536 ∧ nI = nI ∧ its.length = nI ∧ (nms ++ [s]).length = nI + 1 ∧ ((7 : Int) = 7 → nI + 1 = nI + 1) ∧ css.flatten = css2.flatten ∧ Chs (w.heap.size + 2) w7 (XOf AI nI cI AM (nI + 1) cM) its css2 ∧ decI (decV xs d) xs 7 (M - (nI + 1)) a' p' (its ++ [v]) (nms ++ [s]) = R) := fun v a' p' h => by
            have h1 := HRT2.out
            rw [h] at h1
            have h2 := decV_okp d HX.out hp (by rw [HL.out]; exact hok.2) _ _ _ h
            rw [HL.out] at h2
            exact ⟨its, css, h2.1, h2.2, rfl, hil, by simp [HNL.out], fun _ => rfl, rfl, HS7.out.2.2 _ _ HCS2.out, by rw [hm2]; exact h1⟩
          have v0 := HR7
          have g4 := HK7
          have c4 : w7.cell? ⟨w.heap.size, 4, none⟩ = some (.slice AI nI cI) := HR7.out.bv.cell 4
          go_wp2_with fail
          go_region_law (first
            | (go_simp; go_at_call 67; have hcv := HCV.out w7.drew ((Below.refl _ _).drew); refine hcv.mono ?_; intro ee w5 hru; clear hcv; obtain ⟨cs5, a5, q5, pl5, e5, he5, h6, hall, hk5, hg5, ho5⟩ := hru; subst he5; obtain ⟨x0, x1, x2, x3, x4, x5, rfl⟩ := l_six6 h6; have HG5 : Hid (w7.grownBy w5 (some g)) := only_trans (only_drew (World.grownBy.refl w7 _)) hg5; have HR5 := Lib.hid (HR7.out.pen HG5.out); have HK5 := Lib.hid hk5; have HO5 := Lib.hid ho5; have HAL := Lib.hid hall; have c5 : w5.cell? ⟨w.heap.size, 4, none⟩ = some (.slice AI nI cI) := HR5.out.bv.cell 4; have HRA := Lib.hid (Reads.of_own (World.ownsRow_lit (e := 30) (size := 6) (base := 0) w5 #[x0, x1, x2, x3, x4, x5] 1 (Nat.zero_le _) (by decide) rfl) : Reads (w5.alloc (.cells #[x0, x1, x2, x3, x4, x5] 30)) _ 6 (some ⟨w5.heap.size, 0, none⟩) 1 [x0, x1, x2, x3, x4, x5]); have HOA : Hid ((w5.alloc (.cells #[x0, x1, x2, x3, x4, x5] 30)).ownsRow (w.heap.size + 2) 30 6 (.slice AI nI cI) nI css.flatten) := own_keep HR5.out.oi fun r hr => Below.heap_alloc w5 _ r (own_at HR5.out.oi hr).2.1; have c5a : ∀ o : Obj, (w5.alloc o).cell? ⟨w.heap.size, 4, none⟩ = some (.slice AI nI cI) := fun o => (HR5.out.bv.alloc o).cell 4; clear h6 hall hk5 hg5 ho5)
            | ((refine step_append_any _ rfl (.tmp 93) (.tmp 98) 27 rfl (w.heap.size + 2) 30 i0 _ 6 88 Tryz.underlying27 hi0 hz0 hz1 hz2 rfl (by omega) (.slice AI nI cI) nI css.flatten (by simp [Act.eval]) HOA.out _ (some ⟨w5.heap.size, 0, none⟩) 1 1 [x0, x1, x2, x3, x4, x5] (by simp [Act.eval]) HRA.out (by simpa using HAL.out) (by simp only [maxLen]; omega) (by omega) (by have := HR5.out.lz; simp; omega) ?_); intro v6 w6 hown6 hg6 hbk6; obtain ⟨A6, c6, hv6⟩ := own_slice6 hown6; subst hv6; have HS6 := Lib.hid (RowB.stepI HR5.out HK5.out hown6 hg6 hbk6); have hx6 : Blk w6 w.heap.size 30 (vkC 7 AI nI cI AM (nI + 1) cM) := (HR5.out.bv.alloc _).grown hg6 (fun e => by have := (own_at HR5.out.oi e.symm).1; omega); have c6' : w6.cell? ⟨w.heap.size, 4, none⟩ = some (.slice AI nI cI) := hx6.cell 4; have f6 := hx6.frozen 4; clear hown6 hg6 hbk6 hx6))
          all_goals
            clear c4 c5 c5a HRA HOA HR5 HK5
            clear c6' f6
            generalize w6.setCell ⟨w.heap.size, 4, none⟩ (.slice A6 (nI + 1) c6) = w7 at *
            have HNX : Hid (RM xs w w7 g A N c d 7 M R (nI + 1)) := RM.next HR7.out HG5.out (by simp) HO5.out HS6.out HBD.out (by simpa using HOK.out)
            clear HS6 HO5 HG5 HBD HOK HCV v0 g4
            go_wp2_with fail
            go_roundw
            case rel => exact ⟨nI + 1, by go_num, by omega, HNX⟩
            case measure => simp [intOf]; omega
end Go.Proofs.YtacnoedhpamdmaaGreatDoor
