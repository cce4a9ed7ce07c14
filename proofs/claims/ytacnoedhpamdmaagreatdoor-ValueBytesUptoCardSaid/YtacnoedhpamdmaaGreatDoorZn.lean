/- Walk: the items of a list read out of bytes, the document's ((*quernref23.bytesIn).items). Conditions: as stated. -/
import Derived.Test.YtacnoedhpamdmaaGreatDoorZm
import Derived.Deep.RegionLaw
namespace Go.Proofs.YtacnoedhpamdmaaGreatDoor
open Go.RowKit
set_option linter.unusedVariables false
set_option linter.unusedSimpArgs false
attribute [local go_sem ↓] Go.wp_at_zero Go.wp_at_succ

set_option maxRecDepth 100000 in
set_option maxHeartbeats 16000000 in
theorem c_ritems6 (xs : List Int) (A : Option Addr) (N c d : Nat) (hV : RVC xs A N c d) (hE : RVE A N c) (hx : Bts xs) (hN : N ≤ 1048576) (hNc : N ≤ c) (hc : c ≤ 9223372036854775807) (g a p : Nat) (D : Int) (hD : D + 1 = 65 - (d : Int)) (hD0 : 0 ≤ D) (hD1 : D ≤ 65) (w : World)
    (hB : Blk w g 102 (RnC A N c a (p : Int) 0 0)) (hr : Reads w g 1 A N (u8s xs)) (ha : a + 4 ≤ N) (hp : p ≤ 65536) :
    Calls Tryz.prog 100 #[.pointer (some ⟨g, 0, none⟩), .agg (vkC 6 none 0 0 none 0 0), .int .i64 D] w (RPost w g A N c (decI (decV xs d) xs 6 (numL (sub xs a 4)) (a + 4) p [] [])) := by
  have hl : xs.length = N := by simpa using hr.1
  obtain ⟨i0, hi0, hz0, hz1, hz2⟩ := info_parts v_info88
  obtain ⟨s0, hs0, hsz0, hsz1, hsz2⟩ := info_parts s_info16
  have hM : numL (sub xs a 4) < 4294967296 := by
    have := numL_lt _ (sub_bts hx a 4)
    rw [sub_len (by omega)] at this
    omega
  have HC : Hid (∀ W, Blk W g 102 (RnC A N c a (p : Int) 0 0) → Reads W g 1 A N (u8s xs) → _) := fun W h1 h2 => c_rword g a 4 A N c (p : Int) 0 xs W h1 h2 hx hN hNc hc ha (by decide)
  obtain ⟨R, hR⟩ : ∃ R, decI (decV xs d) xs 6 (numL (sub xs a 4)) (a + 4) p [] [] = R := ⟨_, rfl⟩
  rw [hR]
  have HR := Lib.hid hR
  have HVC := Lib.hid hV
  have HVE := Lib.hid hE
  have HX := Lib.hid hx
  have HL := Lib.hid hl
  have HRD := Lib.hid hr
  have HB := Lib.hid hB
  have hgs : g < w.heap.size := hB.lt
  have HDD := Lib.hid hD
  have hw1 : IntKind.i64.wrap (D + 1) = D + 1 := IntWalk.i64_in _ (by omega)
  obtain ⟨M, hMe⟩ : ∃ M, numL (sub xs a 4) = M := ⟨_, rfl⟩
  rw [hMe] at hM HR HC
  have hwM : IntKind.i64.wrap (M : Int) = (M : Int) := IntWalk.i64_in _ (by omega)
  clear hB hr hx hl hR hV hE hD hMe
  go_enter Tryz.func100, Tryz.ntmps100
  go_wp2_with fail
  refine (HC.out _ ((HB.out.alloc _).alloc _) ((HRD.out.alloc (Nat.le_of_lt hgs) _).alloc (by simp; omega) _)).mono ?_
  rintro e w1 ⟨rfl, hb1, hg1⟩
  have HB1 : Hid (RowB w w1 g 6 none 0 0 none 0 0 [] []) := by
    have hv : Blk ((w.alloc (.cells (vkC 6 none 0 0 none 0 0) 30)).alloc (.cells vz 30)) w.heap.size 30 (vkC 6 none 0 0 none 0 0) := (Blk.new w 30 _).alloc _
    have hr : Blk ((w.alloc (.cells (vkC 6 none 0 0 none 0 0) 30)).alloc (.cells vz 30)) (w.heap.size + 1) 30 vz := by
      have := Blk.new (w.alloc (.cells (vkC 6 none 0 0 none 0 0) 30)) 30 vz
      rw [World.size_alloc] at this
      exact this
    exact ⟨hv.grown hg1 (by intro e; injection e with e; omega), hr.grown hg1 (by intro e; injection e with e; omega), World.ownsRow_nil _ _ _ _, World.ownsRow_nil _ _ _ _, only_trans (only_alloc (only_alloc (World.grownBy.refl w _) _) _) hg1, hgs, by have := hg1.size; simp at this; omega⟩
  have HM1 : Hid (RM xs w w1 g A N c d 6 M R 0) := rm_nil HB1.out hb1 ha hp HR.out
  clear hb1 hg1 HC HB HR HB1
  go_wp2_with fail
  go_loopw [8] (fun vi wr => ∃ (i : Nat), vi = .int .i64 (i : Int) ∧ i ≤ M ∧ Hid (RM xs w wr g A N c d 6 M R i)) (fun vi _ => (M - (intOf vi).toNat))
  case atStart => exact ⟨0, rfl, Nat.zero_le _, HM1⟩
  case round =>
    clear HM1 ha hp
    obtain ⟨i, rfl, hi, HM⟩ := hrel
    obtain ⟨AI, nI, cI, AN, nN, cN, rows, nms, a, q, pl, e, hr, hk, hm⟩ := HM.out
    have HRr := Lib.hid hr
    have HK := Lib.hid hk
    clear hr hk HM
    have g4 : wr.cell? ⟨g, 4, none⟩ = some (.int .i64 e) := HK.out.cell 4
    rcases hm with ⟨rfl, rfl, p, its, css, rfl, ha, hp, hnI, hil, hnl, hk7, rfl, hcs, hR⟩ | ⟨hne, a4, rfl, hR⟩
    rotate_left
    · have h0 : (e == 0) = false := by simpa using hne
      have HRR := Lib.hid hR
      clear hne hR
      rcases Nat.lt_or_ge i M with hlt | hge
      · have t1 : (i : Int) < (M : Int) := by omega
        go_wp2_with (first
          | (refine wpList_load_row rfl 30 (.tmp 4) rfl w.heap.size rfl 30 _ (0, 0) _ HRr.out.bv Tryz.underlying30 rfl v_info ?_)
          | (refine wpList_storeB rfl 30 (.tmp 6) (.tmp 101) rfl rfl (w.heap.size + 1) (vkC 6 AI nI cI AN nN cN) rfl rfl HRr.out.br v_info rfl rfl ?_; intro w3 hB3 hg3 hz3))
        refine bodyPost_ret (results_cellB (p := 6) rfl _ hB3 _ rfl Tryz.underlying30 rfl v_info) rfl ?_
        rw [HRR.out]
        exact HRr.out.retB HK.out hg3
      · have t1 : ¬ (i : Int) < (M : Int) := by omega
        go_wp2_with (first
          | (refine wpList_load_row rfl 30 (.tmp 4) rfl w.heap.size rfl 30 _ (0, 0) _ HRr.out.bv Tryz.underlying30 rfl v_info ?_)
          | (refine wpList_storeB rfl 30 (.tmp 6) (.tmp 101) rfl rfl (w.heap.size + 1) (vkC 6 AI nI cI AN nN cN) rfl rfl HRr.out.br v_info rfl rfl ?_; intro w3 hB3 hg3 hz3))
        refine bodyPost_ret (results_cellB (p := 6) rfl _ hB3 _ rfl Tryz.underlying30 rfl v_info) rfl ?_
        rw [HRR.out]
        exact HRr.out.retB HK.out hg3
    have HCS := Lib.hid hcs
    have HRR := Lib.hid hR
    clear hcs hR
    subst hnI hnl
    rcases Nat.lt_or_ge nI M with hlt | hge
    rotate_left
    · have t1 : ¬ (nI : Int) < (M : Int) := by omega
      have HRF : Hid (R = .ok (.mk 6 0 0 ⟨#[]⟩ its nms) a p) := by
        have := HRR.out
        rw [show M - nI = 0 by omega, decI] at this
        exact this.symm
      subst hil
      go_wp2_with (first
        | (refine wpList_load_row rfl 30 (.tmp 4) rfl w.heap.size rfl 30 _ (0, 0) _ HRr.out.bv Tryz.underlying30 rfl v_info ?_)
        | (refine wpList_storeB rfl 30 (.tmp 6) (.tmp 101) rfl rfl (w.heap.size + 1) (vkC 6 AI its.length cI AN nms.length cN) rfl rfl HRr.out.br v_info rfl rfl ?_; intro w3 hB3 hg3 hz3))
      refine bodyPost_ret (results_cellB (p := 6) rfl _ hB3 _ rfl Tryz.underlying30 rfl v_info) rfl ?_
      rw [HRF.out]
      exact HRr.out.retA HCS.out HK.out hg3
    have t1 : (nI : Int) < (M : Int) := by omega
    obtain ⟨m, hm⟩ : ∃ m, M - nI = m + 1 := ⟨M - nI - 1, by omega⟩
    have hm2 : M - (nI + 1) = m := by omega
    rw [hm] at HRR
    have v0 : wr.cell? ⟨w.heap.size, 0, none⟩ = some (.int .i64 6) := HRr.out.bv.cell 0
    have HRD1 : Hid (Reads wr g 1 A N (u8s xs)) := HRD.out.grown HRr.out.gr (Nat.le_of_lt hgs) (fun g' h => by cases h; exact Nat.le_refl _)
    have HRT := Lib.hid (decI_6.symm.trans HRR.out)
    have HCV : Hid (∀ W', Below wr.heap.size wr W' → Calls Tryz.prog 67 #[.pointer (some ⟨g, 0, none⟩), .int .i64 (D + 1)] W' (RU W' g A N c (decV xs d a p))) := fun W' hb =>
      (HVC.out g a p W' (D + 1) HDD.out (HK.out.below hb HK.out.lt) (HRD1.out.below (hb.mono (Nat.le_of_lt HK.out.lt))) ha hp).mono fun E W h => RU.of h fun a4 e4 => decV_why xs d a p a4 e4
    have HBD : Hid (∀ a4 e4, decV xs d a p = .bad a4 e4 → R = .bad a4 e4) := fun a4 e4 h => by
      have := HRT.out
      rw [h] at this
      exact this.symm
    have HOK : Hid (∀ v a' p', decV xs d a p = .ok v a' p' → ∃ (its : List Val) (css2 : List (List Value)), a' ≤ N ∧ p' ≤ 65536 ∧ nI = nI ∧ its.length = nI ∧ nms.length = nms.length ∧ ((6 : Int) = 7 → nms.length = nI + 1) ∧ css.flatten = css2.flatten ∧ Chs (w.heap.size + 2) wr (XOf AI nI cI AN nms.length cN) its css2 ∧ decI (decV xs d) xs 6 (M - (nI + 1)) a' p' (its ++ [v]) nms = R) := fun v a' p' h => by
      have h1 := HRT.out
      rw [h] at h1
      have h2 := decV_okp d HX.out hp (by rw [HL.out]; exact ha) _ _ _ h
      rw [HL.out] at h2
      exact ⟨its, css, h2.1, h2.2, rfl, hil, rfl, fun h => absurd h (by decide), rfl, HCS.out, by rw [hm2]; exact h1⟩
    have c4 : wr.cell? ⟨w.heap.size, 4, none⟩ = some (.slice AI nI cI) := HRr.out.bv.cell 4
    go_wp2_with fail
    go_region_law (first
      | (go_simp; go_at_call 67; have hcv := HCV.out wr.drew ((Below.refl _ _).drew); refine hcv.mono ?_; intro ee w5 hru; clear hcv; obtain ⟨cs5, a5, q5, pl5, e5, he5, h6, hall, hk5, hg5, ho5⟩ := hru; subst he5; obtain ⟨x0, x1, x2, x3, x4, x5, rfl⟩ := l_six6 h6; have HG5 : Hid (wr.grownBy w5 (some g)) := only_trans (only_drew (World.grownBy.refl wr _)) hg5; have HR5 := Lib.hid (HRr.out.pen HG5.out); have HK5 := Lib.hid hk5; have HO5 := Lib.hid ho5; have HAL := Lib.hid hall; have c5 : w5.cell? ⟨w.heap.size, 4, none⟩ = some (.slice AI nI cI) := HR5.out.bv.cell 4; have HRA := Lib.hid (Reads.of_own (World.ownsRow_lit (e := 30) (size := 6) (base := 0) w5 #[x0, x1, x2, x3, x4, x5] 1 (Nat.zero_le _) (by decide) rfl) : Reads (w5.alloc (.cells #[x0, x1, x2, x3, x4, x5] 30)) _ 6 (some ⟨w5.heap.size, 0, none⟩) 1 [x0, x1, x2, x3, x4, x5]); have HOA : Hid ((w5.alloc (.cells #[x0, x1, x2, x3, x4, x5] 30)).ownsRow (w.heap.size + 2) 30 6 (.slice AI nI cI) nI css.flatten) := own_keep HR5.out.oi fun r hr => Below.heap_alloc w5 _ r (own_at HR5.out.oi hr).2.1; have c5a : ∀ o : Obj, (w5.alloc o).cell? ⟨w.heap.size, 4, none⟩ = some (.slice AI nI cI) := fun o => (HR5.out.bv.alloc o).cell 4; clear h6 hall hk5 hg5 ho5)
      | ((refine step_append_any _ rfl (.tmp 93) (.tmp 98) 27 rfl (w.heap.size + 2) 30 i0 _ 6 88 Tryz.underlying27 hi0 hz0 hz1 hz2 rfl (by omega) (.slice AI nI cI) nI css.flatten (by simp [Act.eval]) HOA.out _ (some ⟨w5.heap.size, 0, none⟩) 1 1 [x0, x1, x2, x3, x4, x5] (by simp [Act.eval]) HRA.out (by simpa using HAL.out) (by simp only [maxLen]; omega) (by omega) (by have := HR5.out.lz; simp; omega) ?_); intro v6 w6 hown6 hg6 hbk6; obtain ⟨A6, c6, hv6⟩ := own_slice6 hown6; subst hv6; have HS6 := Lib.hid (RowB.stepI HR5.out HK5.out hown6 hg6 hbk6); have hx6 : Blk w6 w.heap.size 30 (vkC 6 AI nI cI AN nms.length cN) := (HR5.out.bv.alloc _).grown hg6 (fun e => by have := (own_at HR5.out.oi e.symm).1; omega); have c6' : w6.cell? ⟨w.heap.size, 4, none⟩ = some (.slice AI nI cI) := hx6.cell 4; have f6 := hx6.frozen 4; clear hown6 hg6 hbk6 hx6))
    all_goals
      clear c4 c5 c5a HRA HOA HR5 HK5
      clear c6' f6
      generalize w6.setCell ⟨w.heap.size, 4, none⟩ (.slice A6 (nI + 1) c6) = w7 at *
      have HNX : Hid (RM xs w w7 g A N c d 6 M R (nI + 1)) := RM.next HRr.out HG5.out (by simp) HO5.out HS6.out HBD.out (by simpa using HOK.out)
      clear HS6 HO5 HG5 HBD HOK HCV v0 g4
      go_wp2_with fail
      go_roundw
      case rel => exact ⟨nI + 1, by go_num, by omega, HNX⟩
      case measure => simp [intOf]; omega
end Go.Proofs.YtacnoedhpamdmaaGreatDoor
