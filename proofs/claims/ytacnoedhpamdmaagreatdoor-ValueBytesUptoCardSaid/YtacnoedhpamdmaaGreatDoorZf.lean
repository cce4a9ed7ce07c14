/- Walk: the items of a list read out of bytes ((*value.pen).items). Conditions: as stated. -/
import Derived.Test.YtacnoedhpamdmaaGreatDoorZd
namespace Go.Proofs.YtacnoedhpamdmaaGreatDoor
open Go.RowKit
set_option linter.unusedVariables false
attribute [local go_sem ↓] Go.wp_at_zero Go.wp_at_succ

set_option maxRecDepth 100000 in
set_option maxHeartbeats 16000000 in
theorem c_items6 (xs : List Int) (A : Option Addr) (N c d : Nat) (hV : VC xs A N c d) (hx : Bts xs) (hN : N ≤ 1048576) (hNc : N ≤ c) (hc : c ≤ 9223372036854775807) (g gv a p : Nat) (D : Int) (hD : D + 1 = 65 - (d : Int)) (hD0 : 0 ≤ D) (hD1 : D ≤ 65) (w : World)
    (hB : Blk w g 97 (PnC A N c a p)) (hr : Reads w g 1 A N (u8s xs)) (hv : Blk w gv 30 (vkC 6 none 0 0 none 0 0)) (hgg : g < gv) (ha : a + 4 ≤ N) (hp : p ≤ 65536) :
    Calls Tryz.prog 96 #[.pointer (some ⟨g, 0, none⟩), .pointer (some ⟨gv, 0, none⟩), .int .i64 D] w (IPost w g gv A N c (decI (decV xs d) xs 6 (numL (sub xs a 4)) (a + 4) p [] [])) := by
  have hl : xs.length = N := by simpa using hr.1
  obtain ⟨i0, hi0, hz0, hz1, hz2⟩ := info_parts v_info88
  obtain ⟨s0, hs0, hsz0, hsz1, hsz2⟩ := info_parts s_info16
  have HC := Lib.hid (c_num g A N c a p xs w hB hr hx hN hNc hc ha)
  have hM : numL (sub xs a 4) < 4294967296 := by
    have := numL_lt _ (sub_bts hx a 4)
    rw [sub_len (by omega)] at this
    omega
  obtain ⟨R, hR⟩ : ∃ R, decI (decV xs d) xs 6 (numL (sub xs a 4)) (a + 4) p [] [] = R := ⟨_, rfl⟩
  rw [hR]
  have HR := Lib.hid hR
  have HVC := Lib.hid hV
  have HX := Lib.hid hx
  have HL := Lib.hid hl
  have HRD := Lib.hid hr
  have HV0 := Lib.hid hv
  have hgs : g < w.heap.size := hB.lt
  have hgvs : gv < w.heap.size := hv.lt
  have HDD := Lib.hid hD
  generalize numL (sub xs a 4) = M at *
  clear hB hr hv hx hl hR hV hD
  go_enter Tryz.func96, Tryz.ntmps96
  go_wp2_with fail
  refine (HC.out).mono ?_; rintro e w1 ⟨rfl, hb1, hg1⟩
  have HW1 : Hid (Row w w1 g gv 6 A N c (a + 4) p [] [] none 0 0 none 0 0 [] []) :=
    ⟨hb1, HV0.out.grown hg1 (by intro e; injection e with e; omega), World.ownsRow_nil _ _ _ _, World.ownsRow_nil _ _ _ _, Chs.nil _ _ _, Kept2.fst hg1 gv, hgs, hgvs, hgg⟩
  clear hb1 hg1 HC HV0
  go_wp2_with fail
  go_loopw [6] (fun vn wr => ∃ (m a p nI nN : Nat) (its : List Val) (nms : List ByteArray) (css : List (List Value)) (AI : Option Addr) (cI : Nat) (AN : Option Addr) (cN : Nat), vn = .int .i64 (m : Int) ∧ m < 4294967296 ∧ a ≤ N ∧ p ≤ 65536 ∧ nI ≤ a ∧ nN ≤ a ∧ Hid (its.length = nI ∧ nms.length = nN) ∧ Hid (decI (decV xs d) xs 6 m a p its nms = R) ∧
    Hid (Row w wr g gv 6 A N c a p nms css.flatten AI nI cI AN nN cN its css)) (fun vn _ => (intOf vn).toNat)
  case atStart => exact ⟨M, a + 4, p, 0, 0, [], [], [], none, 0, none, 0, rfl, hM, ha, hp, Nat.zero_le _, Nat.zero_le _, ⟨rfl, rfl⟩, HR, HW1⟩
  case round =>
    clear HR HW1 hM ha hp
    obtain ⟨m, a, p, nI, nN, its, nms, css, AI, cI, AN, cN, rfl, hm, ha, hp, hnI, hnN, HLN, HRr, HWr⟩ := hrel
    rcases Nat.eq_zero_or_pos m with hm0 | hm0
    · subst hm0
      have HRF : Hid (R = .ok (.mk 6 0 0 ⟨#[]⟩ its nms) a p) := HRr.out.symm.trans (by rw [decI])
      go_wp2_with fail
      rw [HRF.out]
      go_end0
      obtain ⟨l1, l2⟩ := HLN.out
      subst l1 l2
      exact ⟨rfl, _, HWr.out.bv, fresh_of _ HWr.out.oi HWr.out.on HWr.out.ch (Nat.le_refl _), HWr.out.bk, HWr.out.kp⟩
    obtain ⟨q, rfl⟩ : ∃ q, m = q + 1 := ⟨m - 1, by omega⟩
    have v0 : wr.cell? ⟨gv, 0, none⟩ = some (.int .i64 6) := HWr.out.bv.cell 0
    have HRT := Lib.hid (decI_6.symm.trans HRr.out)
    have HW3 := HWr
    clear HWr HRr
    go_wp2_with fail
    have v4 : wr.cell? ⟨gv, 4, none⟩ = some (.slice AI nI cI) := HW3.out.bv.cell 4
    have HCV : Hid (∀ W', Below wr.heap.size wr W' → Calls Tryz.prog 65 #[.pointer (some ⟨g, 0, none⟩), .int .i64 (D + 1)] W' (DPost W' g A N c (decV xs d a p))) := fun W' hb =>
      HVC.out g a p W' (D + 1) HDD.out (HW3.out.bk.below hb HW3.out.bk.lt) ((HW3.out.kp.reads HRD.out hgg hgs).below (hb.mono (Nat.le_of_lt HW3.out.bk.lt))) ha hp
    have hg3 : g < wr.heap.size := HW3.out.bk.lt
    have hgv3 : gv < wr.heap.size := HW3.out.bv.lt
    have hwr : IntKind.i64.wrap (D + 1) = D + 1 := IntWalk.i64_in _ (by omega)
    cases hdv : decV xs d a p with
    | bad a4 e4 =>
      rw [hdv] at HCV
      have HRF : Hid (R = .bad a4 e4) := HRT.out.symm.trans (by rw [hdv])
      go_wp2_with fail
      refine wp_region_any (by kernel_rfl) ?_
      try (change wpAny _ _ _ _ _ _ _ (World.drew _))
      refine wpAny_take (i := 0) (v := .pointer (some ⟨gv, 0, none⟩)) (by rw [List.getElem?_toArray]; exact rfl) (by kernel_rfl) (by kernel_rfl) (by kernel_rfl) (by exact fun _ _ _ h => h) (Or.inl ⟨by rfl, fun w => by go_simp⟩) ?_
      try simp only [Act.put, List.setIfInBounds_toArray, List.set_cons_zero, List.set_cons_succ]
      refine wpAny_take (i := 1) (v := .pointer (some ⟨gv, 0, none⟩)) (by rw [List.getElem?_toArray]; exact rfl) (by kernel_rfl) (by kernel_rfl) (by kernel_rfl) (by exact fun _ _ _ h => h) (Or.inl ⟨by rfl, fun w => by go_simp⟩) ?_
      try simp only [Act.put, List.setIfInBounds_toArray, List.set_cons_zero, List.set_cons_succ]
      refine wpAny_take (i := 2) (v := .pointer (some ⟨gv, 4, none⟩)) (by rw [List.getElem?_toArray]; exact rfl) (by kernel_rfl) (by kernel_rfl) (by kernel_rfl) (by exact fun _ _ _ h => h) (Or.inl ⟨by rfl, fun w => by go_simp⟩) ?_
      try simp only [Act.put, List.setIfInBounds_toArray, List.set_cons_zero, List.set_cons_succ]
      refine wpAny_take (i := 4) (v := .pointer (some ⟨g, 0, none⟩)) (by rw [List.getElem?_toArray]; exact rfl) (by kernel_rfl) (by kernel_rfl) (by kernel_rfl) (by exact fun _ _ _ h => h) (Or.inl ⟨by rfl, fun w => by go_simp⟩) ?_
      try simp only [Act.put, List.setIfInBounds_toArray, List.set_cons_zero, List.set_cons_succ]
      refine wpAny_take (i := 5) (v := .int .i64 D) (by rw [List.getElem?_toArray]; exact rfl) (by kernel_rfl) (by kernel_rfl) (by kernel_rfl) (by exact fun _ _ _ h => h) (Or.inl ⟨by rfl, fun w => by go_simp⟩) ?_
      try simp only [Act.put, List.setIfInBounds_toArray, List.set_cons_zero, List.set_cons_succ]
      refine wpAny_take (i := 6) (v := .int .i64 (D + 1)) (by rw [List.getElem?_toArray]; exact rfl) (by kernel_rfl) (by kernel_rfl) (by kernel_rfl) (by exact fun _ _ _ h => h) (Or.inl ⟨by rfl, fun w => by go_simp⟩) ?_
      try simp only [Act.put, List.setIfInBounds_toArray, List.set_cons_zero, List.set_cons_succ]
      refine wpAny_ready (rs := [3, 7, 9]) (by kernel_rfl) (by simp) ?_
      intro jj hjj
      rcases List.mem_cons.1 hjj with rfl | hjj
      · refine wpOp_step (by rw [List.getElem?_toArray]; exact rfl) (fun K hK => ?_)
        go_simp
        refine hK _ _ ?_
        clear hK K
        try simp only [Act.put, List.setIfInBounds_toArray, List.set_cons_zero, List.set_cons_succ]
        refine wpAny_take (i := 8) (v := .int .i64 (nI : Int)) (by rw [List.getElem?_toArray]; exact rfl) (by kernel_rfl) (by kernel_rfl) (by kernel_rfl) (by exact fun _ _ _ h => h) (Or.inl ⟨by rfl, fun w => by go_simp⟩) ?_
        try simp only [Act.put, List.setIfInBounds_toArray, List.set_cons_zero, List.set_cons_succ]
        refine wpAny_ready (rs := [7, 9]) (by kernel_rfl) (by simp) ?_
        intro jj hjj
        rcases List.mem_cons.1 hjj with rfl | hjj
        · refine wpOp_step (by rw [List.getElem?_toArray]; exact rfl) (fun K hK => ?_)
          go_simp
          refine (HCV.out _ ((Below.refl _ _).drew)).mono ?_
          rintro e w5 ⟨rfl, hg5⟩
          exact ⟨rfl, by rw [HRF.out]; exact ⟨rfl, Kept2.trans HW3.out.kp ⟨hg5.os, hg5.tape, hg5.output, Nat.le_trans (by simp) hg5.size, fun i hi h1 h2 => by first | exact hg5.block i hi (fun e => h1 (by injection e)) | exact (hg5.block i (by simp; omega) (fun e => h1 (by injection e))).trans (Below.heap_alloc _ _ i hi)⟩⟩⟩
        rcases List.mem_cons.1 hjj with rfl | hjj
        · refine wpOp_step (by rw [List.getElem?_toArray]; exact rfl) (fun K hK => ?_)
          go_simp
          refine hK _ _ ?_
          clear hK K
          try simp only [Act.put, List.setIfInBounds_toArray, List.set_cons_zero, List.set_cons_succ]
          refine wpAny_ready (rs := [7]) (by kernel_rfl) (by simp) ?_
          intro jj hjj
          rcases List.mem_cons.1 hjj with rfl | hjj
          · refine wpOp_step (by rw [List.getElem?_toArray]; exact rfl) (fun K hK => ?_)
            go_simp
            refine (HCV.out _ (((Below.refl _ _).drew).alloc (Nat.le_refl _) _)).mono ?_
            rintro e w5 ⟨rfl, hg5⟩
            exact ⟨rfl, by rw [HRF.out]; exact ⟨rfl, Kept2.trans HW3.out.kp ⟨hg5.os, hg5.tape, hg5.output, Nat.le_trans (by simp) hg5.size, fun i hi h1 h2 => by first | exact hg5.block i hi (fun e => h1 (by injection e)) | exact (hg5.block i (by simp; omega) (fun e => h1 (by injection e))).trans (Below.heap_alloc _ _ i hi)⟩⟩⟩
          · cases hjj
        · cases hjj
      rcases List.mem_cons.1 hjj with rfl | hjj
      · refine wpOp_step (by rw [List.getElem?_toArray]; exact rfl) (fun K hK => ?_)
        go_simp
        refine (HCV.out _ ((Below.refl _ _).drew)).mono ?_
        rintro e w5 ⟨rfl, hg5⟩
        exact ⟨rfl, by rw [HRF.out]; exact ⟨rfl, Kept2.trans HW3.out.kp ⟨hg5.os, hg5.tape, hg5.output, Nat.le_trans (by simp) hg5.size, fun i hi h1 h2 => by first | exact hg5.block i hi (fun e => h1 (by injection e)) | exact (hg5.block i (by simp; omega) (fun e => h1 (by injection e))).trans (Below.heap_alloc _ _ i hi)⟩⟩⟩
      rcases List.mem_cons.1 hjj with rfl | hjj
      · refine wpOp_step (by rw [List.getElem?_toArray]; exact rfl) (fun K hK => ?_)
        go_simp
        refine hK _ _ ?_
        clear hK K
        try simp only [Act.put, List.setIfInBounds_toArray, List.set_cons_zero, List.set_cons_succ]
        refine wpAny_ready (rs := [3, 7]) (by kernel_rfl) (by simp) ?_
        intro jj hjj
        rcases List.mem_cons.1 hjj with rfl | hjj
        · refine wpOp_step (by rw [List.getElem?_toArray]; exact rfl) (fun K hK => ?_)
          go_simp
          refine hK _ _ ?_
          clear hK K
          try simp only [Act.put, List.setIfInBounds_toArray, List.set_cons_zero, List.set_cons_succ]
          refine wpAny_take (i := 8) (v := .int .i64 (nI : Int)) (by rw [List.getElem?_toArray]; exact rfl) (by kernel_rfl) (by kernel_rfl) (by kernel_rfl) (by exact fun _ _ _ h => h) (Or.inl ⟨by rfl, fun w => by go_simp⟩) ?_
          try simp only [Act.put, List.setIfInBounds_toArray, List.set_cons_zero, List.set_cons_succ]
          refine wpAny_ready (rs := [7]) (by kernel_rfl) (by simp) ?_
          intro jj hjj
          rcases List.mem_cons.1 hjj with rfl | hjj
          · refine wpOp_step (by rw [List.getElem?_toArray]; exact rfl) (fun K hK => ?_)
            go_simp
            refine (HCV.out _ (((Below.refl _ _).drew).alloc (Nat.le_refl _) _)).mono ?_
            rintro e w5 ⟨rfl, hg5⟩
            exact ⟨rfl, by rw [HRF.out]; exact ⟨rfl, Kept2.trans HW3.out.kp ⟨hg5.os, hg5.tape, hg5.output, Nat.le_trans (by simp) hg5.size, fun i hi h1 h2 => by first | exact hg5.block i hi (fun e => h1 (by injection e)) | exact (hg5.block i (by simp; omega) (fun e => h1 (by injection e))).trans (Below.heap_alloc _ _ i hi)⟩⟩⟩
          · cases hjj
        rcases List.mem_cons.1 hjj with rfl | hjj
        · refine wpOp_step (by rw [List.getElem?_toArray]; exact rfl) (fun K hK => ?_)
          go_simp
          refine (HCV.out _ (((Below.refl _ _).drew).alloc (Nat.le_refl _) _)).mono ?_
          rintro e w5 ⟨rfl, hg5⟩
          exact ⟨rfl, by rw [HRF.out]; exact ⟨rfl, Kept2.trans HW3.out.kp ⟨hg5.os, hg5.tape, hg5.output, Nat.le_trans (by simp) hg5.size, fun i hi h1 h2 => by first | exact hg5.block i hi (fun e => h1 (by injection e)) | exact (hg5.block i (by simp; omega) (fun e => h1 (by injection e))).trans (Below.heap_alloc _ _ i hi)⟩⟩⟩
        · cases hjj
      · cases hjj
    | ok v a' p' =>
      rw [hdv] at HCV
      have HR8 : Hid (decI (decV xs d) xs 6 q a' p' (its ++ [v]) nms = R) := by
        have := HRT.out
        rw [hdv] at this
        exact this
      have hdo := decV_ok HX.out d a p v a' p' (by rw [HL.out]; exact ha) hdv
      have haN : a' ≤ N := by have := hdo.hi; rw [HL.out] at this; exact this
      have halo : a < a' := hdo.lo
      have hp' := decV_parts d a p v a' p' hp hdv
      clear hdo
      go_wp2_with fail
      refine wp_region_any (by kernel_rfl) ?_
      try (change wpAny _ _ _ _ _ _ _ (World.drew _))
      refine wpAny_take (i := 0) (v := .pointer (some ⟨gv, 0, none⟩)) (by rw [List.getElem?_toArray]; exact rfl) (by kernel_rfl) (by kernel_rfl) (by kernel_rfl) (by exact fun _ _ _ h => h) (Or.inl ⟨by rfl, fun w => by go_simp⟩) ?_
      try simp only [Act.put, List.setIfInBounds_toArray, List.set_cons_zero, List.set_cons_succ]
      refine wpAny_take (i := 1) (v := .pointer (some ⟨gv, 0, none⟩)) (by rw [List.getElem?_toArray]; exact rfl) (by kernel_rfl) (by kernel_rfl) (by kernel_rfl) (by exact fun _ _ _ h => h) (Or.inl ⟨by rfl, fun w => by go_simp⟩) ?_
      try simp only [Act.put, List.setIfInBounds_toArray, List.set_cons_zero, List.set_cons_succ]
      refine wpAny_take (i := 2) (v := .pointer (some ⟨gv, 4, none⟩)) (by rw [List.getElem?_toArray]; exact rfl) (by kernel_rfl) (by kernel_rfl) (by kernel_rfl) (by exact fun _ _ _ h => h) (Or.inl ⟨by rfl, fun w => by go_simp⟩) ?_
      try simp only [Act.put, List.setIfInBounds_toArray, List.set_cons_zero, List.set_cons_succ]
      refine wpAny_take (i := 4) (v := .pointer (some ⟨g, 0, none⟩)) (by rw [List.getElem?_toArray]; exact rfl) (by kernel_rfl) (by kernel_rfl) (by kernel_rfl) (by exact fun _ _ _ h => h) (Or.inl ⟨by rfl, fun w => by go_simp⟩) ?_
      try simp only [Act.put, List.setIfInBounds_toArray, List.set_cons_zero, List.set_cons_succ]
      refine wpAny_take (i := 5) (v := .int .i64 D) (by rw [List.getElem?_toArray]; exact rfl) (by kernel_rfl) (by kernel_rfl) (by kernel_rfl) (by exact fun _ _ _ h => h) (Or.inl ⟨by rfl, fun w => by go_simp⟩) ?_
      try simp only [Act.put, List.setIfInBounds_toArray, List.set_cons_zero, List.set_cons_succ]
      refine wpAny_take (i := 6) (v := .int .i64 (D + 1)) (by rw [List.getElem?_toArray]; exact rfl) (by kernel_rfl) (by kernel_rfl) (by kernel_rfl) (by exact fun _ _ _ h => h) (Or.inl ⟨by rfl, fun w => by go_simp⟩) ?_
      try simp only [Act.put, List.setIfInBounds_toArray, List.set_cons_zero, List.set_cons_succ]
      refine wpAny_ready (rs := [3, 7, 9]) (by kernel_rfl) (by simp) ?_
      intro jj hjj
      rcases List.mem_cons.1 hjj with rfl | hjj
      · refine wpOp_step (by rw [List.getElem?_toArray]; exact rfl) (fun K hK => ?_)
        go_simp
        refine hK _ _ ?_
        clear hK K
        try simp only [Act.put, List.setIfInBounds_toArray, List.set_cons_zero, List.set_cons_succ]
        refine wpAny_take (i := 8) (v := .int .i64 (nI : Int)) (by rw [List.getElem?_toArray]; exact rfl) (by kernel_rfl) (by kernel_rfl) (by kernel_rfl) (by exact fun _ _ _ h => h) (Or.inl ⟨by rfl, fun w => by go_simp⟩) ?_
        try simp only [Act.put, List.setIfInBounds_toArray, List.set_cons_zero, List.set_cons_succ]
        refine wpAny_ready (rs := [7, 9]) (by kernel_rfl) (by simp) ?_
        intro jj hjj
        rcases List.mem_cons.1 hjj with rfl | hjj
        · refine wpOp_step (by rw [List.getElem?_toArray]; exact rfl) (fun K hK => ?_)
          go_simp
          refine (HCV.out _ ((Below.refl _ _).drew)).mono ?_
          rintro e w5 ⟨cs5, rfl, hf5, hk5, hg5⟩
          have HG5 : Hid (wr.grownBy w5 (some g)) := only_trans (only_drew (World.grownBy.refl wr _)) hg5
          have HW5 := Lib.hid (Row.kid HW3.out HG5.out hk5 hf5 (by simp))
          have HS5 := Lib.hid (six_of hf5.rd)
          have HI5 := Lib.hid (info_six HS5.out.1)
          have v4' : w5.cell? ⟨gv, 4, none⟩ = some (.slice AI nI cI) := HW5.out.bv.cell 4
          have v4a : ∀ o : Obj, (w5.alloc o).cell? ⟨gv, 4, none⟩ = some (.slice AI nI cI) := fun o => (HW5.out.bv.alloc o).cell 4
          clear hf5 hk5 hg5
          refine hK _ _ ?_
          clear hK K
          try simp only [Act.put, List.setIfInBounds_toArray, List.set_cons_zero, List.set_cons_succ]
          refine wpAny_ready (rs := [9]) (by kernel_rfl) (by simp) ?_
          intro jj hjj
          rcases List.mem_cons.1 hjj with rfl | hjj
          · refine wpOp_step (by rw [List.getElem?_toArray]; exact rfl) (fun K hK => ?_)
            go_simp
            refine hK _ _ ?_
            clear hK K
            try simp only [Act.put, List.setIfInBounds_toArray, List.set_cons_zero, List.set_cons_succ]
            refine wpAny_ready (rs := [10]) (by kernel_rfl) (by simp) ?_
            intro jj hjj
            rcases List.mem_cons.1 hjj with rfl | hjj
            · refine wpOp_step (by rw [List.getElem?_toArray]; exact rfl) (fun K hK => ?_)
              have HWA := Lib.hid (HW5.out.alloc (.cells zv6.toArray 30))
              have HZA := Lib.hid (reads_zv w5)
              refine step_append_any _ rfl (.tmp 84) (.tmp 90) 27 rfl w.heap.size 30 i0 _ 6 88 Tryz.underlying27 hi0 hz0 hz1 hz2 rfl (by omega) (.slice AI nI cI) nI css.flatten (by simp [Act.eval]) HWA.out.oi _ (some ⟨w5.heap.size, 0, none⟩) 1 1 zv6 (by simp [Act.eval]) HZA.out (by simp [Value.oneCell']) (by simp only [maxLen]; omega) (by omega) HWA.out.kp.size ?_
              intro v6 w6 hown6 hg6 hbk6
              obtain ⟨A6, c6, hv6⟩ := own_slice6 hown6
              subst hv6
              obtain ⟨r6, hr6⟩ := own_form6 hown6 (by omega)
              subst hr6
              obtain ⟨cur6, hb6, hs6, ho6⟩ := own_last hown6 (by rw [flat_six css HW3.out.ch.six, HW3.out.ch.len, HLN.out.1]) HS5.out.1
              have HB6 := Lib.hid hb6
              have HO6 := Lib.hid hown6
              have HG6 := Lib.hid hg6
              have HK6 := Lib.hid hbk6
              have HL6 := Lib.hid ho6
              have HSZ6 := Lib.hid hs6
              clear hb6 hown6 hg6 hbk6 ho6 hs6
              refine hK _ _ ?_
              clear hK K
              try simp only [Act.put, List.setIfInBounds_toArray, List.set_cons_zero, List.set_cons_succ]
              refine wpAny_take (i := 11) (v := .pointer (some ⟨r6, nI * 6, none⟩)) (by rw [List.getElem?_toArray]; exact rfl) (by kernel_rfl) (by kernel_rfl) (by kernel_rfl) (by exact fun _ _ _ h => h) (Or.inl ⟨by rfl, fun w => by go_simp; first | done | (intro h; exact absurd h (by omega))⟩) ?_
              try simp only [Act.put, List.setIfInBounds_toArray, List.set_cons_zero, List.set_cons_succ]
              refine wpAny_take (i := 13) (v := .pointer (some ⟨gv, 0, none⟩)) (by rw [List.getElem?_toArray]; exact rfl) (by kernel_rfl) (by kernel_rfl) (by kernel_rfl) (by exact fun _ _ _ h => h) (Or.inl ⟨by rfl, fun w => by go_simp⟩) ?_
              try simp only [Act.put, List.setIfInBounds_toArray, List.set_cons_zero, List.set_cons_succ]
              refine wpAny_take (i := 14) (v := .pointer (some ⟨gv, 4, none⟩)) (by rw [List.getElem?_toArray]; exact rfl) (by kernel_rfl) (by kernel_rfl) (by kernel_rfl) (by exact fun _ _ _ h => h) (Or.inl ⟨by rfl, fun w => by go_simp⟩) ?_
              try simp only [Act.put, List.setIfInBounds_toArray, List.set_cons_zero, List.set_cons_succ]
              refine wpAny_ready (rs := [12, 15]) (by kernel_rfl) (by simp) ?_
              intro jj hjj
              rcases List.mem_cons.1 hjj with rfl | hjj
              · refine wpOp_step (by rw [List.getElem?_toArray]; exact rfl) (fun K hK => ?_)
                refine step_store_midB rfl 30 (.tmp 92) (.tmp 88) rfl rfl r6 (nI * 6) cs5.toArray (by go_simp) (by go_simp) HB6.out HI5.out HSZ6.out HS5.out.2 ?_
                intro w7 hb7 hg7 hz7
                have HV7 : Hid (Blk w7 gv 30 (vkC 6 AI nI cI AN nN cN)) := (HWA.out.gv6 HG6.out).grown hg7 (by have h6x : w.heap.size ≤ r6 := (own_at HO6.out rfl).1; have := HWA.out.lv; intro e; injection e with e; omega)
                have HW8 := Lib.hid (Row.item HWA.out HO6.out HG6.out HK6.out hg7 hz7 (HL6.out w7 hb7))
                have c7 : w7.cell? ⟨gv, 4, none⟩ = some (.slice AI nI cI) := HV7.out.cell 4
                have f7 : w7.frozen? ⟨gv, 4, none⟩ = false := HV7.out.frozen 4
                clear hb7 hg7 hz7
                refine hK _ _ ?_
                clear hK K
                try simp only [Act.put, List.setIfInBounds_toArray, List.set_cons_zero, List.set_cons_succ]
                refine wpAny_ready (rs := [15]) (by kernel_rfl) (by simp) ?_
                intro jj hjj
                rcases List.mem_cons.1 hjj with rfl | hjj
                · refine wpOp_step (by rw [List.getElem?_toArray]; exact rfl) (fun K hK => ?_)
                  go_simp
                  refine hK _ _ ?_
                  clear hK K
                  try simp only [Act.put, List.setIfInBounds_toArray, List.set_cons_zero, List.set_cons_succ]
                  refine wpAny_done (by kernel_rfl) ?_ _
                  clear c7 f7
                  generalize w7.setCell ⟨gv, 4, none⟩ (.slice (some ⟨r6, 0, none⟩) (nI + 1) c6) = w8 at *
                  have HR9 : Hid (Row w w8 g gv 6 A N c a' p' nms (css ++ [cs5]).flatten (some ⟨r6, 0, none⟩) (nI + 1) c6 AN nN cN (its ++ [v]) (css ++ [cs5])) := by show Row _ _ _ _ _ _ _ _ _ _ _ _ _ _ _ _ _ _ _ _; rw [List.flatten_append, List.flatten_singleton]; exact HW8.out
                  clear HG5 HW5 HS5 HWA HZA HB6 HO6 HG6 HK6 HL6 HSZ6 HW8 v4 v4' v4a v0 HCV HRT HW3
                  go_wp2_with fail
                  go_roundw
                  case rel => exact ⟨q, a', p', nI + 1, nN, its ++ [v], nms, css ++ [cs5], _, _, _, _, by go_num, by omega, haN, hp', by omega, by omega, ⟨by simp [HLN.out.1], HLN.out.2⟩, HR8, HR9⟩
                  case measure => simp [intOf]
                · cases hjj
              rcases List.mem_cons.1 hjj with rfl | hjj
              · refine wpOp_step (by rw [List.getElem?_toArray]; exact rfl) (fun K hK => ?_)
                have HV6 := Lib.hid (HWA.out.gv6 HG6.out)
                have c6' : w6.cell? ⟨gv, 4, none⟩ = some (.slice AI nI cI) := HV6.out.cell 4
                have f6 : w6.frozen? ⟨gv, 4, none⟩ = false := HV6.out.frozen 4
                go_simp
                refine hK _ _ ?_
                clear hK K
                try simp only [Act.put, List.setIfInBounds_toArray, List.set_cons_zero, List.set_cons_succ]
                refine wpAny_ready (rs := [12]) (by kernel_rfl) (by simp) ?_
                intro jj hjj
                rcases List.mem_cons.1 hjj with rfl | hjj
                · refine wpOp_step (by rw [List.getElem?_toArray]; exact rfl) (fun K hK => ?_)
                  have HB6' : Hid (Blk (w6.setCell ⟨gv, 4, none⟩ (.slice (some ⟨r6, 0, none⟩) (nI + 1) c6)) r6 30 cur6) := HB6.out.far (by have h6x : w.heap.size ≤ r6 := (own_at HO6.out rfl).1; have := HWA.out.lv; simp only; omega) _
                  refine step_store_midB rfl 30 (.tmp 92) (.tmp 88) rfl rfl r6 (nI * 6) cs5.toArray (by go_simp) (by go_simp) HB6'.out HI5.out HSZ6.out HS5.out.2 ?_
                  intro w8 hb7 hg7 hz7
                  have HW8 := Lib.hid (Row.item' HWA.out HO6.out HG6.out HK6.out hg7 hz7 (HL6.out w8 hb7))
                  clear hb7 hg7 hz7 c6' f6 HB6'
                  refine hK _ _ ?_
                  clear hK K
                  try simp only [Act.put, List.setIfInBounds_toArray, List.set_cons_zero, List.set_cons_succ]
                  refine wpAny_done (by kernel_rfl) ?_ _
                  have HR9 : Hid (Row w w8 g gv 6 A N c a' p' nms (css ++ [cs5]).flatten (some ⟨r6, 0, none⟩) (nI + 1) c6 AN nN cN (its ++ [v]) (css ++ [cs5])) := by show Row _ _ _ _ _ _ _ _ _ _ _ _ _ _ _ _ _ _ _ _; rw [List.flatten_append, List.flatten_singleton]; exact HW8.out
                  clear HG5 HW5 HS5 HWA HZA HB6 HO6 HG6 HK6 HL6 HSZ6 HW8 v4 v4' v4a v0 HCV HRT HW3
                  go_wp2_with fail
                  go_roundw
                  case rel => exact ⟨q, a', p', nI + 1, nN, its ++ [v], nms, css ++ [cs5], _, _, _, _, by go_num, by omega, haN, hp', by omega, by omega, ⟨by simp [HLN.out.1], HLN.out.2⟩, HR8, HR9⟩
                  case measure => simp [intOf]
                · cases hjj
              · cases hjj
            · cases hjj
          · cases hjj
        rcases List.mem_cons.1 hjj with rfl | hjj
        · refine wpOp_step (by rw [List.getElem?_toArray]; exact rfl) (fun K hK => ?_)
          go_simp
          refine hK _ _ ?_
          clear hK K
          try simp only [Act.put, List.setIfInBounds_toArray, List.set_cons_zero, List.set_cons_succ]
          refine wpAny_ready (rs := [7]) (by kernel_rfl) (by simp) ?_
          intro jj hjj
          rcases List.mem_cons.1 hjj with rfl | hjj
          · refine wpOp_step (by rw [List.getElem?_toArray]; exact rfl) (fun K hK => ?_)
            go_simp
            refine (HCV.out _ (((Below.refl _ _).drew).alloc (Nat.le_refl _) _)).mono ?_
            rintro e w5 ⟨cs5, rfl, hf5, hk5, hg5⟩
            have HG5 : Hid (wr.grownBy w5 (some g)) := only_trans (only_alloc (only_drew (World.grownBy.refl wr _)) _) hg5
            have HZ5 := Lib.hid (zv_keep hg5 hg3)
            have HW5 := Lib.hid (Row.kid HW3.out HG5.out hk5 hf5 (by simp))
            have HS5 := Lib.hid (six_of hf5.rd)
            have HI5 := Lib.hid (info_six HS5.out.1)
            have v4' : w5.cell? ⟨gv, 4, none⟩ = some (.slice AI nI cI) := HW5.out.bv.cell 4
            have v4a : ∀ o : Obj, (w5.alloc o).cell? ⟨gv, 4, none⟩ = some (.slice AI nI cI) := fun o => (HW5.out.bv.alloc o).cell 4
            clear hf5 hk5 hg5
            refine hK _ _ ?_
            clear hK K
            try simp only [Act.put, List.setIfInBounds_toArray, List.set_cons_zero, List.set_cons_succ]
            refine wpAny_ready (rs := [10]) (by kernel_rfl) (by simp) ?_
            intro jj hjj
            rcases List.mem_cons.1 hjj with rfl | hjj
            · refine wpOp_step (by rw [List.getElem?_toArray]; exact rfl) (fun K hK => ?_)
              have HWA := HW5
              have HZA := HZ5
              refine step_append_any _ rfl (.tmp 84) (.tmp 90) 27 rfl w.heap.size 30 i0 _ 6 88 Tryz.underlying27 hi0 hz0 hz1 hz2 rfl (by omega) (.slice AI nI cI) nI css.flatten (by simp [Act.eval]) HWA.out.oi _ (some ⟨wr.heap.size, 0, none⟩) 1 1 zv6 (by simp [Act.eval]) HZA.out (by simp [Value.oneCell']) (by simp only [maxLen]; omega) (by omega) HWA.out.kp.size ?_
              intro v6 w6 hown6 hg6 hbk6
              obtain ⟨A6, c6, hv6⟩ := own_slice6 hown6
              subst hv6
              obtain ⟨r6, hr6⟩ := own_form6 hown6 (by omega)
              subst hr6
              obtain ⟨cur6, hb6, hs6, ho6⟩ := own_last hown6 (by rw [flat_six css HW3.out.ch.six, HW3.out.ch.len, HLN.out.1]) HS5.out.1
              have HB6 := Lib.hid hb6
              have HO6 := Lib.hid hown6
              have HG6 := Lib.hid hg6
              have HK6 := Lib.hid hbk6
              have HL6 := Lib.hid ho6
              have HSZ6 := Lib.hid hs6
              clear hb6 hown6 hg6 hbk6 ho6 hs6
              refine hK _ _ ?_
              clear hK K
              try simp only [Act.put, List.setIfInBounds_toArray, List.set_cons_zero, List.set_cons_succ]
              refine wpAny_take (i := 11) (v := .pointer (some ⟨r6, nI * 6, none⟩)) (by rw [List.getElem?_toArray]; exact rfl) (by kernel_rfl) (by kernel_rfl) (by kernel_rfl) (by exact fun _ _ _ h => h) (Or.inl ⟨by rfl, fun w => by go_simp; first | done | (intro h; exact absurd h (by omega))⟩) ?_
              try simp only [Act.put, List.setIfInBounds_toArray, List.set_cons_zero, List.set_cons_succ]
              refine wpAny_take (i := 13) (v := .pointer (some ⟨gv, 0, none⟩)) (by rw [List.getElem?_toArray]; exact rfl) (by kernel_rfl) (by kernel_rfl) (by kernel_rfl) (by exact fun _ _ _ h => h) (Or.inl ⟨by rfl, fun w => by go_simp⟩) ?_
              try simp only [Act.put, List.setIfInBounds_toArray, List.set_cons_zero, List.set_cons_succ]
              refine wpAny_take (i := 14) (v := .pointer (some ⟨gv, 4, none⟩)) (by rw [List.getElem?_toArray]; exact rfl) (by kernel_rfl) (by kernel_rfl) (by kernel_rfl) (by exact fun _ _ _ h => h) (Or.inl ⟨by rfl, fun w => by go_simp⟩) ?_
              try simp only [Act.put, List.setIfInBounds_toArray, List.set_cons_zero, List.set_cons_succ]
              refine wpAny_ready (rs := [12, 15]) (by kernel_rfl) (by simp) ?_
              intro jj hjj
              rcases List.mem_cons.1 hjj with rfl | hjj
              · refine wpOp_step (by rw [List.getElem?_toArray]; exact rfl) (fun K hK => ?_)
                refine step_store_midB rfl 30 (.tmp 92) (.tmp 88) rfl rfl r6 (nI * 6) cs5.toArray (by go_simp) (by go_simp) HB6.out HI5.out HSZ6.out HS5.out.2 ?_
                intro w7 hb7 hg7 hz7
                have HV7 : Hid (Blk w7 gv 30 (vkC 6 AI nI cI AN nN cN)) := (HWA.out.gv6 HG6.out).grown hg7 (by have h6x : w.heap.size ≤ r6 := (own_at HO6.out rfl).1; have := HWA.out.lv; intro e; injection e with e; omega)
                have HW8 := Lib.hid (Row.item HWA.out HO6.out HG6.out HK6.out hg7 hz7 (HL6.out w7 hb7))
                have c7 : w7.cell? ⟨gv, 4, none⟩ = some (.slice AI nI cI) := HV7.out.cell 4
                have f7 : w7.frozen? ⟨gv, 4, none⟩ = false := HV7.out.frozen 4
                clear hb7 hg7 hz7
                refine hK _ _ ?_
                clear hK K
                try simp only [Act.put, List.setIfInBounds_toArray, List.set_cons_zero, List.set_cons_succ]
                refine wpAny_ready (rs := [15]) (by kernel_rfl) (by simp) ?_
                intro jj hjj
                rcases List.mem_cons.1 hjj with rfl | hjj
                · refine wpOp_step (by rw [List.getElem?_toArray]; exact rfl) (fun K hK => ?_)
                  go_simp
                  refine hK _ _ ?_
                  clear hK K
                  try simp only [Act.put, List.setIfInBounds_toArray, List.set_cons_zero, List.set_cons_succ]
                  refine wpAny_done (by kernel_rfl) ?_ _
                  clear c7 f7
                  generalize w7.setCell ⟨gv, 4, none⟩ (.slice (some ⟨r6, 0, none⟩) (nI + 1) c6) = w8 at *
                  have HR9 : Hid (Row w w8 g gv 6 A N c a' p' nms (css ++ [cs5]).flatten (some ⟨r6, 0, none⟩) (nI + 1) c6 AN nN cN (its ++ [v]) (css ++ [cs5])) := by show Row _ _ _ _ _ _ _ _ _ _ _ _ _ _ _ _ _ _ _ _; rw [List.flatten_append, List.flatten_singleton]; exact HW8.out
                  clear HG5 HW5 HS5 HWA HZA HB6 HO6 HG6 HK6 HL6 HSZ6 HW8 v4 v4' v4a v0 HCV HRT HW3
                  go_wp2_with fail
                  go_roundw
                  case rel => exact ⟨q, a', p', nI + 1, nN, its ++ [v], nms, css ++ [cs5], _, _, _, _, by go_num, by omega, haN, hp', by omega, by omega, ⟨by simp [HLN.out.1], HLN.out.2⟩, HR8, HR9⟩
                  case measure => simp [intOf]
                · cases hjj
              rcases List.mem_cons.1 hjj with rfl | hjj
              · refine wpOp_step (by rw [List.getElem?_toArray]; exact rfl) (fun K hK => ?_)
                have HV6 := Lib.hid (HWA.out.gv6 HG6.out)
                have c6' : w6.cell? ⟨gv, 4, none⟩ = some (.slice AI nI cI) := HV6.out.cell 4
                have f6 : w6.frozen? ⟨gv, 4, none⟩ = false := HV6.out.frozen 4
                go_simp
                refine hK _ _ ?_
                clear hK K
                try simp only [Act.put, List.setIfInBounds_toArray, List.set_cons_zero, List.set_cons_succ]
                refine wpAny_ready (rs := [12]) (by kernel_rfl) (by simp) ?_
                intro jj hjj
                rcases List.mem_cons.1 hjj with rfl | hjj
                · refine wpOp_step (by rw [List.getElem?_toArray]; exact rfl) (fun K hK => ?_)
                  have HB6' : Hid (Blk (w6.setCell ⟨gv, 4, none⟩ (.slice (some ⟨r6, 0, none⟩) (nI + 1) c6)) r6 30 cur6) := HB6.out.far (by have h6x : w.heap.size ≤ r6 := (own_at HO6.out rfl).1; have := HWA.out.lv; simp only; omega) _
                  refine step_store_midB rfl 30 (.tmp 92) (.tmp 88) rfl rfl r6 (nI * 6) cs5.toArray (by go_simp) (by go_simp) HB6'.out HI5.out HSZ6.out HS5.out.2 ?_
                  intro w8 hb7 hg7 hz7
                  have HW8 := Lib.hid (Row.item' HWA.out HO6.out HG6.out HK6.out hg7 hz7 (HL6.out w8 hb7))
                  clear hb7 hg7 hz7 c6' f6 HB6'
                  refine hK _ _ ?_
                  clear hK K
                  try simp only [Act.put, List.setIfInBounds_toArray, List.set_cons_zero, List.set_cons_succ]
                  refine wpAny_done (by kernel_rfl) ?_ _
                  have HR9 : Hid (Row w w8 g gv 6 A N c a' p' nms (css ++ [cs5]).flatten (some ⟨r6, 0, none⟩) (nI + 1) c6 AN nN cN (its ++ [v]) (css ++ [cs5])) := by show Row _ _ _ _ _ _ _ _ _ _ _ _ _ _ _ _ _ _ _ _; rw [List.flatten_append, List.flatten_singleton]; exact HW8.out
                  clear HG5 HW5 HS5 HWA HZA HB6 HO6 HG6 HK6 HL6 HSZ6 HW8 v4 v4' v4a v0 HCV HRT HW3
                  go_wp2_with fail
                  go_roundw
                  case rel => exact ⟨q, a', p', nI + 1, nN, its ++ [v], nms, css ++ [cs5], _, _, _, _, by go_num, by omega, haN, hp', by omega, by omega, ⟨by simp [HLN.out.1], HLN.out.2⟩, HR8, HR9⟩
                  case measure => simp [intOf]
                · cases hjj
              · cases hjj
            · cases hjj
          · cases hjj
        · cases hjj
      rcases List.mem_cons.1 hjj with rfl | hjj
      · refine wpOp_step (by rw [List.getElem?_toArray]; exact rfl) (fun K hK => ?_)
        go_simp
        refine (HCV.out _ ((Below.refl _ _).drew)).mono ?_
        rintro e w5 ⟨cs5, rfl, hf5, hk5, hg5⟩
        have HG5 : Hid (wr.grownBy w5 (some g)) := only_trans (only_drew (World.grownBy.refl wr _)) hg5
        have HW5 := Lib.hid (Row.kid HW3.out HG5.out hk5 hf5 (by simp))
        have HS5 := Lib.hid (six_of hf5.rd)
        have HI5 := Lib.hid (info_six HS5.out.1)
        have v4' : w5.cell? ⟨gv, 4, none⟩ = some (.slice AI nI cI) := HW5.out.bv.cell 4
        have v4a : ∀ o : Obj, (w5.alloc o).cell? ⟨gv, 4, none⟩ = some (.slice AI nI cI) := fun o => (HW5.out.bv.alloc o).cell 4
        clear hf5 hk5 hg5
        refine hK _ _ ?_
        clear hK K
        try simp only [Act.put, List.setIfInBounds_toArray, List.set_cons_zero, List.set_cons_succ]
        refine wpAny_ready (rs := [3, 9]) (by kernel_rfl) (by simp) ?_
        intro jj hjj
        rcases List.mem_cons.1 hjj with rfl | hjj
        · refine wpOp_step (by rw [List.getElem?_toArray]; exact rfl) (fun K hK => ?_)
          go_simp
          refine hK _ _ ?_
          clear hK K
          try simp only [Act.put, List.setIfInBounds_toArray, List.set_cons_zero, List.set_cons_succ]
          refine wpAny_take (i := 8) (v := .int .i64 (nI : Int)) (by rw [List.getElem?_toArray]; exact rfl) (by kernel_rfl) (by kernel_rfl) (by kernel_rfl) (by exact fun _ _ _ h => h) (Or.inl ⟨by rfl, fun w => by go_simp⟩) ?_
          try simp only [Act.put, List.setIfInBounds_toArray, List.set_cons_zero, List.set_cons_succ]
          refine wpAny_ready (rs := [9]) (by kernel_rfl) (by simp) ?_
          intro jj hjj
          rcases List.mem_cons.1 hjj with rfl | hjj
          · refine wpOp_step (by rw [List.getElem?_toArray]; exact rfl) (fun K hK => ?_)
            go_simp
            refine hK _ _ ?_
            clear hK K
            try simp only [Act.put, List.setIfInBounds_toArray, List.set_cons_zero, List.set_cons_succ]
            refine wpAny_ready (rs := [10]) (by kernel_rfl) (by simp) ?_
            intro jj hjj
            rcases List.mem_cons.1 hjj with rfl | hjj
            · refine wpOp_step (by rw [List.getElem?_toArray]; exact rfl) (fun K hK => ?_)
              have HWA := Lib.hid (HW5.out.alloc (.cells zv6.toArray 30))
              have HZA := Lib.hid (reads_zv w5)
              refine step_append_any _ rfl (.tmp 84) (.tmp 90) 27 rfl w.heap.size 30 i0 _ 6 88 Tryz.underlying27 hi0 hz0 hz1 hz2 rfl (by omega) (.slice AI nI cI) nI css.flatten (by simp [Act.eval]) HWA.out.oi _ (some ⟨w5.heap.size, 0, none⟩) 1 1 zv6 (by simp [Act.eval]) HZA.out (by simp [Value.oneCell']) (by simp only [maxLen]; omega) (by omega) HWA.out.kp.size ?_
              intro v6 w6 hown6 hg6 hbk6
              obtain ⟨A6, c6, hv6⟩ := own_slice6 hown6
              subst hv6
              obtain ⟨r6, hr6⟩ := own_form6 hown6 (by omega)
              subst hr6
              obtain ⟨cur6, hb6, hs6, ho6⟩ := own_last hown6 (by rw [flat_six css HW3.out.ch.six, HW3.out.ch.len, HLN.out.1]) HS5.out.1
              have HB6 := Lib.hid hb6
              have HO6 := Lib.hid hown6
              have HG6 := Lib.hid hg6
              have HK6 := Lib.hid hbk6
              have HL6 := Lib.hid ho6
              have HSZ6 := Lib.hid hs6
              clear hb6 hown6 hg6 hbk6 ho6 hs6
              refine hK _ _ ?_
              clear hK K
              try simp only [Act.put, List.setIfInBounds_toArray, List.set_cons_zero, List.set_cons_succ]
              refine wpAny_take (i := 11) (v := .pointer (some ⟨r6, nI * 6, none⟩)) (by rw [List.getElem?_toArray]; exact rfl) (by kernel_rfl) (by kernel_rfl) (by kernel_rfl) (by exact fun _ _ _ h => h) (Or.inl ⟨by rfl, fun w => by go_simp; first | done | (intro h; exact absurd h (by omega))⟩) ?_
              try simp only [Act.put, List.setIfInBounds_toArray, List.set_cons_zero, List.set_cons_succ]
              refine wpAny_take (i := 13) (v := .pointer (some ⟨gv, 0, none⟩)) (by rw [List.getElem?_toArray]; exact rfl) (by kernel_rfl) (by kernel_rfl) (by kernel_rfl) (by exact fun _ _ _ h => h) (Or.inl ⟨by rfl, fun w => by go_simp⟩) ?_
              try simp only [Act.put, List.setIfInBounds_toArray, List.set_cons_zero, List.set_cons_succ]
              refine wpAny_take (i := 14) (v := .pointer (some ⟨gv, 4, none⟩)) (by rw [List.getElem?_toArray]; exact rfl) (by kernel_rfl) (by kernel_rfl) (by kernel_rfl) (by exact fun _ _ _ h => h) (Or.inl ⟨by rfl, fun w => by go_simp⟩) ?_
              try simp only [Act.put, List.setIfInBounds_toArray, List.set_cons_zero, List.set_cons_succ]
              refine wpAny_ready (rs := [12, 15]) (by kernel_rfl) (by simp) ?_
              intro jj hjj
              rcases List.mem_cons.1 hjj with rfl | hjj
              · refine wpOp_step (by rw [List.getElem?_toArray]; exact rfl) (fun K hK => ?_)
                refine step_store_midB rfl 30 (.tmp 92) (.tmp 88) rfl rfl r6 (nI * 6) cs5.toArray (by go_simp) (by go_simp) HB6.out HI5.out HSZ6.out HS5.out.2 ?_
                intro w7 hb7 hg7 hz7
                have HV7 : Hid (Blk w7 gv 30 (vkC 6 AI nI cI AN nN cN)) := (HWA.out.gv6 HG6.out).grown hg7 (by have h6x : w.heap.size ≤ r6 := (own_at HO6.out rfl).1; have := HWA.out.lv; intro e; injection e with e; omega)
                have HW8 := Lib.hid (Row.item HWA.out HO6.out HG6.out HK6.out hg7 hz7 (HL6.out w7 hb7))
                have c7 : w7.cell? ⟨gv, 4, none⟩ = some (.slice AI nI cI) := HV7.out.cell 4
                have f7 : w7.frozen? ⟨gv, 4, none⟩ = false := HV7.out.frozen 4
                clear hb7 hg7 hz7
                refine hK _ _ ?_
                clear hK K
                try simp only [Act.put, List.setIfInBounds_toArray, List.set_cons_zero, List.set_cons_succ]
                refine wpAny_ready (rs := [15]) (by kernel_rfl) (by simp) ?_
                intro jj hjj
                rcases List.mem_cons.1 hjj with rfl | hjj
                · refine wpOp_step (by rw [List.getElem?_toArray]; exact rfl) (fun K hK => ?_)
                  go_simp
                  refine hK _ _ ?_
                  clear hK K
                  try simp only [Act.put, List.setIfInBounds_toArray, List.set_cons_zero, List.set_cons_succ]
                  refine wpAny_done (by kernel_rfl) ?_ _
                  clear c7 f7
                  generalize w7.setCell ⟨gv, 4, none⟩ (.slice (some ⟨r6, 0, none⟩) (nI + 1) c6) = w8 at *
                  have HR9 : Hid (Row w w8 g gv 6 A N c a' p' nms (css ++ [cs5]).flatten (some ⟨r6, 0, none⟩) (nI + 1) c6 AN nN cN (its ++ [v]) (css ++ [cs5])) := by show Row _ _ _ _ _ _ _ _ _ _ _ _ _ _ _ _ _ _ _ _; rw [List.flatten_append, List.flatten_singleton]; exact HW8.out
                  clear HG5 HW5 HS5 HWA HZA HB6 HO6 HG6 HK6 HL6 HSZ6 HW8 v4 v4' v4a v0 HCV HRT HW3
                  go_wp2_with fail
                  go_roundw
                  case rel => exact ⟨q, a', p', nI + 1, nN, its ++ [v], nms, css ++ [cs5], _, _, _, _, by go_num, by omega, haN, hp', by omega, by omega, ⟨by simp [HLN.out.1], HLN.out.2⟩, HR8, HR9⟩
                  case measure => simp [intOf]
                · cases hjj
              rcases List.mem_cons.1 hjj with rfl | hjj
              · refine wpOp_step (by rw [List.getElem?_toArray]; exact rfl) (fun K hK => ?_)
                have HV6 := Lib.hid (HWA.out.gv6 HG6.out)
                have c6' : w6.cell? ⟨gv, 4, none⟩ = some (.slice AI nI cI) := HV6.out.cell 4
                have f6 : w6.frozen? ⟨gv, 4, none⟩ = false := HV6.out.frozen 4
                go_simp
                refine hK _ _ ?_
                clear hK K
                try simp only [Act.put, List.setIfInBounds_toArray, List.set_cons_zero, List.set_cons_succ]
                refine wpAny_ready (rs := [12]) (by kernel_rfl) (by simp) ?_
                intro jj hjj
                rcases List.mem_cons.1 hjj with rfl | hjj
                · refine wpOp_step (by rw [List.getElem?_toArray]; exact rfl) (fun K hK => ?_)
                  have HB6' : Hid (Blk (w6.setCell ⟨gv, 4, none⟩ (.slice (some ⟨r6, 0, none⟩) (nI + 1) c6)) r6 30 cur6) := HB6.out.far (by have h6x : w.heap.size ≤ r6 := (own_at HO6.out rfl).1; have := HWA.out.lv; simp only; omega) _
                  refine step_store_midB rfl 30 (.tmp 92) (.tmp 88) rfl rfl r6 (nI * 6) cs5.toArray (by go_simp) (by go_simp) HB6'.out HI5.out HSZ6.out HS5.out.2 ?_
                  intro w8 hb7 hg7 hz7
                  have HW8 := Lib.hid (Row.item' HWA.out HO6.out HG6.out HK6.out hg7 hz7 (HL6.out w8 hb7))
                  clear hb7 hg7 hz7 c6' f6 HB6'
                  refine hK _ _ ?_
                  clear hK K
                  try simp only [Act.put, List.setIfInBounds_toArray, List.set_cons_zero, List.set_cons_succ]
                  refine wpAny_done (by kernel_rfl) ?_ _
                  have HR9 : Hid (Row w w8 g gv 6 A N c a' p' nms (css ++ [cs5]).flatten (some ⟨r6, 0, none⟩) (nI + 1) c6 AN nN cN (its ++ [v]) (css ++ [cs5])) := by show Row _ _ _ _ _ _ _ _ _ _ _ _ _ _ _ _ _ _ _ _; rw [List.flatten_append, List.flatten_singleton]; exact HW8.out
                  clear HG5 HW5 HS5 HWA HZA HB6 HO6 HG6 HK6 HL6 HSZ6 HW8 v4 v4' v4a v0 HCV HRT HW3
                  go_wp2_with fail
                  go_roundw
                  case rel => exact ⟨q, a', p', nI + 1, nN, its ++ [v], nms, css ++ [cs5], _, _, _, _, by go_num, by omega, haN, hp', by omega, by omega, ⟨by simp [HLN.out.1], HLN.out.2⟩, HR8, HR9⟩
                  case measure => simp [intOf]
                · cases hjj
              · cases hjj
            · cases hjj
          · cases hjj
        rcases List.mem_cons.1 hjj with rfl | hjj
        · refine wpOp_step (by rw [List.getElem?_toArray]; exact rfl) (fun K hK => ?_)
          go_simp
          refine hK _ _ ?_
          clear hK K
          try simp only [Act.put, List.setIfInBounds_toArray, List.set_cons_zero, List.set_cons_succ]
          refine wpAny_ready (rs := [3]) (by kernel_rfl) (by simp) ?_
          intro jj hjj
          rcases List.mem_cons.1 hjj with rfl | hjj
          · refine wpOp_step (by rw [List.getElem?_toArray]; exact rfl) (fun K hK => ?_)
            go_simp
            refine hK _ _ ?_
            clear hK K
            try simp only [Act.put, List.setIfInBounds_toArray, List.set_cons_zero, List.set_cons_succ]
            refine wpAny_take (i := 8) (v := .int .i64 (nI : Int)) (by rw [List.getElem?_toArray]; exact rfl) (by kernel_rfl) (by kernel_rfl) (by kernel_rfl) (by exact fun _ _ _ h => h) (Or.inl ⟨by rfl, fun w => by go_simp⟩) ?_
            try simp only [Act.put, List.setIfInBounds_toArray, List.set_cons_zero, List.set_cons_succ]
            refine wpAny_ready (rs := [10]) (by kernel_rfl) (by simp) ?_
            intro jj hjj
            rcases List.mem_cons.1 hjj with rfl | hjj
            · refine wpOp_step (by rw [List.getElem?_toArray]; exact rfl) (fun K hK => ?_)
              have HWA := Lib.hid (HW5.out.alloc (.cells zv6.toArray 30))
              have HZA := Lib.hid (reads_zv w5)
              refine step_append_any _ rfl (.tmp 84) (.tmp 90) 27 rfl w.heap.size 30 i0 _ 6 88 Tryz.underlying27 hi0 hz0 hz1 hz2 rfl (by omega) (.slice AI nI cI) nI css.flatten (by simp [Act.eval]) HWA.out.oi _ (some ⟨w5.heap.size, 0, none⟩) 1 1 zv6 (by simp [Act.eval]) HZA.out (by simp [Value.oneCell']) (by simp only [maxLen]; omega) (by omega) HWA.out.kp.size ?_
              intro v6 w6 hown6 hg6 hbk6
              obtain ⟨A6, c6, hv6⟩ := own_slice6 hown6
              subst hv6
              obtain ⟨r6, hr6⟩ := own_form6 hown6 (by omega)
              subst hr6
              obtain ⟨cur6, hb6, hs6, ho6⟩ := own_last hown6 (by rw [flat_six css HW3.out.ch.six, HW3.out.ch.len, HLN.out.1]) HS5.out.1
              have HB6 := Lib.hid hb6
              have HO6 := Lib.hid hown6
              have HG6 := Lib.hid hg6
              have HK6 := Lib.hid hbk6
              have HL6 := Lib.hid ho6
              have HSZ6 := Lib.hid hs6
              clear hb6 hown6 hg6 hbk6 ho6 hs6
              refine hK _ _ ?_
              clear hK K
              try simp only [Act.put, List.setIfInBounds_toArray, List.set_cons_zero, List.set_cons_succ]
              refine wpAny_take (i := 11) (v := .pointer (some ⟨r6, nI * 6, none⟩)) (by rw [List.getElem?_toArray]; exact rfl) (by kernel_rfl) (by kernel_rfl) (by kernel_rfl) (by exact fun _ _ _ h => h) (Or.inl ⟨by rfl, fun w => by go_simp; first | done | (intro h; exact absurd h (by omega))⟩) ?_
              try simp only [Act.put, List.setIfInBounds_toArray, List.set_cons_zero, List.set_cons_succ]
              refine wpAny_take (i := 13) (v := .pointer (some ⟨gv, 0, none⟩)) (by rw [List.getElem?_toArray]; exact rfl) (by kernel_rfl) (by kernel_rfl) (by kernel_rfl) (by exact fun _ _ _ h => h) (Or.inl ⟨by rfl, fun w => by go_simp⟩) ?_
              try simp only [Act.put, List.setIfInBounds_toArray, List.set_cons_zero, List.set_cons_succ]
              refine wpAny_take (i := 14) (v := .pointer (some ⟨gv, 4, none⟩)) (by rw [List.getElem?_toArray]; exact rfl) (by kernel_rfl) (by kernel_rfl) (by kernel_rfl) (by exact fun _ _ _ h => h) (Or.inl ⟨by rfl, fun w => by go_simp⟩) ?_
              try simp only [Act.put, List.setIfInBounds_toArray, List.set_cons_zero, List.set_cons_succ]
              refine wpAny_ready (rs := [12, 15]) (by kernel_rfl) (by simp) ?_
              intro jj hjj
              rcases List.mem_cons.1 hjj with rfl | hjj
              · refine wpOp_step (by rw [List.getElem?_toArray]; exact rfl) (fun K hK => ?_)
                refine step_store_midB rfl 30 (.tmp 92) (.tmp 88) rfl rfl r6 (nI * 6) cs5.toArray (by go_simp) (by go_simp) HB6.out HI5.out HSZ6.out HS5.out.2 ?_
                intro w7 hb7 hg7 hz7
                have HV7 : Hid (Blk w7 gv 30 (vkC 6 AI nI cI AN nN cN)) := (HWA.out.gv6 HG6.out).grown hg7 (by have h6x : w.heap.size ≤ r6 := (own_at HO6.out rfl).1; have := HWA.out.lv; intro e; injection e with e; omega)
                have HW8 := Lib.hid (Row.item HWA.out HO6.out HG6.out HK6.out hg7 hz7 (HL6.out w7 hb7))
                have c7 : w7.cell? ⟨gv, 4, none⟩ = some (.slice AI nI cI) := HV7.out.cell 4
                have f7 : w7.frozen? ⟨gv, 4, none⟩ = false := HV7.out.frozen 4
                clear hb7 hg7 hz7
                refine hK _ _ ?_
                clear hK K
                try simp only [Act.put, List.setIfInBounds_toArray, List.set_cons_zero, List.set_cons_succ]
                refine wpAny_ready (rs := [15]) (by kernel_rfl) (by simp) ?_
                intro jj hjj
                rcases List.mem_cons.1 hjj with rfl | hjj
                · refine wpOp_step (by rw [List.getElem?_toArray]; exact rfl) (fun K hK => ?_)
                  go_simp
                  refine hK _ _ ?_
                  clear hK K
                  try simp only [Act.put, List.setIfInBounds_toArray, List.set_cons_zero, List.set_cons_succ]
                  refine wpAny_done (by kernel_rfl) ?_ _
                  clear c7 f7
                  generalize w7.setCell ⟨gv, 4, none⟩ (.slice (some ⟨r6, 0, none⟩) (nI + 1) c6) = w8 at *
                  have HR9 : Hid (Row w w8 g gv 6 A N c a' p' nms (css ++ [cs5]).flatten (some ⟨r6, 0, none⟩) (nI + 1) c6 AN nN cN (its ++ [v]) (css ++ [cs5])) := by show Row _ _ _ _ _ _ _ _ _ _ _ _ _ _ _ _ _ _ _ _; rw [List.flatten_append, List.flatten_singleton]; exact HW8.out
                  clear HG5 HW5 HS5 HWA HZA HB6 HO6 HG6 HK6 HL6 HSZ6 HW8 v4 v4' v4a v0 HCV HRT HW3
                  go_wp2_with fail
                  go_roundw
                  case rel => exact ⟨q, a', p', nI + 1, nN, its ++ [v], nms, css ++ [cs5], _, _, _, _, by go_num, by omega, haN, hp', by omega, by omega, ⟨by simp [HLN.out.1], HLN.out.2⟩, HR8, HR9⟩
                  case measure => simp [intOf]
                · cases hjj
              rcases List.mem_cons.1 hjj with rfl | hjj
              · refine wpOp_step (by rw [List.getElem?_toArray]; exact rfl) (fun K hK => ?_)
                have HV6 := Lib.hid (HWA.out.gv6 HG6.out)
                have c6' : w6.cell? ⟨gv, 4, none⟩ = some (.slice AI nI cI) := HV6.out.cell 4
                have f6 : w6.frozen? ⟨gv, 4, none⟩ = false := HV6.out.frozen 4
                go_simp
                refine hK _ _ ?_
                clear hK K
                try simp only [Act.put, List.setIfInBounds_toArray, List.set_cons_zero, List.set_cons_succ]
                refine wpAny_ready (rs := [12]) (by kernel_rfl) (by simp) ?_
                intro jj hjj
                rcases List.mem_cons.1 hjj with rfl | hjj
                · refine wpOp_step (by rw [List.getElem?_toArray]; exact rfl) (fun K hK => ?_)
                  have HB6' : Hid (Blk (w6.setCell ⟨gv, 4, none⟩ (.slice (some ⟨r6, 0, none⟩) (nI + 1) c6)) r6 30 cur6) := HB6.out.far (by have h6x : w.heap.size ≤ r6 := (own_at HO6.out rfl).1; have := HWA.out.lv; simp only; omega) _
                  refine step_store_midB rfl 30 (.tmp 92) (.tmp 88) rfl rfl r6 (nI * 6) cs5.toArray (by go_simp) (by go_simp) HB6'.out HI5.out HSZ6.out HS5.out.2 ?_
                  intro w8 hb7 hg7 hz7
                  have HW8 := Lib.hid (Row.item' HWA.out HO6.out HG6.out HK6.out hg7 hz7 (HL6.out w8 hb7))
                  clear hb7 hg7 hz7 c6' f6 HB6'
                  refine hK _ _ ?_
                  clear hK K
                  try simp only [Act.put, List.setIfInBounds_toArray, List.set_cons_zero, List.set_cons_succ]
                  refine wpAny_done (by kernel_rfl) ?_ _
                  have HR9 : Hid (Row w w8 g gv 6 A N c a' p' nms (css ++ [cs5]).flatten (some ⟨r6, 0, none⟩) (nI + 1) c6 AN nN cN (its ++ [v]) (css ++ [cs5])) := by show Row _ _ _ _ _ _ _ _ _ _ _ _ _ _ _ _ _ _ _ _; rw [List.flatten_append, List.flatten_singleton]; exact HW8.out
                  clear HG5 HW5 HS5 HWA HZA HB6 HO6 HG6 HK6 HL6 HSZ6 HW8 v4 v4' v4a v0 HCV HRT HW3
                  go_wp2_with fail
                  go_roundw
                  case rel => exact ⟨q, a', p', nI + 1, nN, its ++ [v], nms, css ++ [cs5], _, _, _, _, by go_num, by omega, haN, hp', by omega, by omega, ⟨by simp [HLN.out.1], HLN.out.2⟩, HR8, HR9⟩
                  case measure => simp [intOf]
                · cases hjj
              · cases hjj
            · cases hjj
          · cases hjj
        · cases hjj
      rcases List.mem_cons.1 hjj with rfl | hjj
      · refine wpOp_step (by rw [List.getElem?_toArray]; exact rfl) (fun K hK => ?_)
        go_simp
        refine hK _ _ ?_
        clear hK K
        try simp only [Act.put, List.setIfInBounds_toArray, List.set_cons_zero, List.set_cons_succ]
        refine wpAny_ready (rs := [3, 7]) (by kernel_rfl) (by simp) ?_
        intro jj hjj
        rcases List.mem_cons.1 hjj with rfl | hjj
        · refine wpOp_step (by rw [List.getElem?_toArray]; exact rfl) (fun K hK => ?_)
          go_simp
          refine hK _ _ ?_
          clear hK K
          try simp only [Act.put, List.setIfInBounds_toArray, List.set_cons_zero, List.set_cons_succ]
          refine wpAny_take (i := 8) (v := .int .i64 (nI : Int)) (by rw [List.getElem?_toArray]; exact rfl) (by kernel_rfl) (by kernel_rfl) (by kernel_rfl) (by exact fun _ _ _ h => h) (Or.inl ⟨by rfl, fun w => by go_simp⟩) ?_
          try simp only [Act.put, List.setIfInBounds_toArray, List.set_cons_zero, List.set_cons_succ]
          refine wpAny_ready (rs := [7]) (by kernel_rfl) (by simp) ?_
          intro jj hjj
          rcases List.mem_cons.1 hjj with rfl | hjj
          · refine wpOp_step (by rw [List.getElem?_toArray]; exact rfl) (fun K hK => ?_)
            go_simp
            refine (HCV.out _ (((Below.refl _ _).drew).alloc (Nat.le_refl _) _)).mono ?_
            rintro e w5 ⟨cs5, rfl, hf5, hk5, hg5⟩
            have HG5 : Hid (wr.grownBy w5 (some g)) := only_trans (only_alloc (only_drew (World.grownBy.refl wr _)) _) hg5
            have HZ5 := Lib.hid (zv_keep hg5 hg3)
            have HW5 := Lib.hid (Row.kid HW3.out HG5.out hk5 hf5 (by simp))
            have HS5 := Lib.hid (six_of hf5.rd)
            have HI5 := Lib.hid (info_six HS5.out.1)
            have v4' : w5.cell? ⟨gv, 4, none⟩ = some (.slice AI nI cI) := HW5.out.bv.cell 4
            have v4a : ∀ o : Obj, (w5.alloc o).cell? ⟨gv, 4, none⟩ = some (.slice AI nI cI) := fun o => (HW5.out.bv.alloc o).cell 4
            clear hf5 hk5 hg5
            refine hK _ _ ?_
            clear hK K
            try simp only [Act.put, List.setIfInBounds_toArray, List.set_cons_zero, List.set_cons_succ]
            refine wpAny_ready (rs := [10]) (by kernel_rfl) (by simp) ?_
            intro jj hjj
            rcases List.mem_cons.1 hjj with rfl | hjj
            · refine wpOp_step (by rw [List.getElem?_toArray]; exact rfl) (fun K hK => ?_)
              have HWA := HW5
              have HZA := HZ5
              refine step_append_any _ rfl (.tmp 84) (.tmp 90) 27 rfl w.heap.size 30 i0 _ 6 88 Tryz.underlying27 hi0 hz0 hz1 hz2 rfl (by omega) (.slice AI nI cI) nI css.flatten (by simp [Act.eval]) HWA.out.oi _ (some ⟨wr.heap.size, 0, none⟩) 1 1 zv6 (by simp [Act.eval]) HZA.out (by simp [Value.oneCell']) (by simp only [maxLen]; omega) (by omega) HWA.out.kp.size ?_
              intro v6 w6 hown6 hg6 hbk6
              obtain ⟨A6, c6, hv6⟩ := own_slice6 hown6
              subst hv6
              obtain ⟨r6, hr6⟩ := own_form6 hown6 (by omega)
              subst hr6
              obtain ⟨cur6, hb6, hs6, ho6⟩ := own_last hown6 (by rw [flat_six css HW3.out.ch.six, HW3.out.ch.len, HLN.out.1]) HS5.out.1
              have HB6 := Lib.hid hb6
              have HO6 := Lib.hid hown6
              have HG6 := Lib.hid hg6
              have HK6 := Lib.hid hbk6
              have HL6 := Lib.hid ho6
              have HSZ6 := Lib.hid hs6
              clear hb6 hown6 hg6 hbk6 ho6 hs6
              refine hK _ _ ?_
              clear hK K
              try simp only [Act.put, List.setIfInBounds_toArray, List.set_cons_zero, List.set_cons_succ]
              refine wpAny_take (i := 11) (v := .pointer (some ⟨r6, nI * 6, none⟩)) (by rw [List.getElem?_toArray]; exact rfl) (by kernel_rfl) (by kernel_rfl) (by kernel_rfl) (by exact fun _ _ _ h => h) (Or.inl ⟨by rfl, fun w => by go_simp; first | done | (intro h; exact absurd h (by omega))⟩) ?_
              try simp only [Act.put, List.setIfInBounds_toArray, List.set_cons_zero, List.set_cons_succ]
              refine wpAny_take (i := 13) (v := .pointer (some ⟨gv, 0, none⟩)) (by rw [List.getElem?_toArray]; exact rfl) (by kernel_rfl) (by kernel_rfl) (by kernel_rfl) (by exact fun _ _ _ h => h) (Or.inl ⟨by rfl, fun w => by go_simp⟩) ?_
              try simp only [Act.put, List.setIfInBounds_toArray, List.set_cons_zero, List.set_cons_succ]
              refine wpAny_take (i := 14) (v := .pointer (some ⟨gv, 4, none⟩)) (by rw [List.getElem?_toArray]; exact rfl) (by kernel_rfl) (by kernel_rfl) (by kernel_rfl) (by exact fun _ _ _ h => h) (Or.inl ⟨by rfl, fun w => by go_simp⟩) ?_
              try simp only [Act.put, List.setIfInBounds_toArray, List.set_cons_zero, List.set_cons_succ]
              refine wpAny_ready (rs := [12, 15]) (by kernel_rfl) (by simp) ?_
              intro jj hjj
              rcases List.mem_cons.1 hjj with rfl | hjj
              · refine wpOp_step (by rw [List.getElem?_toArray]; exact rfl) (fun K hK => ?_)
                refine step_store_midB rfl 30 (.tmp 92) (.tmp 88) rfl rfl r6 (nI * 6) cs5.toArray (by go_simp) (by go_simp) HB6.out HI5.out HSZ6.out HS5.out.2 ?_
                intro w7 hb7 hg7 hz7
                have HV7 : Hid (Blk w7 gv 30 (vkC 6 AI nI cI AN nN cN)) := (HWA.out.gv6 HG6.out).grown hg7 (by have h6x : w.heap.size ≤ r6 := (own_at HO6.out rfl).1; have := HWA.out.lv; intro e; injection e with e; omega)
                have HW8 := Lib.hid (Row.item HWA.out HO6.out HG6.out HK6.out hg7 hz7 (HL6.out w7 hb7))
                have c7 : w7.cell? ⟨gv, 4, none⟩ = some (.slice AI nI cI) := HV7.out.cell 4
                have f7 : w7.frozen? ⟨gv, 4, none⟩ = false := HV7.out.frozen 4
                clear hb7 hg7 hz7
                refine hK _ _ ?_
                clear hK K
                try simp only [Act.put, List.setIfInBounds_toArray, List.set_cons_zero, List.set_cons_succ]
                refine wpAny_ready (rs := [15]) (by kernel_rfl) (by simp) ?_
                intro jj hjj
                rcases List.mem_cons.1 hjj with rfl | hjj
                · refine wpOp_step (by rw [List.getElem?_toArray]; exact rfl) (fun K hK => ?_)
                  go_simp
                  refine hK _ _ ?_
                  clear hK K
                  try simp only [Act.put, List.setIfInBounds_toArray, List.set_cons_zero, List.set_cons_succ]
                  refine wpAny_done (by kernel_rfl) ?_ _
                  clear c7 f7
                  generalize w7.setCell ⟨gv, 4, none⟩ (.slice (some ⟨r6, 0, none⟩) (nI + 1) c6) = w8 at *
                  have HR9 : Hid (Row w w8 g gv 6 A N c a' p' nms (css ++ [cs5]).flatten (some ⟨r6, 0, none⟩) (nI + 1) c6 AN nN cN (its ++ [v]) (css ++ [cs5])) := by show Row _ _ _ _ _ _ _ _ _ _ _ _ _ _ _ _ _ _ _ _; rw [List.flatten_append, List.flatten_singleton]; exact HW8.out
                  clear HG5 HW5 HS5 HWA HZA HB6 HO6 HG6 HK6 HL6 HSZ6 HW8 v4 v4' v4a v0 HCV HRT HW3
                  go_wp2_with fail
                  go_roundw
                  case rel => exact ⟨q, a', p', nI + 1, nN, its ++ [v], nms, css ++ [cs5], _, _, _, _, by go_num, by omega, haN, hp', by omega, by omega, ⟨by simp [HLN.out.1], HLN.out.2⟩, HR8, HR9⟩
                  case measure => simp [intOf]
                · cases hjj
              rcases List.mem_cons.1 hjj with rfl | hjj
              · refine wpOp_step (by rw [List.getElem?_toArray]; exact rfl) (fun K hK => ?_)
                have HV6 := Lib.hid (HWA.out.gv6 HG6.out)
                have c6' : w6.cell? ⟨gv, 4, none⟩ = some (.slice AI nI cI) := HV6.out.cell 4
                have f6 : w6.frozen? ⟨gv, 4, none⟩ = false := HV6.out.frozen 4
                go_simp
                refine hK _ _ ?_
                clear hK K
                try simp only [Act.put, List.setIfInBounds_toArray, List.set_cons_zero, List.set_cons_succ]
                refine wpAny_ready (rs := [12]) (by kernel_rfl) (by simp) ?_
                intro jj hjj
                rcases List.mem_cons.1 hjj with rfl | hjj
                · refine wpOp_step (by rw [List.getElem?_toArray]; exact rfl) (fun K hK => ?_)
                  have HB6' : Hid (Blk (w6.setCell ⟨gv, 4, none⟩ (.slice (some ⟨r6, 0, none⟩) (nI + 1) c6)) r6 30 cur6) := HB6.out.far (by have h6x : w.heap.size ≤ r6 := (own_at HO6.out rfl).1; have := HWA.out.lv; simp only; omega) _
                  refine step_store_midB rfl 30 (.tmp 92) (.tmp 88) rfl rfl r6 (nI * 6) cs5.toArray (by go_simp) (by go_simp) HB6'.out HI5.out HSZ6.out HS5.out.2 ?_
                  intro w8 hb7 hg7 hz7
                  have HW8 := Lib.hid (Row.item' HWA.out HO6.out HG6.out HK6.out hg7 hz7 (HL6.out w8 hb7))
                  clear hb7 hg7 hz7 c6' f6 HB6'
                  refine hK _ _ ?_
                  clear hK K
                  try simp only [Act.put, List.setIfInBounds_toArray, List.set_cons_zero, List.set_cons_succ]
                  refine wpAny_done (by kernel_rfl) ?_ _
                  have HR9 : Hid (Row w w8 g gv 6 A N c a' p' nms (css ++ [cs5]).flatten (some ⟨r6, 0, none⟩) (nI + 1) c6 AN nN cN (its ++ [v]) (css ++ [cs5])) := by show Row _ _ _ _ _ _ _ _ _ _ _ _ _ _ _ _ _ _ _ _; rw [List.flatten_append, List.flatten_singleton]; exact HW8.out
                  clear HG5 HW5 HS5 HWA HZA HB6 HO6 HG6 HK6 HL6 HSZ6 HW8 v4 v4' v4a v0 HCV HRT HW3
                  go_wp2_with fail
                  go_roundw
                  case rel => exact ⟨q, a', p', nI + 1, nN, its ++ [v], nms, css ++ [cs5], _, _, _, _, by go_num, by omega, haN, hp', by omega, by omega, ⟨by simp [HLN.out.1], HLN.out.2⟩, HR8, HR9⟩
                  case measure => simp [intOf]
                · cases hjj
              · cases hjj
            · cases hjj
          · cases hjj
        rcases List.mem_cons.1 hjj with rfl | hjj
        · refine wpOp_step (by rw [List.getElem?_toArray]; exact rfl) (fun K hK => ?_)
          go_simp
          refine (HCV.out _ (((Below.refl _ _).drew).alloc (Nat.le_refl _) _)).mono ?_
          rintro e w5 ⟨cs5, rfl, hf5, hk5, hg5⟩
          have HG5 : Hid (wr.grownBy w5 (some g)) := only_trans (only_alloc (only_drew (World.grownBy.refl wr _)) _) hg5
          have HZ5 := Lib.hid (zv_keep hg5 hg3)
          have HW5 := Lib.hid (Row.kid HW3.out HG5.out hk5 hf5 (by simp))
          have HS5 := Lib.hid (six_of hf5.rd)
          have HI5 := Lib.hid (info_six HS5.out.1)
          have v4' : w5.cell? ⟨gv, 4, none⟩ = some (.slice AI nI cI) := HW5.out.bv.cell 4
          have v4a : ∀ o : Obj, (w5.alloc o).cell? ⟨gv, 4, none⟩ = some (.slice AI nI cI) := fun o => (HW5.out.bv.alloc o).cell 4
          clear hf5 hk5 hg5
          refine hK _ _ ?_
          clear hK K
          try simp only [Act.put, List.setIfInBounds_toArray, List.set_cons_zero, List.set_cons_succ]
          refine wpAny_ready (rs := [3]) (by kernel_rfl) (by simp) ?_
          intro jj hjj
          rcases List.mem_cons.1 hjj with rfl | hjj
          · refine wpOp_step (by rw [List.getElem?_toArray]; exact rfl) (fun K hK => ?_)
            go_simp
            refine hK _ _ ?_
            clear hK K
            try simp only [Act.put, List.setIfInBounds_toArray, List.set_cons_zero, List.set_cons_succ]
            refine wpAny_take (i := 8) (v := .int .i64 (nI : Int)) (by rw [List.getElem?_toArray]; exact rfl) (by kernel_rfl) (by kernel_rfl) (by kernel_rfl) (by exact fun _ _ _ h => h) (Or.inl ⟨by rfl, fun w => by go_simp⟩) ?_
            try simp only [Act.put, List.setIfInBounds_toArray, List.set_cons_zero, List.set_cons_succ]
            refine wpAny_ready (rs := [10]) (by kernel_rfl) (by simp) ?_
            intro jj hjj
            rcases List.mem_cons.1 hjj with rfl | hjj
            · refine wpOp_step (by rw [List.getElem?_toArray]; exact rfl) (fun K hK => ?_)
              have HWA := HW5
              have HZA := HZ5
              refine step_append_any _ rfl (.tmp 84) (.tmp 90) 27 rfl w.heap.size 30 i0 _ 6 88 Tryz.underlying27 hi0 hz0 hz1 hz2 rfl (by omega) (.slice AI nI cI) nI css.flatten (by simp [Act.eval]) HWA.out.oi _ (some ⟨wr.heap.size, 0, none⟩) 1 1 zv6 (by simp [Act.eval]) HZA.out (by simp [Value.oneCell']) (by simp only [maxLen]; omega) (by omega) HWA.out.kp.size ?_
              intro v6 w6 hown6 hg6 hbk6
              obtain ⟨A6, c6, hv6⟩ := own_slice6 hown6
              subst hv6
              obtain ⟨r6, hr6⟩ := own_form6 hown6 (by omega)
              subst hr6
              obtain ⟨cur6, hb6, hs6, ho6⟩ := own_last hown6 (by rw [flat_six css HW3.out.ch.six, HW3.out.ch.len, HLN.out.1]) HS5.out.1
              have HB6 := Lib.hid hb6
              have HO6 := Lib.hid hown6
              have HG6 := Lib.hid hg6
              have HK6 := Lib.hid hbk6
              have HL6 := Lib.hid ho6
              have HSZ6 := Lib.hid hs6
              clear hb6 hown6 hg6 hbk6 ho6 hs6
              refine hK _ _ ?_
              clear hK K
              try simp only [Act.put, List.setIfInBounds_toArray, List.set_cons_zero, List.set_cons_succ]
              refine wpAny_take (i := 11) (v := .pointer (some ⟨r6, nI * 6, none⟩)) (by rw [List.getElem?_toArray]; exact rfl) (by kernel_rfl) (by kernel_rfl) (by kernel_rfl) (by exact fun _ _ _ h => h) (Or.inl ⟨by rfl, fun w => by go_simp; first | done | (intro h; exact absurd h (by omega))⟩) ?_
              try simp only [Act.put, List.setIfInBounds_toArray, List.set_cons_zero, List.set_cons_succ]
              refine wpAny_take (i := 13) (v := .pointer (some ⟨gv, 0, none⟩)) (by rw [List.getElem?_toArray]; exact rfl) (by kernel_rfl) (by kernel_rfl) (by kernel_rfl) (by exact fun _ _ _ h => h) (Or.inl ⟨by rfl, fun w => by go_simp⟩) ?_
              try simp only [Act.put, List.setIfInBounds_toArray, List.set_cons_zero, List.set_cons_succ]
              refine wpAny_take (i := 14) (v := .pointer (some ⟨gv, 4, none⟩)) (by rw [List.getElem?_toArray]; exact rfl) (by kernel_rfl) (by kernel_rfl) (by kernel_rfl) (by exact fun _ _ _ h => h) (Or.inl ⟨by rfl, fun w => by go_simp⟩) ?_
              try simp only [Act.put, List.setIfInBounds_toArray, List.set_cons_zero, List.set_cons_succ]
              refine wpAny_ready (rs := [12, 15]) (by kernel_rfl) (by simp) ?_
              intro jj hjj
              rcases List.mem_cons.1 hjj with rfl | hjj
              · refine wpOp_step (by rw [List.getElem?_toArray]; exact rfl) (fun K hK => ?_)
                refine step_store_midB rfl 30 (.tmp 92) (.tmp 88) rfl rfl r6 (nI * 6) cs5.toArray (by go_simp) (by go_simp) HB6.out HI5.out HSZ6.out HS5.out.2 ?_
                intro w7 hb7 hg7 hz7
                have HV7 : Hid (Blk w7 gv 30 (vkC 6 AI nI cI AN nN cN)) := (HWA.out.gv6 HG6.out).grown hg7 (by have h6x : w.heap.size ≤ r6 := (own_at HO6.out rfl).1; have := HWA.out.lv; intro e; injection e with e; omega)
                have HW8 := Lib.hid (Row.item HWA.out HO6.out HG6.out HK6.out hg7 hz7 (HL6.out w7 hb7))
                have c7 : w7.cell? ⟨gv, 4, none⟩ = some (.slice AI nI cI) := HV7.out.cell 4
                have f7 : w7.frozen? ⟨gv, 4, none⟩ = false := HV7.out.frozen 4
                clear hb7 hg7 hz7
                refine hK _ _ ?_
                clear hK K
                try simp only [Act.put, List.setIfInBounds_toArray, List.set_cons_zero, List.set_cons_succ]
                refine wpAny_ready (rs := [15]) (by kernel_rfl) (by simp) ?_
                intro jj hjj
                rcases List.mem_cons.1 hjj with rfl | hjj
                · refine wpOp_step (by rw [List.getElem?_toArray]; exact rfl) (fun K hK => ?_)
                  go_simp
                  refine hK _ _ ?_
                  clear hK K
                  try simp only [Act.put, List.setIfInBounds_toArray, List.set_cons_zero, List.set_cons_succ]
                  refine wpAny_done (by kernel_rfl) ?_ _
                  clear c7 f7
                  generalize w7.setCell ⟨gv, 4, none⟩ (.slice (some ⟨r6, 0, none⟩) (nI + 1) c6) = w8 at *
                  have HR9 : Hid (Row w w8 g gv 6 A N c a' p' nms (css ++ [cs5]).flatten (some ⟨r6, 0, none⟩) (nI + 1) c6 AN nN cN (its ++ [v]) (css ++ [cs5])) := by show Row _ _ _ _ _ _ _ _ _ _ _ _ _ _ _ _ _ _ _ _; rw [List.flatten_append, List.flatten_singleton]; exact HW8.out
                  clear HG5 HW5 HS5 HWA HZA HB6 HO6 HG6 HK6 HL6 HSZ6 HW8 v4 v4' v4a v0 HCV HRT HW3
                  go_wp2_with fail
                  go_roundw
                  case rel => exact ⟨q, a', p', nI + 1, nN, its ++ [v], nms, css ++ [cs5], _, _, _, _, by go_num, by omega, haN, hp', by omega, by omega, ⟨by simp [HLN.out.1], HLN.out.2⟩, HR8, HR9⟩
                  case measure => simp [intOf]
                · cases hjj
              rcases List.mem_cons.1 hjj with rfl | hjj
              · refine wpOp_step (by rw [List.getElem?_toArray]; exact rfl) (fun K hK => ?_)
                have HV6 := Lib.hid (HWA.out.gv6 HG6.out)
                have c6' : w6.cell? ⟨gv, 4, none⟩ = some (.slice AI nI cI) := HV6.out.cell 4
                have f6 : w6.frozen? ⟨gv, 4, none⟩ = false := HV6.out.frozen 4
                go_simp
                refine hK _ _ ?_
                clear hK K
                try simp only [Act.put, List.setIfInBounds_toArray, List.set_cons_zero, List.set_cons_succ]
                refine wpAny_ready (rs := [12]) (by kernel_rfl) (by simp) ?_
                intro jj hjj
                rcases List.mem_cons.1 hjj with rfl | hjj
                · refine wpOp_step (by rw [List.getElem?_toArray]; exact rfl) (fun K hK => ?_)
                  have HB6' : Hid (Blk (w6.setCell ⟨gv, 4, none⟩ (.slice (some ⟨r6, 0, none⟩) (nI + 1) c6)) r6 30 cur6) := HB6.out.far (by have h6x : w.heap.size ≤ r6 := (own_at HO6.out rfl).1; have := HWA.out.lv; simp only; omega) _
                  refine step_store_midB rfl 30 (.tmp 92) (.tmp 88) rfl rfl r6 (nI * 6) cs5.toArray (by go_simp) (by go_simp) HB6'.out HI5.out HSZ6.out HS5.out.2 ?_
                  intro w8 hb7 hg7 hz7
                  have HW8 := Lib.hid (Row.item' HWA.out HO6.out HG6.out HK6.out hg7 hz7 (HL6.out w8 hb7))
                  clear hb7 hg7 hz7 c6' f6 HB6'
                  refine hK _ _ ?_
                  clear hK K
                  try simp only [Act.put, List.setIfInBounds_toArray, List.set_cons_zero, List.set_cons_succ]
                  refine wpAny_done (by kernel_rfl) ?_ _
                  have HR9 : Hid (Row w w8 g gv 6 A N c a' p' nms (css ++ [cs5]).flatten (some ⟨r6, 0, none⟩) (nI + 1) c6 AN nN cN (its ++ [v]) (css ++ [cs5])) := by show Row _ _ _ _ _ _ _ _ _ _ _ _ _ _ _ _ _ _ _ _; rw [List.flatten_append, List.flatten_singleton]; exact HW8.out
                  clear HG5 HW5 HS5 HWA HZA HB6 HO6 HG6 HK6 HL6 HSZ6 HW8 v4 v4' v4a v0 HCV HRT HW3
                  go_wp2_with fail
                  go_roundw
                  case rel => exact ⟨q, a', p', nI + 1, nN, its ++ [v], nms, css ++ [cs5], _, _, _, _, by go_num, by omega, haN, hp', by omega, by omega, ⟨by simp [HLN.out.1], HLN.out.2⟩, HR8, HR9⟩
                  case measure => simp [intOf]
                · cases hjj
              · cases hjj
            · cases hjj
          · cases hjj
        · cases hjj
      · cases hjj
end Go.Proofs.YtacnoedhpamdmaaGreatDoor
