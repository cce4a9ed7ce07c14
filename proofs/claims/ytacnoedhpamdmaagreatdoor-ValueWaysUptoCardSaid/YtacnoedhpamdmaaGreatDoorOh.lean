/- Walks: both errors, Order, Same, Encode of values (program and document); bytes held against bytes. Conditions: the values as they read; bulk at most 1048576. -/
import Derived.Test.YtacnoedhpamdmaaGreatDoorOg
import Derived.Test.YtacnoedhpamdmaaGreatDoorOf
import Derived.Laws.BytesArg
import Derived.Laws.Strings
namespace Go.Proofs.YtacnoedhpamdmaaGreatDoor
open Go.RowKit
set_option linter.unusedVariables false
attribute [local go_sem ↓] Go.wp_at_zero Go.wp_at_succ

theorem run_conv {P : Program} (w : World) (src e dst : TypeId) (hs : P.underlying src = some (.slice e)) (he : P.underlying e = some (.int .u8)) (hd : P.underlying dst = some .string) {B n c : Nat} {A : Option Addr} {xs : List Int} (hr : Reads w B 1 A n (u8s xs)) :
    (convert src dst (.slice A n c)).run P w = .ok (.string (strOfNums xs)) w := by
  have hl : xs.length = n := by simpa using hr.1
  rcases Nat.eq_zero_or_pos n with h0 | h0
  · subst h0
    have hx : xs = [] := List.eq_nil_of_length_eq_zero hl
    subst hx
    rcases A with _ | a
    · exact run_convert_bytes_nil w src e hs he 0 c dst hd
    · have h1 : (loadCells a 0).run P w = .ok (([] : List Int).map (Value.int .u8)).toArray w := run_loadCells_list (P := P) w a [] (fun j v hj => by simp at hj)
      rw [run_convert_bytes_string w src dst e _ 0 c hs he hd, run_bytesToString w a 0 c [] h1]
      rfl
  · obtain ⟨b, off, rfl, hbB, hbw, hcells⟩ := hr.form h0
    exact run_convert_bytes_arg w src e hs he b off n c xs hl (fun i hi => by rw [hcells i hi, getD_u8s (by omega)]) dst hd
theorem str_inj {xs ys : List Int} (hx : Bts xs) (hy : Bts ys) (h : strOfNums xs = strOfNums ys) : xs = ys := by
  have h1 : (xs.map fun n => UInt8.ofNat n.toNat) = (ys.map fun n => UInt8.ofNat n.toNat) := by rw [← strOfNums_data, ← strOfNums_data, h]
  have hl : xs.length = ys.length := by simpa using congrArg List.length h1
  apply List.ext_getElem hl
  intro i h2 h3
  have h4 : (xs.map fun n => UInt8.ofNat n.toNat)[i]'(by simpa using h2) = (ys.map fun n => UInt8.ofNat n.toNat)[i]'(by simpa using h3) := by simp only [h1]
  simp only [List.getElem_map] at h4
  have h5 := congrArg UInt8.toNat h4
  have h6 := hx _ (List.getElem_mem h2)
  have h7 := hy _ (List.getElem_mem h3)
  simp only [UInt8.toNat_ofNat'] at h5
  omega
set_option maxHeartbeats 400000 in
theorem c_wSame (A A' : Option Addr) (n c n' c' : Nat) (xs ys : List Int) (w : World) (B B' : Nat) (hr : Reads w B 1 A n (u8s xs)) (hr' : Reads w B' 1 A' n' (u8s ys)) (hx : Bts xs) (hy : Bts ys) :
    Calls Tryz.prog 58 #[.slice A n c, .slice A' n' c'] w fun e w' => e = .returned (.bool (decide (xs = ys))) ∧ w = w' := by
  have h1 := run_conv (P := Tryz.prog) w 23 5 9 Tryz.underlying23 Tryz.underlying5 Tryz.underlying9 (c := c) hr
  have h2 := run_conv (P := Tryz.prog) w 23 5 9 Tryz.underlying23 Tryz.underlying5 Tryz.underlying9 (c := c') hr'
  have HS : Hid (((strOfNums xs).toList == (strOfNums ys).toList) = decide (xs = ys)) := by
    show _ = _
    rw [ByteArray.toList_eq, ByteArray.toList_eq, Bool.eq_iff_iff]
    simp only [beq_iff_eq, decide_eq_true_eq]
    exact ⟨fun h => str_inj hx hy (by cases hS : strOfNums xs; cases hT : strOfNums ys; simp only [hS, hT] at h; rw [Array.toList_inj.1 h]), fun h => by rw [h]⟩
  generalize decide (xs = ys) = D at *
  generalize strOfNums xs = S at *
  generalize strOfNums ys = T at *
  clear hr hr' hx hy
  go_enter Tryz.func58, Tryz.ntmps58
  go_wp2
  go_ret
  exact ⟨by rw [← HS.out]; rfl, rfl⟩
/-- The document's: place by place. -/
theorem same_drop {xs ys : List Int} {i : Nat} (h : i < xs.length) (h' : i < ys.length) : (xs.drop i = ys.drop i) ↔ (xs.getD i 0 = ys.getD i 0 ∧ xs.drop (i + 1) = ys.drop (i + 1)) := by
  rw [List.drop_eq_getElem_cons h, List.drop_eq_getElem_cons h', List.cons.injEq]
  simp [List.getD, List.getElem?_eq_getElem h, List.getElem?_eq_getElem h']
theorem c_rwSame (A A' : Option Addr) (n c n' c' : Nat) (xs ys : List Int) (w : World) (B B' : Nat) (hr : Reads w B 1 A n (u8s xs)) (hr' : Reads w B' 1 A' n' (u8s ys)) (hn : n ≤ 1099511627776) (hn' : n' ≤ 1099511627776) :
    Calls Tryz.prog 60 #[.slice A n c, .slice A' n' c'] w fun e w' => e = .returned (.bool (decide (xs = ys))) ∧ ∃ k, w' = w.drewN k := by
  have hl : xs.length = n := by simpa using hr.1
  have hl' : ys.length = n' := by simpa using hr'.1
  obtain ⟨D, hD⟩ : ∃ D, decide (xs = ys) = D := ⟨_, rfl⟩
  rw [hD]
  by_cases he : n = n'
  rotate_left
  · have hb : ((n : Int) != (n' : Int)) = true := by simp; omega
    have hD2 : D = false := by rw [← hD]; simp; intro e; rw [e] at hl; omega
    clear hr hr' hl hl' hD
    go_enter Tryz.func60, Tryz.ntmps60
    go_wp2
    go_ret
    exact ⟨by rw [hD2]; rfl, 0, rfl⟩
  subst he
  have hb : ((n : Int) != (n : Int)) = false := by simp
  have HD : Hid (D = decide (xs.drop 0 = ys.drop 0)) := hD.symm
  have HL := Lib.hid hl
  have HL' := Lib.hid hl'
  have HR := Lib.hid hr
  have HR' := Lib.hid hr'
  clear hr hr' hl hl' hD
  go_enter Tryz.func60, Tryz.ntmps60
  go_wp2_with fail
  go_loopw [5] (fun vi wr => ∃ i k : Nat, vi = .int .i64 i ∧ i ≤ n ∧ wr = w.drewN k ∧ Hid (D = decide (xs.drop i = ys.drop i))) (fun vi _ => n - (intOf vi).toNat)
  case atStart => exact ⟨0, 0, rfl, Nat.zero_le _, rfl, HD⟩
  case round =>
    obtain ⟨i, k, rfl, hi, rfl, HDr⟩ := hrel
    by_cases hlt : i < n
    · obtain ⟨b1, o1, hA, hb11, hb12, hc1⟩ := HR.out.form (by omega)
      obtain ⟨b2, o2, hA', hb21, hb22, hc2⟩ := HR'.out.form (by omega)
      subst hA hA'
      have hx1 : xs.length = n := HL.out
      have hy1 : ys.length = n := HL'.out
      have k1 : w.cell? ⟨b1, o1 + i, none⟩ = some (.int .u8 (xs.getD i 0)) := by
        have := hc1 i hlt
        rw [getD_u8s (by omega)] at this; exact this
      have k2 : w.cell? ⟨b2, o2 + i, none⟩ = some (.int .u8 (ys.getD i 0)) := by
        have := hc2 i hlt
        rw [getD_u8s (by omega)] at this; exact this
      have HSD := Lib.hid (same_drop (xs := xs) (ys := ys) (i := i) (by omega) (by omega))
      have d1 : (i : Int) < (n : Int) := by omega
      clear hc1 hc2 hx1 hy1
      generalize xs.getD i 0 = p at *
      generalize ys.getD i 0 = q at *
      by_cases hpq : p = q
      · have t1 : (p != q) = false := by simpa using hpq
        have HNX : Hid (D = decide (xs.drop (i + 1) = ys.drop (i + 1))) := by
          show _ = _
          rw [HDr.out, Bool.eq_iff_iff]
          simp only [decide_eq_true_eq]
          rw [HSD.out]
          exact ⟨fun h => h.2, fun h => ⟨hpq, h⟩⟩
        have hp2 := Lib.hid hpq
        clear hpq
        go_wp2_with fail
        go_quiet (fail)
        go_wp2_with fail
        go_roundw
        case rel => exact ⟨i + 1, _, by go_num, hlt, rfl, HNX⟩
        case measure => simp [intOf]; omega
      · have t1 : (p != q) = true := by simpa using hpq
        have HF : Hid (D = false) := by
          show _ = _
          rw [HDr.out, decide_eq_false_iff_not, HSD.out]
          exact fun h => hpq h.1
        go_wp2_with fail
        go_quiet (fail)
        go_wp2_with fail
        go_ret
        exact ⟨by rw [HF.out]; rfl, k + nq, by first | rfl | (simp [World.drewN_drewN]; done) | (unfold World.drewN; simp; omega)⟩
    · have HF : Hid (D = true) := by
        show _ = _
        rw [HDr.out, decide_eq_true_eq, List.drop_eq_nil_of_le (by rw [HL.out]; omega), List.drop_eq_nil_of_le (by rw [HL'.out]; omega)]
      go_wp2_with fail
      go_ret
      exact ⟨by rw [HF.out]; rfl, _, rfl⟩
/-- The first error of two; order and sameness where there is none. -/
def bothE (a b : Val) : Int := if chk fone a = 0 then chk fone b else chk fone a
def ordA (a b : Val) : Int := if bothE a b = 0 then ord a b else 0
def samA (a b : Val) : Bool := decide (bothE a b = 0) && decide (byt a = byt b)
theorem bothE_zero {a b : Val} (h : bothE a b = 0) : chk fone a = 0 ∧ chk fone b = 0 := by
  unfold bothE at h
  split at h
  · rename_i h1; exact ⟨h1, h⟩
  · rename_i h1; exact absurd h h1
theorem wt_of_chk {v : Val} (h : chk fone v = 0) : wt v ≤ 1048576 := by
  rw [chk_eq] at h
  repeat (first | omega | (split at h))
theorem fit_of {w : World} {v : Val} {cs : List Value} (h : RV w v cs) (hc : chk fone v = 0) : Fit v := ⟨okV_chk hc, h.wf, h.bd⟩
set_option maxRecDepth 100000 in
theorem c_both (a b : Val) (cs cs' : List Value) (w : World) (h : RV w a cs) (h' : RV w b cs') : Calls Tryz.prog 54 #[.agg cs.toArray, .agg cs'.toArray] w fun e w' => e = .returned (.int .i64 (bothE a b)) ∧ Below w.heap.size w w' := by
  have HTB := two_boxes w cs cs'
  have HX1 := Lib.hid HTB.1
  have HX2 := Lib.hid HTB.2.1
  have HB0 := Lib.hid HTB.2.2
  have HRa := Lib.hid h.row
  have HRb := Lib.hid h'.row
  have HV1 := Lib.hid (h.step HTB.2.2)
  have HV2 := Lib.hid (h'.step HTB.2.2)
  have HE : Hid (bothE a b = if chk fone a = 0 then chk fone b else chk fone a) := rfl
  obtain ⟨C, hC⟩ : ∃ C, bothE a b = C := ⟨_, rfl⟩
  obtain ⟨EA, hEA⟩ : ∃ E, chk fone a = E := ⟨_, rfl⟩
  obtain ⟨EB, hEB⟩ : ∃ E, chk fone b = E := ⟨_, rfl⟩
  have HCA : Hid (∀ W, RV W a cs → Calls Tryz.prog 18 #[.agg cs.toArray] W fun e w' => e = .returned (.int .i64 EA) ∧ Below W.heap.size W w') := by rw [← hEA]; exact fun W hr => c_Check a cs W hr
  have HCB : Hid (∀ W, RV W b cs' → Calls Tryz.prog 18 #[.agg cs'.toArray] W fun e w' => e = .returned (.int .i64 EB) ∧ Below W.heap.size W w') := by rw [← hEB]; exact fun W hr => c_Check b cs' W hr
  rw [hC, hEA, hEB] at HE
  rw [hC]
  clear h h' HTB hC hEA hEB
  go_enter Tryz.func54, Tryz.ntmps54
  go_upto_region 1 with fail
  generalize World.alloc (w.alloc _) _ = w0 at *
  go_wp2_with (refine wpList_load_row rfl 30 (.tmp 2) rfl w.heap.size rfl 30 _ (0, 0) _ HX1.out.blk Tryz.underlying30 rfl HRa.out ?_)
  refine (HCA.out _ HV1.out).mono ?_; rintro e w1 ⟨rfl, hb1⟩
  have HX2' := Lib.hid (HX2.out.step hb1)
  have HV2' := Lib.hid (HV2.out.step hb1)
  have HB1 := Lib.hid (HB0.out.trans (hb1.mono HB0.out.size))
  clear hb1
  by_cases h0 : EA = 0
  · have t0 : (EA != 0) = false := by simpa using h0
    have HR : Hid (C = EB) := HE.out.trans (if_pos h0)
    subst h0
    go_wp2_with (refine wpList_load_row rfl 30 (.tmp 3) rfl (w.heap.size + 1) rfl 30 _ (0, 0) _ HX2'.out.blk Tryz.underlying30 rfl HRb.out ?_)
    refine (HCB.out _ HV2'.out).mono ?_; rintro e w2 ⟨rfl, hb2⟩
    have HB2 := Lib.hid (HB1.out.trans (hb2.mono HB1.out.size))
    clear hb2
    go_wp2_with fail
    go_ret
    exact ⟨by rw [HR.out]; rfl, HB2.out⟩
  · have t0 : (EA != 0) = true := by simpa using h0
    have HR : Hid (C = EA) := HE.out.trans (if_neg h0)
    go_wp2_with fail
    go_ret
    exact ⟨by rw [HR.out]; rfl, HB1.out⟩
set_option maxRecDepth 100000 in
theorem c_vOrder (a b : Val) (cs cs' : List Value) (w : World) (h : RV w a cs) (h' : RV w b cs') : Calls Tryz.prog 27 #[.agg cs.toArray, .agg cs'.toArray] w fun e w' => e = .returned (.tuple #[.int .i64 (ordA a b), .int .i64 (bothE a b)]) ∧ Below w.heap.size w w' := by
  have HTB := two_boxes w cs cs'
  have HX1 := Lib.hid HTB.1
  have HX2 := Lib.hid HTB.2.1
  have HB0 := Lib.hid HTB.2.2
  have HRa := Lib.hid h.row
  have HRb := Lib.hid h'.row
  have HV1 := Lib.hid (h.step HTB.2.2)
  have HV2 := Lib.hid (h'.step HTB.2.2)
  have HE : Hid (ordA a b = if bothE a b = 0 then ord a b else 0) := rfl
  obtain ⟨C, hC⟩ : ∃ C, ordA a b = C := ⟨_, rfl⟩
  obtain ⟨EA, hEA⟩ : ∃ E, bothE a b = E := ⟨_, rfl⟩
  have HCA : Hid (∀ W, RV W a cs → RV W b cs' → Calls Tryz.prog 54 #[.agg cs.toArray, .agg cs'.toArray] W fun e w' => e = .returned (.int .i64 EA) ∧ Below W.heap.size W w') := by rw [← hEA]; exact fun W hr hr' => c_both a b cs cs' W hr hr'
  have HOK : Hid (EA = 0 → okV a ∧ okV b) := fun h0 => by
    have := bothE_zero (hEA.trans h0)
    exact ⟨okV_chk this.1, okV_chk this.2⟩
  rw [hC, hEA] at HE
  rw [hC, hEA]
  clear h h' HTB hC hEA
  go_enter Tryz.func27, Tryz.ntmps27
  go_upto_region 1 with fail
  generalize World.alloc (w.alloc _) _ = w0 at *
  go_wp2_with (first | (refine wpList_load_row rfl 30 (.tmp 2) rfl w.heap.size rfl 30 _ (0, 0) _ HX1.out.blk Tryz.underlying30 rfl HRa.out ?_) | (refine wpList_load_row rfl 30 (.tmp 3) rfl (w.heap.size + 1) rfl 30 _ (0, 0) _ HX2.out.blk Tryz.underlying30 rfl HRb.out ?_))
  refine (HCA.out _ HV1.out HV2.out).mono ?_; rintro e w1 ⟨rfl, hb1⟩
  have HX1' := Lib.hid (HX1.out.step hb1)
  have HX2' := Lib.hid (HX2.out.step hb1)
  have HV1' := Lib.hid (HV1.out.step hb1)
  have HV2' := Lib.hid (HV2.out.step hb1)
  have HB1 := Lib.hid (HB0.out.trans (hb1.mono HB0.out.size))
  clear hb1
  by_cases h0 : EA = 0
  · have t0 : (EA != 0) = false := by simpa using h0
    have HR : Hid (ord a b = C) := (HE.out.trans (if_pos h0)).symm
    have HOKK := Lib.hid (HOK.out h0)
    have HCO : Hid (∀ W, RV W a cs → RV W b cs' → Calls Tryz.prog 62 #[.agg cs.toArray, .agg cs'.toArray] W fun e w' => e = .returned (.int .i64 C) ∧ Below W.heap.size W w') := by rw [← HR.out]; exact fun W hr hr' => c_compare a b cs cs' W hr hr' HOKK.out.1 HOKK.out.2
    subst h0
    go_wp2_with (first | (refine wpList_load_row rfl 30 (.tmp 2) rfl w.heap.size rfl 30 _ (0, 0) _ HX1'.out.blk Tryz.underlying30 rfl HRa.out ?_) | (refine wpList_load_row rfl 30 (.tmp 3) rfl (w.heap.size + 1) rfl 30 _ (0, 0) _ HX2'.out.blk Tryz.underlying30 rfl HRb.out ?_))
    refine (HCO.out _ HV1'.out HV2'.out).mono ?_; rintro e w2 ⟨rfl, hb2⟩
    have HB2 := Lib.hid (HB1.out.trans (hb2.mono HB1.out.size))
    clear hb2
    go_wp2_with fail
    go_ret2
    exact ⟨rfl, HB2.out⟩
  · have t0 : (EA != 0) = true := by simpa using h0
    have HR : Hid (C = 0) := HE.out.trans (if_neg h0)
    go_wp2_with fail
    go_ret2
    exact ⟨by rw [HR.out]; rfl, HB1.out⟩
theorem c_layN (v : Val) (cs : List Value) (W : World) (h : RV W v cs) (hok : okV v) (hw : wt v ≤ 1048576) : Calls Tryz.prog 59 #[.slice none 0 0, .agg cs.toArray] W (OwnB W (byt v)) := by
  refine (c_lay v cs W W.heap.size none 0 0 [] h.rd h.wf h.bd hok (Nat.le_refl _) (World.ownsRow_nil _ _ _ _) (by omega)).mono ?_
  rintro e w' ⟨v', rfl, ha⟩
  exact ⟨v', rfl, ha.own, ha.kp.below (Nat.le_refl _) (Nat.le_refl _)⟩
set_option maxRecDepth 100000 in
set_option maxHeartbeats 2000000 in
theorem c_vSame (a b : Val) (cs cs' : List Value) (w : World) (h : RV w a cs) (h' : RV w b cs') : Calls Tryz.prog 25 #[.agg cs.toArray, .agg cs'.toArray] w fun e w' => e = .returned (.tuple #[.bool (samA a b), .int .i64 (bothE a b)]) ∧ Below w.heap.size w w' := by
  have HTB := two_boxes w cs cs'
  have HX1 := Lib.hid HTB.1
  have HX2 := Lib.hid HTB.2.1
  have HB0 := Lib.hid HTB.2.2
  have HRa := Lib.hid h.row
  have HRb := Lib.hid h'.row
  have HV1 := Lib.hid (h.step HTB.2.2)
  have HV2 := Lib.hid (h'.step HTB.2.2)
  have HE : Hid (samA a b = (decide (bothE a b = 0) && decide (byt a = byt b))) := rfl
  obtain ⟨C, hC⟩ : ∃ C, samA a b = C := ⟨_, rfl⟩
  obtain ⟨EA, hEA⟩ : ∃ E, bothE a b = E := ⟨_, rfl⟩
  have HCA : Hid (∀ W, RV W a cs → RV W b cs' → Calls Tryz.prog 54 #[.agg cs.toArray, .agg cs'.toArray] W fun e w' => e = .returned (.int .i64 EA) ∧ Below W.heap.size W w') := by rw [← hEA]; exact fun W hr hr' => c_both a b cs cs' W hr hr'
  have HOK : Hid (EA = 0 → (okV a ∧ wt a ≤ 1048576) ∧ okV b ∧ wt b ≤ 1048576) := fun h0 => by
    have := bothE_zero (hEA.trans h0)
    exact ⟨⟨okV_chk this.1, wt_of_chk this.1⟩, okV_chk this.2, wt_of_chk this.2⟩
  rw [hC, hEA] at HE
  rw [hC, hEA]
  obtain ⟨u0, u1, u2, u3, u4, u5, hcs⟩ := six_list h.six.1
  obtain ⟨z0, z1, z2, z3, z4, z5, hcs'⟩ := six_list h'.six.1
  subst hcs hcs'
  clear h h' HTB hC hEA
  go_enter Tryz.func25, Tryz.ntmps25
  go_upto_region 1 with fail
  generalize World.alloc (w.alloc _) _ = w0 at *
  go_wp2_with (first | (refine wpList_load_row rfl 30 (.tmp 2) rfl w.heap.size rfl 30 _ (0, 0) _ HX1.out.blk Tryz.underlying30 rfl HRa.out ?_) | (refine wpList_load_row rfl 30 (.tmp 3) rfl (w.heap.size + 1) rfl 30 _ (0, 0) _ HX2.out.blk Tryz.underlying30 rfl HRb.out ?_))
  refine (HCA.out _ HV1.out HV2.out).mono ?_; rintro e w1 ⟨rfl, hb1⟩
  have HX1' := Lib.hid (HX1.out.step hb1)
  have HX2' := Lib.hid (HX2.out.step hb1)
  have HV1' := Lib.hid (HV1.out.step hb1)
  have HV2' := Lib.hid (HV2.out.step hb1)
  have HB1 := Lib.hid (HB0.out.trans (hb1.mono HB0.out.size))
  clear hb1 HX1 HX2 HV1 HV2 HB0
  by_cases h0 : EA = 0
  · have t0 : (EA != 0) = false := by simpa using h0
    obtain ⟨⟨hok1, hw1⟩, hok2, hw2⟩ := HOK.out h0
    have hbt1 := byt_bts a hok1
    have hbt2 := byt_bts b hok2
    have hbl1 : (byt a).length ≤ 1048576 := by rw [byt_len a]; exact hw1
    have hbl2 : (byt b).length ≤ 1048576 := by rw [byt_len b]; exact hw2
    obtain ⟨P, hP⟩ : ∃ P, byt a = P := ⟨_, rfl⟩
    obtain ⟨Q, hQ⟩ : ∃ Q, byt b = Q := ⟨_, rfl⟩
    rw [hP] at hbt1 hbl1
    rw [hQ] at hbt2 hbl2
    have HL1 : Hid (∀ W, RV W a [u0, u1, u2, u3, u4, u5] → Calls Tryz.prog 59 #[.slice none 0 0, .agg [u0, u1, u2, u3, u4, u5].toArray] W (OwnB W P)) := by rw [← hP]; exact fun W hr => c_layN a _ W hr hok1 hw1
    have HL2 : Hid (∀ W, RV W b [z0, z1, z2, z3, z4, z5] → Calls Tryz.prog 59 #[.slice none 0 0, .agg [z0, z1, z2, z3, z4, z5].toArray] W (OwnB W Q)) := by rw [← hQ]; exact fun W hr => c_layN b _ W hr hok2 hw2
    obtain ⟨D, hD⟩ : ∃ D, decide (P = Q) = D := ⟨_, rfl⟩
    have HR : Hid (D = C) := by
      show _ = _
      rw [HE.out, hP, hQ, hD]
      simp [h0]
    have HSM : Hid (∀ (A A' : Option Addr) (c c' : Nat) (W : World), Reads W W.heap.size 1 A P.length (u8s P) → Reads W W.heap.size 1 A' Q.length (u8s Q) → Calls Tryz.prog 58 #[.slice A P.length c, .slice A' Q.length c'] W fun e w' => e = .returned (.bool D) ∧ W = w') := by
      rw [← hD]
      exact fun A A' c c' W h1 h2 => c_wSame A A' _ c _ c' P Q W _ _ h1 h2 hbt1 hbt2
    subst h0
    clear hP hQ hD hok1 hw1 hok2 hw2 HOK HE
    have HCL : Hid (∀ W, Below w1.heap.size w1 W → (W.cell? ⟨w.heap.size, 0, none⟩ = some u0 ∧ W.cell? ⟨w.heap.size, 1, none⟩ = some u1 ∧ W.cell? ⟨w.heap.size, 2, none⟩ = some u2 ∧ W.cell? ⟨w.heap.size, 3, none⟩ = some u3 ∧ W.cell? ⟨w.heap.size, 4, none⟩ = some u4 ∧ W.cell? ⟨w.heap.size, 5, none⟩ = some u5 ∧ W.cell? ⟨w.heap.size + 1, 0, none⟩ = some z0 ∧ W.cell? ⟨w.heap.size + 1, 1, none⟩ = some z1 ∧ W.cell? ⟨w.heap.size + 1, 2, none⟩ = some z2 ∧ W.cell? ⟨w.heap.size + 1, 3, none⟩ = some z3 ∧ W.cell? ⟨w.heap.size + 1, 4, none⟩ = some z4 ∧ W.cell? ⟨w.heap.size + 1, 5, none⟩ = some z5)) := fun W hb => by
      have hx := HX1'.out.step hb
      have hy := HX2'.out.step hb
      exact ⟨hx.blk.cell 0, hx.blk.cell 1, hx.blk.cell 2, hx.blk.cell 3, hx.blk.cell 4, hx.blk.cell 5, hy.blk.cell 0, hy.blk.cell 1, hy.blk.cell 2, hy.blk.cell 3, hy.blk.cell 4, hy.blk.cell 5⟩
    obtain ⟨i0, i1, i2, i3, i4, i5, i6, i7, i8, i9, i10, i11⟩ := HCL.out w1 (Below.refl _ _)
    have HL1' := Lib.hid (HL1.out w1.drew (HV1'.out.drew))
    go_wp2_with fail
    go_region_held3 (fun W => W.cell? ⟨w.heap.size, 0, none⟩ = some u0 ∧ W.cell? ⟨w.heap.size, 1, none⟩ = some u1 ∧ W.cell? ⟨w.heap.size, 2, none⟩ = some u2 ∧ W.cell? ⟨w.heap.size, 3, none⟩ = some u3 ∧ W.cell? ⟨w.heap.size, 4, none⟩ = some u4 ∧ W.cell? ⟨w.heap.size, 5, none⟩ = some u5 ∧ W.cell? ⟨w.heap.size + 1, 0, none⟩ = some z0 ∧ W.cell? ⟨w.heap.size + 1, 1, none⟩ = some z1 ∧ W.cell? ⟨w.heap.size + 1, 2, none⟩ = some z2 ∧ W.cell? ⟨w.heap.size + 1, 3, none⟩ = some z3 ∧ W.cell? ⟨w.heap.size + 1, 4, none⟩ = some z4 ∧ W.cell? ⟨w.heap.size + 1, 5, none⟩ = some z5) (first | go_keep | (refine ⟨?_, ?_, ?_, ?_, ?_, ?_, ?_, ?_, ?_, ?_, ?_, ?_⟩ <;> assumption)) (first
      | (go_at_call 59; first
        | ((with_reducible refine HL1'.out.mono ?_); rintro e w2 ⟨v2, rfl, ho2, hb2⟩; have hb2' : Below w1.heap.size w1 w2 := below_undrew hb2; obtain ⟨i0, i1, i2, i3, i4, i5, i6, i7, i8, i9, i10, i11⟩ := HCL.out w2 hb2'; have HL2' := Lib.hid (HL2.out w2 (HV2'.out.step hb2')); have HO2 := Lib.hid ho2; have HB2 := Lib.hid hb2'; obtain ⟨A2, c2, hv2⟩ := own_slice ho2; subst hv2; clear ho2 hb2 hb2')
        | ((with_reducible refine HL2'.out.mono ?_); rintro e w3 ⟨v3, rfl, ho3, hb3⟩; have hb3' : Below w1.heap.size w1 w3 := below_step HB2.out hb3; obtain ⟨i0, i1, i2, i3, i4, i5, i6, i7, i8, i9, i10, i11⟩ := HCL.out w3 hb3'; have HO3 := Lib.hid ho3; have HO2' := Lib.hid (own_below HO2.out hb3); have HB3 := Lib.hid hb3'; obtain ⟨A3, c3, hv3⟩ := own_slice ho3; subst hv3; have HSM' := Lib.hid (HSM.out A2 A3 c2 c3 w3 (Reads.of_own HO2'.out) (Reads.of_own HO3.out)); clear ho3 hb3 hb3'))
      | (go_at_call 58; ((with_reducible refine HSM'.out.mono ?_); rintro e w4 ⟨rfl, rfl⟩; have HB4 := HB3; obtain ⟨i0, i1, i2, i3, i4, i5, i6, i7, i8, i9, i10, i11⟩ := HCL.out _ HB4.out)))
    rename _ ∧ _ => hh
    clear hh i0 i1 i2 i3 i4 i5 i6 i7 i8 i9 i10 i11 HCL HL1 HL2 HL1' HL2' HSM HSM' HO2 HO3 HO2'
    have HB5 := Lib.hid (HB1.out.trans (HB4.out.mono HB1.out.size))
    go_wp2_with fail
    go_ret2
    exact ⟨by rw [← HR.out]; rfl, HB5.out⟩
  · have t0 : (EA != 0) = true := by simpa using h0
    have HR : Hid (C = false) := by
      show _ = _
      rw [HE.out]; simp [h0]
    go_wp2_with fail
    go_ret2
    exact ⟨by rw [HR.out]; rfl, HB1.out⟩
/-- New bytes and the error, as Encode tells them. -/
def EncE (w : World) (a : Val) (e : Ending) (w' : World) : Prop := ∃ v xs, e = .returned (.tuple #[v, .int .i64 (chk fone a)]) ∧ (chk fone a = 0 → xs = byt a) ∧ (chk fone a ≠ 0 → xs = []) ∧ w'.ownsRow w.heap.size 5 1 v xs.length (u8s xs) ∧ Below w.heap.size w w'
set_option maxRecDepth 100000 in
theorem c_Encode (a : Val) (cs : List Value) (w : World) (h : RV w a cs) : Calls Tryz.prog 29 #[.agg cs.toArray] w (EncE w a) := by
  have HB0 : Hid (Below w.heap.size w (w.alloc (.cells cs.toArray 30))) := (Below.refl w.heap.size w).alloc (Nat.le_refl _) _
  have HX1 := Lib.hid (Box.new w cs)
  have HRa := Lib.hid h.row
  have HV1 := Lib.hid (h.step HB0.out)
  obtain ⟨EA, hEA⟩ : ∃ E, chk fone a = E := ⟨_, rfl⟩
  have HCA : Hid (∀ W, RV W a cs → Calls Tryz.prog 18 #[.agg cs.toArray] W fun e w' => e = .returned (.int .i64 EA) ∧ Below W.heap.size W w') := by rw [← hEA]; exact fun W hr => c_Check a cs W hr
  have HEA := Lib.hid hEA
  clear h hEA
  go_enter Tryz.func29, Tryz.ntmps29
  go_upto_region 1 with fail
  generalize w.alloc (.cells cs.toArray 30) = w0 at *
  go_wp2_with (refine wpList_load_row rfl 30 (.tmp 1) rfl w.heap.size rfl 30 _ (0, 0) _ HX1.out.blk Tryz.underlying30 rfl HRa.out ?_)
  refine (HCA.out _ HV1.out).mono ?_; rintro e w1 ⟨rfl, hb1⟩
  have HX1' := Lib.hid (HX1.out.step hb1)
  have HV1' := Lib.hid (HV1.out.step hb1)
  have HB1 := Lib.hid (HB0.out.trans (hb1.mono HB0.out.size))
  clear hb1
  by_cases h0 : EA = 0
  · have t0 : (EA != 0) = false := by simpa using h0
    subst h0
    have HL := Lib.hid (c_layN a cs w1 HV1'.out (okV_chk HEA.out) (wt_of_chk HEA.out))
    go_wp2_with (refine wpList_load_row rfl 30 (.tmp 1) rfl w.heap.size rfl 30 _ (0, 0) _ HX1'.out.blk Tryz.underlying30 rfl HRa.out ?_)
    refine (HL.out).mono ?_; rintro e w2 ⟨v, rfl, ho, hb⟩
    have HO := Lib.hid (own_base ho HB1.out.size)
    have HB2 := Lib.hid (HB1.out.trans (hb.mono HB1.out.size))
    clear ho hb
    go_wp2_with fail
    go_ret2
    exact ⟨v, byt a, by rw [HEA.out]; rfl, fun _ => rfl, fun hne => absurd HEA.out hne, HO.out, HB2.out⟩
  · have t0 : (EA != 0) = true := by simpa using h0
    go_wp2_with fail
    go_ret2
    exact ⟨_, [], by rw [HEA.out]; rfl, fun hz => absurd (HEA.out.symm.trans hz) h0, fun _ => rfl, World.ownsRow_nil _ _ _ _, HB1.out⟩
set_option maxRecDepth 100000 in
theorem c_rboth (a b : Val) (cs cs' : List Value) (w : World) (h : RV w a cs) (h' : RV w b cs') : Calls Tryz.prog 55 #[.agg cs.toArray, .agg cs'.toArray] w fun e w' => e = .returned (.int .i64 (bothE a b)) ∧ Below w.heap.size w w' := by
  have HTB := two_boxes w cs cs'
  have HX1 := Lib.hid HTB.1
  have HX2 := Lib.hid HTB.2.1
  have HB0 := Lib.hid HTB.2.2
  have HRa := Lib.hid h.row
  have HRb := Lib.hid h'.row
  have HV1 := Lib.hid (h.step HTB.2.2)
  have HV2 := Lib.hid (h'.step HTB.2.2)
  have HE : Hid (bothE a b = if chk fone a = 0 then chk fone b else chk fone a) := rfl
  obtain ⟨C, hC⟩ : ∃ C, bothE a b = C := ⟨_, rfl⟩
  obtain ⟨EA, hEA⟩ : ∃ E, chk fone a = E := ⟨_, rfl⟩
  obtain ⟨EB, hEB⟩ : ∃ E, chk fone b = E := ⟨_, rfl⟩
  have HCA : Hid (∀ W, RV W a cs → Calls Tryz.prog 13 #[.agg cs.toArray] W fun e w' => e = .returned (.int .i64 EA) ∧ Below W.heap.size W w') := by rw [← hEA]; exact fun W hr => c_rCheck a cs W hr
  have HCB : Hid (∀ W, RV W b cs' → Calls Tryz.prog 13 #[.agg cs'.toArray] W fun e w' => e = .returned (.int .i64 EB) ∧ Below W.heap.size W w') := by rw [← hEB]; exact fun W hr => c_rCheck b cs' W hr
  rw [hC, hEA, hEB] at HE
  rw [hC]
  clear h h' HTB hC hEA hEB
  go_enter Tryz.func55, Tryz.ntmps55
  go_upto_region 1 with fail
  generalize World.alloc (w.alloc _) _ = w0 at *
  go_wp2_with (refine wpList_load_row rfl 30 (.tmp 2) rfl w.heap.size rfl 30 _ (0, 0) _ HX1.out.blk Tryz.underlying30 rfl HRa.out ?_)
  refine (HCA.out _ HV1.out).mono ?_; rintro e w1 ⟨rfl, hb1⟩
  have HX2' := Lib.hid (HX2.out.step hb1)
  have HV2' := Lib.hid (HV2.out.step hb1)
  have HB1 := Lib.hid (HB0.out.trans (hb1.mono HB0.out.size))
  clear hb1
  by_cases h0 : EA = 0
  · have t0 : (EA != 0) = false := by simpa using h0
    have HR : Hid (C = EB) := HE.out.trans (if_pos h0)
    subst h0
    go_wp2_with (refine wpList_load_row rfl 30 (.tmp 3) rfl (w.heap.size + 1) rfl 30 _ (0, 0) _ HX2'.out.blk Tryz.underlying30 rfl HRb.out ?_)
    refine (HCB.out _ HV2'.out).mono ?_; rintro e w2 ⟨rfl, hb2⟩
    have HB2 := Lib.hid (HB1.out.trans (hb2.mono HB1.out.size))
    clear hb2
    go_wp2_with fail
    go_ret
    exact ⟨by rw [HR.out]; rfl, HB2.out⟩
  · have t0 : (EA != 0) = true := by simpa using h0
    have HR : Hid (C = EA) := HE.out.trans (if_neg h0)
    go_wp2_with fail
    go_ret
    exact ⟨by rw [HR.out]; rfl, HB1.out⟩
set_option maxRecDepth 100000 in
theorem c_rvOrder (a b : Val) (cs cs' : List Value) (w : World) (h : RV w a cs) (h' : RV w b cs') : Calls Tryz.prog 28 #[.agg cs.toArray, .agg cs'.toArray] w fun e w' => e = .returned (.tuple #[.int .i64 (ordA a b), .int .i64 (bothE a b)]) ∧ Below w.heap.size w w' := by
  have HTB := two_boxes w cs cs'
  have HX1 := Lib.hid HTB.1
  have HX2 := Lib.hid HTB.2.1
  have HB0 := Lib.hid HTB.2.2
  have HRa := Lib.hid h.row
  have HRb := Lib.hid h'.row
  have HV1 := Lib.hid (h.step HTB.2.2)
  have HV2 := Lib.hid (h'.step HTB.2.2)
  have HE : Hid (ordA a b = if bothE a b = 0 then ord a b else 0) := rfl
  obtain ⟨C, hC⟩ : ∃ C, ordA a b = C := ⟨_, rfl⟩
  obtain ⟨EA, hEA⟩ : ∃ E, bothE a b = E := ⟨_, rfl⟩
  have HCA : Hid (∀ W, RV W a cs → RV W b cs' → Calls Tryz.prog 55 #[.agg cs.toArray, .agg cs'.toArray] W fun e w' => e = .returned (.int .i64 EA) ∧ Below W.heap.size W w') := by rw [← hEA]; exact fun W hr hr' => c_rboth a b cs cs' W hr hr'
  have HOK : Hid (EA = 0 → okV a ∧ okV b) := fun h0 => by
    have := bothE_zero (hEA.trans h0)
    exact ⟨okV_chk this.1, okV_chk this.2⟩
  rw [hC, hEA] at HE
  rw [hC, hEA]
  clear h h' HTB hC hEA
  go_enter Tryz.func28, Tryz.ntmps28
  go_upto_region 1 with fail
  generalize World.alloc (w.alloc _) _ = w0 at *
  go_wp2_with (first | (refine wpList_load_row rfl 30 (.tmp 2) rfl w.heap.size rfl 30 _ (0, 0) _ HX1.out.blk Tryz.underlying30 rfl HRa.out ?_) | (refine wpList_load_row rfl 30 (.tmp 3) rfl (w.heap.size + 1) rfl 30 _ (0, 0) _ HX2.out.blk Tryz.underlying30 rfl HRb.out ?_))
  refine (HCA.out _ HV1.out HV2.out).mono ?_; rintro e w1 ⟨rfl, hb1⟩
  have HX1' := Lib.hid (HX1.out.step hb1)
  have HX2' := Lib.hid (HX2.out.step hb1)
  have HV1' := Lib.hid (HV1.out.step hb1)
  have HV2' := Lib.hid (HV2.out.step hb1)
  have HB1 := Lib.hid (HB0.out.trans (hb1.mono HB0.out.size))
  clear hb1
  by_cases h0 : EA = 0
  · have t0 : (EA != 0) = false := by simpa using h0
    have HR : Hid (ord a b = C) := (HE.out.trans (if_pos h0)).symm
    have HOKK := Lib.hid (HOK.out h0)
    have HCO : Hid (∀ W, RV W a cs → RV W b cs' → Calls Tryz.prog 63 #[.agg cs.toArray, .agg cs'.toArray] W fun e w' => e = .returned (.int .i64 C) ∧ Below W.heap.size W w') := by rw [← HR.out]; exact fun W hr hr' => c_rorder a b cs cs' W hr hr' HOKK.out.1 HOKK.out.2
    subst h0
    go_wp2_with (first | (refine wpList_load_row rfl 30 (.tmp 2) rfl w.heap.size rfl 30 _ (0, 0) _ HX1'.out.blk Tryz.underlying30 rfl HRa.out ?_) | (refine wpList_load_row rfl 30 (.tmp 3) rfl (w.heap.size + 1) rfl 30 _ (0, 0) _ HX2'.out.blk Tryz.underlying30 rfl HRb.out ?_))
    refine (HCO.out _ HV1'.out HV2'.out).mono ?_; rintro e w2 ⟨rfl, hb2⟩
    have HB2 := Lib.hid (HB1.out.trans (hb2.mono HB1.out.size))
    clear hb2
    go_wp2_with fail
    go_ret2
    exact ⟨rfl, HB2.out⟩
  · have t0 : (EA != 0) = true := by simpa using h0
    have HR : Hid (C = 0) := HE.out.trans (if_neg h0)
    go_wp2_with fail
    go_ret2
    exact ⟨by rw [HR.out]; rfl, HB1.out⟩
theorem c_putN (v : Val) (cs : List Value) (W : World) (h : RV W v cs) (hok : okV v) (hw : wt v ≤ 1048576) : Calls Tryz.prog 61 #[.slice none 0 0, .agg cs.toArray] W (OwnB W (byt v)) := by
  refine (c_put v cs W W.heap.size none 0 0 [] h.rd h.wf h.bd hok (Nat.le_refl _) (World.ownsRow_nil _ _ _ _) (by omega)).mono ?_
  rintro e w' ⟨v', rfl, ha⟩
  exact ⟨v', rfl, ha.own, ha.kp.below (Nat.le_refl _) (Nat.le_refl _)⟩
set_option maxRecDepth 100000 in
set_option maxHeartbeats 2000000 in
theorem c_rvSame (a b : Val) (cs cs' : List Value) (w : World) (h : RV w a cs) (h' : RV w b cs') : Calls Tryz.prog 26 #[.agg cs.toArray, .agg cs'.toArray] w fun e w' => e = .returned (.tuple #[.bool (samA a b), .int .i64 (bothE a b)]) ∧ Below w.heap.size w w' := by
  have HTB := two_boxes w cs cs'
  have HX1 := Lib.hid HTB.1
  have HX2 := Lib.hid HTB.2.1
  have HB0 := Lib.hid HTB.2.2
  have HRa := Lib.hid h.row
  have HRb := Lib.hid h'.row
  have HV1 := Lib.hid (h.step HTB.2.2)
  have HV2 := Lib.hid (h'.step HTB.2.2)
  have HE : Hid (samA a b = (decide (bothE a b = 0) && decide (byt a = byt b))) := rfl
  obtain ⟨C, hC⟩ : ∃ C, samA a b = C := ⟨_, rfl⟩
  obtain ⟨EA, hEA⟩ : ∃ E, bothE a b = E := ⟨_, rfl⟩
  have HCA : Hid (∀ W, RV W a cs → RV W b cs' → Calls Tryz.prog 55 #[.agg cs.toArray, .agg cs'.toArray] W fun e w' => e = .returned (.int .i64 EA) ∧ Below W.heap.size W w') := by rw [← hEA]; exact fun W hr hr' => c_rboth a b cs cs' W hr hr'
  have HOK : Hid (EA = 0 → (okV a ∧ wt a ≤ 1048576) ∧ okV b ∧ wt b ≤ 1048576) := fun h0 => by
    have := bothE_zero (hEA.trans h0)
    exact ⟨⟨okV_chk this.1, wt_of_chk this.1⟩, okV_chk this.2, wt_of_chk this.2⟩
  rw [hC, hEA] at HE
  rw [hC, hEA]
  obtain ⟨u0, u1, u2, u3, u4, u5, hcs⟩ := six_list h.six.1
  obtain ⟨z0, z1, z2, z3, z4, z5, hcs'⟩ := six_list h'.six.1
  subst hcs hcs'
  clear h h' HTB hC hEA
  go_enter Tryz.func26, Tryz.ntmps26
  go_upto_region 1 with fail
  generalize World.alloc (w.alloc _) _ = w0 at *
  go_wp2_with (first | (refine wpList_load_row rfl 30 (.tmp 2) rfl w.heap.size rfl 30 _ (0, 0) _ HX1.out.blk Tryz.underlying30 rfl HRa.out ?_) | (refine wpList_load_row rfl 30 (.tmp 3) rfl (w.heap.size + 1) rfl 30 _ (0, 0) _ HX2.out.blk Tryz.underlying30 rfl HRb.out ?_))
  refine (HCA.out _ HV1.out HV2.out).mono ?_; rintro e w1 ⟨rfl, hb1⟩
  have HX1' := Lib.hid (HX1.out.step hb1)
  have HX2' := Lib.hid (HX2.out.step hb1)
  have HV1' := Lib.hid (HV1.out.step hb1)
  have HV2' := Lib.hid (HV2.out.step hb1)
  have HB1 := Lib.hid (HB0.out.trans (hb1.mono HB0.out.size))
  clear hb1 HX1 HX2 HV1 HV2 HB0
  by_cases h0 : EA = 0
  · have t0 : (EA != 0) = false := by simpa using h0
    obtain ⟨⟨hok1, hw1⟩, hok2, hw2⟩ := HOK.out h0
    have hbt1 := byt_bts a hok1
    have hbt2 := byt_bts b hok2
    have hbl1 : (byt a).length ≤ 1048576 := by rw [byt_len a]; exact hw1
    have hbl2 : (byt b).length ≤ 1048576 := by rw [byt_len b]; exact hw2
    obtain ⟨P, hP⟩ : ∃ P, byt a = P := ⟨_, rfl⟩
    obtain ⟨Q, hQ⟩ : ∃ Q, byt b = Q := ⟨_, rfl⟩
    rw [hP] at hbt1 hbl1
    rw [hQ] at hbt2 hbl2
    have HL1 : Hid (∀ W, RV W a [u0, u1, u2, u3, u4, u5] → Calls Tryz.prog 61 #[.slice none 0 0, .agg [u0, u1, u2, u3, u4, u5].toArray] W (OwnB W P)) := by rw [← hP]; exact fun W hr => c_putN a _ W hr hok1 hw1
    have HL2 : Hid (∀ W, RV W b [z0, z1, z2, z3, z4, z5] → Calls Tryz.prog 61 #[.slice none 0 0, .agg [z0, z1, z2, z3, z4, z5].toArray] W (OwnB W Q)) := by rw [← hQ]; exact fun W hr => c_putN b _ W hr hok2 hw2
    obtain ⟨D, hD⟩ : ∃ D, decide (P = Q) = D := ⟨_, rfl⟩
    have HR : Hid (D = C) := by
      show _ = _
      rw [HE.out, hP, hQ, hD]
      simp [h0]
    have HSM : Hid (∀ (A A' : Option Addr) (c c' : Nat) (W : World), Reads W W.heap.size 1 A P.length (u8s P) → Reads W W.heap.size 1 A' Q.length (u8s Q) → Calls Tryz.prog 60 #[.slice A P.length c, .slice A' Q.length c'] W fun e w' => e = .returned (.bool D) ∧ ∃ k, w' = W.drewN k) := by
      rw [← hD]
      exact fun A A' c c' W h1 h2 => c_rwSame A A' _ c _ c' P Q W _ _ h1 h2 (by omega) (by omega)
    subst h0
    clear hP hQ hD hok1 hw1 hok2 hw2 HOK HE
    have HCL : Hid (∀ W, Below w1.heap.size w1 W → (W.cell? ⟨w.heap.size, 0, none⟩ = some u0 ∧ W.cell? ⟨w.heap.size, 1, none⟩ = some u1 ∧ W.cell? ⟨w.heap.size, 2, none⟩ = some u2 ∧ W.cell? ⟨w.heap.size, 3, none⟩ = some u3 ∧ W.cell? ⟨w.heap.size, 4, none⟩ = some u4 ∧ W.cell? ⟨w.heap.size, 5, none⟩ = some u5 ∧ W.cell? ⟨w.heap.size + 1, 0, none⟩ = some z0 ∧ W.cell? ⟨w.heap.size + 1, 1, none⟩ = some z1 ∧ W.cell? ⟨w.heap.size + 1, 2, none⟩ = some z2 ∧ W.cell? ⟨w.heap.size + 1, 3, none⟩ = some z3 ∧ W.cell? ⟨w.heap.size + 1, 4, none⟩ = some z4 ∧ W.cell? ⟨w.heap.size + 1, 5, none⟩ = some z5)) := fun W hb => by
      have hx := HX1'.out.step hb
      have hy := HX2'.out.step hb
      exact ⟨hx.blk.cell 0, hx.blk.cell 1, hx.blk.cell 2, hx.blk.cell 3, hx.blk.cell 4, hx.blk.cell 5, hy.blk.cell 0, hy.blk.cell 1, hy.blk.cell 2, hy.blk.cell 3, hy.blk.cell 4, hy.blk.cell 5⟩
    obtain ⟨i0, i1, i2, i3, i4, i5, i6, i7, i8, i9, i10, i11⟩ := HCL.out w1 (Below.refl _ _)
    have HL1' := Lib.hid (HL1.out w1.drew (HV1'.out.drew))
    go_wp2_with fail
    go_region_held3 (fun W => W.cell? ⟨w.heap.size, 0, none⟩ = some u0 ∧ W.cell? ⟨w.heap.size, 1, none⟩ = some u1 ∧ W.cell? ⟨w.heap.size, 2, none⟩ = some u2 ∧ W.cell? ⟨w.heap.size, 3, none⟩ = some u3 ∧ W.cell? ⟨w.heap.size, 4, none⟩ = some u4 ∧ W.cell? ⟨w.heap.size, 5, none⟩ = some u5 ∧ W.cell? ⟨w.heap.size + 1, 0, none⟩ = some z0 ∧ W.cell? ⟨w.heap.size + 1, 1, none⟩ = some z1 ∧ W.cell? ⟨w.heap.size + 1, 2, none⟩ = some z2 ∧ W.cell? ⟨w.heap.size + 1, 3, none⟩ = some z3 ∧ W.cell? ⟨w.heap.size + 1, 4, none⟩ = some z4 ∧ W.cell? ⟨w.heap.size + 1, 5, none⟩ = some z5) (first | go_keep | (refine ⟨?_, ?_, ?_, ?_, ?_, ?_, ?_, ?_, ?_, ?_, ?_, ?_⟩ <;> assumption)) (first
      | (go_at_call 61; first
        | ((with_reducible refine HL1'.out.mono ?_); rintro e w2 ⟨v2, rfl, ho2, hb2⟩; have hb2' : Below w1.heap.size w1 w2 := below_undrew hb2; obtain ⟨i0, i1, i2, i3, i4, i5, i6, i7, i8, i9, i10, i11⟩ := HCL.out w2 hb2'; have HL2' := Lib.hid (HL2.out w2 (HV2'.out.step hb2')); have HO2 := Lib.hid ho2; have HB2 := Lib.hid hb2'; obtain ⟨A2, c2, hv2⟩ := own_slice ho2; subst hv2; clear ho2 hb2 hb2')
        | ((with_reducible refine HL2'.out.mono ?_); rintro e w3 ⟨v3, rfl, ho3, hb3⟩; have hb3' : Below w1.heap.size w1 w3 := below_step HB2.out hb3; obtain ⟨i0, i1, i2, i3, i4, i5, i6, i7, i8, i9, i10, i11⟩ := HCL.out w3 hb3'; have HO3 := Lib.hid ho3; have HO2' := Lib.hid (own_below HO2.out hb3); have HB3 := Lib.hid hb3'; obtain ⟨A3, c3, hv3⟩ := own_slice ho3; subst hv3; have HSM' := Lib.hid (HSM.out A2 A3 c2 c3 w3 (Reads.of_own HO2'.out) (Reads.of_own HO3.out)); clear ho3 hb3 hb3'))
      | (go_at_call 60; ((with_reducible refine HSM'.out.mono ?_); rintro e w4 ⟨rfl, k4, rfl⟩; have HB4 := Lib.hid (below_drewN HB3.out k4); obtain ⟨i0, i1, i2, i3, i4, i5, i6, i7, i8, i9, i10, i11⟩ := HCL.out _ HB4.out)))
    rename _ ∧ _ => hh
    clear hh i0 i1 i2 i3 i4 i5 i6 i7 i8 i9 i10 i11 HCL HL1 HL2 HL1' HL2' HSM HSM' HO2 HO3 HO2'
    have HB5 := Lib.hid (HB1.out.trans (HB4.out.mono HB1.out.size))
    go_wp2_with fail
    go_ret2
    exact ⟨by rw [← HR.out]; rfl, HB5.out⟩
  · have t0 : (EA != 0) = true := by simpa using h0
    have HR : Hid (C = false) := by
      show _ = _
      rw [HE.out]; simp [h0]
    go_wp2_with fail
    go_ret2
    exact ⟨by rw [HR.out]; rfl, HB1.out⟩
set_option maxRecDepth 100000 in
theorem c_rEncode (a : Val) (cs : List Value) (w : World) (h : RV w a cs) : Calls Tryz.prog 30 #[.agg cs.toArray] w (EncE w a) := by
  have HB0 : Hid (Below w.heap.size w (w.alloc (.cells cs.toArray 30))) := (Below.refl w.heap.size w).alloc (Nat.le_refl _) _
  have HX1 := Lib.hid (Box.new w cs)
  have HRa := Lib.hid h.row
  have HV1 := Lib.hid (h.step HB0.out)
  obtain ⟨EA, hEA⟩ : ∃ E, chk fone a = E := ⟨_, rfl⟩
  have HCA : Hid (∀ W, RV W a cs → Calls Tryz.prog 13 #[.agg cs.toArray] W fun e w' => e = .returned (.int .i64 EA) ∧ Below W.heap.size W w') := by rw [← hEA]; exact fun W hr => c_rCheck a cs W hr
  have HEA := Lib.hid hEA
  clear h hEA
  go_enter Tryz.func30, Tryz.ntmps30
  go_upto_region 1 with fail
  generalize w.alloc (.cells cs.toArray 30) = w0 at *
  go_wp2_with (refine wpList_load_row rfl 30 (.tmp 1) rfl w.heap.size rfl 30 _ (0, 0) _ HX1.out.blk Tryz.underlying30 rfl HRa.out ?_)
  refine (HCA.out _ HV1.out).mono ?_; rintro e w1 ⟨rfl, hb1⟩
  have HX1' := Lib.hid (HX1.out.step hb1)
  have HV1' := Lib.hid (HV1.out.step hb1)
  have HB1 := Lib.hid (HB0.out.trans (hb1.mono HB0.out.size))
  clear hb1
  by_cases h0 : EA = 0
  · have t0 : (EA != 0) = false := by simpa using h0
    subst h0
    have HL := Lib.hid (c_putN a cs w1 HV1'.out (okV_chk HEA.out) (wt_of_chk HEA.out))
    go_wp2_with (refine wpList_load_row rfl 30 (.tmp 1) rfl w.heap.size rfl 30 _ (0, 0) _ HX1'.out.blk Tryz.underlying30 rfl HRa.out ?_)
    refine (HL.out).mono ?_; rintro e w2 ⟨v, rfl, ho, hb⟩
    have HO := Lib.hid (own_base ho HB1.out.size)
    have HB2 := Lib.hid (HB1.out.trans (hb.mono HB1.out.size))
    clear ho hb
    go_wp2_with fail
    go_ret2
    exact ⟨v, byt a, by rw [HEA.out]; rfl, fun _ => rfl, fun hne => absurd HEA.out hne, HO.out, HB2.out⟩
  · have t0 : (EA != 0) = true := by simpa using h0
    go_wp2_with fail
    go_ret2
    exact ⟨_, [], by rw [HEA.out]; rfl, fun hz => absurd (HEA.out.symm.trans hz) h0, fun _ => rfl, World.ownsRow_nil _ _ _ _, HB1.out⟩
end Go.Proofs.YtacnoedhpamdmaaGreatDoor
