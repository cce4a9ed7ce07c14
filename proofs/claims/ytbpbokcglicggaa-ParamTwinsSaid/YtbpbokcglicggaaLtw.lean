/- Walk: the law ParamTwins. Conditions: none. -/
import Derived.Test.YtbpbokcglicggaaLw
import Derived.Test.YtbpbokcglicggaaTw
namespace Go.Proofs.Ytbpbokcglicggaa
open Go.RowKit
set_option linter.unusedVariables false

theorem decA_wf {k : Int} {xs : List Int} {ext : Bool} (h : ∀ z ∈ xs, 0 ≤ z ∧ z < 256) : (∀ z ∈ (decA k xs ext).s, 0 ≤ z ∧ z < 256) ∧ (∀ z ∈ (decA k xs ext).t, 0 ≤ z ∧ z < 256) := by
  unfold decA
  split
  · exact ⟨trim_mem (seg_mem h _ _), trim_mem (seg_mem h _ _)⟩
  · exact ⟨fun z hz => by simp [Pm.zero] at hz, fun z hz => by simp [Pm.zero] at hz⟩
/-- The twin of a twin. -/
theorem tw_back {k : Int} {p : Pm} (ho : PmOk p) (hs : ∀ z ∈ p.s, 0 ≤ z ∧ z < 256) (ht : ∀ z ∈ p.t, 0 ≤ z ∧ z < 256) (h : twOk k p = true) :
    chkP k p = 0 ∧ chkP k (twA k p) = 0 ∧ PmOk (twA k p) ∧ (∀ z ∈ (twA k p).s, 0 ≤ z ∧ z < 256) ∧ (∀ z ∈ (twA k p).t, 0 ≤ z ∧ z < 256) ∧ encA k p = encB k p ∧ encA k (twA k p) = encB k p ∧ ((p.xof == 0) == ((twA k p).xof == 0)) = false ∧ twOk k (twA k p) = true ∧ twA k (twA k p) = p.norm ∧ nrm k p = p.norm := by
  unfold twOk at h
  obtain ⟨h0, hz⟩ := of_decide_eq_true h
  have hA : twA k p = decA k (encB k p) (p.xof == 0) := if_pos ⟨h0, hz⟩
  have hb := encB_bd (k := k) hs ht
  obtain ⟨c1, c2, c3, c4⟩ := enc_dec hb hz
  obtain ⟨w1, w2⟩ := decA_wf (k := k) (ext := (p.xof == 0)) hb
  rw [← hA] at c1 c2 c3 c4 w1 w2
  generalize twA k p = q at *
  have hxx : ((p.xof == 0) == (q.xof == 0)) = false := by
    cases hx : (p.xof == 0) with
    | true =>
      have := c4.1 hx
      have e : (q.xof == 0) = false := by simpa using this
      rw [e]; rfl
    | false =>
      have : ¬ q.xof ≠ 0 := fun hn => by have := c4.2 hn; rw [hx] at this; cases this
      have e : (q.xof == 0) = true := by simpa using this
      rw [e]; rfl
  have hext : (q.xof == 0) = true ↔ p.xof ≠ 0 := by
    cases hx : (p.xof == 0) with
    | true =>
      have hp0 : p.xof = 0 := by simpa using hx
      have e : q.xof ≠ 0 := c4.1 hx
      simp [e, hp0]
    | false =>
      have hp0 : p.xof ≠ 0 := by simpa using hx
      have : ¬ q.xof ≠ 0 := fun hn => by have := c4.2 hn; rw [hx] at this; cases this
      simp at this
      simp [this, hp0]
  obtain ⟨d1, d2⟩ := dec_enc h0 ho (q.xof == 0) hext
  have hq : chkP k q = 0 ∧ decE k (encB k q) (q.xof == 0) = 0 := ⟨c1, by rw [c3]; exact d1⟩
  refine ⟨h0, c1, c2, w1, w2, if_pos h0, ?_, hxx, decide_eq_true hq, ?_, if_pos h0⟩
  · unfold encA; rw [if_pos c1, c3]
  · unfold twA; rw [if_pos hq, c3, d2]
set_option maxRecDepth 100000 in
set_option maxHeartbeats 4000000 in
theorem L_Twins (W : World) (k : Int) (p : Pm) (sa : Option Addr) (sc : Nat) (ta : Option Addr) (tc : Nat) (h : RdP W p sa sc ta tc) (ho : PmOk p) (hs : ∀ z ∈ p.s, 0 ≤ z ∧ z < 256) (ht : ∀ z ∈ p.t, 0 ≤ z ∧ z < 256) :
    Calls Try.prog 10 #[.int .i64 k, pvS p sa sc ta tc] W fun e W' => e = .returned (.bool true) ∧ Below W.heap.size W W' := by
  have HB := Lib.hid ((Below.refl W.heap.size W).alloc (Nat.le_refl _) (.cells (pvC p sa sc ta tc) 31))
  have HP := Lib.hid (Blk.new W 31 (pvC p sa sc ta tc))
  have bsp := h.bs
  have btp := h.bt
  have hp := h.step HB.out
  clear h
  have lq := twA_len (k := k) (p := p)
  have HCp : Hid (∀ sa sc ta tc w, RdP w p sa sc ta tc → Calls Try.prog 20 #[pvS p sa sc ta tc] w (GivesQ w p)) := fun sa sc ta tc w h => c_copied p sa sc ta tc w h
  have HAL : Hid (∀ w, Calls Try.prog 37 #[] w (fun e w' => e = .returned (.bool true) ∧ Below w.heap.size w w')) := c_alive
  have HT1 : Hid (∀ sa sc ta tc w, RdP w p sa sc ta tc → Calls Try.prog 38 #[.int .i64 k, pvS p sa sc ta tc] w (TwGives w k p)) := fun sa sc ta tc w h => c_Twin k p sa sc ta tc w h ho hs ht
  have HT2 : Hid (∀ w, RdP w p sa sc ta tc → Calls Try.prog 39 #[.int .i64 k, pvS p sa sc ta tc] w (TwGives w k p)) := fun w h => c_rTwin k p sa sc ta tc w h ho hs ht
  by_cases hOk : twOk k p = true
  · obtain ⟨p0, q0, qok, qs, qt, eA, eB, hxx, hOk2, hBk, hNn⟩ := tw_back ho hs ht hOk
    have HE1 : Hid (∀ sa sc ta tc w, RdP w p sa sc ta tc → Calls Try.prog 33 #[.int .i64 k, pvS p sa sc ta tc] w (EncGives w k p)) := fun sa sc ta tc w h => c_Encode k p sa sc ta tc w h ho
    have HE2 : Hid (∀ sa sc ta tc w, RdP w (twA k p) sa sc ta tc → Calls Try.prog 33 #[.int .i64 k, pvS (twA k p) sa sc ta tc] w (EncGives w k (twA k p))) := fun sa sc ta tc w h => c_Encode k (twA k p) sa sc ta tc w h qok
    have HT3 : Hid (∀ sa sc ta tc w, RdP w (twA k p) sa sc ta tc → Calls Try.prog 38 #[.int .i64 k, pvS (twA k p) sa sc ta tc] w (TwGives w k (twA k p))) := fun sa sc ta tc w h => c_Twin k (twA k p) sa sc ta tc w h qok qs qt
    have HCq : Hid (∀ sa sc ta tc w, RdP w (twA k p) sa sc ta tc → Calls Try.prog 20 #[pvS (twA k p) sa sc ta tc] w (GivesQ w (twA k p))) := fun sa sc ta tc w h => c_copied (twA k p) sa sc ta tc w h
    have HRn : Hid (∀ w, RdP w p sa sc ta tc → Calls Try.prog 23 #[.int .i64 k, pvS p sa sc ta tc] w (GivesP w (nrm k p) (chkP k p))) := fun w h => c_rNormal k p sa sc ta tc w h
    have lz := encA_le k p
    unfold EncGives at HE1 HE2
    unfold TwGives at HT1 HT2 HT3
    rw [eA] at HE1 lz
    rw [eB] at HE2
    rw [p0] at HE1 HT1 HT2 HRn
    rw [q0] at HE2 HT3
    rw [hOk] at HT1 HT2
    rw [hOk2, hBk] at HT3
    rw [hNn] at HRn
    have nsp : p.norm.s.length ≤ 140737488351232 := Nat.le_trans (trim_le _) bsp
    have ntp : p.norm.t.length ≤ 140737488351232 := Nat.le_trans (trim_le _) btp
    clear ho hs ht hOk p0 q0 qok qs qt eA eB hOk2 hBk hNn
    have HXX := Lib.hid hxx
    clear hxx
    generalize p.norm = m at *
    generalize twA k p = q at *
    generalize encB k p = Z at *
    have hxx := HXX.out
    clear HXX
    simp only [pvS, pv]
    go_enter Try.func10, Try.ntmps10
    go_wp2_with fail
    refine (HAL.out _).mono ?_
    rintro e w1 ⟨rfl, hb⟩
    replace HP := Lib.hid (HP.out.below hb HP.out.lt)
    replace hp := hp.step hb
    replace HB := Lib.hid (HB.out.trans (hb.mono HB.out.size))
    clear hb
    go_wp2_with (refine wpList_load_row rfl 31 (.tmp 3) rfl W.heap.size rfl 31 _ (0, 0) _ HP.out Try.underlying31 rfl (by kernel_rfl) ?_)
    refine (HCp.out _ _ _ _ _ hp).mono ?_
    rintro e w2 ⟨sa1, sc1, ta1, tc1, rfl, o1, o2, hb⟩
    replace HP := Lib.hid (HP.out.below hb HP.out.lt)
    replace hp := hp.step hb
    replace HB := Lib.hid (HB.out.trans (hb.mono HB.out.size))
    have hr := own_rd o1 o2 bsp btp
    clear hb o1 o2
    go_wp2_with fail
    refine (HT1.out _ _ _ _ _ hr).mono ?_
    rintro e w3 ⟨sa2, sc2, ta2, tc2, rfl, o1, o2, hb⟩
    clear hr
    simp only [pvS, pv]
    have hb' := hb.alloc hb.size (.cells (pvC q sa2 sc2 ta2 tc2) 31)
    replace HP := Lib.hid (HP.out.below hb' HP.out.lt)
    replace hp := hp.step hb'
    replace HB := Lib.hid (HB.out.trans (hb'.mono HB.out.size))
    have HQ := Lib.hid (Blk.new w3 31 (pvC q sa2 sc2 ta2 tc2))
    have hq := (own_rd o1 o2 (by omega) (by omega)).step ((Below.refl _ w3).alloc (Nat.le_refl _) (.cells (pvC q sa2 sc2 ta2 tc2) 31))
    have zw3 : w3.heap.size = w3.heap.size := rfl
    clear hb hb' o1 o2 zw3
    go_wp2_with (refine wpList_load_row rfl 31 (.tmp 3) rfl W.heap.size rfl 31 _ (0, 0) _ HP.out Try.underlying31 rfl (by kernel_rfl) ?_)
    refine (HT2.out _ hp).mono ?_
    rintro e w4 ⟨sa3, sc3, ta3, tc3, rfl, o1, o2, hb⟩
    simp only [pvS, pv]
    have hb' := hb.alloc hb.size (.cells (pvC q sa3 sc3 ta3 tc3) 31)
    replace HP := Lib.hid (HP.out.below hb' HP.out.lt)
    replace hp := hp.step hb'
    replace HB := Lib.hid (HB.out.trans (hb'.mono HB.out.size))
    replace HQ := Lib.hid (HQ.out.below hb' HQ.out.lt)
    replace hq := hq.step hb'
    have HX := Lib.hid (Blk.new w4 31 (pvC q sa3 sc3 ta3 tc3))
    have hx := (own_rd o1 o2 (by omega) (by omega)).step ((Below.refl _ w4).alloc (Nat.le_refl _) (.cells (pvC q sa3 sc3 ta3 tc3) 31))
    have zw4 : w4.heap.size = w4.heap.size := rfl
    clear hb hb' o1 o2 zw4
    go_wp2_with (first | (refine wpList_load_rowG (by rfl) 31 (.tmp 5) rfl w3.heap.size rfl 31 _ (0, 0) _ HQ.out Try.underlying31 rfl (by kernel_rfl) ?_) | (refine wpList_load_rowG (by rfl) 31 (.tmp 8) rfl w4.heap.size rfl 31 _ (0, 0) _ HX.out Try.underlying31 rfl (by kernel_rfl) ?_))
    refine (c_lalike q q _ _ _ _ _ _ _ _ _ hq hx).mono ?_
    rintro e w5 ⟨rfl, hb⟩
    rw [decide_eq_true rfl]
    clear HX hx
    replace HP := Lib.hid (HP.out.below hb HP.out.lt)
    replace hp := hp.step hb
    replace HB := Lib.hid (HB.out.trans (hb.mono HB.out.size))
    replace HQ := Lib.hid (HQ.out.below hb HQ.out.lt)
    replace hq := hq.step hb
    clear hb
    go_wp2_with (refine wpList_load_row rfl 31 (.tmp 3) rfl W.heap.size rfl 31 _ (0, 0) _ HP.out Try.underlying31 rfl (by kernel_rfl) ?_)
    refine (HCp.out _ _ _ _ _ hp).mono ?_
    rintro e w6 ⟨sa4, sc4, ta4, tc4, rfl, o1, o2, hb⟩
    replace HP := Lib.hid (HP.out.below hb HP.out.lt)
    replace hp := hp.step hb
    replace HB := Lib.hid (HB.out.trans (hb.mono HB.out.size))
    replace HQ := Lib.hid (HQ.out.below hb HQ.out.lt)
    replace hq := hq.step hb
    have hr := own_rd o1 o2 bsp btp
    clear hb o1 o2
    go_wp2_with fail
    refine (HE1.out _ _ _ _ _ hr).mono ?_
    rintro e w7 ⟨A5, c5, rfl, o5, hb⟩
    clear hr
    replace HP := Lib.hid (HP.out.below hb HP.out.lt)
    replace hp := hp.step hb
    replace HB := Lib.hid (HB.out.trans (hb.mono HB.out.size))
    replace HQ := Lib.hid (HQ.out.below hb HQ.out.lt)
    replace hq := hq.step hb
    obtain ⟨A5', c5', e5, _, ra⟩ := own_reads o5
    injection e5 with e5 _ e5'
    subst e5; subst e5'
    clear hb o5
    go_wp2_with (refine wpList_load_row rfl 31 (.tmp 5) rfl w3.heap.size rfl 31 _ (0, 0) _ HQ.out Try.underlying31 rfl (by kernel_rfl) ?_)
    refine (HCq.out _ _ _ _ _ hq).mono ?_
    rintro e w8 ⟨sa6, sc6, ta6, tc6, rfl, o1, o2, hb⟩
    replace HP := Lib.hid (HP.out.below hb HP.out.lt)
    replace hp := hp.step hb
    replace HB := Lib.hid (HB.out.trans (hb.mono HB.out.size))
    replace HQ := Lib.hid (HQ.out.below hb HQ.out.lt)
    replace hq := hq.step hb
    replace ra := ra.step hb
    have hr := own_rd o1 o2 (by omega) (by omega)
    clear hb o1 o2
    go_wp2_with fail
    refine (HE2.out _ _ _ _ _ hr).mono ?_
    rintro e w9 ⟨A7, c7, rfl, o7, hb⟩
    clear hr
    replace HP := Lib.hid (HP.out.below hb HP.out.lt)
    replace hp := hp.step hb
    replace HB := Lib.hid (HB.out.trans (hb.mono HB.out.size))
    replace HQ := Lib.hid (HQ.out.below hb HQ.out.lt)
    replace hq := hq.step hb
    replace ra := ra.step hb
    obtain ⟨A7', c7', e7, _, rb⟩ := own_reads o7
    injection e7 with e7 _ e7'
    subst e7; subst e7'
    clear hb o7
    go_wp2_with (refine wpList_load_row rfl 31 (.tmp 5) rfl w3.heap.size rfl 31 _ (0, 0) _ HQ.out Try.underlying31 rfl (by kernel_rfl) ?_)
    refine (HCq.out _ _ _ _ _ hq).mono ?_
    rintro e w10 ⟨sa8, sc8, ta8, tc8, rfl, o1, o2, hb⟩
    replace HP := Lib.hid (HP.out.below hb HP.out.lt)
    replace hp := hp.step hb
    replace HB := Lib.hid (HB.out.trans (hb.mono HB.out.size))
    replace HQ := Lib.hid (HQ.out.below hb HQ.out.lt)
    replace hq := hq.step hb
    replace ra := ra.step hb
    replace rb := rb.step hb
    have hr := own_rd o1 o2 (by omega) (by omega)
    clear hb o1 o2
    go_wp2_with fail
    refine (HT3.out _ _ _ _ _ hr).mono ?_
    rintro e w11 ⟨sa9, sc9, ta9, tc9, rfl, o1, o2, hb⟩
    clear hr
    simp only [pvS, pv]
    have hb' := hb.alloc hb.size (.cells (pvC m sa9 sc9 ta9 tc9) 31)
    replace HP := Lib.hid (HP.out.below hb' HP.out.lt)
    replace hp := hp.step hb'
    replace HB := Lib.hid (HB.out.trans (hb'.mono HB.out.size))
    replace HQ := Lib.hid (HQ.out.below hb' HQ.out.lt)
    replace hq := hq.step hb'
    replace ra := ra.step hb'
    replace rb := rb.step hb'
    have HM := Lib.hid (Blk.new w11 31 (pvC m sa9 sc9 ta9 tc9))
    have hm := (own_rd o1 o2 nsp ntp).step ((Below.refl _ w11).alloc (Nat.le_refl _) (.cells (pvC m sa9 sc9 ta9 tc9) 31))
    have zw11 : w11.heap.size = w11.heap.size := rfl
    clear hb hb' o1 o2 zw11
    go_wp2_with (refine wpList_load_row rfl 31 (.tmp 3) rfl W.heap.size rfl 31 _ (0, 0) _ HP.out Try.underlying31 rfl (by kernel_rfl) ?_)
    refine (HRn.out _ hp).mono ?_
    rintro e w12 ⟨sb1, sd1, tb1, td1, rfl, o1, o2, hb⟩
    simp only [pvS, pv]
    have hb' := hb.alloc hb.size (.cells (pvC m sb1 sd1 tb1 td1) 31)
    replace HP := Lib.hid (HP.out.below hb' HP.out.lt)
    replace hp := hp.step hb'
    replace HB := Lib.hid (HB.out.trans (hb'.mono HB.out.size))
    replace HQ := Lib.hid (HQ.out.below hb' HQ.out.lt)
    replace hq := hq.step hb'
    replace ra := ra.step hb'
    replace rb := rb.step hb'
    replace HM := Lib.hid (HM.out.below hb' HM.out.lt)
    replace hm := hm.step hb'
    have HN := Lib.hid (Blk.new w12 31 (pvC m sb1 sd1 tb1 td1))
    have hn := (own_rd o1 o2 nsp ntp).step ((Below.refl _ w12).alloc (Nat.le_refl _) (.cells (pvC m sb1 sd1 tb1 td1) 31))
    have zw12 : w12.heap.size = w12.heap.size := rfl
    clear hb hb' o1 o2 zw12
    go_wp2_with fail
    refine (c_same _ _ _ _ _ _ Z Z _ _ ra rb (by omega)).mono ?_
    rintro e w13 ⟨rfl, hb⟩
    rw [decide_eq_true rfl]
    clear ra rb
    replace HP := Lib.hid (HP.out.below hb HP.out.lt)
    replace hp := hp.step hb
    replace HB := Lib.hid (HB.out.trans (hb.mono HB.out.size))
    replace HQ := Lib.hid (HQ.out.below hb HQ.out.lt)
    replace hq := hq.step hb
    replace HM := Lib.hid (HM.out.below hb HM.out.lt)
    replace hm := hm.step hb
    replace HN := Lib.hid (HN.out.below hb HN.out.lt)
    replace hn := hn.step hb
    clear hb
    have f6 := HP.out.cell 6
    have g6 := HQ.out.cell 6
    go_wp2_with (first | (refine wpList_load_rowG (by rfl) 31 (.tmp 14) rfl w11.heap.size rfl 31 _ (0, 0) _ HM.out Try.underlying31 rfl (by kernel_rfl) ?_) | (refine wpList_load_rowG (by rfl) 31 (.tmp 17) rfl w12.heap.size rfl 31 _ (0, 0) _ HN.out Try.underlying31 rfl (by kernel_rfl) ?_))
    refine (c_lalike m m _ _ _ _ _ _ _ _ _ hm hn).mono ?_
    rintro e w14 ⟨rfl, hb⟩
    rw [decide_eq_true rfl]
    clear f6 g6
    replace HP := Lib.hid (HP.out.below hb HP.out.lt)
    replace hp := hp.step hb
    replace HB := Lib.hid (HB.out.trans (hb.mono HB.out.size))
    replace HQ := Lib.hid (HQ.out.below hb HQ.out.lt)
    replace hq := hq.step hb
    replace HM := Lib.hid (HM.out.below hb HM.out.lt)
    replace hm := hm.step hb
    replace HN := Lib.hid (HN.out.below hb HN.out.lt)
    replace hn := hn.step hb
    clear hb
    go_wp2_with fail
    go_ret
    exact ⟨by first | rfl | simp, HB.out⟩
  · have hOk2 : twOk k p = false := by simpa using hOk
    unfold TwGives at HT1 HT2
    rw [hOk2] at HT1 HT2
    clear ho hs ht hOk hOk2
    generalize twA k p = q at *
    generalize chkP k p = E at *
    simp only [pvS, pv]
    go_enter Try.func10, Try.ntmps10
    go_wp2_with fail
    refine (HAL.out _).mono ?_
    rintro e w1 ⟨rfl, hb⟩
    replace HP := Lib.hid (HP.out.below hb HP.out.lt)
    replace hp := hp.step hb
    replace HB := Lib.hid (HB.out.trans (hb.mono HB.out.size))
    clear hb
    go_wp2_with (refine wpList_load_row rfl 31 (.tmp 3) rfl W.heap.size rfl 31 _ (0, 0) _ HP.out Try.underlying31 rfl (by kernel_rfl) ?_)
    refine (HCp.out _ _ _ _ _ hp).mono ?_
    rintro e w2 ⟨sa1, sc1, ta1, tc1, rfl, o1, o2, hb⟩
    replace HP := Lib.hid (HP.out.below hb HP.out.lt)
    replace hp := hp.step hb
    replace HB := Lib.hid (HB.out.trans (hb.mono HB.out.size))
    have hr := own_rd o1 o2 bsp btp
    clear hb o1 o2
    go_wp2_with fail
    refine (HT1.out _ _ _ _ _ hr).mono ?_
    rintro e w3 ⟨sa2, sc2, ta2, tc2, rfl, o1, o2, hb⟩
    clear hr
    simp only [pvS, pv]
    have hb' := hb.alloc hb.size (.cells (pvC q sa2 sc2 ta2 tc2) 31)
    replace HP := Lib.hid (HP.out.below hb' HP.out.lt)
    replace hp := hp.step hb'
    replace HB := Lib.hid (HB.out.trans (hb'.mono HB.out.size))
    have HQ := Lib.hid (Blk.new w3 31 (pvC q sa2 sc2 ta2 tc2))
    have hq := (own_rd o1 o2 (by omega) (by omega)).step ((Below.refl _ w3).alloc (Nat.le_refl _) (.cells (pvC q sa2 sc2 ta2 tc2) 31))
    have zw3 : w3.heap.size = w3.heap.size := rfl
    clear hb hb' o1 o2 zw3
    go_wp2_with (refine wpList_load_row rfl 31 (.tmp 3) rfl W.heap.size rfl 31 _ (0, 0) _ HP.out Try.underlying31 rfl (by kernel_rfl) ?_)
    refine (HT2.out _ hp).mono ?_
    rintro e w4 ⟨sa3, sc3, ta3, tc3, rfl, o1, o2, hb⟩
    simp only [pvS, pv]
    have hb' := hb.alloc hb.size (.cells (pvC q sa3 sc3 ta3 tc3) 31)
    replace HP := Lib.hid (HP.out.below hb' HP.out.lt)
    replace hp := hp.step hb'
    replace HB := Lib.hid (HB.out.trans (hb'.mono HB.out.size))
    replace HQ := Lib.hid (HQ.out.below hb' HQ.out.lt)
    replace hq := hq.step hb'
    have HX := Lib.hid (Blk.new w4 31 (pvC q sa3 sc3 ta3 tc3))
    have hx := (own_rd o1 o2 (by omega) (by omega)).step ((Below.refl _ w4).alloc (Nat.le_refl _) (.cells (pvC q sa3 sc3 ta3 tc3) 31))
    have zw4 : w4.heap.size = w4.heap.size := rfl
    clear hb hb' o1 o2 zw4
    go_wp2_with (first | (refine wpList_load_rowG (by rfl) 31 (.tmp 5) rfl w3.heap.size rfl 31 _ (0, 0) _ HQ.out Try.underlying31 rfl (by kernel_rfl) ?_) | (refine wpList_load_rowG (by rfl) 31 (.tmp 8) rfl w4.heap.size rfl 31 _ (0, 0) _ HX.out Try.underlying31 rfl (by kernel_rfl) ?_))
    refine (c_lalike q q _ _ _ _ _ _ _ _ _ hq hx).mono ?_
    rintro e w5 ⟨rfl, hb⟩
    rw [decide_eq_true rfl]
    replace HP := Lib.hid (HP.out.below hb HP.out.lt)
    replace hp := hp.step hb
    replace HB := Lib.hid (HB.out.trans (hb.mono HB.out.size))
    replace HQ := Lib.hid (HQ.out.below hb HQ.out.lt)
    replace hq := hq.step hb
    replace HX := Lib.hid (HX.out.below hb HX.out.lt)
    replace hx := hx.step hb
    clear hb
    go_wp2_with fail
    go_ret
    exact ⟨by first | rfl | simp, HB.out⟩
theorem l_ParamTwins (W : World) (k : Int) (wk : (Lit.int .i64 k).wf = true) (d : Int) (wd : (Lit.int .i64 d).wf = true) (key : Int) (wkey : (Lit.int .i64 key).wf = true) (fo : Int) (wfo : (Lit.int .i64 fo).wf = true) (de : Int) (wde : (Lit.int .i64 de).wf = true)
    (leaf : Int) (wleaf : (Lit.int .u32 leaf).wf = true) (off : Int) (woff : (Lit.int .u64 off).wf = true) (xof : Int) (wxof : (Lit.int .u32 xof).wf = true) (nd : Int) (wnd : (Lit.int .i64 nd).wf = true) (inn : Int) (winn : (Lit.int .i64 inn).wf = true)
    (sa : Option Addr) (sn sc : Nat) (xs : List Int) (hr : RdInts W .u8 1 sa sn sc xs) (ta : Option Addr) (tn tc : Nat) (ys : List Int) (hr' : RdInts W .u8 1 ta tn tc ys) :
    Calls Try.prog 10 #[.int .i64 k, .agg #[.int .i64 d, .int .i64 key, .int .i64 fo, .int .i64 de, .int .u32 leaf, .int .u64 off, .int .u32 xof, .int .i64 nd, .int .i64 inn, .slice sa sn sc, .slice ta tn tc]] W fun e W' => e = .returned (.bool true) ∧ Below W.heap.size W W' := by
  obtain ⟨e1, e2, h1, b1, b2⟩ := RdP_of (d := d) (key := key) (fo := fo) (de := de) (leaf := leaf) (off := off) (xof := xof) (nd := nd) (inn := inn) hr hr'
  subst e1; subst e2
  exact L_Twins W k ⟨d, key, fo, de, leaf, off, xof, nd, inn, xs, ys⟩ sa sc ta tc h1 (PmOk_of wleaf woff wxof) b1 b2
end Go.Proofs.Ytbpbokcglicggaa
