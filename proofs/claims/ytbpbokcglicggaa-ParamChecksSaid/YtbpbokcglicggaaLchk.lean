/- Walk: the law ParamChecks. Conditions: none. -/
import Derived.Test.YtbpbokcglicggaaLw
namespace Go.Proofs.Ytbpbokcglicggaa
open Go.RowKit
set_option linter.unusedVariables false

set_option maxRecDepth 100000 in
set_option maxHeartbeats 4000000 in
theorem L_Checks (W : World) (k : Int) (p q : Pm) (sa : Option Addr) (sc : Nat) (ta : Option Addr) (tc : Nat) (sb : Option Addr) (sd : Nat) (tb : Option Addr) (td : Nat) (h1 : RdP W p sa sc ta tc) (h2 : RdP W q sb sd tb td)
    (hps : ∀ z ∈ p.s, 0 ≤ z ∧ z < 256) (hpt : ∀ z ∈ p.t, 0 ≤ z ∧ z < 256) (hqs : ∀ z ∈ q.s, 0 ≤ z ∧ z < 256) (hqt : ∀ z ∈ q.t, 0 ≤ z ∧ z < 256) :
    Calls Try.prog 4 #[.int .i64 k, pvS p sa sc ta tc, pvS q sb sd tb td] W fun e W' => e = .returned (.bool true) ∧ Below W.heap.size W W' := by
  have HB := Lib.hid (((Below.refl W.heap.size W).alloc (Nat.le_refl _) (.cells (pvC p sa sc ta tc) 31)).alloc (by simp) (.cells (pvC q sb sd tb td) 31))
  have HP := Lib.hid ((Blk.new W 31 (pvC p sa sc ta tc)).alloc (.cells (pvC q sb sd tb td) 31))
  have hQ0 := Blk.new (W.alloc (.cells (pvC p sa sc ta tc) 31)) 31 (pvC q sb sd tb td)
  simp only [World.size_alloc] at hQ0
  have HQ := Lib.hid hQ0
  clear hQ0
  have bsp := h1.bs
  have btp := h1.bt
  have bsq := h2.bs
  have btq := h2.bt
  have nsp : (nrm k p).s.length ≤ 140737488351232 := Nat.le_trans (nrm_len k p).1 bsp
  have ntp : (nrm k p).t.length ≤ 140737488351232 := Nat.le_trans (nrm_len k p).2 btp
  have hp := h1.step HB.out
  have hq := h2.step HB.out
  clear h1 h2
  have HCp : Hid (∀ w, RdP w p sa sc ta tc → Calls Try.prog 20 #[pvS p sa sc ta tc] w (GivesQ w p)) := fun w h => c_copied p sa sc ta tc w h
  have HCq : Hid (∀ w, RdP w q sb sd tb td → Calls Try.prog 20 #[pvS q sb sd tb td] w (GivesQ w q)) := fun w h => c_copied q sb sd tb td w h
  have HCk : Hid (∀ sa sc ta tc w, Calls Try.prog 19 #[.int .i64 k, pvS p sa sc ta tc] w (fun e w' => e = .returned (.int .i64 (chkP k p)) ∧ Below w.heap.size w w')) := fun sa sc ta tc w => c_CheckP k p sa sc ta tc w
  have HRk : Hid (∀ w, Calls Try.prog 21 #[.int .i64 k, pvS p sa sc ta tc] w (fun e w' => e = .returned (.int .i64 (chkP k p)) ∧ Below w.heap.size w w')) := fun w => c_rCheckP k p sa sc ta tc w
  have HNo : Hid (∀ sa sc ta tc w, RdP w p sa sc ta tc → Calls Try.prog 22 #[.int .i64 k, pvS p sa sc ta tc] w (GivesP w (nrm k p) (chkP k p))) := fun sa sc ta tc w h => c_Normal k p sa sc ta tc w h
  have HRn : Hid (∀ w, RdP w p sa sc ta tc → Calls Try.prog 23 #[.int .i64 k, pvS p sa sc ta tc] w (GivesP w (nrm k p) (chkP k p))) := fun w h => c_rNormal k p sa sc ta tc w h
  have HSm : Hid (∀ sa sc ta tc sb sd tb td w, RdP w p sa sc ta tc → RdP w q sb sd tb td → Calls Try.prog 24 #[.int .i64 k, pvS p sa sc ta tc, pvS q sb sd tb td] w (fun e w' => e = .returned (.tuple #[.bool (smB k p q), .int .i64 (smE k p q)]) ∧ Below w.heap.size w w')) := fun sa sc ta tc sb sd tb td w h h' => c_Same k p q sa sb ta tb sc sd tc td w h h' hps hpt hqs hqt
  have HRs : Hid (∀ w, RdP w p sa sc ta tc → RdP w q sb sd tb td → Calls Try.prog 25 #[.int .i64 k, pvS p sa sc ta tc, pvS q sb sd tb td] w (fun e w' => e = .returned (.tuple #[.bool (smB k p q), .int .i64 (smE k p q)]) ∧ Below w.heap.size w w')) := fun w h h' => c_rSame k p q sa sb ta tb sc sd tc td w h h'
  clear hps hpt hqs hqt
  generalize smB k p q = SB at *
  generalize smE k p q = SE at *
  generalize nrm k p = N at *
  generalize chkP k p = E at *
  simp only [pvS, pv]
  go_enter Try.func4, Try.ntmps4
  go_upto_region 1 with fail
  go_cut [20] (fun s wx => s = .bool false ∧ Blk wx W.heap.size 31 (pvC p sa sc ta tc) ∧ Blk wx (W.heap.size + 1) 31 (pvC q sb sd tb td) ∧ RdP wx p sa sc ta tc ∧ RdP wx q sb sd tb td ∧ Below W.heap.size W wx)
  case first =>
    refine wp_region_any (by kernel_rfl) ?_
    try (change wpAny _ _ _ _ _ _ _ (World.drew _))
    replace HP := Lib.hid HP.out.drew
    replace HQ := Lib.hid HQ.out.drew
    replace hp := hp.drew
    replace hq := hq.drew
    replace HB := Lib.hid HB.out.drew
    refine wpAny_take (i := 0) (v := .int .i64 k) rfl (by kernel_rfl) (by kernel_rfl) (by kernel_rfl) (fun _ _ _ h => h) (Or.inl ⟨by rfl, fun w => by go_simp⟩) ?_
    refine wpAny_take (i := 4) (v := .int .i64 k) rfl (by kernel_rfl) (by kernel_rfl) (by kernel_rfl) (fun _ _ _ h => h) (Or.inl ⟨by rfl, fun w => by go_simp⟩) ?_
    refine wpAny_ready (rs := [1, 5]) (by kernel_rfl) (by simp) ?_
    refine AllReady.cons rfl (fun K hK => ?_) ?_
    · refine step_load_row rfl 31 (.tmp 4) rfl W.heap.size rfl HP.out _ Try.underlying31 rfl (by kernel_rfl) ?_
      refine hK _ _ ?_
      clear hK K
      refine wpAny_ready (rs := [2, 5]) (by kernel_rfl) (by simp) ?_
      refine AllReady.cons rfl (fun K hK => ?_) ?_
      · go_simp
        refine (HCp.out _ hp).mono ?_
        rintro e w1 ⟨sa1, sc1, ta1, tc1, rfl, o1, o2, hb⟩
        replace HP := Lib.hid (HP.out.below hb HP.out.lt)
        replace HQ := Lib.hid (HQ.out.below hb HQ.out.lt)
        replace hp := hp.step hb
        replace hq := hq.step hb
        replace HB := Lib.hid (HB.out.trans (hb.mono HB.out.size))
        have hr := own_rd o1 o2 bsp btp
        clear hb o1 o2
        go_simp
        refine hK _ _ ?_
        clear hK K
        refine wpAny_ready (rs := [3, 5]) (by kernel_rfl) (by simp) ?_
        refine AllReady.cons rfl (fun K hK => ?_) ?_
        · go_simp
          refine (HCk.out _ _ _ _ _).mono ?_
          rintro e w2 ⟨rfl, hb⟩
          replace HP := Lib.hid (HP.out.below hb HP.out.lt)
          replace HQ := Lib.hid (HQ.out.below hb HQ.out.lt)
          replace hp := hp.step hb
          replace hq := hq.step hb
          replace HB := Lib.hid (HB.out.trans (hb.mono HB.out.size))
          replace hr := hr.step hb
          clear hb
          go_simp
          refine hK _ _ ?_
          clear hK K
          refine wpAny_ready (rs := [5]) (by kernel_rfl) (by simp) ?_
          refine AllReady.cons rfl (fun K hK => ?_) ?_
          · refine step_load_row rfl 31 (.tmp 4) rfl W.heap.size rfl HP.out _ Try.underlying31 rfl (by kernel_rfl) ?_
            refine hK _ _ ?_
            clear hK K
            refine wpAny_ready (rs := [6]) (by kernel_rfl) (by simp) ?_
            refine AllReady.cons rfl (fun K hK => ?_) ?_
            · go_simp
              refine (HRk.out _).mono ?_
              rintro e w3 ⟨rfl, hb⟩
              replace HP := Lib.hid (HP.out.below hb HP.out.lt)
              replace HQ := Lib.hid (HQ.out.below hb HQ.out.lt)
              replace hp := hp.step hb
              replace hq := hq.step hb
              replace HB := Lib.hid (HB.out.trans (hb.mono HB.out.size))
              replace hr := hr.step hb
              clear hb
              go_simp
              refine hK _ _ ?_
              clear hK K
              refine wpAny_ready (rs := [7]) (by kernel_rfl) (by simp) ?_
              refine AllReady.cons rfl (fun K hK => ?_) ?_
              · go_simp
                refine hK _ _ ?_
                clear hK K
                refine wpAny_done (by kernel_rfl) ?_ _
                go_wp2_with fail
                go_meet
                exact ⟨by first | rfl | simp, HP.out, HQ.out, hp, hq, HB.out⟩
              exact AllReady.nil
            exact AllReady.nil
          exact AllReady.nil
        refine AllReady.cons rfl (fun K hK => ?_) ?_
        · refine step_load_row rfl 31 (.tmp 4) rfl W.heap.size rfl HP.out _ Try.underlying31 rfl (by kernel_rfl) ?_
          refine hK _ _ ?_
          clear hK K
          refine wpAny_ready (rs := [3]) (by kernel_rfl) (by simp) ?_
          refine AllReady.cons rfl (fun K hK => ?_) ?_
          · go_simp
            refine (HCk.out _ _ _ _ _).mono ?_
            rintro e w2 ⟨rfl, hb⟩
            replace HP := Lib.hid (HP.out.below hb HP.out.lt)
            replace HQ := Lib.hid (HQ.out.below hb HQ.out.lt)
            replace hp := hp.step hb
            replace hq := hq.step hb
            replace HB := Lib.hid (HB.out.trans (hb.mono HB.out.size))
            replace hr := hr.step hb
            clear hb
            go_simp
            refine hK _ _ ?_
            clear hK K
            refine wpAny_ready (rs := [6]) (by kernel_rfl) (by simp) ?_
            refine AllReady.cons rfl (fun K hK => ?_) ?_
            · go_simp
              refine (HRk.out _).mono ?_
              rintro e w3 ⟨rfl, hb⟩
              replace HP := Lib.hid (HP.out.below hb HP.out.lt)
              replace HQ := Lib.hid (HQ.out.below hb HQ.out.lt)
              replace hp := hp.step hb
              replace hq := hq.step hb
              replace HB := Lib.hid (HB.out.trans (hb.mono HB.out.size))
              replace hr := hr.step hb
              clear hb
              go_simp
              refine hK _ _ ?_
              clear hK K
              refine wpAny_ready (rs := [7]) (by kernel_rfl) (by simp) ?_
              refine AllReady.cons rfl (fun K hK => ?_) ?_
              · go_simp
                refine hK _ _ ?_
                clear hK K
                refine wpAny_done (by kernel_rfl) ?_ _
                go_wp2_with fail
                go_meet
                exact ⟨by first | rfl | simp, HP.out, HQ.out, hp, hq, HB.out⟩
              exact AllReady.nil
            exact AllReady.nil
          exact AllReady.nil
        exact AllReady.nil
      refine AllReady.cons rfl (fun K hK => ?_) ?_
      · refine step_load_row rfl 31 (.tmp 4) rfl W.heap.size rfl HP.out _ Try.underlying31 rfl (by kernel_rfl) ?_
        refine hK _ _ ?_
        clear hK K
        refine wpAny_ready (rs := [2]) (by kernel_rfl) (by simp) ?_
        refine AllReady.cons rfl (fun K hK => ?_) ?_
        · go_simp
          refine (HCp.out _ hp).mono ?_
          rintro e w1 ⟨sa1, sc1, ta1, tc1, rfl, o1, o2, hb⟩
          replace HP := Lib.hid (HP.out.below hb HP.out.lt)
          replace HQ := Lib.hid (HQ.out.below hb HQ.out.lt)
          replace hp := hp.step hb
          replace hq := hq.step hb
          replace HB := Lib.hid (HB.out.trans (hb.mono HB.out.size))
          have hr := own_rd o1 o2 bsp btp
          clear hb o1 o2
          go_simp
          refine hK _ _ ?_
          clear hK K
          refine wpAny_ready (rs := [3]) (by kernel_rfl) (by simp) ?_
          refine AllReady.cons rfl (fun K hK => ?_) ?_
          · go_simp
            refine (HCk.out _ _ _ _ _).mono ?_
            rintro e w2 ⟨rfl, hb⟩
            replace HP := Lib.hid (HP.out.below hb HP.out.lt)
            replace HQ := Lib.hid (HQ.out.below hb HQ.out.lt)
            replace hp := hp.step hb
            replace hq := hq.step hb
            replace HB := Lib.hid (HB.out.trans (hb.mono HB.out.size))
            replace hr := hr.step hb
            clear hb
            go_simp
            refine hK _ _ ?_
            clear hK K
            refine wpAny_ready (rs := [6]) (by kernel_rfl) (by simp) ?_
            refine AllReady.cons rfl (fun K hK => ?_) ?_
            · go_simp
              refine (HRk.out _).mono ?_
              rintro e w3 ⟨rfl, hb⟩
              replace HP := Lib.hid (HP.out.below hb HP.out.lt)
              replace HQ := Lib.hid (HQ.out.below hb HQ.out.lt)
              replace hp := hp.step hb
              replace hq := hq.step hb
              replace HB := Lib.hid (HB.out.trans (hb.mono HB.out.size))
              replace hr := hr.step hb
              clear hb
              go_simp
              refine hK _ _ ?_
              clear hK K
              refine wpAny_ready (rs := [7]) (by kernel_rfl) (by simp) ?_
              refine AllReady.cons rfl (fun K hK => ?_) ?_
              · go_simp
                refine hK _ _ ?_
                clear hK K
                refine wpAny_done (by kernel_rfl) ?_ _
                go_wp2_with fail
                go_meet
                exact ⟨by first | rfl | simp, HP.out, HQ.out, hp, hq, HB.out⟩
              exact AllReady.nil
            exact AllReady.nil
          exact AllReady.nil
        exact AllReady.nil
      exact AllReady.nil
    refine AllReady.cons rfl (fun K hK => ?_) ?_
    · refine step_load_row rfl 31 (.tmp 4) rfl W.heap.size rfl HP.out _ Try.underlying31 rfl (by kernel_rfl) ?_
      refine hK _ _ ?_
      clear hK K
      refine wpAny_ready (rs := [1]) (by kernel_rfl) (by simp) ?_
      refine AllReady.cons rfl (fun K hK => ?_) ?_
      · refine step_load_row rfl 31 (.tmp 4) rfl W.heap.size rfl HP.out _ Try.underlying31 rfl (by kernel_rfl) ?_
        refine hK _ _ ?_
        clear hK K
        refine wpAny_ready (rs := [2]) (by kernel_rfl) (by simp) ?_
        refine AllReady.cons rfl (fun K hK => ?_) ?_
        · go_simp
          refine (HCp.out _ hp).mono ?_
          rintro e w1 ⟨sa1, sc1, ta1, tc1, rfl, o1, o2, hb⟩
          replace HP := Lib.hid (HP.out.below hb HP.out.lt)
          replace HQ := Lib.hid (HQ.out.below hb HQ.out.lt)
          replace hp := hp.step hb
          replace hq := hq.step hb
          replace HB := Lib.hid (HB.out.trans (hb.mono HB.out.size))
          have hr := own_rd o1 o2 bsp btp
          clear hb o1 o2
          go_simp
          refine hK _ _ ?_
          clear hK K
          refine wpAny_ready (rs := [3]) (by kernel_rfl) (by simp) ?_
          refine AllReady.cons rfl (fun K hK => ?_) ?_
          · go_simp
            refine (HCk.out _ _ _ _ _).mono ?_
            rintro e w2 ⟨rfl, hb⟩
            replace HP := Lib.hid (HP.out.below hb HP.out.lt)
            replace HQ := Lib.hid (HQ.out.below hb HQ.out.lt)
            replace hp := hp.step hb
            replace hq := hq.step hb
            replace HB := Lib.hid (HB.out.trans (hb.mono HB.out.size))
            replace hr := hr.step hb
            clear hb
            go_simp
            refine hK _ _ ?_
            clear hK K
            refine wpAny_ready (rs := [6]) (by kernel_rfl) (by simp) ?_
            refine AllReady.cons rfl (fun K hK => ?_) ?_
            · go_simp
              refine (HRk.out _).mono ?_
              rintro e w3 ⟨rfl, hb⟩
              replace HP := Lib.hid (HP.out.below hb HP.out.lt)
              replace HQ := Lib.hid (HQ.out.below hb HQ.out.lt)
              replace hp := hp.step hb
              replace hq := hq.step hb
              replace HB := Lib.hid (HB.out.trans (hb.mono HB.out.size))
              replace hr := hr.step hb
              clear hb
              go_simp
              refine hK _ _ ?_
              clear hK K
              refine wpAny_ready (rs := [7]) (by kernel_rfl) (by simp) ?_
              refine AllReady.cons rfl (fun K hK => ?_) ?_
              · go_simp
                refine hK _ _ ?_
                clear hK K
                refine wpAny_done (by kernel_rfl) ?_ _
                go_wp2_with fail
                go_meet
                exact ⟨by first | rfl | simp, HP.out, HQ.out, hp, hq, HB.out⟩
              exact AllReady.nil
            exact AllReady.nil
          exact AllReady.nil
        exact AllReady.nil
      exact AllReady.nil
    exact AllReady.nil
  case rest =>
    obtain ⟨rfl, hP, hQ, hp1, hq1, hB⟩ := hcut
    clear HP HQ HB hp hq
    have HP := Lib.hid hP
    have HQ := Lib.hid hQ
    have HB := Lib.hid hB
    have hp := hp1
    have hq := hq1
    clear hP hQ hB hp1 hq1
    go_wp2_with (refine wpList_load_row rfl 31 (.tmp 4) rfl W.heap.size rfl 31 _ (0, 0) _ HP.out Try.underlying31 rfl (by kernel_rfl) ?_)
    refine (HCp.out _ hp).mono ?_
    rintro e w1 ⟨sa1, sc1, ta1, tc1, rfl, o1, o2, hb⟩
    replace HP := Lib.hid (HP.out.below hb HP.out.lt)
    replace HQ := Lib.hid (HQ.out.below hb HQ.out.lt)
    replace hp := hp.step hb
    replace hq := hq.step hb
    replace HB := Lib.hid (HB.out.trans (hb.mono HB.out.size))
    have hr := own_rd o1 o2 bsp btp
    clear hb o1 o2
    go_wp2_with fail
    refine (HNo.out _ _ _ _ _ hr).mono ?_
    rintro e w2 ⟨sa2, sc2, ta2, tc2, rfl, o1, o2, hb⟩
    clear hr
    simp only [pvS, pv]
    have hb' := hb.alloc hb.size (.cells (pvC N sa2 sc2 ta2 tc2) 31)
    replace HP := Lib.hid (HP.out.below hb' HP.out.lt)
    replace HQ := Lib.hid (HQ.out.below hb' HQ.out.lt)
    replace hp := hp.step hb'
    replace hq := hq.step hb'
    replace HB := Lib.hid (HB.out.trans (hb'.mono HB.out.size))
    have HA := Lib.hid (Blk.new w2 31 (pvC N sa2 sc2 ta2 tc2))
    have ha := (own_rd o1 o2 nsp ntp).step ((Below.refl _ w2).alloc (Nat.le_refl _) (.cells (pvC N sa2 sc2 ta2 tc2) 31))
    have zw2 : w2.heap.size = w2.heap.size := rfl
    clear hb hb' o1 o2 zw2
    go_wp2_with (refine wpList_load_row rfl 31 (.tmp 4) rfl W.heap.size rfl 31 _ (0, 0) _ HP.out Try.underlying31 rfl (by kernel_rfl) ?_)
    refine (HRn.out _ hp).mono ?_
    rintro e w3 ⟨sa3, sc3, ta3, tc3, rfl, o1, o2, hb⟩
    simp only [pvS, pv]
    have hb' := hb.alloc hb.size (.cells (pvC N sa3 sc3 ta3 tc3) 31)
    replace HP := Lib.hid (HP.out.below hb' HP.out.lt)
    replace HQ := Lib.hid (HQ.out.below hb' HQ.out.lt)
    replace hp := hp.step hb'
    replace hq := hq.step hb'
    replace HB := Lib.hid (HB.out.trans (hb'.mono HB.out.size))
    replace HA := Lib.hid (HA.out.below hb' HA.out.lt)
    replace ha := ha.step hb'
    have HC := Lib.hid (Blk.new w3 31 (pvC N sa3 sc3 ta3 tc3))
    have hc := (own_rd o1 o2 nsp ntp).step ((Below.refl _ w3).alloc (Nat.le_refl _) (.cells (pvC N sa3 sc3 ta3 tc3) 31))
    have zw3 : w3.heap.size = w3.heap.size := rfl
    clear hb hb' o1 o2 zw3
    go_wp2_with (first | (refine wpList_load_rowG (by rfl) 31 (.tmp 7) rfl w2.heap.size rfl 31 _ (0, 0) _ HA.out Try.underlying31 rfl (by kernel_rfl) ?_) | (refine wpList_load_rowG (by rfl) 31 (.tmp 9) rfl w3.heap.size rfl 31 _ (0, 0) _ HC.out Try.underlying31 rfl (by kernel_rfl) ?_))
    refine (c_lalike N N _ _ _ _ _ _ _ _ _ ha hc).mono ?_
    rintro e w4 ⟨rfl, hb⟩
    rw [decide_eq_true rfl]
    clear HA HC ha hc
    replace HP := Lib.hid (HP.out.below hb HP.out.lt)
    replace HQ := Lib.hid (HQ.out.below hb HQ.out.lt)
    replace hp := hp.step hb
    replace hq := hq.step hb
    replace HB := Lib.hid (HB.out.trans (hb.mono HB.out.size))
    clear hb
    go_upto_region 7 with fail
    go_cut [8, 11] (fun s8 s11 wx => (s8 = .int .i64 SE ∧ s11 = .bool SB) ∧ Blk wx W.heap.size 31 (pvC p sa sc ta tc) ∧ Blk wx (W.heap.size + 1) 31 (pvC q sb sd tb td) ∧ RdP wx p sa sc ta tc ∧ RdP wx q sb sd tb td ∧ Below W.heap.size W wx)
    case first =>
      refine wp_region_any (by kernel_rfl) ?_
      try (change wpAny _ _ _ _ _ _ _ (World.drew _))
      replace HP := Lib.hid HP.out.drew
      replace HQ := Lib.hid HQ.out.drew
      replace hp := hp.drew
      replace hq := hq.drew
      replace HB := Lib.hid HB.out.drew
      refine wpAny_take (i := 0) (v := .int .i64 k) rfl (by kernel_rfl) (by kernel_rfl) (by kernel_rfl) (fun _ _ _ h => h) (Or.inl ⟨by rfl, fun w => by go_simp⟩) ?_
      refine wpAny_ready (rs := [1, 3]) (by kernel_rfl) (by simp) ?_
      refine AllReady.cons rfl (fun K hK => ?_) ?_
      · refine step_load_row rfl 31 (.tmp 4) rfl W.heap.size rfl HP.out _ Try.underlying31 rfl (by kernel_rfl) ?_
        refine hK _ _ ?_
        clear hK K
        refine wpAny_ready (rs := [2, 3]) (by kernel_rfl) (by simp) ?_
        refine AllReady.cons rfl (fun K hK => ?_) ?_
        · go_simp
          refine (HCp.out _ hp).mono ?_
          rintro e w5 ⟨sa4, sc4, ta4, tc4, rfl, o1, o2, hb⟩
          replace HP := Lib.hid (HP.out.below hb HP.out.lt)
          replace HQ := Lib.hid (HQ.out.below hb HQ.out.lt)
          replace hp := hp.step hb
          replace hq := hq.step hb
          replace HB := Lib.hid (HB.out.trans (hb.mono HB.out.size))
          have hr := own_rd o1 o2 bsp btp
          clear hb o1 o2
          go_simp
          refine hK _ _ ?_
          clear hK K
          refine wpAny_ready (rs := [3]) (by kernel_rfl) (by simp) ?_
          refine AllReady.cons rfl (fun K hK => ?_) ?_
          · refine step_load_row rfl 31 (.tmp 5) rfl (W.heap.size + 1) rfl HQ.out _ Try.underlying31 rfl (by kernel_rfl) ?_
            refine hK _ _ ?_
            clear hK K
            refine wpAny_ready (rs := [4]) (by kernel_rfl) (by simp) ?_
            refine AllReady.cons rfl (fun K hK => ?_) ?_
            · go_simp
              refine (HCq.out _ hq).mono ?_
              rintro e w6 ⟨sa5, sc5, ta5, tc5, rfl, o1, o2, hb⟩
              replace HP := Lib.hid (HP.out.below hb HP.out.lt)
              replace HQ := Lib.hid (HQ.out.below hb HQ.out.lt)
              replace hp := hp.step hb
              replace hq := hq.step hb
              replace HB := Lib.hid (HB.out.trans (hb.mono HB.out.size))
              replace hr := hr.step hb
              have hs := own_rd o1 o2 bsq btq
              clear hb o1 o2
              go_simp
              refine hK _ _ ?_
              clear hK K
              refine wpAny_ready (rs := [5]) (by kernel_rfl) (by simp) ?_
              refine AllReady.cons rfl (fun K hK => ?_) ?_
              · go_simp
                refine (HSm.out _ _ _ _ _ _ _ _ _ hr hs).mono ?_
                rintro e w7 ⟨rfl, hb⟩
                replace HP := Lib.hid (HP.out.below hb HP.out.lt)
                replace HQ := Lib.hid (HQ.out.below hb HQ.out.lt)
                replace hp := hp.step hb
                replace hq := hq.step hb
                replace HB := Lib.hid (HB.out.trans (hb.mono HB.out.size))
                replace hr := hr.step hb
                replace hs := hs.step hb
                clear hb
                go_simp
                refine hK _ _ ?_
                clear hK K
                refine wpAny_ready (rs := [6]) (by kernel_rfl) (by simp) ?_
                refine AllReady.cons rfl (fun K hK => ?_) ?_
                · go_simp
                  refine hK _ _ ?_
                  clear hK K
                  refine wpAny_ready (rs := [7, 8]) (by kernel_rfl) (by simp) ?_
                  refine AllReady.cons rfl (fun K hK => ?_) ?_
                  · go_simp
                    refine hK _ _ ?_
                    clear hK K
                    refine wpAny_ready (rs := [8, 9]) (by kernel_rfl) (by simp) ?_
                    refine AllReady.cons rfl (fun K hK => ?_) ?_
                    · go_simp
                      refine hK _ _ ?_
                      clear hK K
                      refine wpAny_ready (rs := [9]) (by kernel_rfl) (by simp) ?_
                      refine AllReady.cons rfl (fun K hK => ?_) ?_
                      · go_simp
                        refine hK _ _ ?_
                        clear hK K
                        refine wpAny_ready (rs := [10]) (by kernel_rfl) (by simp) ?_
                        refine AllReady.cons rfl (fun K hK => ?_) ?_
                        · go_simp
                          refine hK _ _ ?_
                          clear hK K
                          refine wpAny_done (by kernel_rfl) ?_ _
                          go_wp2_with fail
                          go_meet
                          exact ⟨⟨rfl, rfl⟩, HP.out, HQ.out, hp, hq, HB.out⟩
                        exact AllReady.nil
                      exact AllReady.nil
                    refine AllReady.cons rfl (fun K hK => ?_) ?_
                    · go_simp
                      refine hK _ _ ?_
                      clear hK K
                      refine wpAny_ready (rs := [8]) (by kernel_rfl) (by simp) ?_
                      refine AllReady.cons rfl (fun K hK => ?_) ?_
                      · go_simp
                        refine hK _ _ ?_
                        clear hK K
                        refine wpAny_ready (rs := [10]) (by kernel_rfl) (by simp) ?_
                        refine AllReady.cons rfl (fun K hK => ?_) ?_
                        · go_simp
                          refine hK _ _ ?_
                          clear hK K
                          refine wpAny_done (by kernel_rfl) ?_ _
                          go_wp2_with fail
                          go_meet
                          exact ⟨⟨rfl, rfl⟩, HP.out, HQ.out, hp, hq, HB.out⟩
                        exact AllReady.nil
                      exact AllReady.nil
                    exact AllReady.nil
                  refine AllReady.cons rfl (fun K hK => ?_) ?_
                  · go_simp
                    refine hK _ _ ?_
                    clear hK K
                    refine wpAny_ready (rs := [7]) (by kernel_rfl) (by simp) ?_
                    refine AllReady.cons rfl (fun K hK => ?_) ?_
                    · go_simp
                      refine hK _ _ ?_
                      clear hK K
                      refine wpAny_ready (rs := [9]) (by kernel_rfl) (by simp) ?_
                      refine AllReady.cons rfl (fun K hK => ?_) ?_
                      · go_simp
                        refine hK _ _ ?_
                        clear hK K
                        refine wpAny_ready (rs := [10]) (by kernel_rfl) (by simp) ?_
                        refine AllReady.cons rfl (fun K hK => ?_) ?_
                        · go_simp
                          refine hK _ _ ?_
                          clear hK K
                          refine wpAny_done (by kernel_rfl) ?_ _
                          go_wp2_with fail
                          go_meet
                          exact ⟨⟨rfl, rfl⟩, HP.out, HQ.out, hp, hq, HB.out⟩
                        exact AllReady.nil
                      exact AllReady.nil
                    exact AllReady.nil
                  exact AllReady.nil
                exact AllReady.nil
              exact AllReady.nil
            exact AllReady.nil
          exact AllReady.nil
        refine AllReady.cons rfl (fun K hK => ?_) ?_
        · refine step_load_row rfl 31 (.tmp 5) rfl (W.heap.size + 1) rfl HQ.out _ Try.underlying31 rfl (by kernel_rfl) ?_
          refine hK _ _ ?_
          clear hK K
          refine wpAny_ready (rs := [2]) (by kernel_rfl) (by simp) ?_
          refine AllReady.cons rfl (fun K hK => ?_) ?_
          · go_simp
            refine (HCp.out _ hp).mono ?_
            rintro e w5 ⟨sa4, sc4, ta4, tc4, rfl, o1, o2, hb⟩
            replace HP := Lib.hid (HP.out.below hb HP.out.lt)
            replace HQ := Lib.hid (HQ.out.below hb HQ.out.lt)
            replace hp := hp.step hb
            replace hq := hq.step hb
            replace HB := Lib.hid (HB.out.trans (hb.mono HB.out.size))
            have hr := own_rd o1 o2 bsp btp
            clear hb o1 o2
            go_simp
            refine hK _ _ ?_
            clear hK K
            refine wpAny_ready (rs := [4]) (by kernel_rfl) (by simp) ?_
            refine AllReady.cons rfl (fun K hK => ?_) ?_
            · go_simp
              refine (HCq.out _ hq).mono ?_
              rintro e w6 ⟨sa5, sc5, ta5, tc5, rfl, o1, o2, hb⟩
              replace HP := Lib.hid (HP.out.below hb HP.out.lt)
              replace HQ := Lib.hid (HQ.out.below hb HQ.out.lt)
              replace hp := hp.step hb
              replace hq := hq.step hb
              replace HB := Lib.hid (HB.out.trans (hb.mono HB.out.size))
              replace hr := hr.step hb
              have hs := own_rd o1 o2 bsq btq
              clear hb o1 o2
              go_simp
              refine hK _ _ ?_
              clear hK K
              refine wpAny_ready (rs := [5]) (by kernel_rfl) (by simp) ?_
              refine AllReady.cons rfl (fun K hK => ?_) ?_
              · go_simp
                refine (HSm.out _ _ _ _ _ _ _ _ _ hr hs).mono ?_
                rintro e w7 ⟨rfl, hb⟩
                replace HP := Lib.hid (HP.out.below hb HP.out.lt)
                replace HQ := Lib.hid (HQ.out.below hb HQ.out.lt)
                replace hp := hp.step hb
                replace hq := hq.step hb
                replace HB := Lib.hid (HB.out.trans (hb.mono HB.out.size))
                replace hr := hr.step hb
                replace hs := hs.step hb
                clear hb
                go_simp
                refine hK _ _ ?_
                clear hK K
                refine wpAny_ready (rs := [6]) (by kernel_rfl) (by simp) ?_
                refine AllReady.cons rfl (fun K hK => ?_) ?_
                · go_simp
                  refine hK _ _ ?_
                  clear hK K
                  refine wpAny_ready (rs := [7, 8]) (by kernel_rfl) (by simp) ?_
                  refine AllReady.cons rfl (fun K hK => ?_) ?_
                  · go_simp
                    refine hK _ _ ?_
                    clear hK K
                    refine wpAny_ready (rs := [8, 9]) (by kernel_rfl) (by simp) ?_
                    refine AllReady.cons rfl (fun K hK => ?_) ?_
                    · go_simp
                      refine hK _ _ ?_
                      clear hK K
                      refine wpAny_ready (rs := [9]) (by kernel_rfl) (by simp) ?_
                      refine AllReady.cons rfl (fun K hK => ?_) ?_
                      · go_simp
                        refine hK _ _ ?_
                        clear hK K
                        refine wpAny_ready (rs := [10]) (by kernel_rfl) (by simp) ?_
                        refine AllReady.cons rfl (fun K hK => ?_) ?_
                        · go_simp
                          refine hK _ _ ?_
                          clear hK K
                          refine wpAny_done (by kernel_rfl) ?_ _
                          go_wp2_with fail
                          go_meet
                          exact ⟨⟨rfl, rfl⟩, HP.out, HQ.out, hp, hq, HB.out⟩
                        exact AllReady.nil
                      exact AllReady.nil
                    refine AllReady.cons rfl (fun K hK => ?_) ?_
                    · go_simp
                      refine hK _ _ ?_
                      clear hK K
                      refine wpAny_ready (rs := [8]) (by kernel_rfl) (by simp) ?_
                      refine AllReady.cons rfl (fun K hK => ?_) ?_
                      · go_simp
                        refine hK _ _ ?_
                        clear hK K
                        refine wpAny_ready (rs := [10]) (by kernel_rfl) (by simp) ?_
                        refine AllReady.cons rfl (fun K hK => ?_) ?_
                        · go_simp
                          refine hK _ _ ?_
                          clear hK K
                          refine wpAny_done (by kernel_rfl) ?_ _
                          go_wp2_with fail
                          go_meet
                          exact ⟨⟨rfl, rfl⟩, HP.out, HQ.out, hp, hq, HB.out⟩
                        exact AllReady.nil
                      exact AllReady.nil
                    exact AllReady.nil
                  refine AllReady.cons rfl (fun K hK => ?_) ?_
                  · go_simp
                    refine hK _ _ ?_
                    clear hK K
                    refine wpAny_ready (rs := [7]) (by kernel_rfl) (by simp) ?_
                    refine AllReady.cons rfl (fun K hK => ?_) ?_
                    · go_simp
                      refine hK _ _ ?_
                      clear hK K
                      refine wpAny_ready (rs := [9]) (by kernel_rfl) (by simp) ?_
                      refine AllReady.cons rfl (fun K hK => ?_) ?_
                      · go_simp
                        refine hK _ _ ?_
                        clear hK K
                        refine wpAny_ready (rs := [10]) (by kernel_rfl) (by simp) ?_
                        refine AllReady.cons rfl (fun K hK => ?_) ?_
                        · go_simp
                          refine hK _ _ ?_
                          clear hK K
                          refine wpAny_done (by kernel_rfl) ?_ _
                          go_wp2_with fail
                          go_meet
                          exact ⟨⟨rfl, rfl⟩, HP.out, HQ.out, hp, hq, HB.out⟩
                        exact AllReady.nil
                      exact AllReady.nil
                    exact AllReady.nil
                  exact AllReady.nil
                exact AllReady.nil
              exact AllReady.nil
            exact AllReady.nil
          exact AllReady.nil
        exact AllReady.nil
      refine AllReady.cons rfl (fun K hK => ?_) ?_
      · refine step_load_row rfl 31 (.tmp 5) rfl (W.heap.size + 1) rfl HQ.out _ Try.underlying31 rfl (by kernel_rfl) ?_
        refine hK _ _ ?_
        clear hK K
        refine wpAny_ready (rs := [1]) (by kernel_rfl) (by simp) ?_
        refine AllReady.cons rfl (fun K hK => ?_) ?_
        · refine step_load_row rfl 31 (.tmp 4) rfl W.heap.size rfl HP.out _ Try.underlying31 rfl (by kernel_rfl) ?_
          refine hK _ _ ?_
          clear hK K
          refine wpAny_ready (rs := [2]) (by kernel_rfl) (by simp) ?_
          refine AllReady.cons rfl (fun K hK => ?_) ?_
          · go_simp
            refine (HCp.out _ hp).mono ?_
            rintro e w5 ⟨sa4, sc4, ta4, tc4, rfl, o1, o2, hb⟩
            replace HP := Lib.hid (HP.out.below hb HP.out.lt)
            replace HQ := Lib.hid (HQ.out.below hb HQ.out.lt)
            replace hp := hp.step hb
            replace hq := hq.step hb
            replace HB := Lib.hid (HB.out.trans (hb.mono HB.out.size))
            have hr := own_rd o1 o2 bsp btp
            clear hb o1 o2
            go_simp
            refine hK _ _ ?_
            clear hK K
            refine wpAny_ready (rs := [4]) (by kernel_rfl) (by simp) ?_
            refine AllReady.cons rfl (fun K hK => ?_) ?_
            · go_simp
              refine (HCq.out _ hq).mono ?_
              rintro e w6 ⟨sa5, sc5, ta5, tc5, rfl, o1, o2, hb⟩
              replace HP := Lib.hid (HP.out.below hb HP.out.lt)
              replace HQ := Lib.hid (HQ.out.below hb HQ.out.lt)
              replace hp := hp.step hb
              replace hq := hq.step hb
              replace HB := Lib.hid (HB.out.trans (hb.mono HB.out.size))
              replace hr := hr.step hb
              have hs := own_rd o1 o2 bsq btq
              clear hb o1 o2
              go_simp
              refine hK _ _ ?_
              clear hK K
              refine wpAny_ready (rs := [5]) (by kernel_rfl) (by simp) ?_
              refine AllReady.cons rfl (fun K hK => ?_) ?_
              · go_simp
                refine (HSm.out _ _ _ _ _ _ _ _ _ hr hs).mono ?_
                rintro e w7 ⟨rfl, hb⟩
                replace HP := Lib.hid (HP.out.below hb HP.out.lt)
                replace HQ := Lib.hid (HQ.out.below hb HQ.out.lt)
                replace hp := hp.step hb
                replace hq := hq.step hb
                replace HB := Lib.hid (HB.out.trans (hb.mono HB.out.size))
                replace hr := hr.step hb
                replace hs := hs.step hb
                clear hb
                go_simp
                refine hK _ _ ?_
                clear hK K
                refine wpAny_ready (rs := [6]) (by kernel_rfl) (by simp) ?_
                refine AllReady.cons rfl (fun K hK => ?_) ?_
                · go_simp
                  refine hK _ _ ?_
                  clear hK K
                  refine wpAny_ready (rs := [7, 8]) (by kernel_rfl) (by simp) ?_
                  refine AllReady.cons rfl (fun K hK => ?_) ?_
                  · go_simp
                    refine hK _ _ ?_
                    clear hK K
                    refine wpAny_ready (rs := [8, 9]) (by kernel_rfl) (by simp) ?_
                    refine AllReady.cons rfl (fun K hK => ?_) ?_
                    · go_simp
                      refine hK _ _ ?_
                      clear hK K
                      refine wpAny_ready (rs := [9]) (by kernel_rfl) (by simp) ?_
                      refine AllReady.cons rfl (fun K hK => ?_) ?_
                      · go_simp
                        refine hK _ _ ?_
                        clear hK K
                        refine wpAny_ready (rs := [10]) (by kernel_rfl) (by simp) ?_
                        refine AllReady.cons rfl (fun K hK => ?_) ?_
                        · go_simp
                          refine hK _ _ ?_
                          clear hK K
                          refine wpAny_done (by kernel_rfl) ?_ _
                          go_wp2_with fail
                          go_meet
                          exact ⟨⟨rfl, rfl⟩, HP.out, HQ.out, hp, hq, HB.out⟩
                        exact AllReady.nil
                      exact AllReady.nil
                    refine AllReady.cons rfl (fun K hK => ?_) ?_
                    · go_simp
                      refine hK _ _ ?_
                      clear hK K
                      refine wpAny_ready (rs := [8]) (by kernel_rfl) (by simp) ?_
                      refine AllReady.cons rfl (fun K hK => ?_) ?_
                      · go_simp
                        refine hK _ _ ?_
                        clear hK K
                        refine wpAny_ready (rs := [10]) (by kernel_rfl) (by simp) ?_
                        refine AllReady.cons rfl (fun K hK => ?_) ?_
                        · go_simp
                          refine hK _ _ ?_
                          clear hK K
                          refine wpAny_done (by kernel_rfl) ?_ _
                          go_wp2_with fail
                          go_meet
                          exact ⟨⟨rfl, rfl⟩, HP.out, HQ.out, hp, hq, HB.out⟩
                        exact AllReady.nil
                      exact AllReady.nil
                    exact AllReady.nil
                  refine AllReady.cons rfl (fun K hK => ?_) ?_
                  · go_simp
                    refine hK _ _ ?_
                    clear hK K
                    refine wpAny_ready (rs := [7]) (by kernel_rfl) (by simp) ?_
                    refine AllReady.cons rfl (fun K hK => ?_) ?_
                    · go_simp
                      refine hK _ _ ?_
                      clear hK K
                      refine wpAny_ready (rs := [9]) (by kernel_rfl) (by simp) ?_
                      refine AllReady.cons rfl (fun K hK => ?_) ?_
                      · go_simp
                        refine hK _ _ ?_
                        clear hK K
                        refine wpAny_ready (rs := [10]) (by kernel_rfl) (by simp) ?_
                        refine AllReady.cons rfl (fun K hK => ?_) ?_
                        · go_simp
                          refine hK _ _ ?_
                          clear hK K
                          refine wpAny_done (by kernel_rfl) ?_ _
                          go_wp2_with fail
                          go_meet
                          exact ⟨⟨rfl, rfl⟩, HP.out, HQ.out, hp, hq, HB.out⟩
                        exact AllReady.nil
                      exact AllReady.nil
                    exact AllReady.nil
                  exact AllReady.nil
                exact AllReady.nil
              exact AllReady.nil
            exact AllReady.nil
          exact AllReady.nil
        exact AllReady.nil
      exact AllReady.nil
    case rest =>
      obtain ⟨⟨rfl, rfl⟩, hP, hQ, hp1, hq1, hB⟩ := hcut
      clear HP HQ HB hp hq
      have HP := Lib.hid hP
      have HQ := Lib.hid hQ
      have HB := Lib.hid hB
      have hp := hp1
      have hq := hq1
      clear hP hQ hB hp1 hq1
      go_wp2_with (first | (refine wpList_load_row rfl 31 (.tmp 4) rfl W.heap.size rfl 31 _ (0, 0) _ HP.out Try.underlying31 rfl (by kernel_rfl) ?_) | (refine wpList_load_row rfl 31 (.tmp 5) rfl (W.heap.size + 1) rfl 31 _ (0, 0) _ HQ.out Try.underlying31 rfl (by kernel_rfl) ?_))
      refine (HRs.out _ hp hq).mono ?_
      rintro e w5 ⟨rfl, hb⟩
      replace HP := Lib.hid (HP.out.below hb HP.out.lt)
      replace HQ := Lib.hid (HQ.out.below hb HQ.out.lt)
      replace hp := hp.step hb
      replace hq := hq.step hb
      replace HB := Lib.hid (HB.out.trans (hb.mono HB.out.size))
      clear hb
      go_wp2_with fail
      go_ret
      exact ⟨by first | rfl | simp, HB.out⟩
theorem l_ParamChecks (W : World) (k : Int) (wk : (Lit.int .i64 k).wf = true) (d : Int) (wd : (Lit.int .i64 d).wf = true) (key : Int) (wkey : (Lit.int .i64 key).wf = true) (fo : Int) (wfo : (Lit.int .i64 fo).wf = true) (de : Int) (wde : (Lit.int .i64 de).wf = true)
    (leaf : Int) (wleaf : (Lit.int .u32 leaf).wf = true) (off : Int) (woff : (Lit.int .u64 off).wf = true) (xof : Int) (wxof : (Lit.int .u32 xof).wf = true) (nd : Int) (wnd : (Lit.int .i64 nd).wf = true) (inn : Int) (winn : (Lit.int .i64 inn).wf = true)
    (sa : Option Addr) (sn sc : Nat) (xs : List Int) (hr : RdInts W .u8 1 sa sn sc xs) (ta : Option Addr) (tn tc : Nat) (ys : List Int) (hr' : RdInts W .u8 1 ta tn tc ys)
    (d2 : Int) (wd2 : (Lit.int .i64 d2).wf = true) (key2 : Int) (wkey2 : (Lit.int .i64 key2).wf = true) (fo2 : Int) (wfo2 : (Lit.int .i64 fo2).wf = true) (de2 : Int) (wde2 : (Lit.int .i64 de2).wf = true)
    (leaf2 : Int) (wleaf2 : (Lit.int .u32 leaf2).wf = true) (off2 : Int) (woff2 : (Lit.int .u64 off2).wf = true) (xof2 : Int) (wxof2 : (Lit.int .u32 xof2).wf = true) (nd2 : Int) (wnd2 : (Lit.int .i64 nd2).wf = true) (inn2 : Int) (winn2 : (Lit.int .i64 inn2).wf = true)
    (sb : Option Addr) (sm sd : Nat) (xs2 : List Int) (hr2 : RdInts W .u8 1 sb sm sd xs2) (tb : Option Addr) (tm td : Nat) (ys2 : List Int) (hr2' : RdInts W .u8 1 tb tm td ys2) :
    Calls Try.prog 4 #[.int .i64 k, .agg #[.int .i64 d, .int .i64 key, .int .i64 fo, .int .i64 de, .int .u32 leaf, .int .u64 off, .int .u32 xof, .int .i64 nd, .int .i64 inn, .slice sa sn sc, .slice ta tn tc], .agg #[.int .i64 d2, .int .i64 key2, .int .i64 fo2, .int .i64 de2, .int .u32 leaf2, .int .u64 off2, .int .u32 xof2, .int .i64 nd2, .int .i64 inn2, .slice sb sm sd, .slice tb tm td]] W fun e W' => e = .returned (.bool true) ∧ Below W.heap.size W W' := by
  obtain ⟨e1, e2, h1, b1, b2⟩ := RdP_of (d := d) (key := key) (fo := fo) (de := de) (leaf := leaf) (off := off) (xof := xof) (nd := nd) (inn := inn) hr hr'
  obtain ⟨e3, e4, h2, b3, b4⟩ := RdP_of (d := d2) (key := key2) (fo := fo2) (de := de2) (leaf := leaf2) (off := off2) (xof := xof2) (nd := nd2) (inn := inn2) hr2 hr2'
  subst e1; subst e2; subst e3; subst e4
  exact L_Checks W k ⟨d, key, fo, de, leaf, off, xof, nd, inn, xs, ys⟩ ⟨d2, key2, fo2, de2, leaf2, off2, xof2, nd2, inn2, xs2, ys2⟩ sa sc ta tc sb sd tb td h1 h2 b1 b2 b3 b4
end Go.Proofs.Ytbpbokcglicggaa
