/- Walk: the law ParamUnlike. Conditions: none. -/
import Derived.Test.YtbpbokcglicggaaLw
import Derived.Test.YtbpbokcglicggaaWd
namespace Go.Proofs.Ytbpbokcglicggaa
open Go.RowKit
set_option linter.unusedVariables false

theorem encA_same {k : Int} {p q : Pm} (ho : PmOk p) (ho' : PmOk q) (h : smE k p q = 0) (hx : (p.xof == 0) = (q.xof == 0)) : chkP k p = 0 ∧ chkP k q = 0 ∧ decide (encA k p = encA k q) = smB k p q := by
  have h1 : chkP k p = 0 := by
    unfold smE at h
    split at h
    · exact h
    · rename_i hn; exact Classical.byContradiction fun hc => hn hc
  have h2 : chkP k q = 0 := by
    unfold smE at h
    rw [if_neg (fun hc => hc h1)] at h
    exact h
  have hx' : (p.xof = 0) ↔ (q.xof = 0) := by
    have := congrArg (· = true) hx
    simpa using this
  have hi := enc_inj h1 h2 ho ho' hx'
  refine ⟨h1, h2, ?_⟩
  unfold encA smB
  rw [if_pos h1, if_pos h2]
  simp only [h, true_and]
  exact decide_eq_decide.2 hi
set_option maxRecDepth 100000 in
set_option maxHeartbeats 4000000 in
theorem L_Unlike (W : World) (k : Int) (p q : Pm) (sa : Option Addr) (sc : Nat) (ta : Option Addr) (tc : Nat) (sb : Option Addr) (sd : Nat) (tb : Option Addr) (td : Nat) (h1 : RdP W p sa sc ta tc) (h2 : RdP W q sb sd tb td) (hop : PmOk p) (hoq : PmOk q)
    (hps : ∀ z ∈ p.s, 0 ≤ z ∧ z < 256) (hpt : ∀ z ∈ p.t, 0 ≤ z ∧ z < 256) (hqs : ∀ z ∈ q.s, 0 ≤ z ∧ z < 256) (hqt : ∀ z ∈ q.t, 0 ≤ z ∧ z < 256) :
    Calls Try.prog 8 #[.int .i64 k, pvS p sa sc ta tc, pvS q sb sd tb td] W fun e W' => e = .returned (.bool true) ∧ Below W.heap.size W W' := by
  have HB := Lib.hid (((Below.refl W.heap.size W).alloc (Nat.le_refl _) (.cells (pvC p sa sc ta tc) 31)).alloc (by simp) (.cells (pvC q sb sd tb td) 31))
  have HP := Lib.hid ((Blk.new W 31 (pvC p sa sc ta tc)).alloc (.cells (pvC q sb sd tb td) 31))
  have hQ0 := Blk.new (W.alloc (.cells (pvC p sa sc ta tc) 31)) 31 (pvC q sb sd tb td)
  simp only [World.size_alloc] at hQ0
  have HQ := Lib.hid hQ0
  clear hQ0
  have bsp := h1.bs
  have btp := h1.bt
  have bsq := h2.bs
  have btq := h2.bt
  have hp := h1.step HB.out
  have hq := h2.step HB.out
  clear h1 h2
  have HCp : Hid (∀ w, RdP w p sa sc ta tc → Calls Try.prog 20 #[pvS p sa sc ta tc] w (GivesQ w p)) := fun w h => c_copied p sa sc ta tc w h
  have HCq : Hid (∀ w, RdP w q sb sd tb td → Calls Try.prog 20 #[pvS q sb sd tb td] w (GivesQ w q)) := fun w h => c_copied q sb sd tb td w h
  have HSm : Hid (∀ sa sc ta tc sb sd tb td w, RdP w p sa sc ta tc → RdP w q sb sd tb td → Calls Try.prog 24 #[.int .i64 k, pvS p sa sc ta tc, pvS q sb sd tb td] w (fun e w' => e = .returned (.tuple #[.bool (smB k p q), .int .i64 (smE k p q)]) ∧ Below w.heap.size w w')) := fun sa sc ta tc sb sd tb td w h h' => c_Same k p q sa sb ta tb sc sd tc td w h h' hps hpt hqs hqt
  have HE1 : Hid (∀ sa sc ta tc w, RdP w p sa sc ta tc → Calls Try.prog 33 #[.int .i64 k, pvS p sa sc ta tc] w (EncGives w k p)) := fun sa sc ta tc w h => c_Encode k p sa sc ta tc w h hop
  have HE2 : Hid (∀ sa sc ta tc w, RdP w q sa sc ta tc → Calls Try.prog 33 #[.int .i64 k, pvS q sa sc ta tc] w (EncGives w k q)) := fun sa sc ta tc w h => c_Encode k q sa sc ta tc w h hoq
  have HAL : Hid (∀ w, Calls Try.prog 37 #[] w (fun e w' => e = .returned (.bool true) ∧ Below w.heap.size w w')) := c_alive
  have HPL : Hid (smE k p q = 0 → (p.xof == 0) = (q.xof == 0) → chkP k p = 0 ∧ chkP k q = 0 ∧ decide (encA k p = encA k q) = smB k p q) := fun h h' => encA_same hop hoq h h'
  have la := encA_le k p
  have lb := encA_le k q
  unfold EncGives at HE1 HE2
  clear hps hpt hqs hqt hop hoq
  generalize smB k p q = SB at *
  generalize smE k p q = SE at *
  generalize encA k p = X at *
  generalize encA k q = Y at *
  generalize chkP k p = E at *
  generalize chkP k q = F at *
  simp only [pvS, pv]
  go_enter Try.func8, Try.ntmps8
  go_wp2_with fail
  refine (HAL.out _).mono ?_
  rintro e w1 ⟨rfl, hb⟩
  replace HP := Lib.hid (HP.out.below hb HP.out.lt)
  replace HQ := Lib.hid (HQ.out.below hb HQ.out.lt)
  replace hp := hp.step hb
  replace hq := hq.step hb
  replace HB := Lib.hid (HB.out.trans (hb.mono HB.out.size))
  clear hb
  go_upto_region 3 with fail
  go_cut [7, 8] (fun s7 s8 wx => (s7 = .bool SB ∧ s8 = .int .i64 SE) ∧ Blk wx W.heap.size 31 (pvC p sa sc ta tc) ∧ Blk wx (W.heap.size + 1) 31 (pvC q sb sd tb td) ∧ RdP wx p sa sc ta tc ∧ RdP wx q sb sd tb td ∧ Below W.heap.size W wx)
  case first =>
    refine wp_region_any (by kernel_rfl) ?_
    try (change wpAny _ _ _ _ _ _ _ (World.drew _))
    replace HP := Lib.hid HP.out.drew
    replace HQ := Lib.hid HQ.out.drew
    replace hp := hp.drew
    replace hq := hq.drew
    replace HB := Lib.hid HB.out.drew
    refine wpAny_take (i := 0) (v := .int .i64 k) rfl (by kernel_rfl) (by kernel_rfl) (by kernel_rfl) (fun _ _ _ h => h) (Or.inl ⟨by rfl, fun w => by go_simp⟩) ?_
    refine wpAny_ready (rs := [1, 3]) (by kernel_rfl) (by simp) ?_
    refine AllReady.cons rfl (fun K hK => ?_) ?_
    · refine step_load_row rfl 31 (.tmp 4) rfl W.heap.size rfl HP.out _ Try.underlying31 rfl (by kernel_rfl) ?_
      refine hK _ _ ?_
      clear hK K
      refine wpAny_ready (rs := [2, 3]) (by kernel_rfl) (by simp) ?_
      refine AllReady.cons rfl (fun K hK => ?_) ?_
      · go_simp
        refine (HCp.out _ hp).mono ?_
        rintro e w2 ⟨sa4, sc4, ta4, tc4, rfl, o1, o2, hb⟩
        replace HP := Lib.hid (HP.out.below hb HP.out.lt)
        replace HQ := Lib.hid (HQ.out.below hb HQ.out.lt)
        replace hp := hp.step hb
        replace hq := hq.step hb
        replace HB := Lib.hid (HB.out.trans (hb.mono HB.out.size))
        have hr := own_rd o1 o2 bsp btp
        clear hb o1 o2
        go_simp
        refine hK _ _ ?_
        clear hK K
        refine wpAny_ready (rs := [3]) (by kernel_rfl) (by simp) ?_
        refine AllReady.cons rfl (fun K hK => ?_) ?_
        · refine step_load_row rfl 31 (.tmp 5) rfl (W.heap.size + 1) rfl HQ.out _ Try.underlying31 rfl (by kernel_rfl) ?_
          refine hK _ _ ?_
          clear hK K
          refine wpAny_ready (rs := [4]) (by kernel_rfl) (by simp) ?_
          refine AllReady.cons rfl (fun K hK => ?_) ?_
          · go_simp
            refine (HCq.out _ hq).mono ?_
            rintro e w3 ⟨sa5, sc5, ta5, tc5, rfl, o1, o2, hb⟩
            replace HP := Lib.hid (HP.out.below hb HP.out.lt)
            replace HQ := Lib.hid (HQ.out.below hb HQ.out.lt)
            replace hp := hp.step hb
            replace hq := hq.step hb
            replace HB := Lib.hid (HB.out.trans (hb.mono HB.out.size))
            replace hr := hr.step hb
            have hs := own_rd o1 o2 bsq btq
            clear hb o1 o2
            go_simp
            refine hK _ _ ?_
            clear hK K
            refine wpAny_ready (rs := [5]) (by kernel_rfl) (by simp) ?_
            refine AllReady.cons rfl (fun K hK => ?_) ?_
            · go_simp
              refine (HSm.out _ _ _ _ _ _ _ _ _ hr hs).mono ?_
              rintro e w4 ⟨rfl, hb⟩
              replace HP := Lib.hid (HP.out.below hb HP.out.lt)
              replace HQ := Lib.hid (HQ.out.below hb HQ.out.lt)
              replace hp := hp.step hb
              replace hq := hq.step hb
              replace HB := Lib.hid (HB.out.trans (hb.mono HB.out.size))
              replace hr := hr.step hb
              replace hs := hs.step hb
              clear hb
              go_simp
              refine hK _ _ ?_
              clear hK K
              refine wpAny_ready (rs := [6]) (by kernel_rfl) (by simp) ?_
              refine AllReady.cons rfl (fun K hK => ?_) ?_
              · go_simp
                refine hK _ _ ?_
                clear hK K
                refine wpAny_ready (rs := [7, 8]) (by kernel_rfl) (by simp) ?_
                refine AllReady.cons rfl (fun K hK => ?_) ?_
                · go_simp
                  refine hK _ _ ?_
                  clear hK K
                  refine wpAny_ready (rs := [8, 9]) (by kernel_rfl) (by simp) ?_
                  refine AllReady.cons rfl (fun K hK => ?_) ?_
                  · go_simp
                    refine hK _ _ ?_
                    clear hK K
                    refine wpAny_ready (rs := [9]) (by kernel_rfl) (by simp) ?_
                    refine AllReady.cons rfl (fun K hK => ?_) ?_
                    · go_simp
                      refine hK _ _ ?_
                      clear hK K
                      refine wpAny_ready (rs := [10]) (by kernel_rfl) (by simp) ?_
                      refine AllReady.cons rfl (fun K hK => ?_) ?_
                      · go_simp
                        refine hK _ _ ?_
                        clear hK K
                        refine wpAny_done (by kernel_rfl) ?_ _
                        go_wp2_with fail
                        go_meet
                        exact ⟨⟨rfl, rfl⟩, HP.out, HQ.out, hp, hq, HB.out⟩
                      exact AllReady.nil
                    exact AllReady.nil
                  refine AllReady.cons rfl (fun K hK => ?_) ?_
                  · go_simp
                    refine hK _ _ ?_
                    clear hK K
                    refine wpAny_ready (rs := [8]) (by kernel_rfl) (by simp) ?_
                    refine AllReady.cons rfl (fun K hK => ?_) ?_
                    · go_simp
                      refine hK _ _ ?_
                      clear hK K
                      refine wpAny_ready (rs := [10]) (by kernel_rfl) (by simp) ?_
                      refine AllReady.cons rfl (fun K hK => ?_) ?_
                      · go_simp
                        refine hK _ _ ?_
                        clear hK K
                        refine wpAny_done (by kernel_rfl) ?_ _
                        go_wp2_with fail
                        go_meet
                        exact ⟨⟨rfl, rfl⟩, HP.out, HQ.out, hp, hq, HB.out⟩
                      exact AllReady.nil
                    exact AllReady.nil
                  exact AllReady.nil
                refine AllReady.cons rfl (fun K hK => ?_) ?_
                · go_simp
                  refine hK _ _ ?_
                  clear hK K
                  refine wpAny_ready (rs := [7]) (by kernel_rfl) (by simp) ?_
                  refine AllReady.cons rfl (fun K hK => ?_) ?_
                  · go_simp
                    refine hK _ _ ?_
                    clear hK K
                    refine wpAny_ready (rs := [9]) (by kernel_rfl) (by simp) ?_
                    refine AllReady.cons rfl (fun K hK => ?_) ?_
                    · go_simp
                      refine hK _ _ ?_
                      clear hK K
                      refine wpAny_ready (rs := [10]) (by kernel_rfl) (by simp) ?_
                      refine AllReady.cons rfl (fun K hK => ?_) ?_
                      · go_simp
                        refine hK _ _ ?_
                        clear hK K
                        refine wpAny_done (by kernel_rfl) ?_ _
                        go_wp2_with fail
                        go_meet
                        exact ⟨⟨rfl, rfl⟩, HP.out, HQ.out, hp, hq, HB.out⟩
                      exact AllReady.nil
                    exact AllReady.nil
                  exact AllReady.nil
                exact AllReady.nil
              exact AllReady.nil
            exact AllReady.nil
          exact AllReady.nil
        exact AllReady.nil
      refine AllReady.cons rfl (fun K hK => ?_) ?_
      · refine step_load_row rfl 31 (.tmp 5) rfl (W.heap.size + 1) rfl HQ.out _ Try.underlying31 rfl (by kernel_rfl) ?_
        refine hK _ _ ?_
        clear hK K
        refine wpAny_ready (rs := [2]) (by kernel_rfl) (by simp) ?_
        refine AllReady.cons rfl (fun K hK => ?_) ?_
        · go_simp
          refine (HCp.out _ hp).mono ?_
          rintro e w2 ⟨sa4, sc4, ta4, tc4, rfl, o1, o2, hb⟩
          replace HP := Lib.hid (HP.out.below hb HP.out.lt)
          replace HQ := Lib.hid (HQ.out.below hb HQ.out.lt)
          replace hp := hp.step hb
          replace hq := hq.step hb
          replace HB := Lib.hid (HB.out.trans (hb.mono HB.out.size))
          have hr := own_rd o1 o2 bsp btp
          clear hb o1 o2
          go_simp
          refine hK _ _ ?_
          clear hK K
          refine wpAny_ready (rs := [4]) (by kernel_rfl) (by simp) ?_
          refine AllReady.cons rfl (fun K hK => ?_) ?_
          · go_simp
            refine (HCq.out _ hq).mono ?_
            rintro e w3 ⟨sa5, sc5, ta5, tc5, rfl, o1, o2, hb⟩
            replace HP := Lib.hid (HP.out.below hb HP.out.lt)
            replace HQ := Lib.hid (HQ.out.below hb HQ.out.lt)
            replace hp := hp.step hb
            replace hq := hq.step hb
            replace HB := Lib.hid (HB.out.trans (hb.mono HB.out.size))
            replace hr := hr.step hb
            have hs := own_rd o1 o2 bsq btq
            clear hb o1 o2
            go_simp
            refine hK _ _ ?_
            clear hK K
            refine wpAny_ready (rs := [5]) (by kernel_rfl) (by simp) ?_
            refine AllReady.cons rfl (fun K hK => ?_) ?_
            · go_simp
              refine (HSm.out _ _ _ _ _ _ _ _ _ hr hs).mono ?_
              rintro e w4 ⟨rfl, hb⟩
              replace HP := Lib.hid (HP.out.below hb HP.out.lt)
              replace HQ := Lib.hid (HQ.out.below hb HQ.out.lt)
              replace hp := hp.step hb
              replace hq := hq.step hb
              replace HB := Lib.hid (HB.out.trans (hb.mono HB.out.size))
              replace hr := hr.step hb
              replace hs := hs.step hb
              clear hb
              go_simp
              refine hK _ _ ?_
              clear hK K
              refine wpAny_ready (rs := [6]) (by kernel_rfl) (by simp) ?_
              refine AllReady.cons rfl (fun K hK => ?_) ?_
              · go_simp
                refine hK _ _ ?_
                clear hK K
                refine wpAny_ready (rs := [7, 8]) (by kernel_rfl) (by simp) ?_
                refine AllReady.cons rfl (fun K hK => ?_) ?_
                · go_simp
                  refine hK _ _ ?_
                  clear hK K
                  refine wpAny_ready (rs := [8, 9]) (by kernel_rfl) (by simp) ?_
                  refine AllReady.cons rfl (fun K hK => ?_) ?_
                  · go_simp
                    refine hK _ _ ?_
                    clear hK K
                    refine wpAny_ready (rs := [9]) (by kernel_rfl) (by simp) ?_
                    refine AllReady.cons rfl (fun K hK => ?_) ?_
                    · go_simp
                      refine hK _ _ ?_
                      clear hK K
                      refine wpAny_ready (rs := [10]) (by kernel_rfl) (by simp) ?_
                      refine AllReady.cons rfl (fun K hK => ?_) ?_
                      · go_simp
                        refine hK _ _ ?_
                        clear hK K
                        refine wpAny_done (by kernel_rfl) ?_ _
                        go_wp2_with fail
                        go_meet
                        exact ⟨⟨rfl, rfl⟩, HP.out, HQ.out, hp, hq, HB.out⟩
                      exact AllReady.nil
                    exact AllReady.nil
                  refine AllReady.cons rfl (fun K hK => ?_) ?_
                  · go_simp
                    refine hK _ _ ?_
                    clear hK K
                    refine wpAny_ready (rs := [8]) (by kernel_rfl) (by simp) ?_
                    refine AllReady.cons rfl (fun K hK => ?_) ?_
                    · go_simp
                      refine hK _ _ ?_
                      clear hK K
                      refine wpAny_ready (rs := [10]) (by kernel_rfl) (by simp) ?_
                      refine AllReady.cons rfl (fun K hK => ?_) ?_
                      · go_simp
                        refine hK _ _ ?_
                        clear hK K
                        refine wpAny_done (by kernel_rfl) ?_ _
                        go_wp2_with fail
                        go_meet
                        exact ⟨⟨rfl, rfl⟩, HP.out, HQ.out, hp, hq, HB.out⟩
                      exact AllReady.nil
                    exact AllReady.nil
                  exact AllReady.nil
                refine AllReady.cons rfl (fun K hK => ?_) ?_
                · go_simp
                  refine hK _ _ ?_
                  clear hK K
                  refine wpAny_ready (rs := [7]) (by kernel_rfl) (by simp) ?_
                  refine AllReady.cons rfl (fun K hK => ?_) ?_
                  · go_simp
                    refine hK _ _ ?_
                    clear hK K
                    refine wpAny_ready (rs := [9]) (by kernel_rfl) (by simp) ?_
                    refine AllReady.cons rfl (fun K hK => ?_) ?_
                    · go_simp
                      refine hK _ _ ?_
                      clear hK K
                      refine wpAny_ready (rs := [10]) (by kernel_rfl) (by simp) ?_
                      refine AllReady.cons rfl (fun K hK => ?_) ?_
                      · go_simp
                        refine hK _ _ ?_
                        clear hK K
                        refine wpAny_done (by kernel_rfl) ?_ _
                        go_wp2_with fail
                        go_meet
                        exact ⟨⟨rfl, rfl⟩, HP.out, HQ.out, hp, hq, HB.out⟩
                      exact AllReady.nil
                    exact AllReady.nil
                  exact AllReady.nil
                exact AllReady.nil
              exact AllReady.nil
            exact AllReady.nil
          exact AllReady.nil
        exact AllReady.nil
      exact AllReady.nil
    refine AllReady.cons rfl (fun K hK => ?_) ?_
    · refine step_load_row rfl 31 (.tmp 5) rfl (W.heap.size + 1) rfl HQ.out _ Try.underlying31 rfl (by kernel_rfl) ?_
      refine hK _ _ ?_
      clear hK K
      refine wpAny_ready (rs := [1]) (by kernel_rfl) (by simp) ?_
      refine AllReady.cons rfl (fun K hK => ?_) ?_
      · refine step_load_row rfl 31 (.tmp 4) rfl W.heap.size rfl HP.out _ Try.underlying31 rfl (by kernel_rfl) ?_
        refine hK _ _ ?_
        clear hK K
        refine wpAny_ready (rs := [2]) (by kernel_rfl) (by simp) ?_
        refine AllReady.cons rfl (fun K hK => ?_) ?_
        · go_simp
          refine (HCp.out _ hp).mono ?_
          rintro e w2 ⟨sa4, sc4, ta4, tc4, rfl, o1, o2, hb⟩
          replace HP := Lib.hid (HP.out.below hb HP.out.lt)
          replace HQ := Lib.hid (HQ.out.below hb HQ.out.lt)
          replace hp := hp.step hb
          replace hq := hq.step hb
          replace HB := Lib.hid (HB.out.trans (hb.mono HB.out.size))
          have hr := own_rd o1 o2 bsp btp
          clear hb o1 o2
          go_simp
          refine hK _ _ ?_
          clear hK K
          refine wpAny_ready (rs := [4]) (by kernel_rfl) (by simp) ?_
          refine AllReady.cons rfl (fun K hK => ?_) ?_
          · go_simp
            refine (HCq.out _ hq).mono ?_
            rintro e w3 ⟨sa5, sc5, ta5, tc5, rfl, o1, o2, hb⟩
            replace HP := Lib.hid (HP.out.below hb HP.out.lt)
            replace HQ := Lib.hid (HQ.out.below hb HQ.out.lt)
            replace hp := hp.step hb
            replace hq := hq.step hb
            replace HB := Lib.hid (HB.out.trans (hb.mono HB.out.size))
            replace hr := hr.step hb
            have hs := own_rd o1 o2 bsq btq
            clear hb o1 o2
            go_simp
            refine hK _ _ ?_
            clear hK K
            refine wpAny_ready (rs := [5]) (by kernel_rfl) (by simp) ?_
            refine AllReady.cons rfl (fun K hK => ?_) ?_
            · go_simp
              refine (HSm.out _ _ _ _ _ _ _ _ _ hr hs).mono ?_
              rintro e w4 ⟨rfl, hb⟩
              replace HP := Lib.hid (HP.out.below hb HP.out.lt)
              replace HQ := Lib.hid (HQ.out.below hb HQ.out.lt)
              replace hp := hp.step hb
              replace hq := hq.step hb
              replace HB := Lib.hid (HB.out.trans (hb.mono HB.out.size))
              replace hr := hr.step hb
              replace hs := hs.step hb
              clear hb
              go_simp
              refine hK _ _ ?_
              clear hK K
              refine wpAny_ready (rs := [6]) (by kernel_rfl) (by simp) ?_
              refine AllReady.cons rfl (fun K hK => ?_) ?_
              · go_simp
                refine hK _ _ ?_
                clear hK K
                refine wpAny_ready (rs := [7, 8]) (by kernel_rfl) (by simp) ?_
                refine AllReady.cons rfl (fun K hK => ?_) ?_
                · go_simp
                  refine hK _ _ ?_
                  clear hK K
                  refine wpAny_ready (rs := [8, 9]) (by kernel_rfl) (by simp) ?_
                  refine AllReady.cons rfl (fun K hK => ?_) ?_
                  · go_simp
                    refine hK _ _ ?_
                    clear hK K
                    refine wpAny_ready (rs := [9]) (by kernel_rfl) (by simp) ?_
                    refine AllReady.cons rfl (fun K hK => ?_) ?_
                    · go_simp
                      refine hK _ _ ?_
                      clear hK K
                      refine wpAny_ready (rs := [10]) (by kernel_rfl) (by simp) ?_
                      refine AllReady.cons rfl (fun K hK => ?_) ?_
                      · go_simp
                        refine hK _ _ ?_
                        clear hK K
                        refine wpAny_done (by kernel_rfl) ?_ _
                        go_wp2_with fail
                        go_meet
                        exact ⟨⟨rfl, rfl⟩, HP.out, HQ.out, hp, hq, HB.out⟩
                      exact AllReady.nil
                    exact AllReady.nil
                  refine AllReady.cons rfl (fun K hK => ?_) ?_
                  · go_simp
                    refine hK _ _ ?_
                    clear hK K
                    refine wpAny_ready (rs := [8]) (by kernel_rfl) (by simp) ?_
                    refine AllReady.cons rfl (fun K hK => ?_) ?_
                    · go_simp
                      refine hK _ _ ?_
                      clear hK K
                      refine wpAny_ready (rs := [10]) (by kernel_rfl) (by simp) ?_
                      refine AllReady.cons rfl (fun K hK => ?_) ?_
                      · go_simp
                        refine hK _ _ ?_
                        clear hK K
                        refine wpAny_done (by kernel_rfl) ?_ _
                        go_wp2_with fail
                        go_meet
                        exact ⟨⟨rfl, rfl⟩, HP.out, HQ.out, hp, hq, HB.out⟩
                      exact AllReady.nil
                    exact AllReady.nil
                  exact AllReady.nil
                refine AllReady.cons rfl (fun K hK => ?_) ?_
                · go_simp
                  refine hK _ _ ?_
                  clear hK K
                  refine wpAny_ready (rs := [7]) (by kernel_rfl) (by simp) ?_
                  refine AllReady.cons rfl (fun K hK => ?_) ?_
                  · go_simp
                    refine hK _ _ ?_
                    clear hK K
                    refine wpAny_ready (rs := [9]) (by kernel_rfl) (by simp) ?_
                    refine AllReady.cons rfl (fun K hK => ?_) ?_
                    · go_simp
                      refine hK _ _ ?_
                      clear hK K
                      refine wpAny_ready (rs := [10]) (by kernel_rfl) (by simp) ?_
                      refine AllReady.cons rfl (fun K hK => ?_) ?_
                      · go_simp
                        refine hK _ _ ?_
                        clear hK K
                        refine wpAny_done (by kernel_rfl) ?_ _
                        go_wp2_with fail
                        go_meet
                        exact ⟨⟨rfl, rfl⟩, HP.out, HQ.out, hp, hq, HB.out⟩
                      exact AllReady.nil
                    exact AllReady.nil
                  exact AllReady.nil
                exact AllReady.nil
              exact AllReady.nil
            exact AllReady.nil
          exact AllReady.nil
        exact AllReady.nil
      exact AllReady.nil
    exact AllReady.nil
  case rest =>
    obtain ⟨⟨rfl, rfl⟩, hP, hQ, hp1, hq1, hB⟩ := hcut
    clear HP HQ HB hp hq
    have HP := Lib.hid hP
    have HQ := Lib.hid hQ
    have HB := Lib.hid hB
    have hp := hp1
    have hq := hq1
    clear hB hp1 hq1
    have f6 : wc.cell? ⟨W.heap.size, 6, none⟩ = some (.int .u32 p.xof) := hP.cell 6
    have g6 : wc.cell? ⟨W.heap.size + 1, 6, none⟩ = some (.int .u32 q.xof) := hQ.cell 6
    clear hP hQ
    by_cases hS : SE = 0
    · obtain ⟨x1, hx1⟩ : ∃ x, (p.xof == 0) = x := ⟨_, rfl⟩
      obtain ⟨x2, hx2⟩ : ∃ x, (q.xof == 0) = x := ⟨_, rfl⟩
      by_cases hx : x1 = x2
      · obtain ⟨rfl, rfl, hXY⟩ := HPL.out hS (by rw [hx1, hx2]; exact hx)
        have HXY := Lib.hid hXY
        subst hS
        subst hx
        clear hXY
        go_wp2_with (refine wpList_load_row rfl 31 (.tmp 4) rfl W.heap.size rfl 31 _ (0, 0) _ HP.out Try.underlying31 rfl (by kernel_rfl) ?_)
        refine (HCp.out _ hp).mono ?_
        rintro e w2 ⟨sa6, sc6, ta6, tc6, rfl, o1, o2, hb⟩
        replace HP := Lib.hid (HP.out.below hb HP.out.lt)
        replace HQ := Lib.hid (HQ.out.below hb HQ.out.lt)
        replace hp := hp.step hb
        replace hq := hq.step hb
        replace HB := Lib.hid (HB.out.trans (hb.mono HB.out.size))
        have hr := own_rd o1 o2 bsp btp
        clear hb o1 o2 f6 g6
        go_wp2_with fail
        refine (HE1.out _ _ _ _ _ hr).mono ?_
        rintro e w3 ⟨A7, c7, rfl, o7, hb⟩
        clear hr
        replace HP := Lib.hid (HP.out.below hb HP.out.lt)
        replace HQ := Lib.hid (HQ.out.below hb HQ.out.lt)
        replace hp := hp.step hb
        replace hq := hq.step hb
        replace HB := Lib.hid (HB.out.trans (hb.mono HB.out.size))
        obtain ⟨A7', c7', e7, _, ra⟩ := own_reads o7
        injection e7 with e7 _ e7'
        subst e7; subst e7'
        clear hb o7
        go_wp2_with (refine wpList_load_row rfl 31 (.tmp 5) rfl (W.heap.size + 1) rfl 31 _ (0, 0) _ HQ.out Try.underlying31 rfl (by kernel_rfl) ?_)
        refine (HCq.out _ hq).mono ?_
        rintro e w4 ⟨sa8, sc8, ta8, tc8, rfl, o1, o2, hb⟩
        replace HP := Lib.hid (HP.out.below hb HP.out.lt)
        replace HQ := Lib.hid (HQ.out.below hb HQ.out.lt)
        replace hp := hp.step hb
        replace hq := hq.step hb
        replace HB := Lib.hid (HB.out.trans (hb.mono HB.out.size))
        replace ra := ra.step hb
        have hs := own_rd o1 o2 bsq btq
        clear hb o1 o2
        go_wp2_with fail
        refine (HE2.out _ _ _ _ _ hs).mono ?_
        rintro e w5 ⟨A9, c9, rfl, o9, hb⟩
        clear hs
        replace HP := Lib.hid (HP.out.below hb HP.out.lt)
        replace HQ := Lib.hid (HQ.out.below hb HQ.out.lt)
        replace hp := hp.step hb
        replace hq := hq.step hb
        replace HB := Lib.hid (HB.out.trans (hb.mono HB.out.size))
        replace ra := ra.step hb
        obtain ⟨A9', c9', e9, _, rb⟩ := own_reads o9
        injection e9 with e9 _ e9'
        subst e9; subst e9'
        clear hb o9
        go_wp2_with fail
        refine (c_same _ _ _ _ _ _ X Y _ _ ra rb (by omega)).mono ?_
        rintro e w6 ⟨rfl, hb⟩
        rw [HXY.out]
        replace HP := Lib.hid (HP.out.below hb HP.out.lt)
        replace HQ := Lib.hid (HQ.out.below hb HQ.out.lt)
        replace hp := hp.step hb
        replace hq := hq.step hb
        replace HB := Lib.hid (HB.out.trans (hb.mono HB.out.size))
        replace ra := ra.step hb
        replace rb := rb.step hb
        clear hb
        go_wp2_with fail
        go_ret
        exact ⟨by first | rfl | simp, HB.out⟩
      · have hxx : (x1 == x2) = false := by simpa using hx
        go_wp2_with fail
        go_ret
        exact ⟨rfl, HB.out⟩
    · have hS1 : (SE != 0) = true := by simpa using hS
      go_wp2_with fail
      go_ret
      exact ⟨rfl, HB.out⟩
theorem l_ParamUnlike (W : World) (k : Int) (wk : (Lit.int .i64 k).wf = true) (d : Int) (wd : (Lit.int .i64 d).wf = true) (key : Int) (wkey : (Lit.int .i64 key).wf = true) (fo : Int) (wfo : (Lit.int .i64 fo).wf = true) (de : Int) (wde : (Lit.int .i64 de).wf = true)
    (leaf : Int) (wleaf : (Lit.int .u32 leaf).wf = true) (off : Int) (woff : (Lit.int .u64 off).wf = true) (xof : Int) (wxof : (Lit.int .u32 xof).wf = true) (nd : Int) (wnd : (Lit.int .i64 nd).wf = true) (inn : Int) (winn : (Lit.int .i64 inn).wf = true)
    (sa : Option Addr) (sn sc : Nat) (xs : List Int) (hr : RdInts W .u8 1 sa sn sc xs) (ta : Option Addr) (tn tc : Nat) (ys : List Int) (hr' : RdInts W .u8 1 ta tn tc ys)
    (d2 : Int) (wd2 : (Lit.int .i64 d2).wf = true) (key2 : Int) (wkey2 : (Lit.int .i64 key2).wf = true) (fo2 : Int) (wfo2 : (Lit.int .i64 fo2).wf = true) (de2 : Int) (wde2 : (Lit.int .i64 de2).wf = true)
    (leaf2 : Int) (wleaf2 : (Lit.int .u32 leaf2).wf = true) (off2 : Int) (woff2 : (Lit.int .u64 off2).wf = true) (xof2 : Int) (wxof2 : (Lit.int .u32 xof2).wf = true) (nd2 : Int) (wnd2 : (Lit.int .i64 nd2).wf = true) (inn2 : Int) (winn2 : (Lit.int .i64 inn2).wf = true)
    (sb : Option Addr) (sm sd : Nat) (xs2 : List Int) (hr2 : RdInts W .u8 1 sb sm sd xs2) (tb : Option Addr) (tm td : Nat) (ys2 : List Int) (hr2' : RdInts W .u8 1 tb tm td ys2) :
    Calls Try.prog 8 #[.int .i64 k, .agg #[.int .i64 d, .int .i64 key, .int .i64 fo, .int .i64 de, .int .u32 leaf, .int .u64 off, .int .u32 xof, .int .i64 nd, .int .i64 inn, .slice sa sn sc, .slice ta tn tc], .agg #[.int .i64 d2, .int .i64 key2, .int .i64 fo2, .int .i64 de2, .int .u32 leaf2, .int .u64 off2, .int .u32 xof2, .int .i64 nd2, .int .i64 inn2, .slice sb sm sd, .slice tb tm td]] W fun e W' => e = .returned (.bool true) ∧ Below W.heap.size W W' := by
  obtain ⟨e1, e2, h1, b1, b2⟩ := RdP_of (d := d) (key := key) (fo := fo) (de := de) (leaf := leaf) (off := off) (xof := xof) (nd := nd) (inn := inn) hr hr'
  obtain ⟨e3, e4, h2, b3, b4⟩ := RdP_of (d := d2) (key := key2) (fo := fo2) (de := de2) (leaf := leaf2) (off := off2) (xof := xof2) (nd := nd2) (inn := inn2) hr2 hr2'
  subst e1; subst e2; subst e3; subst e4
  exact L_Unlike W k ⟨d, key, fo, de, leaf, off, xof, nd, inn, xs, ys⟩ ⟨d2, key2, fo2, de2, leaf2, off2, xof2, nd2, inn2, xs2, ys2⟩ sa sc ta tc sb sd tb td h1 h2 (PmOk_of wleaf woff wxof) (PmOk_of wleaf2 woff2 wxof2) b1 b2 b3 b4
end Go.Proofs.Ytbpbokcglicggaa
