/- Walk: two sorted ranges of floats merged by halves, the general case (slices.symMergeCmpFunc). Conditions: as stated. -/
import Derived.Test.YtpgdiiplnnaegaaFm
import Derived.Deep.DeepCutAuto
namespace Go.Proofs.Ytpgdiiplnnaegaa
open Go.RowKit
set_option linter.unusedVariables false
attribute [local go_sem ↓] Go.wp_at_zero Go.wp_at_succ
attribute [local go_sem] run_store_float

set_option maxRecDepth 100000 in
set_option maxHeartbeats 40000000 in
theorem c_sym (B g n cap : Nat) (hn : n ≤ 140737488355328) : ∀ (d a m b : Nat) (zs : List Nat) (w : World), b - a ≤ d → Frow w B g n cap zs → Bit zs → a < m → m < b → b ≤ n → Up fkey zs a m → Up fkey zs m b →
    Calls Try.prog 83 #[.slice (some ⟨g, 0, none⟩) n cap, .int .i64 a, .int .i64 m, .int .i64 b, cmpV] w (Left B g n cap w fun ys => Srt fkey zs a b ys) := by
  intro d
  induction d with
  | zero => intro a m b zs w hd h hx ham hmb; omega
  | succ d ih =>
    intro a m b zs w hd h hx ham hmb hb hu1 hu2
    by_cases hm1 : m = a + 1
    · subst hm1
      exact c_sym1 B g n cap zs a b w h hx hn hmb hb hu2
    by_cases hb1 : b = m + 1
    · subst hb1
      exact c_sym2 B g n cap zs a m w h hx hn (by omega) hb hu1
    have HIH : Hid (∀ (a m b : Nat) (p q r : Int) (zs : List Nat) (w : World), b - a ≤ d → p = (a : Int) → q = (m : Int) → r = (b : Int) → Frow w B g n cap zs → Bit zs → a < m → m < b → b ≤ n → Up fkey zs a m → Up fkey zs m b → Calls Try.prog 83 #[.slice (some ⟨g, 0, none⟩) n cap, .int .i64 p, .int .i64 q, .int .i64 r, cmpV] w (Left B g n cap w fun ys => Srt fkey zs a b ys)) := fun a m b p q r zs w h1 hp hq hr => by subst hp; subst hq; subst hr; exact ih a m b zs w h1
    have HRO : Hid (∀ (a m b : Nat) (p q r : Int) (zs : List Nat) (w : World), p = (a : Int) → q = (m : Int) → r = (b : Int) → Frow w B g n cap zs → a < m → m < b → b ≤ n → Calls Try.prog 88 #[.slice (some ⟨g, 0, none⟩) n cap, .int .i64 p, .int .i64 q, .int .i64 r, cmpV] w (Left B g n cap w fun ys => (∀ k, ys.getD k 0 = rv zs a m b k) ∧ ys.Perm zs)) := fun a m b p q r zs w hp hq hr h1 h2 h3 h4 => by subst hp; subst hq; subst hr; exact c_rotate B g n cap zs a m b w h1 hn h2 h3 h4
    clear ih
    obtain ⟨dd, hdd⟩ : ∃ dd, (a + b) / 2 = dd := ⟨_, rfl⟩
    have hd1 : 2 * dd ≤ a + b := by omega
    have hd2 : a + b < 2 * dd + 2 := by omega
    have ed0 : ((a : Int) + (b : Int)) / 2 = (dd : Int) := by omega
    have HSP : Hid (∀ (st : Nat) (ys : List Nat), a ≤ st → st ≤ m → st ≤ dd → dd + m - st ≤ b → (st = a ∨ dd + m - st = b ∨ fkey (zs.getD (st - 1) 0) ≤ fkey (zs.getD (dd + m - st) 0)) → (st = m ∨ dd + m - st = m ∨ fkey (zs.getD (dd + m - st - 1) 0) < fkey (zs.getD st 0)) → (∀ k, ys.getD k 0 = rv zs st m (dd + m - st) k) →
        Up fkey ys a st ∧ Up fkey ys st dd ∧ Up fkey ys dd (dd + m - st) ∧ Up fkey ys (dd + m - st) b ∧ ∀ s t, a ≤ s → s < dd → dd ≤ t → t < b → fkey (ys.getD s 0) ≤ fkey (ys.getD t 0)) := by
      intro st ys h1 h2 h3 h4 h5 h6 h7
      rw [← hdd] at h3 h4 h5 h6 h7 ⊢
      exact split_up hu1 hu2 ham hmb h1 h2 h3 h4 h5 h6 h7
    have HRV : Hid (∀ (st : Nat) (ys : List Nat), a ≤ st → st ≤ m → st ≤ dd → dd + m - st ≤ b → (∀ k, ys.getD k 0 = rv zs st m (dd + m - st) k) → ys.Perm zs → Reorg zs a b ys) := by
      intro st ys h1 h2 h3 h4 h7 hp
      refine ⟨hp, fun i hi => ?_, fun i i1 i2 => ?_⟩
      · rw [h7]; unfold rv; rw [if_neg (by omega), if_neg (by omega)]
      · rw [h7]; unfold rv
        split
        · exact ⟨_, by omega, by omega, rfl⟩
        · split
          · exact ⟨_, by omega, by omega, rfl⟩
          · exact ⟨i, i1, i2, rfl⟩
    have HXL := Lib.hid h.len
    have HR := Lib.hid h
    have HZX := Lib.hid hx
    clear h hx hu1 hu2 hdd
    have t0 : ((m : Int) - (a : Int) == 1) = false := by simp; omega
    have t1 : ((b : Int) - (m : Int) == 1) = false := by simp; omega
    obtain ⟨s0, r0, k1, k2, k3, k4, k5, k6, k7, hcase⟩ : ∃ s0 r0 : Nat, a ≤ s0 ∧ s0 ≤ r0 ∧ r0 ≤ m ∧ r0 ≤ dd ∧ dd + m ≤ b + s0 ∧ Hid (s0 = a ∨ dd + m = b + s0) ∧ Hid (r0 = m ∨ r0 = dd) ∧ ((dd < m ∧ Hid (s0 = dd + m - b ∧ r0 = dd)) ∨ (¬ dd < m ∧ Hid (s0 = a ∧ r0 = m))) := by
      by_cases hmd : dd < m
      · exact ⟨dd + m - b, dd, by omega, by omega, by omega, by omega, by omega, .inr (by omega), .inr rfl, .inl ⟨hmd, rfl, rfl⟩⟩
      · exact ⟨a, m, by omega, by omega, by omega, by omega, by omega, .inl rfl, .inl rfl, .inr ⟨hmd, rfl, rfl⟩⟩
    clear hm1 hb1
    rcases hcase with ⟨hmd, HSR⟩ | ⟨hmd, HSR⟩
    all_goals
      go_enter Try.func83, Try.ntmps83
      go_wp2_with fail
      go_loopw [20, 21] (fun vi vj wr => ∃ (s r : Nat), vi = .int .i64 s ∧ vj = .int .i64 r ∧ s0 ≤ s ∧ s ≤ r ∧ r ≤ r0 ∧ Hid ((s = s0 ∨ fkey (zs.getD (s - 1) 0) ≤ fkey (zs.getD (dd + m - s) 0)) ∧ (r = r0 ∨ fkey (zs.getD (dd + m - r - 1) 0) < fkey (zs.getD r 0))) ∧ Frow wr B g n cap zs ∧ w.grownBy wr (some g)) (fun vi vj _ => (intOf vj).toNat - (intOf vi).toNat)
      case atStart => exact ⟨s0, r0, intv (by have := HSR.out; omega), intv (by have := HSR.out; omega), by omega, by omega, by omega, ⟨.inl rfl, .inl rfl⟩, HR.out, World.grownBy.refl _ _⟩
      case round =>
        obtain ⟨s, r, rfl, rfl, hs0, hsr, hr0, HI, hrow, hg⟩ := hrel
        have HW := Lib.hid hrow
        have HG := Lib.hid hg
        clear hrow hg
        by_cases hlt : s < r
        · have hh1 : s ≤ (s + r) / 2 := by omega
          have hh2 : (s + r) / 2 < r := by omega
          have eh0 : ((s : Int) + (r : Int)) / 2 = (((s + r) / 2 : Nat) : Int) := by omega
          generalize (s + r) / 2 = k at *
          have HK : Hid (fcmp (zs.getD (dd + m - 1 - k) 0) (zs.getD k 0) < 0 ↔ fkey (zs.getD (dd + m - 1 - k) 0) < fkey (zs.getD k 0)) := fcmp_lt _ _
          have hc1 := HW.out.cell (i := dd + m - 1 - k) (by omega)
          have hc2 := HW.out.cell (i := k) (by omega)
          have HCP := Lib.hid (c_CompareS (zs.getD (dd + m - 1 - k) 0) (zs.getD k 0) (HZX.out.get _) (HZX.out.get _))
          have g1 : (0 : Int) ≤ (dd : Int) + (m : Int) - 1 - (k : Int) := by omega
          have g2 : (dd : Int) + (m : Int) - 1 - (k : Int) < (n : Int) := by omega
          have g3 : (k : Int) < (n : Int) := by omega
          by_cases hk : fkey (zs.getD (dd + m - 1 - k) 0) < fkey (zs.getD k 0)
          · have hq := HK.out.2 hk
            have HS : Hid ((s = s0 ∨ fkey (zs.getD (s - 1) 0) ≤ fkey (zs.getD (dd + m - s) 0)) ∧ (k = r0 ∨ fkey (zs.getD (dd + m - k - 1) 0) < fkey (zs.getD k 0))) := ⟨HI.out.1, .inr (by rw [show dd + m - k - 1 = dd + m - 1 - k from by omega]; exact hk)⟩
            clear HK HI hk
            generalize zs.getD (dd + m - 1 - k) 0 = x at *
            obtain ⟨y, hy⟩ : ∃ y, zs.getD k 0 = y := ⟨_, rfl⟩
            rw [hy] at hc2 HCP hq
            clear hy
            generalize fcmp x y = q at *
            have hqd : decide (q < 0) = true := by simpa using hq
            go_wp2_with fail
            have e1 : IntKind.i64.wrap ((dd : Int) + (m : Int) - 1 - (k : Int)) = (dd : Int) + (m : Int) - 1 - (k : Int) := IntWalk.i64_in _ (by omega)
            have e2 : ((dd : Int) + (m : Int) - 1 - (k : Int)).toNat = dd + m - 1 - k := by omega
            go_quiet ((go_at_call 11; exact Calls.quiet_of_same (HCP.out _)))
            have HW1 := Lib.hid (HW.out.drewN nq)
            have HG1 := Lib.hid (only_drewN HG.out nq)
            clear hc1 hc2 HW HG HCP e1 e2 hq
            generalize wr.drewN nq = w1 at *
            go_wp2_with fail
            go_roundw
            case rel => exact ⟨s, k, rfl, rfl, by omega, by omega, by omega, HS.out, HW1.out, HG1.out⟩
            case measure => simp [intOf]; omega
          · have hq : ¬ fcmp (zs.getD (dd + m - 1 - k) 0) (zs.getD k 0) < 0 := fun h => hk (HK.out.1 h)
            have HS : Hid ((k + 1 = s0 ∨ fkey (zs.getD (k + 1 - 1) 0) ≤ fkey (zs.getD (dd + m - (k + 1)) 0)) ∧ (r = r0 ∨ fkey (zs.getD (dd + m - r - 1) 0) < fkey (zs.getD r 0))) := ⟨.inr (by rw [Nat.add_sub_cancel, show dd + m - (k + 1) = dd + m - 1 - k from by omega]; exact Nat.le_of_not_lt hk), HI.out.2⟩
            clear HK HI hk
            generalize zs.getD (dd + m - 1 - k) 0 = x at *
            generalize zs.getD k 0 = y at *
            generalize fcmp x y = q at *
            have hqd : decide (q < 0) = false := by simpa using hq
            go_wp2_with fail
            have e1 : IntKind.i64.wrap ((dd : Int) + (m : Int) - 1 - (k : Int)) = (dd : Int) + (m : Int) - 1 - (k : Int) := IntWalk.i64_in _ (by omega)
            have e2 : ((dd : Int) + (m : Int) - 1 - (k : Int)).toNat = dd + m - 1 - k := by omega
            go_quiet ((go_at_call 11; exact Calls.quiet_of_same (HCP.out _)))
            have HW1 := Lib.hid (HW.out.drewN nq)
            have HG1 := Lib.hid (only_drewN HG.out nq)
            clear hc1 hc2 HW HG HCP e1 e2 hq
            generalize wr.drewN nq = w1 at *
            go_wp2_with fail
            go_roundw
            case rel => exact ⟨k + 1, r, by go_num, rfl, by omega, by omega, by omega, HS.out, HW1.out, HG1.out⟩
            case measure => simp [intOf]; omega
        · have HE : Hid (r = s) := by show _ = _; omega
          have HC1 : Hid (s = a ∨ dd + m - s = b ∨ fkey (zs.getD (s - 1) 0) ≤ fkey (zs.getD (dd + m - s) 0)) := by
            rcases HI.out.1 with h | h
            · rcases k6.out with h' | h'
              · exact .inl (by omega)
              · exact .inr (.inl (by omega))
            · exact .inr (.inr h)
          have HC2 : Hid (s = m ∨ dd + m - s = m ∨ fkey (zs.getD (dd + m - s - 1) 0) < fkey (zs.getD s 0)) := by
            have hE := HE.out
            rcases HI.out.2 with h | h
            · rcases k7.out with h' | h'
              · exact .inl (by omega)
              · exact .inr (.inl (by omega))
            · rw [hE] at h; exact .inr (.inr h)
          have q1 : a ≤ s := by omega
          have q2 : s ≤ m := by omega
          have q3 : s ≤ dd := by omega
          have q4 : dd + m - s ≤ b := by omega
          clear HI HE HSR k6 k7
          -- the three ifs
          by_cases h1 : s < m
          · by_cases h2 : s < dd
            · have i1 : (m : Int) < (dd : Int) + (m : Int) - (s : Int) := by omega
              have i2 : (dd : Int) < (dd : Int) + (m : Int) - (s : Int) := by omega
              by_cases h3 : a < s
              · by_cases h4 : dd + m - s < b
                · try (exfalso; omega)
                  all_goals
                    have i3 : (dd : Int) + (m : Int) - (s : Int) < (b : Int) := by omega
                    go_upto_region 41 with ((go_at_call 88; refine (HRO.out s m (dd + m - s) _ _ _ zs _ rfl rfl (by omega) HW.out (by omega) (by omega) (by omega)).mono ?_; rintro e w2 ⟨rfl, ys, hys, hrow2, hg2⟩; have HY := Lib.hid hys; have HWa := Lib.hid hrow2; have HGa := Lib.hid (only_trans HG.out hg2); clear hys hrow2 hg2))
                    have HSS := Lib.hid (HSP.out s ys q1 q2 q3 q4 HC1.out HC2.out HY.out.1)
                    have HRE := Lib.hid (HRV.out s ys q1 q2 q3 q4 HY.out.1 HY.out.2)
                    have HBY := Lib.hid (HZX.out.perm HY.out.2)
                    clear HY HW HG
                    go_upto_region 43 with (go_at_call 83; refine (HIH.out a s dd _ _ _ ys _ (by omega) rfl rfl rfl HWa.out HBY.out (by omega) (by omega) (by omega) HSS.out.1 HSS.out.2.1).mono ?_; rintro e w3 ⟨rfl, us, hus, hrow3, hg3⟩; have HUS := Lib.hid hus; have HWb := Lib.hid hrow3; have HGb := Lib.hid (only_trans HGa.out hg3); clear hus hrow3 hg3)
                    clear HWa HGa
                    have HCG : Hid (∀ k, dd ≤ k → k < b → us.getD k 0 = ys.getD k 0) := fun k h1 h2 => HUS.out.re.out k (.inr h1)
                    have HBU := Lib.hid (HBY.out.perm HUS.out.re.perm)
                    have HU3 : Hid (Up fkey us dd (dd + m - s)) := HSS.out.2.2.1.congr (fun k h1 h2 => HCG.out k h1 (by omega))
                    have HU4 : Hid (Up fkey us (dd + m - s) b) := HSS.out.2.2.2.1.congr (fun k h1 h2 => HCG.out k (by omega) h2)
                    go_wp2_with (go_at_call 83; refine (HIH.out dd (dd + m - s) b _ _ _ us _ (by omega) rfl (by omega) rfl HWb.out HBU.out (by omega) (by omega) (by omega) HU3.out HU4.out).mono ?_; rintro e w4 ⟨rfl, vs, hvs, hrow4, hg4⟩; have HVS := Lib.hid hvs; have HWc := Lib.hid hrow4; have HGc := Lib.hid (only_trans HGb.out hg4); clear hvs hrow4 hg4)
                    go_end0
                    have hj := join_up (K := fkey) (ys := ys) (zs := us) (ws := vs) (a := a) (d := dd) (b := b) (by omega) (by omega) HSS.out.2.2.2.2 HUS.out.re HVS.out.re HUS.out.up HVS.out.up
                    exact ⟨rfl, vs, ⟨HRE.out.trans hj.re, hj.up⟩, HWc.out, HGc.out⟩
                · try (exfalso; omega)
                  all_goals
                    have i3 : ¬ (dd : Int) + (m : Int) - (s : Int) < (b : Int) := by omega
                    go_upto_region 41 with ((go_at_call 88; refine (HRO.out s m (dd + m - s) _ _ _ zs _ rfl rfl (by omega) HW.out (by omega) (by omega) (by omega)).mono ?_; rintro e w2 ⟨rfl, ys, hys, hrow2, hg2⟩; have HY := Lib.hid hys; have HWa := Lib.hid hrow2; have HGa := Lib.hid (only_trans HG.out hg2); clear hys hrow2 hg2))
                    have HSS := Lib.hid (HSP.out s ys q1 q2 q3 q4 HC1.out HC2.out HY.out.1)
                    have HRE := Lib.hid (HRV.out s ys q1 q2 q3 q4 HY.out.1 HY.out.2)
                    have HBY := Lib.hid (HZX.out.perm HY.out.2)
                    clear HY HW HG
                    go_upto_region 43 with (go_at_call 83; refine (HIH.out a s dd _ _ _ ys _ (by omega) rfl rfl rfl HWa.out HBY.out (by omega) (by omega) (by omega) HSS.out.1 HSS.out.2.1).mono ?_; rintro e w3 ⟨rfl, us, hus, hrow3, hg3⟩; have HUS := Lib.hid hus; have HWb := Lib.hid hrow3; have HGb := Lib.hid (only_trans HGa.out hg3); clear hus hrow3 hg3)
                    clear HWa HGa
                    have HCG : Hid (∀ k, dd ≤ k → k < b → us.getD k 0 = ys.getD k 0) := fun k h1 h2 => HUS.out.re.out k (.inr h1)
                    have HBU := Lib.hid (HBY.out.perm HUS.out.re.perm)
                    have HU3 : Hid (Up fkey us dd (dd + m - s)) := HSS.out.2.2.1.congr (fun k h1 h2 => HCG.out k h1 (by omega))
                    have HU4 : Hid (Up fkey us (dd + m - s) b) := HSS.out.2.2.2.1.congr (fun k h1 h2 => HCG.out k (by omega) h2)
                    go_wp2_with fail
                    obtain ⟨vs, HVS, HWc, HGc⟩ : ∃ vs : List Nat, Hid (Srt fkey us dd b vs) ∧ Hid (Frow w3 B g n cap vs) ∧ Hid (w.grownBy w3 (some g)) := ⟨us, ⟨Reorg.refl _ _ _, by have h1 := HU3.out; have h2 := HU4.out; first | (rw [show dd + m - s = b from by omega] at h1; exact h1) | (rw [show dd + m - s = dd from by omega] at h2; exact h2)⟩, HWb, HGb⟩
                    go_end0
                    have hj := join_up (K := fkey) (ys := ys) (zs := us) (ws := vs) (a := a) (d := dd) (b := b) (by omega) (by omega) HSS.out.2.2.2.2 HUS.out.re HVS.out.re HUS.out.up HVS.out.up
                    exact ⟨rfl, vs, ⟨HRE.out.trans hj.re, hj.up⟩, HWc.out, HGc.out⟩
              · by_cases h4 : dd + m - s < b
                · try (exfalso; omega)
                  all_goals
                    have i3 : (dd : Int) + (m : Int) - (s : Int) < (b : Int) := by omega
                    go_upto_region 41 with ((go_at_call 88; refine (HRO.out s m (dd + m - s) _ _ _ zs _ rfl rfl (by omega) HW.out (by omega) (by omega) (by omega)).mono ?_; rintro e w2 ⟨rfl, ys, hys, hrow2, hg2⟩; have HY := Lib.hid hys; have HWa := Lib.hid hrow2; have HGa := Lib.hid (only_trans HG.out hg2); clear hys hrow2 hg2))
                    have HSS := Lib.hid (HSP.out s ys q1 q2 q3 q4 HC1.out HC2.out HY.out.1)
                    have HRE := Lib.hid (HRV.out s ys q1 q2 q3 q4 HY.out.1 HY.out.2)
                    have HBY := Lib.hid (HZX.out.perm HY.out.2)
                    clear HY HW HG
                    go_upto_region 43 with fail
                    obtain ⟨us, HUS, HWb, HGb⟩ : ∃ us : List Nat, Hid (Srt fkey ys a dd us) ∧ Hid (Frow w2 B g n cap us) ∧ Hid (w.grownBy w2 (some g)) := ⟨ys, ⟨Reorg.refl _ _ _, by have h1 := HSS.out.1; have h2 := HSS.out.2.1; first | (rw [show s = dd from by omega] at h1; exact h1) | (rw [show s = a from by omega] at h2; exact h2)⟩, HWa, HGa⟩
                    clear HWa HGa
                    have HCG : Hid (∀ k, dd ≤ k → k < b → us.getD k 0 = ys.getD k 0) := fun k h1 h2 => HUS.out.re.out k (.inr h1)
                    have HBU := Lib.hid (HBY.out.perm HUS.out.re.perm)
                    have HU3 : Hid (Up fkey us dd (dd + m - s)) := HSS.out.2.2.1.congr (fun k h1 h2 => HCG.out k h1 (by omega))
                    have HU4 : Hid (Up fkey us (dd + m - s) b) := HSS.out.2.2.2.1.congr (fun k h1 h2 => HCG.out k (by omega) h2)
                    go_wp2_with (go_at_call 83; refine (HIH.out dd (dd + m - s) b _ _ _ us _ (by omega) rfl (by omega) rfl HWb.out HBU.out (by omega) (by omega) (by omega) HU3.out HU4.out).mono ?_; rintro e w4 ⟨rfl, vs, hvs, hrow4, hg4⟩; have HVS := Lib.hid hvs; have HWc := Lib.hid hrow4; have HGc := Lib.hid (only_trans HGb.out hg4); clear hvs hrow4 hg4)
                    go_end0
                    have hj := join_up (K := fkey) (ys := ys) (zs := us) (ws := vs) (a := a) (d := dd) (b := b) (by omega) (by omega) HSS.out.2.2.2.2 HUS.out.re HVS.out.re HUS.out.up HVS.out.up
                    exact ⟨rfl, vs, ⟨HRE.out.trans hj.re, hj.up⟩, HWc.out, HGc.out⟩
                · try (exfalso; omega)
                  all_goals
                    have i3 : ¬ (dd : Int) + (m : Int) - (s : Int) < (b : Int) := by omega
                    go_upto_region 41 with ((go_at_call 88; refine (HRO.out s m (dd + m - s) _ _ _ zs _ rfl rfl (by omega) HW.out (by omega) (by omega) (by omega)).mono ?_; rintro e w2 ⟨rfl, ys, hys, hrow2, hg2⟩; have HY := Lib.hid hys; have HWa := Lib.hid hrow2; have HGa := Lib.hid (only_trans HG.out hg2); clear hys hrow2 hg2))
                    have HSS := Lib.hid (HSP.out s ys q1 q2 q3 q4 HC1.out HC2.out HY.out.1)
                    have HRE := Lib.hid (HRV.out s ys q1 q2 q3 q4 HY.out.1 HY.out.2)
                    have HBY := Lib.hid (HZX.out.perm HY.out.2)
                    clear HY HW HG
                    go_upto_region 43 with fail
                    obtain ⟨us, HUS, HWb, HGb⟩ : ∃ us : List Nat, Hid (Srt fkey ys a dd us) ∧ Hid (Frow w2 B g n cap us) ∧ Hid (w.grownBy w2 (some g)) := ⟨ys, ⟨Reorg.refl _ _ _, by have h1 := HSS.out.1; have h2 := HSS.out.2.1; first | (rw [show s = dd from by omega] at h1; exact h1) | (rw [show s = a from by omega] at h2; exact h2)⟩, HWa, HGa⟩
                    clear HWa HGa
                    have HCG : Hid (∀ k, dd ≤ k → k < b → us.getD k 0 = ys.getD k 0) := fun k h1 h2 => HUS.out.re.out k (.inr h1)
                    have HBU := Lib.hid (HBY.out.perm HUS.out.re.perm)
                    have HU3 : Hid (Up fkey us dd (dd + m - s)) := HSS.out.2.2.1.congr (fun k h1 h2 => HCG.out k h1 (by omega))
                    have HU4 : Hid (Up fkey us (dd + m - s) b) := HSS.out.2.2.2.1.congr (fun k h1 h2 => HCG.out k (by omega) h2)
                    go_wp2_with fail
                    obtain ⟨vs, HVS, HWc, HGc⟩ : ∃ vs : List Nat, Hid (Srt fkey us dd b vs) ∧ Hid (Frow w2 B g n cap vs) ∧ Hid (w.grownBy w2 (some g)) := ⟨us, ⟨Reorg.refl _ _ _, by have h1 := HU3.out; have h2 := HU4.out; first | (rw [show dd + m - s = b from by omega] at h1; exact h1) | (rw [show dd + m - s = dd from by omega] at h2; exact h2)⟩, HWb, HGb⟩
                    go_end0
                    have hj := join_up (K := fkey) (ys := ys) (zs := us) (ws := vs) (a := a) (d := dd) (b := b) (by omega) (by omega) HSS.out.2.2.2.2 HUS.out.re HVS.out.re HUS.out.up HVS.out.up
                    exact ⟨rfl, vs, ⟨HRE.out.trans hj.re, hj.up⟩, HWc.out, HGc.out⟩
            · have i1 : ¬ (m : Int) < (dd : Int) + (m : Int) - (s : Int) := by omega
              have i2 : (dd : Int) < (dd : Int) + (m : Int) - (s : Int) := by omega
              by_cases h4 : dd + m - s < b
              · try (exfalso; omega)
                all_goals
                  have i3 : (dd : Int) + (m : Int) - (s : Int) < (b : Int) := by omega
                  go_upto_region 41 with (fail)
                  obtain ⟨ys, HY, HWa, HGa⟩ : ∃ ys : List Nat, Hid ((∀ k, ys.getD k 0 = rv zs s m (dd + m - s) k) ∧ ys.Perm zs) ∧ Hid (Frow wr B g n cap ys) ∧ Hid (w.grownBy wr (some g)) := ⟨zs, ⟨fun k => rv_same zs (by omega) q2 (by omega) k, List.Perm.refl _⟩, HW, HG⟩
                  have HSS := Lib.hid (HSP.out s ys q1 q2 q3 q4 HC1.out HC2.out HY.out.1)
                  have HRE := Lib.hid (HRV.out s ys q1 q2 q3 q4 HY.out.1 HY.out.2)
                  have HBY := Lib.hid (HZX.out.perm HY.out.2)
                  clear HY HW HG
                  go_upto_region 43 with fail
                  obtain ⟨us, HUS, HWb, HGb⟩ : ∃ us : List Nat, Hid (Srt fkey ys a dd us) ∧ Hid (Frow wr B g n cap us) ∧ Hid (w.grownBy wr (some g)) := ⟨ys, ⟨Reorg.refl _ _ _, by have h1 := HSS.out.1; have h2 := HSS.out.2.1; first | (rw [show s = dd from by omega] at h1; exact h1) | (rw [show s = a from by omega] at h2; exact h2)⟩, HWa, HGa⟩
                  clear HWa HGa
                  have HCG : Hid (∀ k, dd ≤ k → k < b → us.getD k 0 = ys.getD k 0) := fun k h1 h2 => HUS.out.re.out k (.inr h1)
                  have HBU := Lib.hid (HBY.out.perm HUS.out.re.perm)
                  have HU3 : Hid (Up fkey us dd (dd + m - s)) := HSS.out.2.2.1.congr (fun k h1 h2 => HCG.out k h1 (by omega))
                  have HU4 : Hid (Up fkey us (dd + m - s) b) := HSS.out.2.2.2.1.congr (fun k h1 h2 => HCG.out k (by omega) h2)
                  go_wp2_with (go_at_call 83; refine (HIH.out dd (dd + m - s) b _ _ _ us _ (by omega) rfl (by omega) rfl HWb.out HBU.out (by omega) (by omega) (by omega) HU3.out HU4.out).mono ?_; rintro e w4 ⟨rfl, vs, hvs, hrow4, hg4⟩; have HVS := Lib.hid hvs; have HWc := Lib.hid hrow4; have HGc := Lib.hid (only_trans HGb.out hg4); clear hvs hrow4 hg4)
                  go_end0
                  have hj := join_up (K := fkey) (ys := ys) (zs := us) (ws := vs) (a := a) (d := dd) (b := b) (by omega) (by omega) HSS.out.2.2.2.2 HUS.out.re HVS.out.re HUS.out.up HVS.out.up
                  exact ⟨rfl, vs, ⟨HRE.out.trans hj.re, hj.up⟩, HWc.out, HGc.out⟩
              · try (exfalso; omega)
                all_goals
                  have i3 : ¬ (dd : Int) + (m : Int) - (s : Int) < (b : Int) := by omega
                  go_upto_region 41 with (fail)
                  obtain ⟨ys, HY, HWa, HGa⟩ : ∃ ys : List Nat, Hid ((∀ k, ys.getD k 0 = rv zs s m (dd + m - s) k) ∧ ys.Perm zs) ∧ Hid (Frow wr B g n cap ys) ∧ Hid (w.grownBy wr (some g)) := ⟨zs, ⟨fun k => rv_same zs (by omega) q2 (by omega) k, List.Perm.refl _⟩, HW, HG⟩
                  have HSS := Lib.hid (HSP.out s ys q1 q2 q3 q4 HC1.out HC2.out HY.out.1)
                  have HRE := Lib.hid (HRV.out s ys q1 q2 q3 q4 HY.out.1 HY.out.2)
                  have HBY := Lib.hid (HZX.out.perm HY.out.2)
                  clear HY HW HG
                  go_upto_region 43 with fail
                  obtain ⟨us, HUS, HWb, HGb⟩ : ∃ us : List Nat, Hid (Srt fkey ys a dd us) ∧ Hid (Frow wr B g n cap us) ∧ Hid (w.grownBy wr (some g)) := ⟨ys, ⟨Reorg.refl _ _ _, by have h1 := HSS.out.1; have h2 := HSS.out.2.1; first | (rw [show s = dd from by omega] at h1; exact h1) | (rw [show s = a from by omega] at h2; exact h2)⟩, HWa, HGa⟩
                  clear HWa HGa
                  have HCG : Hid (∀ k, dd ≤ k → k < b → us.getD k 0 = ys.getD k 0) := fun k h1 h2 => HUS.out.re.out k (.inr h1)
                  have HBU := Lib.hid (HBY.out.perm HUS.out.re.perm)
                  have HU3 : Hid (Up fkey us dd (dd + m - s)) := HSS.out.2.2.1.congr (fun k h1 h2 => HCG.out k h1 (by omega))
                  have HU4 : Hid (Up fkey us (dd + m - s) b) := HSS.out.2.2.2.1.congr (fun k h1 h2 => HCG.out k (by omega) h2)
                  go_wp2_with fail
                  obtain ⟨vs, HVS, HWc, HGc⟩ : ∃ vs : List Nat, Hid (Srt fkey us dd b vs) ∧ Hid (Frow wr B g n cap vs) ∧ Hid (w.grownBy wr (some g)) := ⟨us, ⟨Reorg.refl _ _ _, by have h1 := HU3.out; have h2 := HU4.out; first | (rw [show dd + m - s = b from by omega] at h1; exact h1) | (rw [show dd + m - s = dd from by omega] at h2; exact h2)⟩, HWb, HGb⟩
                  go_end0
                  have hj := join_up (K := fkey) (ys := ys) (zs := us) (ws := vs) (a := a) (d := dd) (b := b) (by omega) (by omega) HSS.out.2.2.2.2 HUS.out.re HVS.out.re HUS.out.up HVS.out.up
                  exact ⟨rfl, vs, ⟨HRE.out.trans hj.re, hj.up⟩, HWc.out, HGc.out⟩
          · have i2 : ¬ (dd : Int) < (dd : Int) + (m : Int) - (s : Int) := by omega
            by_cases h3 : s < dd
            · try (exfalso; omega)
              all_goals
                have h5 : a < s := by omega
                go_upto_region 41 with (fail)
                obtain ⟨ys, HY, HWa, HGa⟩ : ∃ ys : List Nat, Hid ((∀ k, ys.getD k 0 = rv zs s m (dd + m - s) k) ∧ ys.Perm zs) ∧ Hid (Frow wr B g n cap ys) ∧ Hid (w.grownBy wr (some g)) := ⟨zs, ⟨fun k => rv_same zs (by omega) q2 (by omega) k, List.Perm.refl _⟩, HW, HG⟩
                have HSS := Lib.hid (HSP.out s ys q1 q2 q3 q4 HC1.out HC2.out HY.out.1)
                have HRE := Lib.hid (HRV.out s ys q1 q2 q3 q4 HY.out.1 HY.out.2)
                have HBY := Lib.hid (HZX.out.perm HY.out.2)
                clear HY HW HG
                go_upto_region 43 with (go_at_call 83; refine (HIH.out a s dd _ _ _ ys _ (by omega) rfl rfl rfl HWa.out HBY.out (by omega) (by omega) (by omega) HSS.out.1 HSS.out.2.1).mono ?_; rintro e w3 ⟨rfl, us, hus, hrow3, hg3⟩; have HUS := Lib.hid hus; have HWb := Lib.hid hrow3; have HGb := Lib.hid (only_trans HGa.out hg3); clear hus hrow3 hg3)
                clear HWa HGa
                have HCG : Hid (∀ k, dd ≤ k → k < b → us.getD k 0 = ys.getD k 0) := fun k h1 h2 => HUS.out.re.out k (.inr h1)
                have HBU := Lib.hid (HBY.out.perm HUS.out.re.perm)
                have HU3 : Hid (Up fkey us dd (dd + m - s)) := HSS.out.2.2.1.congr (fun k h1 h2 => HCG.out k h1 (by omega))
                have HU4 : Hid (Up fkey us (dd + m - s) b) := HSS.out.2.2.2.1.congr (fun k h1 h2 => HCG.out k (by omega) h2)
                go_wp2_with fail
                obtain ⟨vs, HVS, HWc, HGc⟩ : ∃ vs : List Nat, Hid (Srt fkey us dd b vs) ∧ Hid (Frow w3 B g n cap vs) ∧ Hid (w.grownBy w3 (some g)) := ⟨us, ⟨Reorg.refl _ _ _, by have h1 := HU3.out; have h2 := HU4.out; first | (rw [show dd + m - s = b from by omega] at h1; exact h1) | (rw [show dd + m - s = dd from by omega] at h2; exact h2)⟩, HWb, HGb⟩
                go_end0
                have hj := join_up (K := fkey) (ys := ys) (zs := us) (ws := vs) (a := a) (d := dd) (b := b) (by omega) (by omega) HSS.out.2.2.2.2 HUS.out.re HVS.out.re HUS.out.up HVS.out.up
                exact ⟨rfl, vs, ⟨HRE.out.trans hj.re, hj.up⟩, HWc.out, HGc.out⟩
            · try (exfalso; omega)
              all_goals
                have h5 : a < s := by omega
                go_upto_region 41 with (fail)
                obtain ⟨ys, HY, HWa, HGa⟩ : ∃ ys : List Nat, Hid ((∀ k, ys.getD k 0 = rv zs s m (dd + m - s) k) ∧ ys.Perm zs) ∧ Hid (Frow wr B g n cap ys) ∧ Hid (w.grownBy wr (some g)) := ⟨zs, ⟨fun k => rv_same zs (by omega) q2 (by omega) k, List.Perm.refl _⟩, HW, HG⟩
                have HSS := Lib.hid (HSP.out s ys q1 q2 q3 q4 HC1.out HC2.out HY.out.1)
                have HRE := Lib.hid (HRV.out s ys q1 q2 q3 q4 HY.out.1 HY.out.2)
                have HBY := Lib.hid (HZX.out.perm HY.out.2)
                clear HY HW HG
                go_upto_region 43 with fail
                obtain ⟨us, HUS, HWb, HGb⟩ : ∃ us : List Nat, Hid (Srt fkey ys a dd us) ∧ Hid (Frow wr B g n cap us) ∧ Hid (w.grownBy wr (some g)) := ⟨ys, ⟨Reorg.refl _ _ _, by have h1 := HSS.out.1; have h2 := HSS.out.2.1; first | (rw [show s = dd from by omega] at h1; exact h1) | (rw [show s = a from by omega] at h2; exact h2)⟩, HWa, HGa⟩
                clear HWa HGa
                have HCG : Hid (∀ k, dd ≤ k → k < b → us.getD k 0 = ys.getD k 0) := fun k h1 h2 => HUS.out.re.out k (.inr h1)
                have HBU := Lib.hid (HBY.out.perm HUS.out.re.perm)
                have HU3 : Hid (Up fkey us dd (dd + m - s)) := HSS.out.2.2.1.congr (fun k h1 h2 => HCG.out k h1 (by omega))
                have HU4 : Hid (Up fkey us (dd + m - s) b) := HSS.out.2.2.2.1.congr (fun k h1 h2 => HCG.out k (by omega) h2)
                go_wp2_with fail
                obtain ⟨vs, HVS, HWc, HGc⟩ : ∃ vs : List Nat, Hid (Srt fkey us dd b vs) ∧ Hid (Frow wr B g n cap vs) ∧ Hid (w.grownBy wr (some g)) := ⟨us, ⟨Reorg.refl _ _ _, by have h1 := HU3.out; have h2 := HU4.out; first | (rw [show dd + m - s = b from by omega] at h1; exact h1) | (rw [show dd + m - s = dd from by omega] at h2; exact h2)⟩, HWb, HGb⟩
                go_end0
                have hj := join_up (K := fkey) (ys := ys) (zs := us) (ws := vs) (a := a) (d := dd) (b := b) (by omega) (by omega) HSS.out.2.2.2.2 HUS.out.re HVS.out.re HUS.out.up HVS.out.up
                exact ⟨rfl, vs, ⟨HRE.out.trans hj.re, hj.up⟩, HWc.out, HGc.out⟩
end Go.Proofs.Ytpgdiiplnnaegaa
