/- Walk: floats sorted by blocks that are merged (slices.stableCmpFunc, slices.SortStableFunc). Conditions: as stated. -/
import Derived.Test.YtpgdiiplnnaegaaFn
namespace Go.Proofs.Ytpgdiiplnnaegaa
open Go.RowKit
set_option linter.unusedVariables false

theorem dvd_step {s c a : Nat} (h1 : s ∣ c) (h2 : s ∣ a) (h : c < a) : c + s ≤ a := by
  have := Nat.le_of_dvd (by omega) (Nat.dvd_sub h2 h1)
  omega
/-- All blocks of s rise. -/
def Bls (s : Nat) (ys : List Nat) (n : Nat) : Prop := ∀ c, s ∣ c → c < n → Up fkey ys c (min (c + s) n)
/-- The blocks of s ahead of a rise. -/
def Pre (s : Nat) (ys : List Nat) (a : Nat) : Prop := ∀ c, s ∣ c → c < a → Up fkey ys c (c + s)
/-- The blocks of s from a on rise. -/
def Suf (s : Nat) (ys : List Nat) (a n : Nat) : Prop := ∀ c, s ∣ c → a ≤ c → c < n → Up fkey ys c (min (c + s) n)
theorem Pre.step {s a : Nat} {ys zs : List Nat} (h : Pre s ys a) (hd : s ∣ a) (h2 : Srt fkey ys a (a + s) zs) : Pre s zs (a + s) := fun c h3 h4 => by
  rcases Nat.lt_or_ge c a with h5 | h5
  · have h6 := dvd_step h3 hd h5
    exact (h c h3 h5).congr fun i g1 g2 => h2.re.out i (.inl (by omega))
  · have : c = a := by
      rcases Nat.lt_or_ge a c with h7 | h7
      · have := dvd_step hd h3 h7; omega
      · omega
    subst this
    exact h2.up
theorem Pre.last {s a n : Nat} {ys zs : List Nat} (h : Pre s ys a) (hd : s ∣ a) (ha : a ≤ n) (hn : n < a + s) (h2 : Srt fkey ys a n zs) : Bls s zs n := fun c h3 h4 => by
  rcases Nat.lt_or_ge c a with h5 | h5
  · have h6 := dvd_step h3 hd h5
    refine Up.congr (Up.sub (h c h3 h5) (Nat.le_refl _) (Nat.min_le_left _ _)) fun i g1 g2 => h2.re.out i (.inl (by omega))
  · have : c = a := by
      rcases Nat.lt_or_ge a c with h7 | h7
      · have := dvd_step hd h3 h7; omega
      · omega
    subst this
    exact h2.up.sub (Nat.le_refl _) (Nat.min_le_right _ _)
theorem Suf.step {s a n : Nat} {ys zs : List Nat} (h : Suf s ys a n) (h2 : Srt fkey ys a (a + 2 * s) zs) : Suf s zs (a + 2 * s) n := fun c h3 h4 h5 => (h c h3 (by omega) h5).congr fun i g1 g2 => h2.re.out i (.inr (by omega))
set_option maxRecDepth 100000 in
set_option maxHeartbeats 4000000 in
theorem c_stable (B g n cap : Nat) (zs : List Nat) (w : World) (h : Frow w B g n cap zs) (hx : Bit zs) (hn : n ≤ 35184372088832) :
    Calls Try.prog 75 #[.slice (some ⟨g, 0, none⟩) n cap, .int .i64 n, cmpV] w (Left B g n cap w fun ys => Srt fkey zs 0 n ys) := by
  have HXL := Lib.hid h.len
  have HR := Lib.hid h
  have HZX := Lib.hid hx
  clear h hx
  have HI : Hid (∀ (a b : Nat) (p q : Int) (ys : List Nat) (w : World), p = (a : Int) → q = (b : Int) → Frow w B g n cap ys → Bit ys → a ≤ b → b ≤ n → Calls Try.prog 82 #[.slice (some ⟨g, 0, none⟩) n cap, .int .i64 p, .int .i64 q, cmpV] w (Left B g n cap w fun us => Srt fkey ys a b us)) := fun a b p q ys w hp hq h1 h2 h3 h4 => by subst hp; subst hq; exact c_ins B g n cap ys a b w h1 h2 (by omega) h3 h4
  have HS : Hid (∀ (a m b : Nat) (p q r : Int) (ys : List Nat) (w : World), p = (a : Int) → q = (m : Int) → r = (b : Int) → Frow w B g n cap ys → Bit ys → a < m → m < b → b ≤ n → Up fkey ys a m → Up fkey ys m b → Calls Try.prog 83 #[.slice (some ⟨g, 0, none⟩) n cap, .int .i64 p, .int .i64 q, .int .i64 r, cmpV] w (Left B g n cap w fun us => Srt fkey ys a b us)) := fun a m b p q r ys w hp hq hr h1 h2 h3 h4 h5 h6 h7 => by subst hp; subst hq; subst hr; exact c_sym B g n cap (by omega) (b - a) a m b ys w (Nat.le_refl _) h1 h2 h3 h4 h5 h6 h7
  go_enter Try.func75, Try.ntmps75
  go_wp2_with fail
  go_loopw [7, 8] (fun va vb wr => ∃ (a : Nat) (ys : List Nat), va = .int .i64 a ∧ vb = .int .i64 ((a : Int) + 20) ∧ a ≤ n ∧ Hid (20 ∣ a ∧ Pre 20 ys a ∧ Reorg zs 0 n ys) ∧ Frow wr B g n cap ys ∧ w.grownBy wr (some g)) (fun va _ _ => n - (intOf va).toNat)
  case atStart => exact ⟨0, zs, rfl, intv (by omega), by omega, ⟨Nat.dvd_zero _, fun c h1 h2 => by omega, Reorg.refl _ _ _⟩, HR.out, World.grownBy.refl _ _⟩
  case round =>
    obtain ⟨a, ys, rfl, rfl, ha, HJ, hrow, hg⟩ := hrel
    have HW := Lib.hid hrow
    have HG := Lib.hid hg
    have HBY := Lib.hid (HZX.out.perm HJ.out.2.2.perm)
    clear hrow hg
    by_cases hlt : a + 20 ≤ n
    · go_wp2_with (go_at_call 82; refine (HI.out a (a + 20) _ _ ys _ rfl (by omega) HW.out HBY.out (by omega) hlt).mono ?_; rintro e w2 ⟨rfl, us, hus, hrow2, hg2⟩; have HUS := Lib.hid hus; have HW2 := Lib.hid hrow2; have HG2 := Lib.hid (only_trans HG.out hg2); clear hus hrow2 hg2)
      have HF : Hid (20 ∣ (a + 20) ∧ Pre 20 us (a + 20) ∧ Reorg zs 0 n us) := ⟨Nat.dvd_add HJ.out.1 (Nat.dvd_refl _), HJ.out.2.1.step HJ.out.1 HUS.out, HJ.out.2.2.trans (HUS.out.re.wide (Nat.zero_le _) hlt)⟩
      go_roundw
      case rel => exact ⟨a + 20, us, intv (by omega), intv (by omega), hlt, HF.out, HW2.out, HG2.out⟩
      case measure => simp [intOf]; omega
    · go_wp2_with (go_at_call 82; refine (HI.out a n _ _ ys _ rfl rfl HW.out HBY.out ha (Nat.le_refl _)).mono ?_; rintro e w2 ⟨rfl, us, hus, hrow2, hg2⟩; have HUS := Lib.hid hus; have HW2 := Lib.hid hrow2; have HG2 := Lib.hid (only_trans HG.out hg2); clear hus hrow2 hg2)
      have HF : Hid (Bls 20 us n ∧ Reorg zs 0 n us) := ⟨HJ.out.2.1.last HJ.out.1 ha (by omega) HUS.out, HJ.out.2.2.trans (HUS.out.re.wide (Nat.zero_le _) (Nat.le_refl _))⟩
      clear HW HG HBY HJ HUS hlt
      go_loopw [6] (fun vs wr => ∃ (s : Nat) (ys : List Nat), vs = .int .i64 s ∧ 20 ≤ s ∧ s ≤ 2 * n + 20 ∧ Hid (Bls s ys n ∧ Reorg zs 0 n ys) ∧ Frow wr B g n cap ys ∧ w.grownBy wr (some g)) (fun vs _ => n - (intOf vs).toNat)
      case atStart => exact ⟨20, us, rfl, by omega, by omega, HF.out, HW2.out, HG2.out⟩
      case round =>
        obtain ⟨s, ys, rfl, hs1, hs2, HJ, hrow, hg⟩ := hrel
        have HW := Lib.hid hrow
        have HG := Lib.hid hg
        clear hrow hg
        obtain ⟨wo, rfl⟩ : ∃ wo : World, wo = wr := ⟨_, rfl⟩
        by_cases hlt : s < n
        · go_wp2_with fail
          go_loopw [7, 8] (fun va vb wr => ∃ (a : Nat) (us : List Nat), va = .int .i64 a ∧ vb = .int .i64 ((a : Int) + 2 * (s : Int)) ∧ a ≤ n ∧ Hid ((2 * s) ∣ a ∧ Pre (2 * s) us a ∧ Suf s us a n ∧ Reorg zs 0 n us) ∧ Frow wr B g n cap us ∧ w.grownBy wr (some g)) (fun va _ _ => n - (intOf va).toNat)
          case atStart => exact ⟨0, ys, rfl, intv (by omega), by omega, ⟨Nat.dvd_zero _, fun c h1 h2 => by omega, fun c h1 _ h2 => HJ.out.1 c h1 h2, HJ.out.2⟩, HW.out, HG.out⟩
          case round =>
            obtain ⟨a, us, rfl, rfl, ha, HK, hrow, hg⟩ := hrel
            clear HW HG
            have HW := Lib.hid hrow
            have HG := Lib.hid hg
            have HBY := Lib.hid (HZX.out.perm HK.out.2.2.2.perm)
            clear hrow hg
            have HSD : Hid (s ∣ a) := Nat.dvd_trans (Nat.dvd_mul_left s 2) HK.out.1
            have HU1 : Hid (a < n → Up fkey us a (min (a + s) n)) := fun h => HK.out.2.2.1 a HSD.out (Nat.le_refl _) h
            have HU2 : Hid (a + s < n → Up fkey us (a + s) (min (a + 2 * s) n)) := fun h => by
              have := HK.out.2.2.1 (a + s) (Nat.dvd_add HSD.out (Nat.dvd_refl _)) (by omega) h
              rw [show a + s + s = a + 2 * s from by omega] at this
              exact this
            by_cases hlt2 : a + 2 * s ≤ n
            · have i1 : (a : Int) + 2 * (s : Int) ≤ (n : Int) := by omega
              go_wp2_with (go_at_call 83; refine (HS.out a (a + s) (a + 2 * s) _ _ _ us _ rfl (by omega) (by omega) HW.out HBY.out (by omega) (by omega) hlt2 ((HU1.out (by omega)).sub (Nat.le_refl _) (by omega)) ((HU2.out (by omega)).sub (Nat.le_refl _) (by omega))).mono ?_; rintro e w3 ⟨rfl, vs, hvs, hrow3, hg3⟩; have HVS := Lib.hid hvs; have HW3 := Lib.hid hrow3; have HG3 := Lib.hid (only_trans HG.out hg3); clear hvs hrow3 hg3)
              have HF3 : Hid ((2 * s) ∣ (a + 2 * s) ∧ Pre (2 * s) vs (a + 2 * s) ∧ Suf s vs (a + 2 * s) n ∧ Reorg zs 0 n vs) := ⟨Nat.dvd_add HK.out.1 (Nat.dvd_refl _), HK.out.2.1.step HK.out.1 HVS.out, HK.out.2.2.1.step HVS.out, HK.out.2.2.2.trans (HVS.out.re.wide (Nat.zero_le _) hlt2)⟩
              go_roundw
              case rel => exact ⟨a + 2 * s, vs, intv (by omega), intv (by omega), hlt2, HF3.out, HW3.out, HG3.out⟩
              case measure => simp [intOf]; omega
            · have i1 : ¬ (a : Int) + 2 * (s : Int) ≤ (n : Int) := by omega
              by_cases hlt3 : a + s < n
              · have i2 : (a : Int) + (s : Int) < (n : Int) := by omega
                go_wp2_with (go_at_call 83; refine (HS.out a (a + s) n _ _ _ us _ rfl (by omega) rfl HW.out HBY.out (by omega) hlt3 (Nat.le_refl _) ((HU1.out (by omega)).sub (Nat.le_refl _) (by omega)) ((HU2.out hlt3).sub (Nat.le_refl _) (by omega))).mono ?_; rintro e w3 ⟨rfl, vs, hvs, hrow3, hg3⟩; have HVS := Lib.hid hvs; have HW3 := Lib.hid hrow3; have HG3 := Lib.hid (only_trans HG.out hg3); clear hvs hrow3 hg3)
                have HF3 : Hid (Bls (2 * s) vs n ∧ Reorg zs 0 n vs) := ⟨HK.out.2.1.last HK.out.1 ha (by omega) HVS.out, HK.out.2.2.2.trans (HVS.out.re.wide (Nat.zero_le _) (Nat.le_refl _))⟩
                go_roundw
                case rel => exact ⟨2 * s, vs, intv (by omega), by omega, by omega, HF3.out, HW3.out, HG3.out⟩
                case measure => simp [intOf]; omega
              · have i2 : ¬ (a : Int) + (s : Int) < (n : Int) := by omega
                have HV : Hid (Srt fkey us a n us) := ⟨Reorg.refl _ _ _, by
                  rcases Nat.lt_or_ge a n with h | h
                  · exact (HU1.out h).sub (Nat.le_refl _) (by omega)
                  · exact Up.one _ _ (by omega)⟩
                have HF3 : Hid (Bls (2 * s) us n ∧ Reorg zs 0 n us) := ⟨HK.out.2.1.last HK.out.1 ha (by omega) HV.out, HK.out.2.2.2⟩
                go_wp2_with fail
                go_roundw
                case rel => exact ⟨2 * s, us, intv (by omega), by omega, by omega, HF3.out, HW.out, HG.out⟩
                case measure => simp [intOf]; omega
        · have HE : Hid (Srt fkey zs 0 n ys) := ⟨HJ.out.2, by
            rcases Nat.eq_zero_or_pos n with h0 | h0
            · exact Up.one _ _ (by omega)
            · exact (HJ.out.1 0 (Nat.dvd_zero _) h0).sub (Nat.le_refl _) (by omega)⟩
          go_wp2_with fail
          go_end0
          exact ⟨rfl, ys, HE.out, HW.out, HG.out⟩
theorem c_sortStable (B g n cap : Nat) (zs : List Nat) (w : World) (h : Frow w B g n cap zs) (hx : Bit zs) (hn : n ≤ 35184372088832) :
    Calls Try.prog 61 #[.slice (some ⟨g, 0, none⟩) n cap, cmpV] w (Left B g n cap w fun ys => Srt fkey zs 0 n ys) := by
  have HC := Lib.hid (c_stable B g n cap zs w h hx hn)
  clear h hx
  go_enter Try.func61, Try.ntmps61
  go_wp2_with (go_at_call 75; refine HC.out.mono ?_; rintro e w2 ⟨rfl, us, hus, hrow2, hg2⟩)
  go_end0
  exact ⟨rfl, us, hus, hrow2, hg2⟩
end Go.Proofs.Ytpgdiiplnnaegaa
