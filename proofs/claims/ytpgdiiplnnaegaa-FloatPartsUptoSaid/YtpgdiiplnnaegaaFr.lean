/- Walks: a range of floats turned (slices.rotateCmpFunc), sorted by letting one down after the other (slices.insertionSortCmpFunc). Conditions: as stated. -/
import Derived.Test.YtpgdiiplnnaegaaFv
namespace Go.Proofs.Ytpgdiiplnnaegaa
open Go.RowKit
set_option linter.unusedVariables false
attribute [local go_sem ↓] Go.wp_at_zero Go.wp_at_succ
attribute [local go_sem] run_store_float

theorem Frow.drewN {w : World} {B g n cap : Nat} {xs : List Nat} (h : Frow w B g n cap xs) (k : Nat) : Frow (w.drewN k) B g n cap xs := own_none h (only_drewN (World.grownBy.refl w none) k)
theorem intv {a b : Int} (h : a = b) : Value.int .i64 a = .int .i64 b := by rw [h]
set_option maxRecDepth 100000 in
set_option maxHeartbeats 1000000 in
theorem c_rotate (B g n cap : Nat) (xs : List Nat) (a m b : Nat) (w : World) (h : Frow w B g n cap xs) (hn : n ≤ 140737488355328) (ham : a < m) (hmb : m < b) (hb : b ≤ n) :
    Calls Try.prog 88 #[.slice (some ⟨g, 0, none⟩) n cap, .int .i64 a, .int .i64 m, .int .i64 b, cmpV] w (Left B g n cap w fun ys => (∀ k, ys.getD k 0 = rv xs a m b k) ∧ ys.Perm xs) := by
  have HR := Lib.hid h
  have HC : Hid (∀ (i k j : Nat) (p q : Int) (ys : List Nat) (w : World), Frow w B g n cap ys → p = (i : Int) → q = (k : Int) → i + j ≤ k → k + j ≤ n → Calls Try.prog 90 #[.slice (some ⟨g, 0, none⟩) n cap, .int .i64 p, .int .i64 q, .int .i64 j, cmpV] w (Left B g n cap w fun zs => Swr ys i k j zs ∧ zs.Perm ys)) := fun i k j p q ys w h hp hq h1 h2 => by subst hp; subst hq; exact c_swr B g n cap ys i k j w h hn h1 h2
  clear h
  go_enter Try.func88, Try.ntmps88
  go_wp2
  go_loopw [10, 11] (fun vi vj wr => ∃ (i j : Nat) (ys : List Nat), vi = .int .i64 i ∧ vj = .int .i64 j ∧ 0 < i ∧ 0 < j ∧ a + i ≤ m ∧ m + j ≤ b ∧ Hid ((∀ k, rv ys (m - i) m (m + j) k = rv xs a m b k) ∧ ys.Perm xs) ∧ Frow wr B g n cap ys ∧ w.grownBy wr (some g)) (fun vi vj _ => (intOf vi).toNat + (intOf vj).toNat)
  case atStart => exact ⟨m - a, b - m, xs, intv (by omega), intv (by omega), by omega, by omega, by omega, by omega, ⟨fun k => by rw [show m - (m - a) = a from by omega, show m + (b - m) = b from by omega], List.Perm.refl _⟩, HR.out, World.grownBy.refl _ _⟩
  case round =>
    obtain ⟨i, j, ys, rfl, rfl, hi0, hj0, hi, hj, HI, hrow, hg⟩ := hrel
    have HW := Lib.hid hrow
    have HG := Lib.hid hg
    clear hrow hg
    rcases Nat.lt_trichotomy i j with hij | hij | hij
    · have t1 : ((i : Int) == (j : Int)) = false := by simp; omega
      have t2 : ¬ (j : Int) < (i : Int) := by omega
      go_wp2_with (go_at_call 90; refine (HC.out (m - i) (m + j - i) i _ _ ys _ HW.out (by omega) (by omega) (by omega) (by omega)).mono ?_; rintro e w2 ⟨rfl, zs, ⟨hs, hp⟩, hrow2, hg2⟩; have HW2 := Lib.hid hrow2; have HG2 := Lib.hid (only_trans HG.out hg2); have HI2 : Hid ((∀ k, rv zs (m - i) m (m + (j - i)) k = rv xs a m b k) ∧ zs.Perm xs) := ⟨fun k => (rv_small hs hij (by omega) k).trans (HI.out.1 k), hp.trans HI.out.2⟩; clear hs hp hrow2 hg2)
      go_roundw
      case rel => exact ⟨i, j - i, zs, rfl, intv (by omega), hi0, by omega, hi, by omega, HI2, HW2.out, HG2.out⟩
      case measure => simp [intOf]; omega
    · have t1 : ((i : Int) == (j : Int)) = true := by simp; omega
      have HE : Hid (j = i) := hij.symm
      clear hij
      go_wp2_with (go_at_call 90; refine (HC.out (m - i) m i _ _ ys _ HW.out (by omega) rfl (by omega) (by have := HE.out; omega)).mono ?_; rintro e w2 ⟨rfl, zs, ⟨hs, hp⟩, hrow2, hg2⟩; have HW2 := Lib.hid hrow2; have HG2 := Lib.hid (only_trans HG.out hg2); have HI2 : Hid ((∀ k, zs.getD k 0 = rv xs a m b k) ∧ zs.Perm xs) := ⟨fun k => (rv_even hs (by omega) k).trans ((by rw [HE.out] : rv ys (m - i) m (m + i) k = rv ys (m - i) m (m + j) k).trans (HI.out.1 k)), hp.trans HI.out.2⟩; clear hs hp hrow2 hg2)
      go_end0
      exact ⟨rfl, zs, HI2.out, HW2.out, HG2.out⟩
    · have t1 : ((i : Int) == (j : Int)) = false := by simp; omega
      have t2 : (j : Int) < (i : Int) := by omega
      go_wp2_with (go_at_call 90; refine (HC.out (m - i) m j _ _ ys _ HW.out (by omega) rfl (by omega) (by omega)).mono ?_; rintro e w2 ⟨rfl, zs, ⟨hs, hp⟩, hrow2, hg2⟩; have HW2 := Lib.hid hrow2; have HG2 := Lib.hid (only_trans HG.out hg2); have HI2 : Hid ((∀ k, rv zs (m - (i - j)) m (m + j) k = rv xs a m b k) ∧ zs.Perm xs) := ⟨fun k => (rv_big hs hij (by omega) k).trans (HI.out.1 k), hp.trans HI.out.2⟩; clear hs hp hrow2 hg2)
      go_roundw
      case rel => exact ⟨i - j, j, zs, intv (by omega), rfl, by omega, hj0, by omega, hj, HI2, HW2.out, HG2.out⟩
      case measure => simp [intOf]; omega
theorem fcmp_lt (a b : Nat) : fcmp a b < 0 ↔ fkey a < fkey b := by
  unfold fcmp
  split
  · simp; assumption
  · split <;> simp <;> omega
theorem c_CompareS (a b : Nat) (ha : a < 18446744073709551616) (hb : b < 18446744073709551616) (w : World) : Calls Try.prog 11 #[.float .f64 a, .float .f64 b] w fun e w' => e = .returned (.int .i64 (fcmp a b)) ∧ w' = w :=
  (c_Compare a b ha hb w).mono fun e w' ⟨h1, h2⟩ => ⟨h1, h2.symm⟩
/-- All numbers are bits. -/
def Bit (xs : List Nat) : Prop := ∀ z ∈ xs, z < 18446744073709551616
theorem Bit.get {xs : List Nat} (h : Bit xs) (k : Nat) : xs.getD k 0 < 18446744073709551616 := by
  rcases Nat.lt_or_ge k xs.length with hk | hk
  · simp only [List.getD, List.getElem?_eq_getElem hk, Option.getD_some]; exact h _ (List.getElem_mem hk)
  · simp [List.getD, List.getElem?_eq_none hk]
theorem Bit.perm {xs ys : List Nat} (h : Bit xs) (hp : ys.Perm xs) : Bit ys := fun z hz => h z (hp.mem_iff.1 hz)
set_option maxRecDepth 100000 in
set_option maxHeartbeats 2000000 in
theorem c_ins (B g n cap : Nat) (xs : List Nat) (a b : Nat) (w : World) (h : Frow w B g n cap xs) (hx : Bit xs) (hn : n ≤ 140737488355328) (hab : a ≤ b) (hb : b ≤ n) :
    Calls Try.prog 82 #[.slice (some ⟨g, 0, none⟩) n cap, .int .i64 a, .int .i64 b, cmpV] w (Left B g n cap w fun ys => Srt fkey xs a b ys) := by
  have HXL := Lib.hid h.len
  have HR := Lib.hid h
  have HX := Lib.hid hx
  clear h hx
  go_enter Try.func82, Try.ntmps82
  go_wp2
  go_loopw [8] (fun vi wr => ∃ (i : Nat) (ys : List Nat), vi = .int .i64 i ∧ a < i ∧ i ≤ b + 1 ∧ Hid (Up fkey ys a i ∧ Reorg xs a b ys) ∧ Frow wr B g n cap ys ∧ w.grownBy wr (some g)) (fun vi _ => b + 1 - (intOf vi).toNat)
  case atStart => exact ⟨a + 1, xs, intv (by omega), by omega, by omega, ⟨Up.one _ _ (by omega), Reorg.refl _ _ _⟩, HR.out, World.grownBy.refl _ _⟩
  case round =>
    obtain ⟨i, ys, rfl, hai, hib, HI, hrow, hg⟩ := hrel
    have HW := Lib.hid hrow
    have HG := Lib.hid hg
    clear hrow hg
    by_cases hlt : i < b
    · obtain ⟨wo, rfl⟩ : ∃ wo : World, wo = wr := ⟨_, rfl⟩
      go_wp2_with fail
      go_loopw [9] (fun vj wr => ∃ (j : Nat) (zs : List Nat), vj = .int .i64 j ∧ a ≤ j ∧ j ≤ i ∧ Hid (Ins fkey zs a i j ∧ Reorg xs a b zs) ∧ Frow wr B g n cap zs ∧ w.grownBy wr (some g)) (fun vj _ => (intOf vj).toNat)
      case atStart => exact ⟨i, ys, rfl, by omega, by omega, ⟨Ins.start HI.out.1, HI.out.2⟩, HW.out, HG.out⟩
      case round =>
        obtain ⟨j, zs, rfl, haj, hji, HJ, hrowj, hgj⟩ := hrel
        have HWj := Lib.hid hrowj
        have HGj := Lib.hid hgj
        have HOUT : Hid ((j ≤ a ∨ fkey (zs.getD (j - 1) 0) ≤ fkey (zs.getD j 0)) → Up fkey zs a (i + 1) ∧ Reorg xs a b zs) := fun hd => ⟨HJ.out.1.done hji hd, HJ.out.2⟩
        by_cases hja : a < j
        · have hc1 := hrowj.cell (i := j) (by omega)
          have hc2 := hrowj.cell (i := j - 1) (by omega)
          have hcp := c_CompareS (zs.getD j 0) (zs.getD (j - 1) 0) ((HX.out.perm HJ.out.2.perm).get _) ((HX.out.perm HJ.out.2.perm).get _)
          have HK : Hid (fcmp (zs.getD j 0) (zs.getD (j - 1) 0) < 0 ↔ fkey (zs.getD j 0) < fkey (zs.getD (j - 1) 0)) := fcmp_lt _ _
          have HST : Hid (fkey (zs.getD j 0) < fkey (zs.getD (j - 1) 0) → Ins fkey (sw zs j (j - 1)) a i (j - 1) ∧ Reorg xs a b (sw zs j (j - 1))) := fun hl => ⟨HJ.out.1.step hja hji (by rw [HJ.out.2.len, HXL.out]; omega) hl, HJ.out.2.trans (Reorg.sw ⟨by omega, by omega⟩ ⟨by omega, by omega⟩ (by rw [HJ.out.2.len, HXL.out]; omega))⟩
          clear hrowj hgj
          have d1 : (0 : Int) ≤ (j : Int) - 1 := by omega
          have d2 : (j : Int) - 1 < (n : Int) := by omega
          have d3 : (j : Int) < (n : Int) := by omega
          have dja : (a : Int) < (j : Int) := by omega
          have HCP := Lib.hid hcp
          clear hcp
          by_cases hk : fkey (zs.getD j 0) < fkey (zs.getD (j - 1) 0)
          · have hq := HK.out.2 hk
            have HS2 := Lib.hid (HST.out hk)
            have HWS := Lib.hid HWj.out.swapped
            clear HK HST hk HOUT
            generalize hx0 : zs.getD j 0 = x at *
            generalize hy0 : zs.getD (j - 1) 0 = y at *
            generalize fcmp x y = q at *
            have HX0 := Lib.hid hx0
            have HY0 := Lib.hid hy0
            clear hx0 hy0
            have hqd : decide (q < 0) = true := by simpa using hq
            go_wp2_with fail
            have e1 : IntKind.i64.wrap ((j : Int) - 1) = (j : Int) - 1 := IntWalk.i64_in _ (by omega)
            have e2 : ((j : Int) - 1).toNat = j - 1 := by omega
            go_quiet ((go_at_call 11; exact Calls.quiet_of_same (HCP.out _)))
            have HW1 := Lib.hid (HWj.out.drewN nq)
            have HG1 := Lib.hid (only_drewN HGj.out nq)
            clear hc1 hc2 e1 e2 HWj HGj HCP hq
            generalize wr.drewN nq = w1 at *
            have hc1 : w1.cell? ⟨g, j, none⟩ = some (.float .f64 x) := HX0.out ▸ HW1.out.cell (i := j) (by omega)
            have hc2 : w1.cell? ⟨g, j - 1, none⟩ = some (.float .f64 y) := HY0.out ▸ HW1.out.cell (i := j - 1) (by omega)
            have hf1 := World.ownsRow.frozenAt HW1.out j
            have hf2 := World.ownsRow.frozenAt HW1.out (j - 1)
            have HSW : Hid (Frow ((w1.setCell ⟨g, j, none⟩ (.float .f64 y)).setCell ⟨g, j - 1, none⟩ (.float .f64 x)) B g n cap (sw zs j (j - 1)) ∧ w1.grownBy ((w1.setCell ⟨g, j, none⟩ (.float .f64 y)).setCell ⟨g, j - 1, none⟩ (.float .f64 x)) (some g)) := by rw [← HX0.out, ← HY0.out]; exact HW1.out.swapped j (j - 1)
            have hne : ¬ j = j - 1 := by omega
            have hne2 : ¬ j - 1 = j := by omega
            go_wp2_with fail
            have e1 : IntKind.i64.wrap ((j : Int) - 1) = (j : Int) - 1 := IntWalk.i64_in _ (by omega)
            have e2 : ((j : Int) - 1).toNat = j - 1 := by omega
            go_region
            have hW2 : Frow ((w1.setCell ⟨g, j, none⟩ (.float .f64 y)).setCell ⟨g, j - 1, none⟩ (.float .f64 x)).drew B g n cap (sw zs j (j - 1)) := HSW.out.1.drew
            have hG2 : w.grownBy ((w1.setCell ⟨g, j, none⟩ (.float .f64 y)).setCell ⟨g, j - 1, none⟩ (.float .f64 x)).drew (some g) := only_drew (only_trans HG1.out HSW.out.2)
            clear e1 e2 hc1 hc2 hf1 hf2 HSW HG1 HW1 hne hne2
            generalize ((w1.setCell ⟨g, j, none⟩ (.float .f64 y)).setCell ⟨g, j - 1, none⟩ (.float .f64 x)).drew = w2 at *
            have HW2 := Lib.hid hW2
            have HG2 := Lib.hid hG2
            clear hW2 hG2
            go_wp2_with fail
            go_roundw
            case rel => exact ⟨j - 1, sw zs j (j - 1), intv (by omega), by omega, by omega, HS2.out, HW2.out, HG2.out⟩
            case measure => simp [intOf]; omega
          · have hq : ¬ fcmp (zs.getD j 0) (zs.getD (j - 1) 0) < 0 := fun h => hk (HK.out.1 h)
            have HO := Lib.hid (HOUT.out (.inr (by omega)))
            clear HK HST hk HOUT
            generalize zs.getD j 0 = x at *
            generalize zs.getD (j - 1) 0 = y at *
            generalize fcmp x y = q at *
            have hqd : decide (q < 0) = false := by simpa using hq
            go_wp2_with fail
            have e1 : IntKind.i64.wrap ((j : Int) - 1) = (j : Int) - 1 := IntWalk.i64_in _ (by omega)
            have e2 : ((j : Int) - 1).toNat = j - 1 := by omega
            go_quiet ((go_at_call 11; exact Calls.quiet_of_same (HCP.out _)))
            have HW1 := Lib.hid (HWj.out.drewN nq)
            have HG1 := Lib.hid (only_drewN HGj.out nq)
            clear hc1 hc2 e1 e2 HWj HGj HCP hq
            generalize wr.drewN nq = w1 at *
            go_wp2_with fail
            go_roundw
            case rel => exact ⟨i + 1, zs, by go_num, by omega, by omega, HO.out, HW1.out, HG1.out⟩
            case measure => simp [intOf]; omega
        · have HO := Lib.hid (HOUT.out (.inl (by omega)))
          have dja : ¬ (a : Int) < (j : Int) := by omega
          have djd : decide ((a : Int) < (j : Int)) = false := by simpa using dja
          clear HOUT hrowj hgj
          go_wp2_with fail
          go_quiet (fail)
          have HW1 := Lib.hid (HWj.out.drewN nq)
          have HG1 := Lib.hid (only_drewN HGj.out nq)
          clear HWj HGj
          generalize wr.drewN nq = w1 at *
          go_wp2_with fail
          go_roundw
          case rel => exact ⟨i + 1, zs, by go_num, by omega, by omega, HO.out, HW1.out, HG1.out⟩
          case measure => simp [intOf]; omega
    · have HS : Hid (Srt fkey xs a b ys) := ⟨HI.out.2, HI.out.1.sub (Nat.le_refl _) (by omega)⟩
      go_wp2
      go_end0
      exact ⟨rfl, ys, HS.out, HW.out, HG.out⟩
end Go.Proofs.Ytpgdiiplnnaegaa
