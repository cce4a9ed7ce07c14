/- Walk: two sorted ranges of floats merged by halves (slices.symMergeCmpFunc). Conditions: as stated. -/
import Derived.Test.YtpgdiiplnnaegaaFr
namespace Go.Proofs.Ytpgdiiplnnaegaa
open Go.RowKit
set_option linter.unusedVariables false
attribute [local go_sem ↓] Go.wp_at_zero Go.wp_at_succ
attribute [local go_sem] run_store_float

set_option maxRecDepth 100000 in
set_option maxHeartbeats 2000000 in
theorem c_sym1 (B g n cap : Nat) (zs : List Nat) (a b : Nat) (w : World) (h : Frow w B g n cap zs) (hx : Bit zs) (hn : n ≤ 140737488355328) (hmb : a + 1 < b) (hb : b ≤ n) (hu : Up fkey zs (a + 1) b) :
    Calls Try.prog 83 #[.slice (some ⟨g, 0, none⟩) n cap, .int .i64 a, .int .i64 ((a : Int) + 1), .int .i64 b, cmpV] w (Left B g n cap w fun ys => Srt fkey zs a b ys) := by
  have HXL := Lib.hid h.len
  have HR := Lib.hid h
  have HZX := Lib.hid hx
  have HU := Lib.hid hu
  clear h hx hu
  have t1 : ((a : Int) + 1 - (a : Int) == 1) = true := by simp; omega
  go_enter Try.func83, Try.ntmps83
  go_wp2_with fail
  go_loopw [10, 11] (fun vi vj wr => ∃ (i j : Nat), vi = .int .i64 i ∧ vj = .int .i64 j ∧ a + 1 ≤ i ∧ i ≤ j ∧ j ≤ b ∧ Hid ((∀ t, a + 1 ≤ t → t < i → fkey (zs.getD t 0) < fkey (zs.getD a 0)) ∧ ∀ t, j ≤ t → t < b → fkey (zs.getD a 0) ≤ fkey (zs.getD t 0)) ∧ Frow wr B g n cap zs ∧ w.grownBy wr (some g)) (fun vi vj _ => (intOf vj).toNat - (intOf vi).toNat)
  case atStart => exact ⟨a + 1, b, intv (by omega), rfl, by omega, by omega, by omega, ⟨fun t h1 h2 => by omega, fun t h1 h2 => by omega⟩, HR.out, World.grownBy.refl _ _⟩
  case round =>
    obtain ⟨i, j, rfl, rfl, hi, hij, hj, HI, hrow, hg⟩ := hrel
    have HW := Lib.hid hrow
    have HG := Lib.hid hg
    clear hrow hg
    by_cases hlt : i < j
    · have hh1 : i ≤ (i + j) / 2 := by omega
      have hh2 : (i + j) / 2 < j := by omega
      have eh0 : ((i : Int) + (j : Int)) / 2 = (((i + j) / 2 : Nat) : Int) := by omega
      generalize (i + j) / 2 = k at *
      have HK : Hid (fcmp (zs.getD (k) 0) (zs.getD (a) 0) < 0 ↔ fkey (zs.getD (k) 0) < fkey (zs.getD (a) 0)) := fcmp_lt _ _
      by_cases hk : fkey (zs.getD (k) 0) < fkey (zs.getD (a) 0)
      · have hq := HK.out.2 hk
        have HS := Lib.hid ((show (∀ t, a + 1 ≤ t → t < k + 1 → fkey (zs.getD t 0) < fkey (zs.getD a 0)) ∧ ∀ t, j ≤ t → t < b → fkey (zs.getD a 0) ≤ fkey (zs.getD t 0) from ⟨fun t h1 h2 => Nat.lt_of_le_of_lt (HU.out t k h1 (by omega) (by omega)) hk, HI.out.2⟩))
        clear HK HI hk
        have hc1 := HW.out.cell (i := k) (by omega)
        have hc2 := HW.out.cell (i := a) (by omega)
        have hcp := c_CompareS (zs.getD (k) 0) (zs.getD (a) 0) (HZX.out.get _) (HZX.out.get _)
        have HCP := Lib.hid hcp
        clear hcp
        generalize zs.getD (k) 0 = x at *
        generalize zs.getD (a) 0 = y at *
        generalize fcmp x y = q at *
        have hqd : decide (q < 0) = true := by simpa using hq
        go_wp2_with fail
        go_quiet ((go_at_call 11; exact Calls.quiet_of_same (HCP.out _)))
        have HW1 := Lib.hid (HW.out.drewN nq)
        have HG1 := Lib.hid (only_drewN HG.out nq)
        clear hc1 hc2 HW HG HCP
        generalize wr.drewN nq = w1 at *
        clear hq
        go_wp2_with fail
        go_roundw
        case rel => exact ⟨k + 1, j, by go_num, rfl, by omega, by omega, by omega, HS.out, HW1.out, HG1.out⟩
        case measure => simp [intOf]; omega
      · have hq : ¬ fcmp (zs.getD (k) 0) (zs.getD (a) 0) < 0 := fun h => hk (HK.out.1 h)
        have HS := Lib.hid ((show (∀ t, a + 1 ≤ t → t < i → fkey (zs.getD t 0) < fkey (zs.getD a 0)) ∧ ∀ t, k ≤ t → t < b → fkey (zs.getD a 0) ≤ fkey (zs.getD t 0) from ⟨HI.out.1, fun t h1 h2 => Nat.le_trans (Nat.le_of_not_lt hk) (HU.out k t (by omega) h1 h2)⟩))
        clear HK HI hk
        have hc1 := HW.out.cell (i := k) (by omega)
        have hc2 := HW.out.cell (i := a) (by omega)
        have hcp := c_CompareS (zs.getD (k) 0) (zs.getD (a) 0) (HZX.out.get _) (HZX.out.get _)
        have HCP := Lib.hid hcp
        clear hcp
        generalize zs.getD (k) 0 = x at *
        generalize zs.getD (a) 0 = y at *
        generalize fcmp x y = q at *
        have hqd : decide (q < 0) = false := by simpa using hq
        go_wp2_with fail
        go_quiet ((go_at_call 11; exact Calls.quiet_of_same (HCP.out _)))
        have HW1 := Lib.hid (HW.out.drewN nq)
        have HG1 := Lib.hid (only_drewN HG.out nq)
        clear hc1 hc2 HW HG HCP
        generalize wr.drewN nq = w1 at *
        clear hq
        go_wp2_with fail
        go_roundw
        case rel => exact ⟨i, k, rfl, rfl, by omega, by omega, by omega, HS.out, HW1.out, HG1.out⟩
        case measure => simp [intOf]; omega
    · have HI2 : Hid ((∀ t, a + 1 ≤ t → t < i → fkey (zs.getD t 0) < fkey (zs.getD a 0)) ∧ ∀ t, i ≤ t → t < b → fkey (zs.getD a 0) ≤ fkey (zs.getD t 0)) := ⟨HI.out.1, fun t h1 h2 => HI.out.2 t (by omega) h2⟩
      have HWo := HW
      have HGo := HG
      obtain ⟨wo, rfl⟩ : ∃ wo : World, wo = wr := ⟨_, rfl⟩
      clear HI HW HG
      go_wp2_with fail
      go_loopw [13] (fun vk wr => ∃ (k : Nat) (ys : List Nat), vk = .int .i64 k ∧ a ≤ k ∧ k ≤ i - 1 ∧ Hid (MvR zs a k ys ∧ Reorg zs a b ys) ∧ Frow wr B g n cap ys ∧ w.grownBy wr (some g)) (fun vk _ => i - (intOf vk).toNat)
      case atStart => exact ⟨a, zs, rfl, by omega, by omega, ⟨MvR.zero _ _, Reorg.refl _ _ _⟩, HWo.out, HGo.out⟩
      case round =>
        obtain ⟨k, ys, rfl, hak, hki, HJ, hrow, hg⟩ := hrel
        have HW := Lib.hid hrow
        have HG := Lib.hid hg
        clear hrow hg
        have HYL : Hid (ys.length = n) := HW.out.len
        by_cases hlt2 : k < i - 1
        · have HS2 : Hid (MvR zs a (k + 1) (sw ys k (k + 1)) ∧ Reorg zs a b (sw ys k (k + 1))) := ⟨HJ.out.1.step hak (by rw [HXL.out]; omega), HJ.out.2.trans (Reorg.sw ⟨by omega, by omega⟩ ⟨by omega, by omega⟩ (by rw [HYL.out]; omega))⟩
          have dlt : (k : Int) < (i : Int) - 1 := by omega
          have d1 : (k : Int) + 1 < (n : Int) := by omega
          have d2 : (k : Int) < (n : Int) := by omega
          obtain ⟨x, HX0⟩ : ∃ x, Hid (ys.getD k 0 = x) := ⟨_, rfl⟩
          obtain ⟨y, HY0⟩ : ∃ x, Hid (ys.getD (k + 1) 0 = x) := ⟨_, rfl⟩
          have hc1 : wr.cell? ⟨g, k, none⟩ = some (.float .f64 x) := HX0.out ▸ HW.out.cell (i := k) (by omega)
          have hc2 : wr.cell? ⟨g, k + 1, none⟩ = some (.float .f64 y) := HY0.out ▸ HW.out.cell (i := k + 1) (by omega)
          have hf1 := World.ownsRow.frozenAt HW.out (k)
          have hf2 := World.ownsRow.frozenAt HW.out (k + 1)
          have HSW : Hid (Frow ((wr.setCell ⟨g, k, none⟩ (.float .f64 y)).setCell ⟨g, k + 1, none⟩ (.float .f64 x)) B g n cap (sw ys (k) (k + 1)) ∧ wr.grownBy ((wr.setCell ⟨g, k, none⟩ (.float .f64 y)).setCell ⟨g, k + 1, none⟩ (.float .f64 x)) (some g)) := by rw [← HX0.out, ← HY0.out]; exact HW.out.swapped (k) (k + 1)
          have hne : ¬ k = k + 1 := by omega
          have hne2 : ¬ k + 1 = k := by omega
          go_wp2_with fail
          have e1 : IntKind.i64.wrap ((k : Int) + 1) = (k : Int) + 1 := IntWalk.i64_in _ (by omega)
          have e2 : ((k : Int) + 1).toNat = k + 1 := by omega
          go_region
          have hW2 : Frow ((wr.setCell ⟨g, k, none⟩ (.float .f64 y)).setCell ⟨g, k + 1, none⟩ (.float .f64 x)).drew B g n cap (sw ys (k) (k + 1)) := HSW.out.1.drew
          have hG2 : w.grownBy ((wr.setCell ⟨g, k, none⟩ (.float .f64 y)).setCell ⟨g, k + 1, none⟩ (.float .f64 x)).drew (some g) := only_drew (only_trans HG.out HSW.out.2)
          clear e1 e2 hc1 hc2 hf1 hf2 HSW HG HW hne hne2
          generalize ((wr.setCell ⟨g, k, none⟩ (.float .f64 y)).setCell ⟨g, k + 1, none⟩ (.float .f64 x)).drew = w2 at *
          have HW2 := Lib.hid hW2
          have HG2 := Lib.hid hG2
          clear hW2 hG2
          go_wp2_with fail
          go_roundw
          case rel => exact ⟨k + 1, sw ys k (k + 1), by go_num, by omega, by omega, HS2.out, HW2.out, HG2.out⟩
          case measure => simp [intOf]; omega
        · have HE : Hid (k = i - 1) := by show _ = _; omega
          have HF : Hid (Srt fkey zs a b ys) := ⟨HJ.out.2, MvR.up (i := i) (by rw [← HE.out]; exact HJ.out.1) HU.out hi (by omega) HI2.out.1 HI2.out.2⟩
          have dlt : ¬ (k : Int) < (i : Int) - 1 := by omega
          go_wp2
          go_end0
          exact ⟨rfl, ys, HF.out, HW.out, HG.out⟩
set_option maxRecDepth 100000 in
set_option maxHeartbeats 2000000 in
theorem c_sym2 (B g n cap : Nat) (zs : List Nat) (a m : Nat) (w : World) (h : Frow w B g n cap zs) (hx : Bit zs) (hn : n ≤ 140737488355328) (ham : a + 1 < m) (hb : m + 1 ≤ n) (hu : Up fkey zs a m) :
    Calls Try.prog 83 #[.slice (some ⟨g, 0, none⟩) n cap, .int .i64 a, .int .i64 m, .int .i64 ((m : Int) + 1), cmpV] w (Left B g n cap w fun ys => Srt fkey zs a (m + 1) ys) := by
  have HXL := Lib.hid h.len
  have HR := Lib.hid h
  have HZX := Lib.hid hx
  have HU := Lib.hid hu
  clear h hx hu
  have t0 : ((m : Int) - (a : Int) == 1) = false := by simp; omega
  have t1 : ((m : Int) + 1 - (m : Int) == 1) = true := by simp; omega
  go_enter Try.func83, Try.ntmps83
  go_wp2_with fail
  go_loopw [14, 15] (fun vi vj wr => ∃ (i j : Nat), vi = .int .i64 i ∧ vj = .int .i64 j ∧ a ≤ i ∧ i ≤ j ∧ j ≤ m ∧ Hid ((∀ t, a ≤ t → t < i → fkey (zs.getD t 0) ≤ fkey (zs.getD m 0)) ∧ ∀ t, j ≤ t → t < m → fkey (zs.getD m 0) < fkey (zs.getD t 0)) ∧ Frow wr B g n cap zs ∧ w.grownBy wr (some g)) (fun vi vj _ => (intOf vj).toNat - (intOf vi).toNat)
  case atStart => exact ⟨a, m, rfl, rfl, by omega, by omega, by omega, ⟨fun t h1 h2 => by omega, fun t h1 h2 => by omega⟩, HR.out, World.grownBy.refl _ _⟩
  case round =>
    obtain ⟨i, j, rfl, rfl, hi, hij, hj, HI, hrow, hg⟩ := hrel
    have HW := Lib.hid hrow
    have HG := Lib.hid hg
    clear hrow hg
    by_cases hlt : i < j
    · have hh1 : i ≤ (i + j) / 2 := by omega
      have hh2 : (i + j) / 2 < j := by omega
      have eh0 : ((i : Int) + (j : Int)) / 2 = (((i + j) / 2 : Nat) : Int) := by omega
      generalize (i + j) / 2 = k at *
      have HK : Hid (fcmp (zs.getD (m) 0) (zs.getD (k) 0) < 0 ↔ fkey (zs.getD (m) 0) < fkey (zs.getD (k) 0)) := fcmp_lt _ _
      by_cases hk : fkey (zs.getD (m) 0) < fkey (zs.getD (k) 0)
      · have hq := HK.out.2 hk
        have HS := Lib.hid ((show (∀ t, a ≤ t → t < i → fkey (zs.getD t 0) ≤ fkey (zs.getD m 0)) ∧ ∀ t, k ≤ t → t < m → fkey (zs.getD m 0) < fkey (zs.getD t 0) from ⟨HI.out.1, fun t h1 h2 => Nat.lt_of_lt_of_le hk (HU.out k t (by omega) h1 h2)⟩))
        clear HK HI hk
        have hc1 := HW.out.cell (i := m) (by omega)
        have hc2 := HW.out.cell (i := k) (by omega)
        have hcp := c_CompareS (zs.getD (m) 0) (zs.getD (k) 0) (HZX.out.get _) (HZX.out.get _)
        have HCP := Lib.hid hcp
        clear hcp
        generalize zs.getD (m) 0 = x at *
        generalize zs.getD (k) 0 = y at *
        generalize fcmp x y = q at *
        have hqd : decide (q < 0) = true := by simpa using hq
        go_wp2_with fail
        go_quiet ((go_at_call 11; exact Calls.quiet_of_same (HCP.out _)))
        have HW1 := Lib.hid (HW.out.drewN nq)
        have HG1 := Lib.hid (only_drewN HG.out nq)
        clear hc1 hc2 HW HG HCP
        generalize wr.drewN nq = w1 at *
        clear hq
        go_wp2_with fail
        go_roundw
        case rel => exact ⟨i, k, rfl, rfl, by omega, by omega, by omega, HS.out, HW1.out, HG1.out⟩
        case measure => simp [intOf]; omega
      · have hq : ¬ fcmp (zs.getD (m) 0) (zs.getD (k) 0) < 0 := fun h => hk (HK.out.1 h)
        have HS := Lib.hid ((show (∀ t, a ≤ t → t < k + 1 → fkey (zs.getD t 0) ≤ fkey (zs.getD m 0)) ∧ ∀ t, j ≤ t → t < m → fkey (zs.getD m 0) < fkey (zs.getD t 0) from ⟨fun t h1 h2 => Nat.le_trans (HU.out t k h1 (by omega) (by omega)) (Nat.le_of_not_lt hk), HI.out.2⟩))
        clear HK HI hk
        have hc1 := HW.out.cell (i := m) (by omega)
        have hc2 := HW.out.cell (i := k) (by omega)
        have hcp := c_CompareS (zs.getD (m) 0) (zs.getD (k) 0) (HZX.out.get _) (HZX.out.get _)
        have HCP := Lib.hid hcp
        clear hcp
        generalize zs.getD (m) 0 = x at *
        generalize zs.getD (k) 0 = y at *
        generalize fcmp x y = q at *
        have hqd : decide (q < 0) = false := by simpa using hq
        go_wp2_with fail
        go_quiet ((go_at_call 11; exact Calls.quiet_of_same (HCP.out _)))
        have HW1 := Lib.hid (HW.out.drewN nq)
        have HG1 := Lib.hid (only_drewN HG.out nq)
        clear hc1 hc2 HW HG HCP
        generalize wr.drewN nq = w1 at *
        clear hq
        go_wp2_with fail
        go_roundw
        case rel => exact ⟨k + 1, j, by go_num, rfl, by omega, by omega, by omega, HS.out, HW1.out, HG1.out⟩
        case measure => simp [intOf]; omega
    · have HI2 : Hid ((∀ t, a ≤ t → t < i → fkey (zs.getD t 0) ≤ fkey (zs.getD m 0)) ∧ ∀ t, i ≤ t → t < m → fkey (zs.getD m 0) < fkey (zs.getD t 0)) := ⟨HI.out.1, fun t h1 h2 => HI.out.2 t (by omega) h2⟩
      have HWo := HW
      have HGo := HG
      obtain ⟨wo, rfl⟩ : ∃ wo : World, wo = wr := ⟨_, rfl⟩
      clear HI HW HG
      go_wp2_with fail
      go_loopw [17] (fun vk wr => ∃ (k : Nat) (ys : List Nat), vk = .int .i64 k ∧ i ≤ k ∧ k ≤ m ∧ Hid (MvL zs k m ys ∧ Reorg zs a (m + 1) ys) ∧ Frow wr B g n cap ys ∧ w.grownBy wr (some g)) (fun vk _ => (intOf vk).toNat)
      case atStart => exact ⟨m, zs, rfl, by omega, by omega, ⟨MvL.zero _ _, Reorg.refl _ _ _⟩, HWo.out, HGo.out⟩
      case round =>
        obtain ⟨k, ys, rfl, hik, hkm, HJ, hrow, hg⟩ := hrel
        have HW := Lib.hid hrow
        have HG := Lib.hid hg
        clear hrow hg
        have HYL : Hid (ys.length = n) := HW.out.len
        by_cases hlt2 : i < k
        · have HS2 : Hid (MvL zs (k - 1) m (sw ys k (k - 1)) ∧ Reorg zs a (m + 1) (sw ys k (k - 1))) := ⟨HJ.out.1.step (by omega) hkm (by rw [HXL.out]; omega), HJ.out.2.trans (Reorg.sw ⟨by omega, by omega⟩ ⟨by omega, by omega⟩ (by rw [HYL.out]; omega))⟩
          have d0 : (0 : Int) ≤ (k : Int) - 1 := by omega
          have d1 : (k : Int) - 1 < (n : Int) := by omega
          have d2 : (k : Int) < (n : Int) := by omega
          obtain ⟨x, HX0⟩ : ∃ x, Hid (ys.getD k 0 = x) := ⟨_, rfl⟩
          obtain ⟨y, HY0⟩ : ∃ x, Hid (ys.getD (k - 1) 0 = x) := ⟨_, rfl⟩
          have hc1 : wr.cell? ⟨g, k, none⟩ = some (.float .f64 x) := HX0.out ▸ HW.out.cell (i := k) (by omega)
          have hc2 : wr.cell? ⟨g, k - 1, none⟩ = some (.float .f64 y) := HY0.out ▸ HW.out.cell (i := k - 1) (by omega)
          have hf1 := World.ownsRow.frozenAt HW.out (k)
          have hf2 := World.ownsRow.frozenAt HW.out (k - 1)
          have HSW : Hid (Frow ((wr.setCell ⟨g, k, none⟩ (.float .f64 y)).setCell ⟨g, k - 1, none⟩ (.float .f64 x)) B g n cap (sw ys (k) (k - 1)) ∧ wr.grownBy ((wr.setCell ⟨g, k, none⟩ (.float .f64 y)).setCell ⟨g, k - 1, none⟩ (.float .f64 x)) (some g)) := by rw [← HX0.out, ← HY0.out]; exact HW.out.swapped (k) (k - 1)
          have hne : ¬ k = k - 1 := by omega
          have hne2 : ¬ k - 1 = k := by omega
          go_wp2_with fail
          have e1 : IntKind.i64.wrap ((k : Int) - 1) = (k : Int) - 1 := IntWalk.i64_in _ (by omega)
          have e2 : ((k : Int) - 1).toNat = k - 1 := by omega
          go_region
          have hW2 : Frow ((wr.setCell ⟨g, k, none⟩ (.float .f64 y)).setCell ⟨g, k - 1, none⟩ (.float .f64 x)).drew B g n cap (sw ys (k) (k - 1)) := HSW.out.1.drew
          have hG2 : w.grownBy ((wr.setCell ⟨g, k, none⟩ (.float .f64 y)).setCell ⟨g, k - 1, none⟩ (.float .f64 x)).drew (some g) := only_drew (only_trans HG.out HSW.out.2)
          clear e1 e2 hc1 hc2 hf1 hf2 HSW HG HW hne hne2
          generalize ((wr.setCell ⟨g, k, none⟩ (.float .f64 y)).setCell ⟨g, k - 1, none⟩ (.float .f64 x)).drew = w2 at *
          have HW2 := Lib.hid hW2
          have HG2 := Lib.hid hG2
          clear hW2 hG2
          go_wp2_with fail
          go_roundw
          case rel => exact ⟨k - 1, sw ys k (k - 1), intv (by omega), by omega, by omega, HS2.out, HW2.out, HG2.out⟩
          case measure => simp [intOf]; omega
        · have HE : Hid (k = i) := by show _ = _; omega
          have HF : Hid (Srt fkey zs a (m + 1) ys) := ⟨HJ.out.2, MvL.up (i := i) (by rw [← HE.out]; exact HJ.out.1) HU.out hi (by omega) HI2.out.1 HI2.out.2⟩
          go_wp2
          go_end0
          exact ⟨rfl, ys, HF.out, HW.out, HG.out⟩
end Go.Proofs.Ytpgdiiplnnaegaa
