/- Walk: the shortest digits of a float (quernref22.short). Conditions: a rung above nought, below infinity's. -/
import Derived.Test.YtigbbogfnchgnaaGreatDoorJc
namespace Go.Proofs.YtigbbogfnchgnaaGreatDoor
open Go.RowKit
set_option linter.unusedVariables false

theorem geT_shift {N D : Nat} (y : Int) (n : Nat) : geT N D y ↔ tenN n * (D * tenN (-((n : Int) - y)).toNat) ≤ N * tenN ((n : Int) - y).toNat := by
  have hadd : ∀ a b : Nat, tenN (a + b) = tenN a * tenN b := fun a b => Nat.pow_add 10 a b
  unfold geT
  rcases Int.lt_or_le 0 y with h0 | h0
  · obtain ⟨j, rfl⟩ : ∃ j : Nat, y = (j : Int) := ⟨y.toNat, by omega⟩
    rcases Nat.lt_or_ge n j with h1 | h1
    · obtain ⟨k, rfl⟩ : ∃ k, j = n + k := ⟨j - n, by omega⟩
      rw [show (((n + k : Nat) : Int)).toNat = n + k from by omega, show (-((n + k : Nat) : Int)).toNat = 0 from by omega, show (-((n : Int) - ((n + k : Nat) : Int))).toNat = k from by omega, show ((n : Int) - ((n + k : Nat) : Int)).toNat = 0 from by omega, hadd]
      rw [show D * (tenN n * tenN k) = tenN n * (D * tenN k) from by ac_rfl]
    · obtain ⟨k, rfl⟩ : ∃ k, n = j + k := ⟨n - j, by omega⟩
      rw [show ((j : Int)).toNat = j from by omega, show (-(j : Int)).toNat = 0 from by omega, show (-(((j + k : Nat) : Int) - (j : Int))).toNat = 0 from by omega, show (((j + k : Nat) : Int) - (j : Int)).toNat = k from by omega, hadd, tenN_zero, Nat.mul_one, Nat.mul_one]
      rw [show tenN j * tenN k * D = D * tenN j * tenN k from by ac_rfl]
      exact (Nat.mul_le_mul_right_iff (tenN_pos k)).symm
  · obtain ⟨j, rfl⟩ : ∃ j : Nat, y = -(j : Int) := ⟨(-y).toNat, by omega⟩
    rw [show (-(j : Int)).toNat = 0 from by omega, show (- -(j : Int)).toNat = j from by omega, show (-((n : Int) - -(j : Int))).toNat = 0 from by omega, show ((n : Int) - -(j : Int)).toNat = j + n from by omega, hadd, tenN_zero, Nat.mul_one]
    rw [show tenN n * D = D * tenN n from by ac_rfl, show N * (tenN j * tenN n) = N * tenN j * tenN n from by ac_rfl]
    exact (Nat.mul_le_mul_right_iff (tenN_pos n)).symm
theorem X_hi {N D : Nat} {x : Int} (n : Nat) (h : ¬ geT N D (x + 1)) : N * tenN ((n : Int) - 1 - x).toNat < tenN n * (D * tenN (-((n : Int) - 1 - x)).toNat) := by
  rw [geT_shift (x + 1) n, show (n : Int) - (x + 1) = (n : Int) - 1 - x from by omega] at h
  omega
theorem X_lo {N D : Nat} {x : Int} {n : Nat} (hn : 1 ≤ n) (h : geT N D x) : D * tenN (-((n : Int) - 1 - x)).toNat ≤ N * tenN ((n : Int) - 1 - x).toNat := by
  have := geT_mono (show -((n : Int) - 1 - x) ≤ x by omega) h
  unfold geT at this
  rw [show -(-((n : Int) - 1 - x)) = (n : Int) - 1 - x from by omega] at this
  exact this
theorem kv_pos {m : Nat} (h : 0 < m) : 0 < kv m := by
  have := kv_strict h
  omega
theorem geT_kv {m : Nat} (h0 : 0 < m) (h1 : m < 9218868437227405312) : geT (kv m) T74 (-330) ∧ ¬ geT (kv m) T74 694 := by
  constructor
  · unfold geT
    have h2 : T74 * tenN (-330 : Int).toNat ≤ 1 * tenN (-(-330) : Int).toNat := by decide +kernel
    exact Nat.le_trans h2 (Nat.mul_le_mul_right _ (kv_pos h0))
  · unfold geT
    have h2 : kv 9218868437227405312 * tenN (-694 : Int).toNat < T74 * tenN (694 : Int).toNat := by decide +kernel
    have h3 : kv m ≤ kv 9218868437227405312 := kv_mono (by omega)
    have h4 := Nat.mul_le_mul_right (tenN (-694 : Int).toNat) h3
    omega
/-- What is known of a rung's first digits, from a quotient that it is. -/
theorem fl_facts {m N D : Nat} {x : Int} {n : Nat} (hD : 0 < D) (e : N * T74 = kv m * D) (hx : IsX N D x) (hn : 1 ≤ n) (hn2 : n ≤ 17) :
    N * tenN ((n : Int) - 1 - x).toNat / (D * tenN (-((n : Int) - 1 - x)).toNat) = flN m x n ∧ N * tenN ((n : Int) - 1 - x).toNat < 1000000000000000000 * (D * tenN (-((n : Int) - 1 - x)).toNat) ∧ 0 < flN m x n ∧ flN m x n < 100000000000000000 ∧
    ∀ d : Nat, ncmp ((2 * d + 1) * (D * tenN (-((n : Int) - 1 - x)).toNat)) (2 * (N * tenN ((n : Int) - 1 - x).toNat)) = ncmp ((2 * d + 1) * dnN x n) (2 * upN m x n) := by
  have h1 := X_hi n hx.2
  have h2 := X_lo hn hx.1
  have h3 : tenN n ≤ 100000000000000000 := Nat.le_trans (tenN_le hn2) (by decide)
  unfold flN upN dnN
  generalize tenN ((n : Int) - 1 - x).toNat = a at *
  have hb := tenN_pos (-((n : Int) - 1 - x)).toNat
  generalize tenN (-((n : Int) - 1 - x)).toNat = b at *
  have hT := T74_pos
  generalize T74 = E at *
  generalize kv m = M at *
  have hdb : 0 < D * b := Nat.mul_pos hD hb
  have heb : 0 < E * b := Nat.mul_pos hT hb
  have e1 : N * a * E = M * a * D := by rw [show N * a * E = N * E * a from by ac_rfl, e]; ac_rfl
  have e2 : D * b * E = E * b * D := by ac_rfl
  have hq : N * a / (D * b) = M * a / (E * b) := by
    rw [← Nat.mul_div_mul_right (N * a) (D * b) hT, e1, e2, Nat.mul_div_mul_right _ _ hD]
  have h4 : N * a < 100000000000000000 * (D * b) := Nat.lt_of_lt_of_le h1 (Nat.mul_le_mul_right _ h3)
  refine ⟨hq, by omega, ?_, ?_, fun d => ?_⟩
  · rw [← hq]; exact Nat.div_pos h2 hdb
  · rw [← hq]; exact (Nat.div_lt_iff_lt_mul hdb).2 h4
  · refine ncmp_congr ?_ ?_
    · have l1 : (2 * d + 1) * (D * b) < 2 * (N * a) ↔ (2 * d + 1) * (D * b) * E < 2 * (N * a) * E := (Nat.mul_lt_mul_right hT).symm
      have l2 : (2 * d + 1) * (E * b) < 2 * (M * a) ↔ (2 * d + 1) * (E * b) * D < 2 * (M * a) * D := (Nat.mul_lt_mul_right hD).symm
      rw [l1, l2, Nat.mul_assoc, e2, ← Nat.mul_assoc, Nat.mul_assoc 2, e1, Nat.mul_assoc 2]
    · have l1 : (2 * d + 1) * (D * b) = 2 * (N * a) ↔ (2 * d + 1) * (D * b) * E = 2 * (N * a) * E := (Nat.mul_left_inj (by omega)).symm
      have l2 : (2 * d + 1) * (E * b) = 2 * (M * a) ↔ (2 * d + 1) * (E * b) * D = 2 * (M * a) * D := (Nat.mul_left_inj (by omega)).symm
      rw [l1, l2, Nat.mul_assoc, e2, ← Nat.mul_assoc, Nat.mul_assoc 2, e1, Nat.mul_assoc 2]
theorem IsX.scale {N D M E : Nat} {x : Int} (hD : 0 < D) (hE : 0 < E) (e : N * E = M * D) (h : IsX N D x) : IsX M E x := ⟨(geT_scale hD hE e x).1 h.1, fun hx => h.2 ((geT_scale hD hE e (x + 1)).2 hx)⟩
/-- How great the shortest digits may be, and where the first one stands. -/
theorem shGo_rng {m : Nat} {x : Int} (hx : IsX (kv m) T74 x) (h1 : -330 ≤ x) (h2 : x ≤ 693) : ∀ f n : Nat, 1 ≤ n → n + f = 18 → (shGo m x f n).1 ≤ 100000000000000000 ∧ -400 ≤ (shGo m x f n).2 ∧ (shGo m x f n).2 ≤ 800
  | 0, n, _, _ => by rw [shGo]; decide
  | f + 1, n, hn, hf => by
    by_cases hs : blwN m x n = true ∨ abvN m x n = true
    · rw [shGo_stop hs]
      obtain ⟨_, _, _, hlt, _⟩ := fl_facts T74_pos rfl hx hn (by omega)
      have hc : candN m x n ≤ 100000000000000000 := by unfold candN; split <;> omega
      have h3 := stripD_le (candN m x n)
      have h4 := lenD_20 (d := candN m x n) (by omega)
      have h5 := lenD_pos (candN m x n)
      simp only
      omega
    · have hb : blwN m x n = false := by cases hq : blwN m x n <;> simp_all
      have ha : abvN m x n = false := by cases hq : abvN m x n <;> simp_all
      rw [shGo_go hb ha]
      exact shGo_rng hx h1 h2 f (n + 1) (by omega) (by omega)
/-- The answer of short. -/
def ShR (m : Nat) (w : World) (e : Ending) (w' : World) : Prop := e = .returned (.tuple #[.int .u64 (((shortM m).1 : Nat) : Int), .int .i64 (shortM m).2]) ∧ (shortM m).1 ≤ 100000000000000000 ∧ -400 ≤ (shortM m).2 ∧ (shortM m).2 ≤ 800 ∧ Below w.heap.size w w'
set_option maxRecDepth 100000 in
set_option maxHeartbeats 4000000 in
theorem c_rshort (m : Nat) (h0 : 0 < m) (h1 : m < 9218868437227405312) (w : World) : Calls Tryz.prog 46 #[.int .u64 (m : Int)] w (ShR m w) := by
  have hg := geT_kv h0 h1
  have HG := Lib.hid hg
  have HM := Lib.hid h1
  clear hg h0
  have HC2 : Hid (∀ W, Calls Tryz.prog 63 #[.int .u64 2] W (NewN .u32 4294967296 2 W)) := fun W => c_from 2 (by decide) W
  have HS2 : Hid (2 < ntxt) := word_txt (by decide)
  obtain ⟨SH, hSH⟩ : ∃ SH, shortM m = SH := ⟨_, rfl⟩
  have HSH := Lib.hid hSH
  unfold ShR
  rw [hSH]
  clear hSH
  go_enter Tryz.func46, Tryz.ntmps46
  go_wp2_with fail
  refine (c_rratio m h1 _).mono ?_; rintro e1 w1 ⟨N, D, ⟨A1, c1, l1, A2, c2, l2, rfl, hN, hD, hb1⟩, hr1, hr2, hr3, hr4⟩
  have HN := Lib.hid hN
  have HD := Lib.hid hD
  have HB1 := Lib.hid hb1
  have HR := Lib.hid (And.intro hr1 (And.intro hr2 (And.intro hr3 hr4)))
  have HW1 : Hid (geT N D (-330)) := (geT_scale hr2 T74_pos hr1 _).2 HG.out.1
  have HW2 : Hid (¬ geT N D 694) := fun hx => HG.out.2 ((geT_scale hr2 T74_pos hr1 _).1 hx)
  clear hN hD hb1 hr1 hr2 hr3 hr4 HG
  go_wp2_with fail
  refine (c_rworth A1 A2 c1 c2 l1 l2 N D w1 HN.out HD.out HR.out.2.2.1 HR.out.2.2.2 HW1.out HW2.out).mono ?_; rintro e2 w2 ⟨x, rfl, hx, hx1, hx2, hb2⟩
  have HX := Lib.hid hx
  have HXM := Lib.hid (hx.scale HR.out.2.1 T74_pos HR.out.1)
  have HB2 := Lib.hid (below_step HB1.out hb2)
  have HN2 := Lib.hid (HN.out.below hb2)
  have HD2 := Lib.hid (HD.out.below hb2)
  have HS1 : Hid (SH = shGo m x 17 1) := by
    show _ = _
    rw [← HSH.out]
    unfold shortM xM
    rw [xOf_eq HXM.out]
  have HSR : Hid (SH.1 ≤ 100000000000000000 ∧ -400 ≤ SH.2 ∧ SH.2 ≤ 800) := by
    show _ ∧ _
    rw [HS1.out]
    exact shGo_rng HXM.out hx1 hx2 17 1 (by decide) (by decide)
  clear hx hb2 HN HD HB1 HW1 HW2 HSH HXM
  go_wp2_with fail
  go_loopw [7] (fun vn wr => ∃ n : Nat, vn = .int .i64 n ∧ 1 ≤ n ∧ n ≤ 18 ∧ Hid (SH = shGo m x (18 - n) n) ∧ Hid (Below w2.heap.size w2 wr)) (fun vn _ => 18 - (intOf vn).toNat)
  case atStart => exact ⟨1, rfl, by decide, by decide, HS1, Below.refl _ _⟩
  case round =>
    clear HS1
    obtain ⟨n, rfl, hn1, hn18, HS, HB⟩ := hrel
    by_cases hlt : n ≤ 17
    · have hltI : (n : Int) ≤ 17 := by omega
      obtain ⟨f1, f2, f3, f4, f5⟩ := fl_facts (m := m) HR.out.2.1 HR.out.1 HX.out hn1 hlt
      obtain ⟨f, hf⟩ : ∃ f, 18 - n = f + 1 := ⟨17 - n, by omega⟩
      have HFU : Hid (18 - (n + 1) = f) := by show _ = _; omega
      rw [hf] at HS
      have HGO : Hid (blwN m x n = false → abvN m x n = false → SH = shGo m x (18 - (n + 1)) (n + 1)) := fun a b => by rw [HFU.out, HS.out, shGo_go a b]
      have HST : Hid (blwN m x n = true ∨ abvN m x n = true → SH = (stripD (candN m x n), x + lenD (candN m x n) - n)) := fun a => by rw [HS.out, shGo_stop a]
      have HCU : Hid ((!blwN m x n || (abvN m x n && midN m x n)) = true → candN m x n = flN m x n + 1) := fun a => by unfold candN; rw [if_pos a]
      have HCD : Hid ((!blwN m x n || (abvN m x n && midN m x n)) = false → candN m x n = flN m x n) := fun a => by unfold candN; rw [if_neg (by rw [a]; decide)]
      have hsc := c_rscaled ((n : Int) - 1 - x) A1 A2 c1 c2 l1 l2 N D wr (HN2.out.below HB.out) (HD2.out.below HB.out) (by omega) (by omega) HR.out.2.2.1 HR.out.2.2.2
      have HXY : Hid (N * tenN ((n : Int) - 1 - x).toNat < nsml ∧ D * tenN (-((n : Int) - 1 - x)).toNat < nsml) := ⟨ntxt_ten HR.out.2.2.1 (by omega), ntxt_ten HR.out.2.2.2 (by omega)⟩
      have HSC := Lib.hid hsc
      have HBL : Hid (blwN m x n = decide (rdN (flN m x n) (x - n + 1) = m)) := by show _ = _; unfold blwN; rw [decide_eq_true f3, Bool.true_and]
      have HAB : Hid (abvN m x n = decide (rdN (flN m x n + 1) (x - n + 1) = m)) := rfl
      have hf5 := f5 (flN m x n)
      have HMI : Hid (midN m x n = (decide (ncmp ((2 * flN m x n + 1) * dnN x n) (2 * upN m x n) < 0) || (decide (ncmp ((2 * flN m x n + 1) * dnN x n) (2 * upN m x n) = 0) && decide (flN m x n % 2 = 1)))) := by
        show _ = _
        unfold midN
        rw [decide_eq_decide.2 (ncmp_neg _ _).symm, decide_eq_decide.2 (ncmp_zero _ _).symm]
      rw [← hf5] at HMI
      have HF1 := Lib.hid f1
      have HF2 := Lib.hid f2
      clear hsc hf f1 f2 f5 hf5 HS HFU
      generalize N * tenN ((n : Int) - 1 - x).toNat = X at *
      generalize D * tenN (-((n : Int) - 1 - x)).toNat = Y at *
      generalize candN m x n = cd at *
      generalize flN m x n = d at *
      generalize midN m x n = bm at *
      obtain ⟨R, hR⟩ : ∃ R, ncmp ((2 * d + 1) * Y) (2 * X) = R := ⟨_, rfl⟩
      rw [hR] at HMI
      have HRR := Lib.hid hR
      clear hR
      have HE1 := Lib.hid (c_rreads d (x - n + 1) (by omega) (by omega) (by omega))
      have hr2 := c_rreads (d + 1) (x - n + 1) (by omega) (by omega) (by omega)
      rw [show (((d + 1 : Nat) : Int)) = (d : Int) + 1 from by omega] at hr2
      have HE2 := Lib.hid hr2
      have hc3 := c_from (2 * d + 1) (by omega)
      rw [show (((2 * d + 1 : Nat) : Int)) = 2 * (d : Int) + 1 from by omega] at hc3
      have HC3 := Lib.hid hc3
      have HD3 := Lib.hid (word_txt (v := 2 * d + 1) (by omega))
      have hdI : (0 : Int) < (d : Int) := by omega
      obtain ⟨r1, hr1⟩ : ∃ r, rdN d (x - n + 1) = r := ⟨_, rfl⟩
      obtain ⟨r2, hr2'⟩ : ∃ r, rdN (d + 1) (x - n + 1) = r := ⟨_, rfl⟩
      rw [hr1] at HE1 HBL
      rw [hr2'] at HE2 HAB
      clear hr1 hr2 hr2' hc3
      generalize blwN m x n = B1 at *
      generalize abvN m x n = B2 at *
      cases B1 <;> cases B2
      · have HG2 := Lib.hid (HGO.out rfl rfl)
        clear HGO HST HCU HCD
        have t1 : ((r1 : Int) == (m : Int)) = false := by have := HBL.out; simp at this ⊢; omega
        have t2 : ((r2 : Int) == (m : Int)) = false := by have := HAB.out; simp at this ⊢; omega
        clear HBL HAB
        go_wp2_with fail
        refine (HSC.out).mono ?_; rintro e3 w3 ⟨A3, c3, l3, A4, c4, l4, rfl, h3, h4, hb3⟩
        have hfl := c_rfloor A3 A4 c3 c4 l3 l4 X Y w3 h3 h4 HXY.out.1 HXY.out.2 HF2.out
        rw [HF1.out] at hfl
        have HFL := Lib.hid hfl
        have H3 := Lib.hid h3
        have H4 := Lib.hid h4
        have HB3 := Lib.hid (below_step HB.out hb3)
        clear h3 h4 hb3 hfl HSC
        go_wp2_with fail
        refine (HFL.out).mono ?_; rintro e4 w4 ⟨rfl, hb4⟩
        have H5 := Lib.hid (H3.out.below hb4)
        have H6 := Lib.hid (H4.out.below hb4)
        have HB4 := Lib.hid (below_step HB3.out hb4)
        clear hb4 H3 H4 HB3 HFL
        go_wp2_with fail
        refine (HE1.out _).mono ?_; rintro e5 w5 ⟨rfl, hb5⟩
        have H7 := Lib.hid (H5.out.below hb5)
        have H8 := Lib.hid (H6.out.below hb5)
        have HB5 := Lib.hid (below_step HB4.out hb5)
        clear hb5 H5 H6 HB4 HE1
        go_wp2_with fail
        refine (HE2.out _).mono ?_; rintro e6 w6 ⟨rfl, hb6⟩
        have H9 := Lib.hid (H7.out.below hb6)
        have H10 := Lib.hid (H8.out.below hb6)
        have HB6 := Lib.hid (below_step HB5.out hb6)
        clear hb6 H7 H8 HB5 HE2
        go_wp2_with fail
        go_roundw
        case rel => exact ⟨n + 1, by go_num, by omega, by omega, HG2, HB6⟩
        case measure => simp [intOf]; omega
      · have HST2 := Lib.hid (HST.out (by simp))
        have HCC2 : Hid (cd = d + 1) := HCU.out (by simp)
        clear HGO HST HCU HCD HMI
        have t1 : ((r1 : Int) == (m : Int)) = false := by have := HBL.out; simp at this ⊢; omega
        have t2 : ((r2 : Int) == (m : Int)) = true := by have := HAB.out; simp at this ⊢; omega
        clear HBL HAB
        go_wp2_with fail
        refine (HSC.out).mono ?_; rintro e3 w3 ⟨A3, c3, l3, A4, c4, l4, rfl, h3, h4, hb3⟩
        have hfl := c_rfloor A3 A4 c3 c4 l3 l4 X Y w3 h3 h4 HXY.out.1 HXY.out.2 HF2.out
        rw [HF1.out] at hfl
        have HFL := Lib.hid hfl
        have H3 := Lib.hid h3
        have H4 := Lib.hid h4
        have HB3 := Lib.hid (below_step HB.out hb3)
        clear h3 h4 hb3 hfl HSC
        go_wp2_with fail
        refine (HFL.out).mono ?_; rintro e4 w4 ⟨rfl, hb4⟩
        have H5 := Lib.hid (H3.out.below hb4)
        have H6 := Lib.hid (H4.out.below hb4)
        have HB4 := Lib.hid (below_step HB3.out hb4)
        clear hb4 H3 H4 HB3 HFL
        go_wp2_with fail
        refine (HE1.out _).mono ?_; rintro e5 w5 ⟨rfl, hb5⟩
        have H7 := Lib.hid (H5.out.below hb5)
        have H8 := Lib.hid (H6.out.below hb5)
        have HB5 := Lib.hid (below_step HB4.out hb5)
        clear hb5 H5 H6 HB4 HE1
        go_wp2_with fail
        refine (HE2.out _).mono ?_; rintro e6 w6 ⟨rfl, hb6⟩
        have H9 := Lib.hid (H7.out.below hb6)
        have H10 := Lib.hid (H8.out.below hb6)
        have HB6 := Lib.hid (below_step HB5.out hb6)
        clear hb6 H7 H8 HB5 HE2
        go_wp2_with fail
        refine (HC3.out _).mono ?_; rintro e7 w7 ⟨A7, c7, l7, rfl, h7, hb7⟩
        have H11 := Lib.hid (H9.out.below hb7)
        have H12 := Lib.hid (H10.out.below hb7)
        have H13 := Lib.hid h7
        have HB7 := Lib.hid (below_step HB6.out hb7)
        clear h7 hb7 H9 H10 HB6 HC3
        go_wp2_with fail
        refine (c_rmul _ _ _ _ _ _ _ _ _ H13.out H12.out (nsml_big (ntxt_sml HD3.out)) (nsml_big HXY.out.2)).mono ?_; rintro e8 w8 ⟨A8, c8, l8, rfl, h8, hb8⟩
        have H14 := Lib.hid (H11.out.below hb8)
        have H15 := Lib.hid h8
        have HB8 := Lib.hid (below_step HB7.out hb8)
        clear h8 hb8 H11 H12 H13 HB7
        go_wp2_with fail
        refine (HC2.out _).mono ?_; rintro e9 w9 ⟨A9, c9, l9, rfl, h9, hb9⟩
        have H16 := Lib.hid (H14.out.below hb9)
        have H17 := Lib.hid (H15.out.below hb9)
        have H18 := Lib.hid h9
        have HB9 := Lib.hid (below_step HB8.out hb9)
        clear h9 hb9 H14 H15 HB8
        go_wp2_with fail
        refine (c_rmul _ _ _ _ _ _ _ _ _ H18.out H16.out (nsml_big (ntxt_sml HS2.out)) (nsml_big HXY.out.1)).mono ?_; rintro e10 w10 ⟨A10, c10, l10, rfl, h10, hb10⟩
        have hcc := c_rcmp A8 A10 c8 c10 l8 l10 _ _ w10 _ (H17.out.below hb10) h10 (by have := len_big H17.out.lb (by decide) (nsml_mul HXY.out.2 (by omega)); omega) (by have := len_big h10.lb (by decide) (nsml_mul HXY.out.1 (by decide)); omega)
        rw [HRR.out] at hcc
        have HCC := Lib.hid hcc
        have HB10 := Lib.hid (below_step HB9.out hb10)
        clear hcc h10 hb10 H16 H17 H18 HB9
        go_wp2_with fail
        refine (HCC.out).mono ?_; rintro e11 w11 ⟨rfl, hb11⟩
        have HB11 := Lib.hid (HB2.out.trans ((below_step HB10.out hb11).mono HB2.out.size))
        clear hb11 HB10 HCC
        have hcp : 0 < cd := by have := HCC2.out; omega
        have hcm : cd ≤ 100000000000000000 := by have := HCC2.out; omega
        go_wp2_with fail
        have hcI : (d : Int) + 1 = (cd : Int) := by have := HCC2.out; omega
        rw [hcI]
        clear hcI
        go_loop [7, 10] (fun vn vd => ∃ k u : Nat, vn = .int .i64 ((n : Int) - (k : Int)) ∧ vd = .int .u64 (u : Int) ∧ 0 < u ∧ u ≤ 100000000000000000 ∧ k ≤ 20 ∧ Hid (stripD u = stripD cd ∧ lenD u + k = lenD cd)) (fun _ vd => (intOf vd).toNat)
        case atStart => exact ⟨0, cd, by go_num, rfl, hcp, hcm, by decide, ⟨rfl, rfl⟩⟩
        case round =>
          obtain ⟨k, u, rfl, rfl, hu0, hu1, hk, HK⟩ := hrel
          by_cases hz : u % 10 = 0
          · have hzI : (u : Int) % 10 = 0 := by omega
            have hq : (u : Int) / 10 = ((u / 10 : Nat) : Int) := by omega
            have hl := lenD_20 (d := cd) (by omega)
            have hk2 : k < 20 := by have := HK.out.2; have := lenD_pos u; omega
            have HK2 : Hid (stripD (u / 10) = stripD cd ∧ lenD (u / 10) + (k + 1) = lenD cd) := ⟨by rw [← stripD_go hu0 hz]; exact HK.out.1, by have := HK.out.2; rw [lenD_big (by omega)] at this; omega⟩
            have hu2 : 0 < u / 10 := by omega
            have hu3 : u / 10 < u := by omega
            have hu4 : u / 10 ≤ 100000000000000000 := by omega
            have t1 : (((u : Int) % 10) == 0) = true := by simp [hzI]
            obtain ⟨v, hv⟩ : ∃ v, u / 10 = v := ⟨_, rfl⟩
            rw [hv] at hq HK2 hu2 hu3 hu4
            clear hzI hv hz hl
            go_wp2_with fail
            go_round
            case rel => exact ⟨k + 1, v, by go_num, rfl, hu2, hu4, by omega, HK2⟩
            case measure => simp [intOf]; omega
          · have hzI : ¬ (u : Int) % 10 = 0 := by omega
            have t1 : (((u : Int) % 10) == 0) = false := by simpa using hzI
            have HDG := Lib.hid (c_xdigits u (by omega))
            have HQ : Hid (stripD cd = u ∧ x + (lenD cd : Int) - n = x + ((Lib.decDigits u).length : Int) - ((n : Int) - (k : Int))) := ⟨by rw [← HK.out.1, stripD_stop hz], by have := HK.out.2; unfold lenD at this; unfold lenD; omega⟩
            have hl := lenD_20 (d := u) (by omega)
            unfold lenD at hl
            clear hzI hz HK
            go_wp2_with fail
            refine (HDG.out _).mono ?_; rintro e12 w12 ⟨rfl, k2, rfl⟩
            have HB12 := Lib.hid (below_drewN HB11.out k2)
            go_wp2_with fail
            go_ret2
            exact ⟨by rw [HST2.out, HQ.out.1, HQ.out.2]; first | rfl | (congr 4; omega), HSR.out.1, HSR.out.2.1, HSR.out.2.2, HB12.out⟩
      · have HST2 := Lib.hid (HST.out (by simp))
        have HCC2 : Hid (cd = d) := HCD.out (by simp)
        clear HGO HST HCU HCD HMI
        have t1 : ((r1 : Int) == (m : Int)) = true := by have := HBL.out; simp at this ⊢; omega
        have t2 : ((r2 : Int) == (m : Int)) = false := by have := HAB.out; simp at this ⊢; omega
        clear HBL HAB
        go_wp2_with fail
        refine (HSC.out).mono ?_; rintro e3 w3 ⟨A3, c3, l3, A4, c4, l4, rfl, h3, h4, hb3⟩
        have hfl := c_rfloor A3 A4 c3 c4 l3 l4 X Y w3 h3 h4 HXY.out.1 HXY.out.2 HF2.out
        rw [HF1.out] at hfl
        have HFL := Lib.hid hfl
        have H3 := Lib.hid h3
        have H4 := Lib.hid h4
        have HB3 := Lib.hid (below_step HB.out hb3)
        clear h3 h4 hb3 hfl HSC
        go_wp2_with fail
        refine (HFL.out).mono ?_; rintro e4 w4 ⟨rfl, hb4⟩
        have H5 := Lib.hid (H3.out.below hb4)
        have H6 := Lib.hid (H4.out.below hb4)
        have HB4 := Lib.hid (below_step HB3.out hb4)
        clear hb4 H3 H4 HB3 HFL
        go_wp2_with fail
        refine (HE1.out _).mono ?_; rintro e5 w5 ⟨rfl, hb5⟩
        have H7 := Lib.hid (H5.out.below hb5)
        have H8 := Lib.hid (H6.out.below hb5)
        have HB5 := Lib.hid (below_step HB4.out hb5)
        clear hb5 H5 H6 HB4 HE1
        go_wp2_with fail
        refine (HE2.out _).mono ?_; rintro e6 w6 ⟨rfl, hb6⟩
        have H9 := Lib.hid (H7.out.below hb6)
        have H10 := Lib.hid (H8.out.below hb6)
        have HB6 := Lib.hid (below_step HB5.out hb6)
        clear hb6 H7 H8 HB5 HE2
        go_wp2_with fail
        refine (HC3.out _).mono ?_; rintro e7 w7 ⟨A7, c7, l7, rfl, h7, hb7⟩
        have H11 := Lib.hid (H9.out.below hb7)
        have H12 := Lib.hid (H10.out.below hb7)
        have H13 := Lib.hid h7
        have HB7 := Lib.hid (below_step HB6.out hb7)
        clear h7 hb7 H9 H10 HB6 HC3
        go_wp2_with fail
        refine (c_rmul _ _ _ _ _ _ _ _ _ H13.out H12.out (nsml_big (ntxt_sml HD3.out)) (nsml_big HXY.out.2)).mono ?_; rintro e8 w8 ⟨A8, c8, l8, rfl, h8, hb8⟩
        have H14 := Lib.hid (H11.out.below hb8)
        have H15 := Lib.hid h8
        have HB8 := Lib.hid (below_step HB7.out hb8)
        clear h8 hb8 H11 H12 H13 HB7
        go_wp2_with fail
        refine (HC2.out _).mono ?_; rintro e9 w9 ⟨A9, c9, l9, rfl, h9, hb9⟩
        have H16 := Lib.hid (H14.out.below hb9)
        have H17 := Lib.hid (H15.out.below hb9)
        have H18 := Lib.hid h9
        have HB9 := Lib.hid (below_step HB8.out hb9)
        clear h9 hb9 H14 H15 HB8
        go_wp2_with fail
        refine (c_rmul _ _ _ _ _ _ _ _ _ H18.out H16.out (nsml_big (ntxt_sml HS2.out)) (nsml_big HXY.out.1)).mono ?_; rintro e10 w10 ⟨A10, c10, l10, rfl, h10, hb10⟩
        have hcc := c_rcmp A8 A10 c8 c10 l8 l10 _ _ w10 _ (H17.out.below hb10) h10 (by have := len_big H17.out.lb (by decide) (nsml_mul HXY.out.2 (by omega)); omega) (by have := len_big h10.lb (by decide) (nsml_mul HXY.out.1 (by decide)); omega)
        rw [HRR.out] at hcc
        have HCC := Lib.hid hcc
        have HB10 := Lib.hid (below_step HB9.out hb10)
        clear hcc h10 hb10 H16 H17 H18 HB9
        go_wp2_with fail
        refine (HCC.out).mono ?_; rintro e11 w11 ⟨rfl, hb11⟩
        have HB11 := Lib.hid (HB2.out.trans ((below_step HB10.out hb11).mono HB2.out.size))
        clear hb11 HB10 HCC
        have hcp : 0 < cd := by have := HCC2.out; omega
        have hcm : cd ≤ 100000000000000000 := by have := HCC2.out; omega
        go_wp2_with fail
        have hcI : (d : Int) = (cd : Int) := by have := HCC2.out; omega
        rw [hcI]
        clear hcI
        go_loop [7, 10] (fun vn vd => ∃ k u : Nat, vn = .int .i64 ((n : Int) - (k : Int)) ∧ vd = .int .u64 (u : Int) ∧ 0 < u ∧ u ≤ 100000000000000000 ∧ k ≤ 20 ∧ Hid (stripD u = stripD cd ∧ lenD u + k = lenD cd)) (fun _ vd => (intOf vd).toNat)
        case atStart => exact ⟨0, cd, by go_num, rfl, hcp, hcm, by decide, ⟨rfl, rfl⟩⟩
        case round =>
          obtain ⟨k, u, rfl, rfl, hu0, hu1, hk, HK⟩ := hrel
          by_cases hz : u % 10 = 0
          · have hzI : (u : Int) % 10 = 0 := by omega
            have hq : (u : Int) / 10 = ((u / 10 : Nat) : Int) := by omega
            have hl := lenD_20 (d := cd) (by omega)
            have hk2 : k < 20 := by have := HK.out.2; have := lenD_pos u; omega
            have HK2 : Hid (stripD (u / 10) = stripD cd ∧ lenD (u / 10) + (k + 1) = lenD cd) := ⟨by rw [← stripD_go hu0 hz]; exact HK.out.1, by have := HK.out.2; rw [lenD_big (by omega)] at this; omega⟩
            have hu2 : 0 < u / 10 := by omega
            have hu3 : u / 10 < u := by omega
            have hu4 : u / 10 ≤ 100000000000000000 := by omega
            have t1 : (((u : Int) % 10) == 0) = true := by simp [hzI]
            obtain ⟨v, hv⟩ : ∃ v, u / 10 = v := ⟨_, rfl⟩
            rw [hv] at hq HK2 hu2 hu3 hu4
            clear hzI hv hz hl
            go_wp2_with fail
            go_round
            case rel => exact ⟨k + 1, v, by go_num, rfl, hu2, hu4, by omega, HK2⟩
            case measure => simp [intOf]; omega
          · have hzI : ¬ (u : Int) % 10 = 0 := by omega
            have t1 : (((u : Int) % 10) == 0) = false := by simpa using hzI
            have HDG := Lib.hid (c_xdigits u (by omega))
            have HQ : Hid (stripD cd = u ∧ x + (lenD cd : Int) - n = x + ((Lib.decDigits u).length : Int) - ((n : Int) - (k : Int))) := ⟨by rw [← HK.out.1, stripD_stop hz], by have := HK.out.2; unfold lenD at this; unfold lenD; omega⟩
            have hl := lenD_20 (d := u) (by omega)
            unfold lenD at hl
            clear hzI hz HK
            go_wp2_with fail
            refine (HDG.out _).mono ?_; rintro e12 w12 ⟨rfl, k2, rfl⟩
            have HB12 := Lib.hid (below_drewN HB11.out k2)
            go_wp2_with fail
            go_ret2
            exact ⟨by rw [HST2.out, HQ.out.1, HQ.out.2]; first | rfl | (congr 4; omega), HSR.out.1, HSR.out.2.1, HSR.out.2.2, HB12.out⟩
      · have HST2 := Lib.hid (HST.out (by simp))
        clear HGO HST
        have t1 : ((r1 : Int) == (m : Int)) = true := by have := HBL.out; simp at this ⊢; omega
        have t2 : ((r2 : Int) == (m : Int)) = true := by have := HAB.out; simp at this ⊢; omega
        clear HBL HAB
        rcases Int.lt_trichotomy R 0 with hR | hR | hR
        · have HCC2 : Hid (cd = d + 1) := HCU.out (by have := HMI.out; simp only [this]; simp [hR])
          clear HCU HCD HMI
          go_wp2_with fail
          refine (HSC.out).mono ?_; rintro e3 w3 ⟨A3, c3, l3, A4, c4, l4, rfl, h3, h4, hb3⟩
          have hfl := c_rfloor A3 A4 c3 c4 l3 l4 X Y w3 h3 h4 HXY.out.1 HXY.out.2 HF2.out
          rw [HF1.out] at hfl
          have HFL := Lib.hid hfl
          have H3 := Lib.hid h3
          have H4 := Lib.hid h4
          have HB3 := Lib.hid (below_step HB.out hb3)
          clear h3 h4 hb3 hfl HSC
          go_wp2_with fail
          refine (HFL.out).mono ?_; rintro e4 w4 ⟨rfl, hb4⟩
          have H5 := Lib.hid (H3.out.below hb4)
          have H6 := Lib.hid (H4.out.below hb4)
          have HB4 := Lib.hid (below_step HB3.out hb4)
          clear hb4 H3 H4 HB3 HFL
          go_wp2_with fail
          refine (HE1.out _).mono ?_; rintro e5 w5 ⟨rfl, hb5⟩
          have H7 := Lib.hid (H5.out.below hb5)
          have H8 := Lib.hid (H6.out.below hb5)
          have HB5 := Lib.hid (below_step HB4.out hb5)
          clear hb5 H5 H6 HB4 HE1
          go_wp2_with fail
          refine (HE2.out _).mono ?_; rintro e6 w6 ⟨rfl, hb6⟩
          have H9 := Lib.hid (H7.out.below hb6)
          have H10 := Lib.hid (H8.out.below hb6)
          have HB6 := Lib.hid (below_step HB5.out hb6)
          clear hb6 H7 H8 HB5 HE2
          go_wp2_with fail
          refine (HC3.out _).mono ?_; rintro e7 w7 ⟨A7, c7, l7, rfl, h7, hb7⟩
          have H11 := Lib.hid (H9.out.below hb7)
          have H12 := Lib.hid (H10.out.below hb7)
          have H13 := Lib.hid h7
          have HB7 := Lib.hid (below_step HB6.out hb7)
          clear h7 hb7 H9 H10 HB6 HC3
          go_wp2_with fail
          refine (c_rmul _ _ _ _ _ _ _ _ _ H13.out H12.out (nsml_big (ntxt_sml HD3.out)) (nsml_big HXY.out.2)).mono ?_; rintro e8 w8 ⟨A8, c8, l8, rfl, h8, hb8⟩
          have H14 := Lib.hid (H11.out.below hb8)
          have H15 := Lib.hid h8
          have HB8 := Lib.hid (below_step HB7.out hb8)
          clear h8 hb8 H11 H12 H13 HB7
          go_wp2_with fail
          refine (HC2.out _).mono ?_; rintro e9 w9 ⟨A9, c9, l9, rfl, h9, hb9⟩
          have H16 := Lib.hid (H14.out.below hb9)
          have H17 := Lib.hid (H15.out.below hb9)
          have H18 := Lib.hid h9
          have HB9 := Lib.hid (below_step HB8.out hb9)
          clear h9 hb9 H14 H15 HB8
          go_wp2_with fail
          refine (c_rmul _ _ _ _ _ _ _ _ _ H18.out H16.out (nsml_big (ntxt_sml HS2.out)) (nsml_big HXY.out.1)).mono ?_; rintro e10 w10 ⟨A10, c10, l10, rfl, h10, hb10⟩
          have hcc := c_rcmp A8 A10 c8 c10 l8 l10 _ _ w10 _ (H17.out.below hb10) h10 (by have := len_big H17.out.lb (by decide) (nsml_mul HXY.out.2 (by omega)); omega) (by have := len_big h10.lb (by decide) (nsml_mul HXY.out.1 (by decide)); omega)
          rw [HRR.out] at hcc
          have HCC := Lib.hid hcc
          have HB10 := Lib.hid (below_step HB9.out hb10)
          clear hcc h10 hb10 H16 H17 H18 HB9
          go_wp2_with fail
          refine (HCC.out).mono ?_; rintro e11 w11 ⟨rfl, hb11⟩
          have HB11 := Lib.hid (HB2.out.trans ((below_step HB10.out hb11).mono HB2.out.size))
          clear hb11 HB10 HCC
          have hcp : 0 < cd := by have := HCC2.out; omega
          have hcm : cd ≤ 100000000000000000 := by have := HCC2.out; omega
          go_wp2_with fail
          have hcI : (d : Int) + 1 = (cd : Int) := by have := HCC2.out; omega
          rw [hcI]
          clear hcI
          go_loop [7, 10] (fun vn vd => ∃ k u : Nat, vn = .int .i64 ((n : Int) - (k : Int)) ∧ vd = .int .u64 (u : Int) ∧ 0 < u ∧ u ≤ 100000000000000000 ∧ k ≤ 20 ∧ Hid (stripD u = stripD cd ∧ lenD u + k = lenD cd)) (fun _ vd => (intOf vd).toNat)
          case atStart => exact ⟨0, cd, by go_num, rfl, hcp, hcm, by decide, ⟨rfl, rfl⟩⟩
          case round =>
            obtain ⟨k, u, rfl, rfl, hu0, hu1, hk, HK⟩ := hrel
            by_cases hz : u % 10 = 0
            · have hzI : (u : Int) % 10 = 0 := by omega
              have hq : (u : Int) / 10 = ((u / 10 : Nat) : Int) := by omega
              have hl := lenD_20 (d := cd) (by omega)
              have hk2 : k < 20 := by have := HK.out.2; have := lenD_pos u; omega
              have HK2 : Hid (stripD (u / 10) = stripD cd ∧ lenD (u / 10) + (k + 1) = lenD cd) := ⟨by rw [← stripD_go hu0 hz]; exact HK.out.1, by have := HK.out.2; rw [lenD_big (by omega)] at this; omega⟩
              have hu2 : 0 < u / 10 := by omega
              have hu3 : u / 10 < u := by omega
              have hu4 : u / 10 ≤ 100000000000000000 := by omega
              have t1 : (((u : Int) % 10) == 0) = true := by simp [hzI]
              obtain ⟨v, hv⟩ : ∃ v, u / 10 = v := ⟨_, rfl⟩
              rw [hv] at hq HK2 hu2 hu3 hu4
              clear hzI hv hz hl
              go_wp2_with fail
              go_round
              case rel => exact ⟨k + 1, v, by go_num, rfl, hu2, hu4, by omega, HK2⟩
              case measure => simp [intOf]; omega
            · have hzI : ¬ (u : Int) % 10 = 0 := by omega
              have t1 : (((u : Int) % 10) == 0) = false := by simpa using hzI
              have HDG := Lib.hid (c_xdigits u (by omega))
              have HQ : Hid (stripD cd = u ∧ x + (lenD cd : Int) - n = x + ((Lib.decDigits u).length : Int) - ((n : Int) - (k : Int))) := ⟨by rw [← HK.out.1, stripD_stop hz], by have := HK.out.2; unfold lenD at this; unfold lenD; omega⟩
              have hl := lenD_20 (d := u) (by omega)
              unfold lenD at hl
              clear hzI hz HK
              go_wp2_with fail
              refine (HDG.out _).mono ?_; rintro e12 w12 ⟨rfl, k2, rfl⟩
              have HB12 := Lib.hid (below_drewN HB11.out k2)
              go_wp2_with fail
              go_ret2
              exact ⟨by rw [HST2.out, HQ.out.1, HQ.out.2]; first | rfl | (congr 4; omega), HSR.out.1, HSR.out.2.1, HSR.out.2.2, HB12.out⟩
        · by_cases ho : d % 2 = 1
          · have HCC2 : Hid (cd = d + 1) := HCU.out (by have := HMI.out; simp only [this]; simp [hR, ho])
            clear HCU HCD HMI
            have hoI : (d : Int) % 2 = 1 := by omega
            have t3 : (((d : Int) % 2) == 1) = true := by simp [hoI]
            clear ho hoI
            subst hR
            go_wp2_with fail
            refine (HSC.out).mono ?_; rintro e3 w3 ⟨A3, c3, l3, A4, c4, l4, rfl, h3, h4, hb3⟩
            have hfl := c_rfloor A3 A4 c3 c4 l3 l4 X Y w3 h3 h4 HXY.out.1 HXY.out.2 HF2.out
            rw [HF1.out] at hfl
            have HFL := Lib.hid hfl
            have H3 := Lib.hid h3
            have H4 := Lib.hid h4
            have HB3 := Lib.hid (below_step HB.out hb3)
            clear h3 h4 hb3 hfl HSC
            go_wp2_with fail
            refine (HFL.out).mono ?_; rintro e4 w4 ⟨rfl, hb4⟩
            have H5 := Lib.hid (H3.out.below hb4)
            have H6 := Lib.hid (H4.out.below hb4)
            have HB4 := Lib.hid (below_step HB3.out hb4)
            clear hb4 H3 H4 HB3 HFL
            go_wp2_with fail
            refine (HE1.out _).mono ?_; rintro e5 w5 ⟨rfl, hb5⟩
            have H7 := Lib.hid (H5.out.below hb5)
            have H8 := Lib.hid (H6.out.below hb5)
            have HB5 := Lib.hid (below_step HB4.out hb5)
            clear hb5 H5 H6 HB4 HE1
            go_wp2_with fail
            refine (HE2.out _).mono ?_; rintro e6 w6 ⟨rfl, hb6⟩
            have H9 := Lib.hid (H7.out.below hb6)
            have H10 := Lib.hid (H8.out.below hb6)
            have HB6 := Lib.hid (below_step HB5.out hb6)
            clear hb6 H7 H8 HB5 HE2
            go_wp2_with fail
            refine (HC3.out _).mono ?_; rintro e7 w7 ⟨A7, c7, l7, rfl, h7, hb7⟩
            have H11 := Lib.hid (H9.out.below hb7)
            have H12 := Lib.hid (H10.out.below hb7)
            have H13 := Lib.hid h7
            have HB7 := Lib.hid (below_step HB6.out hb7)
            clear h7 hb7 H9 H10 HB6 HC3
            go_wp2_with fail
            refine (c_rmul _ _ _ _ _ _ _ _ _ H13.out H12.out (nsml_big (ntxt_sml HD3.out)) (nsml_big HXY.out.2)).mono ?_; rintro e8 w8 ⟨A8, c8, l8, rfl, h8, hb8⟩
            have H14 := Lib.hid (H11.out.below hb8)
            have H15 := Lib.hid h8
            have HB8 := Lib.hid (below_step HB7.out hb8)
            clear h8 hb8 H11 H12 H13 HB7
            go_wp2_with fail
            refine (HC2.out _).mono ?_; rintro e9 w9 ⟨A9, c9, l9, rfl, h9, hb9⟩
            have H16 := Lib.hid (H14.out.below hb9)
            have H17 := Lib.hid (H15.out.below hb9)
            have H18 := Lib.hid h9
            have HB9 := Lib.hid (below_step HB8.out hb9)
            clear h9 hb9 H14 H15 HB8
            go_wp2_with fail
            refine (c_rmul _ _ _ _ _ _ _ _ _ H18.out H16.out (nsml_big (ntxt_sml HS2.out)) (nsml_big HXY.out.1)).mono ?_; rintro e10 w10 ⟨A10, c10, l10, rfl, h10, hb10⟩
            have hcc := c_rcmp A8 A10 c8 c10 l8 l10 _ _ w10 _ (H17.out.below hb10) h10 (by have := len_big H17.out.lb (by decide) (nsml_mul HXY.out.2 (by omega)); omega) (by have := len_big h10.lb (by decide) (nsml_mul HXY.out.1 (by decide)); omega)
            rw [HRR.out] at hcc
            have HCC := Lib.hid hcc
            have HB10 := Lib.hid (below_step HB9.out hb10)
            clear hcc h10 hb10 H16 H17 H18 HB9
            go_wp2_with fail
            refine (HCC.out).mono ?_; rintro e11 w11 ⟨rfl, hb11⟩
            have HB11 := Lib.hid (HB2.out.trans ((below_step HB10.out hb11).mono HB2.out.size))
            clear hb11 HB10 HCC
            have hcp : 0 < cd := by have := HCC2.out; omega
            have hcm : cd ≤ 100000000000000000 := by have := HCC2.out; omega
            go_wp2_with fail
            have hcI : (d : Int) + 1 = (cd : Int) := by have := HCC2.out; omega
            rw [hcI]
            clear hcI
            go_loop [7, 10] (fun vn vd => ∃ k u : Nat, vn = .int .i64 ((n : Int) - (k : Int)) ∧ vd = .int .u64 (u : Int) ∧ 0 < u ∧ u ≤ 100000000000000000 ∧ k ≤ 20 ∧ Hid (stripD u = stripD cd ∧ lenD u + k = lenD cd)) (fun _ vd => (intOf vd).toNat)
            case atStart => exact ⟨0, cd, by go_num, rfl, hcp, hcm, by decide, ⟨rfl, rfl⟩⟩
            case round =>
              obtain ⟨k, u, rfl, rfl, hu0, hu1, hk, HK⟩ := hrel
              by_cases hz : u % 10 = 0
              · have hzI : (u : Int) % 10 = 0 := by omega
                have hq : (u : Int) / 10 = ((u / 10 : Nat) : Int) := by omega
                have hl := lenD_20 (d := cd) (by omega)
                have hk2 : k < 20 := by have := HK.out.2; have := lenD_pos u; omega
                have HK2 : Hid (stripD (u / 10) = stripD cd ∧ lenD (u / 10) + (k + 1) = lenD cd) := ⟨by rw [← stripD_go hu0 hz]; exact HK.out.1, by have := HK.out.2; rw [lenD_big (by omega)] at this; omega⟩
                have hu2 : 0 < u / 10 := by omega
                have hu3 : u / 10 < u := by omega
                have hu4 : u / 10 ≤ 100000000000000000 := by omega
                have t1 : (((u : Int) % 10) == 0) = true := by simp [hzI]
                obtain ⟨v, hv⟩ : ∃ v, u / 10 = v := ⟨_, rfl⟩
                rw [hv] at hq HK2 hu2 hu3 hu4
                clear hzI hv hz hl
                go_wp2_with fail
                go_round
                case rel => exact ⟨k + 1, v, by go_num, rfl, hu2, hu4, by omega, HK2⟩
                case measure => simp [intOf]; omega
              · have hzI : ¬ (u : Int) % 10 = 0 := by omega
                have t1 : (((u : Int) % 10) == 0) = false := by simpa using hzI
                have HDG := Lib.hid (c_xdigits u (by omega))
                have HQ : Hid (stripD cd = u ∧ x + (lenD cd : Int) - n = x + ((Lib.decDigits u).length : Int) - ((n : Int) - (k : Int))) := ⟨by rw [← HK.out.1, stripD_stop hz], by have := HK.out.2; unfold lenD at this; unfold lenD; omega⟩
                have hl := lenD_20 (d := u) (by omega)
                unfold lenD at hl
                clear hzI hz HK
                go_wp2_with fail
                refine (HDG.out _).mono ?_; rintro e12 w12 ⟨rfl, k2, rfl⟩
                have HB12 := Lib.hid (below_drewN HB11.out k2)
                go_wp2_with fail
                go_ret2
                exact ⟨by rw [HST2.out, HQ.out.1, HQ.out.2]; first | rfl | (congr 4; omega), HSR.out.1, HSR.out.2.1, HSR.out.2.2, HB12.out⟩
          · have HCC2 : Hid (cd = d) := HCD.out (by have := HMI.out; simp only [this]; simp [hR]; omega)
            clear HCU HCD HMI
            have hoI : ¬ (d : Int) % 2 = 1 := by omega
            have t3 : (((d : Int) % 2) == 1) = false := by simpa using hoI
            clear ho hoI
            subst hR
            go_wp2_with fail
            refine (HSC.out).mono ?_; rintro e3 w3 ⟨A3, c3, l3, A4, c4, l4, rfl, h3, h4, hb3⟩
            have hfl := c_rfloor A3 A4 c3 c4 l3 l4 X Y w3 h3 h4 HXY.out.1 HXY.out.2 HF2.out
            rw [HF1.out] at hfl
            have HFL := Lib.hid hfl
            have H3 := Lib.hid h3
            have H4 := Lib.hid h4
            have HB3 := Lib.hid (below_step HB.out hb3)
            clear h3 h4 hb3 hfl HSC
            go_wp2_with fail
            refine (HFL.out).mono ?_; rintro e4 w4 ⟨rfl, hb4⟩
            have H5 := Lib.hid (H3.out.below hb4)
            have H6 := Lib.hid (H4.out.below hb4)
            have HB4 := Lib.hid (below_step HB3.out hb4)
            clear hb4 H3 H4 HB3 HFL
            go_wp2_with fail
            refine (HE1.out _).mono ?_; rintro e5 w5 ⟨rfl, hb5⟩
            have H7 := Lib.hid (H5.out.below hb5)
            have H8 := Lib.hid (H6.out.below hb5)
            have HB5 := Lib.hid (below_step HB4.out hb5)
            clear hb5 H5 H6 HB4 HE1
            go_wp2_with fail
            refine (HE2.out _).mono ?_; rintro e6 w6 ⟨rfl, hb6⟩
            have H9 := Lib.hid (H7.out.below hb6)
            have H10 := Lib.hid (H8.out.below hb6)
            have HB6 := Lib.hid (below_step HB5.out hb6)
            clear hb6 H7 H8 HB5 HE2
            go_wp2_with fail
            refine (HC3.out _).mono ?_; rintro e7 w7 ⟨A7, c7, l7, rfl, h7, hb7⟩
            have H11 := Lib.hid (H9.out.below hb7)
            have H12 := Lib.hid (H10.out.below hb7)
            have H13 := Lib.hid h7
            have HB7 := Lib.hid (below_step HB6.out hb7)
            clear h7 hb7 H9 H10 HB6 HC3
            go_wp2_with fail
            refine (c_rmul _ _ _ _ _ _ _ _ _ H13.out H12.out (nsml_big (ntxt_sml HD3.out)) (nsml_big HXY.out.2)).mono ?_; rintro e8 w8 ⟨A8, c8, l8, rfl, h8, hb8⟩
            have H14 := Lib.hid (H11.out.below hb8)
            have H15 := Lib.hid h8
            have HB8 := Lib.hid (below_step HB7.out hb8)
            clear h8 hb8 H11 H12 H13 HB7
            go_wp2_with fail
            refine (HC2.out _).mono ?_; rintro e9 w9 ⟨A9, c9, l9, rfl, h9, hb9⟩
            have H16 := Lib.hid (H14.out.below hb9)
            have H17 := Lib.hid (H15.out.below hb9)
            have H18 := Lib.hid h9
            have HB9 := Lib.hid (below_step HB8.out hb9)
            clear h9 hb9 H14 H15 HB8
            go_wp2_with fail
            refine (c_rmul _ _ _ _ _ _ _ _ _ H18.out H16.out (nsml_big (ntxt_sml HS2.out)) (nsml_big HXY.out.1)).mono ?_; rintro e10 w10 ⟨A10, c10, l10, rfl, h10, hb10⟩
            have hcc := c_rcmp A8 A10 c8 c10 l8 l10 _ _ w10 _ (H17.out.below hb10) h10 (by have := len_big H17.out.lb (by decide) (nsml_mul HXY.out.2 (by omega)); omega) (by have := len_big h10.lb (by decide) (nsml_mul HXY.out.1 (by decide)); omega)
            rw [HRR.out] at hcc
            have HCC := Lib.hid hcc
            have HB10 := Lib.hid (below_step HB9.out hb10)
            clear hcc h10 hb10 H16 H17 H18 HB9
            go_wp2_with fail
            refine (HCC.out).mono ?_; rintro e11 w11 ⟨rfl, hb11⟩
            have HB11 := Lib.hid (HB2.out.trans ((below_step HB10.out hb11).mono HB2.out.size))
            clear hb11 HB10 HCC
            have hcp : 0 < cd := by have := HCC2.out; omega
            have hcm : cd ≤ 100000000000000000 := by have := HCC2.out; omega
            go_wp2_with fail
            have hcI : (d : Int) = (cd : Int) := by have := HCC2.out; omega
            rw [hcI]
            clear hcI
            go_loop [7, 10] (fun vn vd => ∃ k u : Nat, vn = .int .i64 ((n : Int) - (k : Int)) ∧ vd = .int .u64 (u : Int) ∧ 0 < u ∧ u ≤ 100000000000000000 ∧ k ≤ 20 ∧ Hid (stripD u = stripD cd ∧ lenD u + k = lenD cd)) (fun _ vd => (intOf vd).toNat)
            case atStart => exact ⟨0, cd, by go_num, rfl, hcp, hcm, by decide, ⟨rfl, rfl⟩⟩
            case round =>
              obtain ⟨k, u, rfl, rfl, hu0, hu1, hk, HK⟩ := hrel
              by_cases hz : u % 10 = 0
              · have hzI : (u : Int) % 10 = 0 := by omega
                have hq : (u : Int) / 10 = ((u / 10 : Nat) : Int) := by omega
                have hl := lenD_20 (d := cd) (by omega)
                have hk2 : k < 20 := by have := HK.out.2; have := lenD_pos u; omega
                have HK2 : Hid (stripD (u / 10) = stripD cd ∧ lenD (u / 10) + (k + 1) = lenD cd) := ⟨by rw [← stripD_go hu0 hz]; exact HK.out.1, by have := HK.out.2; rw [lenD_big (by omega)] at this; omega⟩
                have hu2 : 0 < u / 10 := by omega
                have hu3 : u / 10 < u := by omega
                have hu4 : u / 10 ≤ 100000000000000000 := by omega
                have t1 : (((u : Int) % 10) == 0) = true := by simp [hzI]
                obtain ⟨v, hv⟩ : ∃ v, u / 10 = v := ⟨_, rfl⟩
                rw [hv] at hq HK2 hu2 hu3 hu4
                clear hzI hv hz hl
                go_wp2_with fail
                go_round
                case rel => exact ⟨k + 1, v, by go_num, rfl, hu2, hu4, by omega, HK2⟩
                case measure => simp [intOf]; omega
              · have hzI : ¬ (u : Int) % 10 = 0 := by omega
                have t1 : (((u : Int) % 10) == 0) = false := by simpa using hzI
                have HDG := Lib.hid (c_xdigits u (by omega))
                have HQ : Hid (stripD cd = u ∧ x + (lenD cd : Int) - n = x + ((Lib.decDigits u).length : Int) - ((n : Int) - (k : Int))) := ⟨by rw [← HK.out.1, stripD_stop hz], by have := HK.out.2; unfold lenD at this; unfold lenD; omega⟩
                have hl := lenD_20 (d := u) (by omega)
                unfold lenD at hl
                clear hzI hz HK
                go_wp2_with fail
                refine (HDG.out _).mono ?_; rintro e12 w12 ⟨rfl, k2, rfl⟩
                have HB12 := Lib.hid (below_drewN HB11.out k2)
                go_wp2_with fail
                go_ret2
                exact ⟨by rw [HST2.out, HQ.out.1, HQ.out.2]; first | rfl | (congr 4; omega), HSR.out.1, HSR.out.2.1, HSR.out.2.2, HB12.out⟩
        · have HCC2 : Hid (cd = d) := HCD.out (by have := HMI.out; simp only [this]; simp; omega)
          clear HCU HCD HMI
          have n1 : ¬ R < 0 := by omega
          have n2 : (R == 0) = false := by simp; omega
          go_wp2_with fail
          refine (HSC.out).mono ?_; rintro e3 w3 ⟨A3, c3, l3, A4, c4, l4, rfl, h3, h4, hb3⟩
          have hfl := c_rfloor A3 A4 c3 c4 l3 l4 X Y w3 h3 h4 HXY.out.1 HXY.out.2 HF2.out
          rw [HF1.out] at hfl
          have HFL := Lib.hid hfl
          have H3 := Lib.hid h3
          have H4 := Lib.hid h4
          have HB3 := Lib.hid (below_step HB.out hb3)
          clear h3 h4 hb3 hfl HSC
          go_wp2_with fail
          refine (HFL.out).mono ?_; rintro e4 w4 ⟨rfl, hb4⟩
          have H5 := Lib.hid (H3.out.below hb4)
          have H6 := Lib.hid (H4.out.below hb4)
          have HB4 := Lib.hid (below_step HB3.out hb4)
          clear hb4 H3 H4 HB3 HFL
          go_wp2_with fail
          refine (HE1.out _).mono ?_; rintro e5 w5 ⟨rfl, hb5⟩
          have H7 := Lib.hid (H5.out.below hb5)
          have H8 := Lib.hid (H6.out.below hb5)
          have HB5 := Lib.hid (below_step HB4.out hb5)
          clear hb5 H5 H6 HB4 HE1
          go_wp2_with fail
          refine (HE2.out _).mono ?_; rintro e6 w6 ⟨rfl, hb6⟩
          have H9 := Lib.hid (H7.out.below hb6)
          have H10 := Lib.hid (H8.out.below hb6)
          have HB6 := Lib.hid (below_step HB5.out hb6)
          clear hb6 H7 H8 HB5 HE2
          go_wp2_with fail
          refine (HC3.out _).mono ?_; rintro e7 w7 ⟨A7, c7, l7, rfl, h7, hb7⟩
          have H11 := Lib.hid (H9.out.below hb7)
          have H12 := Lib.hid (H10.out.below hb7)
          have H13 := Lib.hid h7
          have HB7 := Lib.hid (below_step HB6.out hb7)
          clear h7 hb7 H9 H10 HB6 HC3
          go_wp2_with fail
          refine (c_rmul _ _ _ _ _ _ _ _ _ H13.out H12.out (nsml_big (ntxt_sml HD3.out)) (nsml_big HXY.out.2)).mono ?_; rintro e8 w8 ⟨A8, c8, l8, rfl, h8, hb8⟩
          have H14 := Lib.hid (H11.out.below hb8)
          have H15 := Lib.hid h8
          have HB8 := Lib.hid (below_step HB7.out hb8)
          clear h8 hb8 H11 H12 H13 HB7
          go_wp2_with fail
          refine (HC2.out _).mono ?_; rintro e9 w9 ⟨A9, c9, l9, rfl, h9, hb9⟩
          have H16 := Lib.hid (H14.out.below hb9)
          have H17 := Lib.hid (H15.out.below hb9)
          have H18 := Lib.hid h9
          have HB9 := Lib.hid (below_step HB8.out hb9)
          clear h9 hb9 H14 H15 HB8
          go_wp2_with fail
          refine (c_rmul _ _ _ _ _ _ _ _ _ H18.out H16.out (nsml_big (ntxt_sml HS2.out)) (nsml_big HXY.out.1)).mono ?_; rintro e10 w10 ⟨A10, c10, l10, rfl, h10, hb10⟩
          have hcc := c_rcmp A8 A10 c8 c10 l8 l10 _ _ w10 _ (H17.out.below hb10) h10 (by have := len_big H17.out.lb (by decide) (nsml_mul HXY.out.2 (by omega)); omega) (by have := len_big h10.lb (by decide) (nsml_mul HXY.out.1 (by decide)); omega)
          rw [HRR.out] at hcc
          have HCC := Lib.hid hcc
          have HB10 := Lib.hid (below_step HB9.out hb10)
          clear hcc h10 hb10 H16 H17 H18 HB9
          go_wp2_with fail
          refine (HCC.out).mono ?_; rintro e11 w11 ⟨rfl, hb11⟩
          have HB11 := Lib.hid (HB2.out.trans ((below_step HB10.out hb11).mono HB2.out.size))
          clear hb11 HB10 HCC
          have hcp : 0 < cd := by have := HCC2.out; omega
          have hcm : cd ≤ 100000000000000000 := by have := HCC2.out; omega
          go_wp2_with fail
          have hcI : (d : Int) = (cd : Int) := by have := HCC2.out; omega
          rw [hcI]
          clear hcI
          go_loop [7, 10] (fun vn vd => ∃ k u : Nat, vn = .int .i64 ((n : Int) - (k : Int)) ∧ vd = .int .u64 (u : Int) ∧ 0 < u ∧ u ≤ 100000000000000000 ∧ k ≤ 20 ∧ Hid (stripD u = stripD cd ∧ lenD u + k = lenD cd)) (fun _ vd => (intOf vd).toNat)
          case atStart => exact ⟨0, cd, by go_num, rfl, hcp, hcm, by decide, ⟨rfl, rfl⟩⟩
          case round =>
            obtain ⟨k, u, rfl, rfl, hu0, hu1, hk, HK⟩ := hrel
            by_cases hz : u % 10 = 0
            · have hzI : (u : Int) % 10 = 0 := by omega
              have hq : (u : Int) / 10 = ((u / 10 : Nat) : Int) := by omega
              have hl := lenD_20 (d := cd) (by omega)
              have hk2 : k < 20 := by have := HK.out.2; have := lenD_pos u; omega
              have HK2 : Hid (stripD (u / 10) = stripD cd ∧ lenD (u / 10) + (k + 1) = lenD cd) := ⟨by rw [← stripD_go hu0 hz]; exact HK.out.1, by have := HK.out.2; rw [lenD_big (by omega)] at this; omega⟩
              have hu2 : 0 < u / 10 := by omega
              have hu3 : u / 10 < u := by omega
              have hu4 : u / 10 ≤ 100000000000000000 := by omega
              have t1 : (((u : Int) % 10) == 0) = true := by simp [hzI]
              obtain ⟨v, hv⟩ : ∃ v, u / 10 = v := ⟨_, rfl⟩
              rw [hv] at hq HK2 hu2 hu3 hu4
              clear hzI hv hz hl
              go_wp2_with fail
              go_round
              case rel => exact ⟨k + 1, v, by go_num, rfl, hu2, hu4, by omega, HK2⟩
              case measure => simp [intOf]; omega
            · have hzI : ¬ (u : Int) % 10 = 0 := by omega
              have t1 : (((u : Int) % 10) == 0) = false := by simpa using hzI
              have HDG := Lib.hid (c_xdigits u (by omega))
              have HQ : Hid (stripD cd = u ∧ x + (lenD cd : Int) - n = x + ((Lib.decDigits u).length : Int) - ((n : Int) - (k : Int))) := ⟨by rw [← HK.out.1, stripD_stop hz], by have := HK.out.2; unfold lenD at this; unfold lenD; omega⟩
              have hl := lenD_20 (d := u) (by omega)
              unfold lenD at hl
              clear hzI hz HK
              go_wp2_with fail
              refine (HDG.out _).mono ?_; rintro e12 w12 ⟨rfl, k2, rfl⟩
              have HB12 := Lib.hid (below_drewN HB11.out k2)
              go_wp2_with fail
              go_ret2
              exact ⟨by rw [HST2.out, HQ.out.1, HQ.out.2]; first | rfl | (congr 4; omega), HSR.out.1, HSR.out.2.1, HSR.out.2.2, HB12.out⟩
    · have hltI : ¬ (n : Int) ≤ 17 := by omega
      obtain rfl : n = 18 := by omega
      have HQ : Hid (SH = (0, 0)) := by show _ = _; rw [HS.out]; rfl
      have HB3 := Lib.hid (HB2.out.trans (HB.out.mono HB2.out.size))
      go_wp2_with fail
      go_ret2
      exact ⟨by rw [HQ.out]; rfl, HSR.out.1, HSR.out.2.1, HSR.out.2.2, HB3.out⟩
end Go.Proofs.YtigbbogfnchgnaaGreatDoor
