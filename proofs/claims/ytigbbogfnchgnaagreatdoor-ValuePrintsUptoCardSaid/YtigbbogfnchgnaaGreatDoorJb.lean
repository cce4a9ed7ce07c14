/- Walks of the document's arithmetic for a float's text: powers of ten, scaling, a float as a quotient, the floor of a quotient (quernref22's tens, scaled, ratio, floor). Conditions: as stated. -/
import Derived.Test.YtigbbogfnchgnaaGreatDoorJa
namespace Go.Proofs.YtigbbogfnchgnaaGreatDoor
open Go.RowKit
set_option linter.unusedVariables false

/-- How great the numbers of a text may be. -/
def texp : Nat := 8000
def ntxt : Nat := 2 ^ texp
theorem ntxt_ten {N k : Nat} (hN : N < ntxt) (hk : k ≤ 1500) : N * tenN k < nsml := by
  have h1 : N * tenN k ≤ ntxt * 2 ^ (4 * k) := Nat.mul_le_mul (Nat.le_of_lt hN) (tenN_two k)
  have h2 : ntxt * 2 ^ (4 * k) < nsml := by
    unfold ntxt nsml
    rw [← Nat.pow_add]
    exact Nat.pow_lt_pow_right (by decide) (by unfold texp sexp; omega)
  omega
theorem ntxt_sml {N : Nat} (hN : N < ntxt) : N < nsml := by
  have := ntxt_ten (k := 0) hN (by decide)
  simpa [tenN_zero] using this
theorem tenN_sml {k : Nat} (hk : k ≤ 1500) : tenN k < nsml := by
  have := ntxt_ten (N := 1) (k := k) (Nat.one_lt_two_pow (show texp ≠ 0 by unfold texp; decide)) hk
  simpa using this
theorem word_txt {v : Nat} (hv : v < 18446744073709551616) : v < ntxt := by
  have : (18446744073709551616 : Nat) = 2 ^ 64 := by decide
  unfold ntxt
  exact Nat.lt_of_lt_of_le (by omega : v < 2 ^ 64) (Nat.pow_le_pow_right (by decide) (by unfold texp; decide))
set_option maxRecDepth 100000 in
theorem c_rtens (n : Nat) (hn : n ≤ 1500) (w : World) : Calls Tryz.prog 75 #[.int .i64 (n : Int)] w (NewN .u32 4294967296 (tenN n) w) := by
  have HC1 : Hid (∀ W, Calls Tryz.prog 63 #[.int .u64 1] W (NewN .u32 4294967296 1 W)) := fun W => c_from 1 (by decide) W
  have HC10 : Hid (∀ W, Calls Tryz.prog 63 #[.int .u64 10] W (NewN .u32 4294967296 10 W)) := fun W => c_from 10 (by decide) W
  have HS10 : Hid (10 < nbig) := word_big (by decide)
  go_enter Tryz.func75, Tryz.ntmps75
  go_wp2_with fail
  refine (HC1.out _).mono ?_; rintro e1 w1 ⟨A1, c1, l1, rfl, h1, hb1⟩
  have H1 : Hid (IsN w1 w1.heap.size .u32 4294967296 A1 c1 l1 (tenN 0)) := h1
  have HB1 := Lib.hid hb1
  clear h1 hb1
  go_wp2_with fail
  go_loopw [3, 4] (fun vo vi wr => ∃ (i : Nat) (A : Option Addr) (c : Nat) (l : List Nat), vi = .int .i64 i ∧ vo = .slice A l.length c ∧ i ≤ n ∧ Hid (IsN wr wr.heap.size .u32 4294967296 A c l (tenN i)) ∧ Hid (Below w.heap.size w wr)) (fun _ vi _ => n - (intOf vi).toNat)
  case atStart => exact ⟨0, A1, c1, l1, rfl, rfl, Nat.zero_le _, H1, HB1⟩
  case round =>
    obtain ⟨i, A, c, l, rfl, rfl, hi, HI, HB⟩ := hrel
    clear H1 HB1
    by_cases hlt : i < n
    · go_wp2_with fail
      refine (HC10.out _).mono ?_; rintro e2 w2 ⟨A2, c2, l2, rfl, h2, hb2⟩
      have H2 := Lib.hid h2
      have HI2 := Lib.hid (HI.out.below hb2)
      have HB2 := Lib.hid (below_step HB.out hb2)
      clear h2 hb2 HI HB
      go_wp2_with fail
      refine (c_rmul _ _ _ _ _ _ _ _ _ HI2.out H2.out (nsml_big (tenN_sml (by omega))) HS10.out).mono ?_; rintro e3 w3 ⟨A3, c3, l3, rfl, h3, hb3⟩
      have H3 : Hid (IsN w3 w3.heap.size .u32 4294967296 A3 c3 l3 (tenN (i + 1))) := by rw [tenN_succ]; exact h3
      have HB3 := Lib.hid (below_step HB2.out hb3)
      clear h3 hb3 HI2 H2 HB2
      go_wp2_with fail
      go_roundw
      case rel => exact ⟨i + 1, A3, c3, l3, by go_num, rfl, hlt, H3, HB3⟩
      case measure => simp [intOf]; omega
    · go_wp2_with fail
      go_ret
      exact ⟨A, c, l, rfl, by rw [show n = i from by omega]; exact HI.out, HB.out⟩
/-- Two numbers, a quotient, in memory of one's own or of what was there. -/
def QuoR (N D : Nat) (w : World) (x : Ending) (w' : World) : Prop :=
  ∃ A c l A' c' l', x = .returned (.tuple #[.slice A (List.length (α := Nat) l) c, .slice A' (List.length (α := Nat) l') c']) ∧ IsN w' w'.heap.size .u32 4294967296 A c l N ∧ IsN w' w'.heap.size .u32 4294967296 A' c' l' D ∧ Below w.heap.size w w'
set_option maxRecDepth 100000 in
theorem c_rscaled (e : Int) (A A' : Option Addr) (c c' : Nat) (l m : List Nat) (N D : Nat) (w : World) (h : IsN w w.heap.size .u32 4294967296 A c l N) (h' : IsN w w.heap.size .u32 4294967296 A' c' m D) (he1 : -1500 ≤ e) (he2 : e ≤ 1500) (hN : N < ntxt) (hD : D < ntxt) :
    Calls Tryz.prog 58 #[.slice A l.length c, .slice A' m.length c', .int .i64 e] w (QuoR (N * tenN e.toNat) (D * tenN (-e).toNat) w) := by
  have HI := Lib.hid h
  have HI' := Lib.hid h'
  have HN := Lib.hid (ntxt_sml hN)
  have HD := Lib.hid (ntxt_sml hD)
  clear h h' hN hD
  rcases Int.lt_or_le e 0 with hs | hs
  · obtain ⟨k, rfl⟩ : ∃ k : Nat, e = -(k : Int) := ⟨(-e).toNat, by omega⟩
    have hge : ¬ (0 : Int) ≤ -(k : Int) := by omega
    have HF : Hid (N * tenN (-(k : Int)).toNat = N ∧ D * tenN (- -(k : Int)).toNat = D * tenN k) := by
      show _ ∧ _
      rw [show (-(k : Int)).toNat = 0 from by omega, show (- -(k : Int)).toNat = k from by omega, tenN_zero, Nat.mul_one]
      exact ⟨rfl, rfl⟩
    obtain ⟨X, hX⟩ : ∃ X, N * tenN (-(k : Int)).toNat = X := ⟨_, rfl⟩
    obtain ⟨Y, hY⟩ : ∃ Y, D * tenN (- -(k : Int)).toNat = Y := ⟨_, rfl⟩
    rw [hX, hY] at HF ⊢
    clear hX hY
    have hnn : - -(k : Int) = (k : Int) := by omega
    have HT : Hid (∀ W, Calls Tryz.prog 75 #[.int .i64 (k : Int)] W (NewN .u32 4294967296 (tenN k) W)) := fun W => c_rtens k (by omega) W
    have HTB := Lib.hid (tenN_sml (k := k) (by omega))
    go_enter Tryz.func58, Tryz.ntmps58
    go_wp2_with fail
    refine (HT.out _).mono ?_; rintro e1 w1 ⟨A1, c1, l1, rfl, h1, hb1⟩
    have HB1 := Lib.hid hb1
    have H1 := Lib.hid h1
    have H2 := Lib.hid (HI'.out.below hb1)
    have H3 := Lib.hid (HI.out.below hb1)
    clear h1 hb1
    go_wp2_with fail
    refine (c_rmul _ _ _ _ _ _ _ _ _ H2.out H1.out (nsml_big HD.out) (nsml_big HTB.out)).mono ?_; rintro e2 w2 ⟨A2, c2, l2, rfl, h2, hb2⟩
    have HB2 := Lib.hid (below_step HB1.out hb2)
    have H4 := Lib.hid h2
    have H5 := Lib.hid (H3.out.below hb2)
    clear h2 hb2 H1 H2 H3 HB1
    go_wp2_with fail
    go_ret2
    exact ⟨A, c, l, A2, c2, l2, rfl, by rw [HF.out.1]; exact H5.out, by rw [HF.out.2]; exact H4.out, HB2.out⟩
  · obtain ⟨k, rfl⟩ : ∃ k : Nat, e = (k : Int) := ⟨e.toNat, by omega⟩
    have HF : Hid (N * tenN (k : Int).toNat = N * tenN k ∧ D * tenN (-(k : Int)).toNat = D) := by
      show _ ∧ _
      rw [show (-(k : Int)).toNat = 0 from by omega, show (k : Int).toNat = k from by omega, tenN_zero, Nat.mul_one]
      exact ⟨rfl, rfl⟩
    obtain ⟨X, hX⟩ : ∃ X, N * tenN (k : Int).toNat = X := ⟨_, rfl⟩
    obtain ⟨Y, hY⟩ : ∃ Y, D * tenN (-(k : Int)).toNat = Y := ⟨_, rfl⟩
    rw [hX, hY] at HF ⊢
    clear hX hY
    have HT : Hid (∀ W, Calls Tryz.prog 75 #[.int .i64 (k : Int)] W (NewN .u32 4294967296 (tenN k) W)) := fun W => c_rtens k (by omega) W
    have HTB := Lib.hid (tenN_sml (k := k) (by omega))
    go_enter Tryz.func58, Tryz.ntmps58
    go_wp2_with fail
    refine (HT.out _).mono ?_; rintro e1 w1 ⟨A1, c1, l1, rfl, h1, hb1⟩
    have HB1 := Lib.hid hb1
    have H1 := Lib.hid h1
    have H2 := Lib.hid (HI.out.below hb1)
    have H3 := Lib.hid (HI'.out.below hb1)
    clear h1 hb1
    go_wp2_with fail
    refine (c_rmul _ _ _ _ _ _ _ _ _ H2.out H1.out (nsml_big HN.out) (nsml_big HTB.out)).mono ?_; rintro e2 w2 ⟨A2, c2, l2, rfl, h2, hb2⟩
    have HB2 := Lib.hid (below_step HB1.out hb2)
    have H4 := Lib.hid h2
    have H5 := Lib.hid (H3.out.below hb2)
    clear h2 hb2 H1 H2 H3 HB1
    go_wp2_with fail
    go_ret2
    exact ⟨A2, c2, l2, A', c', m, rfl, by rw [HF.out.1]; exact H4.out, by rw [HF.out.2]; exact H5.out, HB2.out⟩
/-- A rung's value as a quotient. -/
def RatR (m : Nat) (w : World) (x : Ending) (w' : World) : Prop := ∃ N D, QuoR N D w x w' ∧ N * T74 = kv m * D ∧ 0 < D ∧ N < ntxt ∧ D < ntxt
theorem rat_up {m k : Nat} (hm : m < 9218868437227405312) (h : mexp m = (k : Int)) : mman m * 2 ^ k * T74 = kv m * 1 ∧ mman m * 2 ^ k < ntxt ∧ k ≤ 1000 ∧ mman m < 18446744073709551616 := by
  have hk := mexp_kx m
  rw [h] at hk
  have hK : K74 = 1074 := rfl
  have hb : kx m ≤ 2045 := by unfold kx; omega
  have hk2 : kx m = k + 1074 := by omega
  have hx : mman m < 18446744073709551616 := by have := mman_lt (m := m) (by omega); omega
  refine ⟨?_, ?_, by omega, hx⟩
  · rw [mman_psig, Nat.mul_one, kv_psig, hk2, Nat.pow_add, T74, hK, Nat.mul_assoc]
  · have h1 : mman m * 2 ^ k ≤ 2 ^ 64 * 2 ^ fexp := Nat.mul_le_mul (Nat.le_of_lt (by simpa using hx)) (Nat.pow_le_pow_right (by decide) (by unfold fexp; omega))
    have h2 : 2 ^ 64 * 2 ^ fexp < ntxt := by
      unfold ntxt
      rw [← Nat.pow_add]
      exact Nat.pow_lt_pow_right (by decide) (by unfold texp fexp; decide)
    omega
theorem rat_dn {m k : Nat} (hm : m < 9218868437227405312) (h : mexp m = -(k : Int)) : mman m * T74 = kv m * (1 * 2 ^ k) ∧ 0 < 1 * 2 ^ k ∧ mman m < ntxt ∧ 1 * 2 ^ k < ntxt ∧ k ≤ 1100 ∧ mman m < 18446744073709551616 := by
  have hk := mexp_kx m
  rw [h] at hk
  have hK : K74 = 1074 := rfl
  have hk2 : kx m + k = 1074 := by omega
  have hx : mman m < 18446744073709551616 := by have := mman_lt (m := m) (by omega); omega
  refine ⟨?_, ?_, word_txt hx, ?_, by omega, hx⟩
  · rw [mman_psig, Nat.one_mul, kv_psig, Nat.mul_assoc, ← Nat.pow_add, hk2, T74, hK]
  · rw [Nat.one_mul]; exact Nat.pow_pos (by decide)
  · rw [Nat.one_mul]
    unfold ntxt
    exact Nat.pow_lt_pow_right (by decide) (by unfold texp; omega)
set_option maxRecDepth 100000 in
theorem c_rratio (m : Nat) (hm : m < 9218868437227405312) (w : World) : Calls Tryz.prog 56 #[.int .u64 (m : Int)] w (RatR m w) := by
  have HP := Lib.hid (c_parts m (by omega))
  have HC1 : Hid (∀ W, Calls Tryz.prog 63 #[.int .u64 1] W (NewN .u32 4294967296 1 W)) := fun W => c_from 1 (by decide) W
  have HS1 : Hid (1 < ntxt) := word_txt (by decide)
  rcases Int.lt_or_le (mexp m) 0 with hs | hs
  · obtain ⟨k, hk⟩ : ∃ k : Nat, mexp m = -(k : Int) := ⟨(-mexp m).toNat, by omega⟩
    obtain ⟨r1, r2, r3, r4, r5, r6⟩ := rat_dn hm hk
    have HR := Lib.hid (And.intro r1 (And.intro r2 (And.intro r3 r4)))
    rw [hk] at HP hs
    clear r1 r2 r3 r4 hk
    have hge : ¬ (0 : Int) ≤ -(k : Int) := by omega
    have hnn : - -(k : Int) = (k : Int) := by omega
    have HC : Hid (∀ W, Calls Tryz.prog 63 #[.int .u64 (mman m : Int)] W (NewN .u32 4294967296 (mman m) W)) := fun W => c_from _ r6 W
    generalize mman m = M at *
    go_enter Tryz.func56, Tryz.ntmps56
    go_wp2_with fail
    refine (HP.out _).mono ?_; rintro e1 w1 ⟨rfl, rfl⟩
    go_wp2_with fail
    refine (HC.out _).mono ?_; rintro e1 w1 ⟨A1, c1, l1, rfl, h1, hb1⟩
    have HB1 := Lib.hid hb1
    have H1 := Lib.hid h1
    clear h1 hb1
    go_wp2_with fail
    refine (HC1.out _).mono ?_; rintro e2 w2 ⟨A2, c2, l2, rfl, h2, hb2⟩
    have HB2 := Lib.hid (below_step HB1.out hb2)
    have H2 := Lib.hid h2
    have H3 := Lib.hid (H1.out.below hb2)
    clear h2 hb2 H1 HB1
    go_wp2_with fail
    refine (c_up _ _ _ k _ _ H2.out (nsml_big (ntxt_sml HS1.out)) (by omega)).mono ?_; rintro e3 w3 ⟨A3, c3, l3, rfl, h3, hb3⟩
    have HB3 := Lib.hid (below_step HB2.out hb3)
    have H4 := Lib.hid h3
    have H5 := Lib.hid (H3.out.below hb3)
    clear h3 hb3 H2 H3 HB2
    go_wp2_with fail
    go_ret2
    exact ⟨_, _, ⟨A1, c1, l1, A3, c3, l3, rfl, H5.out, H4.out, HB3.out⟩, HR.out⟩
  · obtain ⟨k, hk⟩ : ∃ k : Nat, mexp m = (k : Int) := ⟨(mexp m).toNat, by omega⟩
    obtain ⟨r1, r2, r5, r6⟩ := rat_up hm hk
    have HR := Lib.hid (And.intro r1 r2)
    have HW : Hid (1 < ntxt) := word_txt (by decide)
    rw [hk] at HP hs
    clear r1 r2 hk
    have HMB := Lib.hid (word_txt r6)
    have HC : Hid (∀ W, Calls Tryz.prog 63 #[.int .u64 (mman m : Int)] W (NewN .u32 4294967296 (mman m) W)) := fun W => c_from _ r6 W
    generalize mman m = M at *
    go_enter Tryz.func56, Tryz.ntmps56
    go_wp2_with fail
    refine (HP.out _).mono ?_; rintro e1 w1 ⟨rfl, rfl⟩
    go_wp2_with fail
    refine (HC.out _).mono ?_; rintro e1 w1 ⟨A1, c1, l1, rfl, h1, hb1⟩
    have HB1 := Lib.hid hb1
    have H1 := Lib.hid h1
    clear h1 hb1
    go_wp2_with fail
    refine (c_up _ _ _ k _ _ H1.out (nsml_big (ntxt_sml HMB.out)) (by omega)).mono ?_; rintro e3 w3 ⟨A3, c3, l3, rfl, h3, hb3⟩
    have HB3 := Lib.hid (below_step HB1.out hb3)
    have H4 := Lib.hid h3
    clear h3 hb3 H1 HB1
    go_wp2_with fail
    refine (HC1.out _).mono ?_; rintro e2 w2 ⟨A2, c2, l2, rfl, h2, hb2⟩
    have HB2 := Lib.hid (below_step HB3.out hb2)
    have H2 := Lib.hid h2
    have H5 := Lib.hid (H4.out.below hb2)
    clear h2 hb2 H4 HB3
    go_wp2_with fail
    go_ret2
    exact ⟨_, _, ⟨A3, c3, l3, A2, c2, l2, rfl, H5.out, H2.out, HB2.out⟩, HR.out.1, by decide, HR.out.2, HW.out⟩
/-- What holds ahead of a round: the floor is from a on, and below a + b. -/
structure FloS (w wr : World) (N D a b : Nat) : Prop where
  lo : a * D ≤ N
  hi : N < (a + b) * D
  bel : Below w.heap.size w wr
theorem flo_done {N D a : Nat} (h1 : a * D ≤ N) (h2 : N < (a + 1) * D) : N / D = a := by
  have hD : 0 < D := by
    rcases Nat.eq_zero_or_pos D with h | h
    · subst h; omega
    · exact h
  exact Nat.div_eq_of_lt_le h1 h2
set_option maxRecDepth 100000 in
set_option maxHeartbeats 1000000 in
theorem c_rfloor (A A' : Option Addr) (c c' : Nat) (l m : List Nat) (N D : Nat) (w : World) (h : IsN w w.heap.size .u32 4294967296 A c l N) (h' : IsN w w.heap.size .u32 4294967296 A' c' m D) (hN : N < nsml) (hD : D < nsml) (hlt : N < 1000000000000000000 * D) :
    Calls Tryz.prog 59 #[.slice A l.length c, .slice A' m.length c'] w fun e w' => e = .returned (.int .u64 ((N / D : Nat) : Int)) ∧ Below w.heap.size w w' := by
  have HI := Lib.hid h
  have HI' := Lib.hid h'
  have HN := Lib.hid hN
  have HD := Lib.hid hD
  have HLT := Lib.hid hlt
  clear h h' hN hD hlt
  obtain ⟨n, hL⟩ : ∃ n, l.length = n := ⟨_, rfl⟩
  obtain ⟨n', hL'⟩ : ∃ n', m.length = n' := ⟨_, rfl⟩
  rw [hL, hL']
  have HL := Lib.hid hL
  have HL' := Lib.hid hL'
  clear hL hL'
  obtain ⟨C, hC⟩ : ∃ C, N / D = C := ⟨_, rfl⟩
  rw [hC]
  have HC := Lib.hid hC
  clear hC
  go_enter Tryz.func59, Tryz.ntmps59
  go_wp2_with fail
  go_loopw [5, 6] (fun va vb wr => ∃ a b : Nat, va = .int .u64 a ∧ vb = .int .u64 ((a : Int) + (b : Int)) ∧ a + b ≤ 1000000000000000000 ∧ 1 ≤ b ∧ Hid (FloS w wr N D a b)) (fun va vb _ => (intOf vb - intOf va).toNat)
  case atStart => exact ⟨0, 1000000000000000000, rfl, rfl, by decide, by decide, ⟨by simp, by rw [Nat.zero_add]; exact HLT.out, Below.refl _ _⟩⟩
  case round =>
    obtain ⟨a, b, rfl, rfl, hab, hb1, HS⟩ := hrel
    have HIw := Lib.hid (HI.out.below HS.out.bel)
    have HIw' := Lib.hid (HI'.out.below HS.out.bel)
    have hm1 : (a : Int) + (b : Int) - (a : Int) = (b : Int) := by omega
    by_cases hb : 1 < b
    · have hbI : (1 : Int) < (b : Int) := by omega
      have hq : (b : Int) / 2 = ((b / 2 : Nat) : Int) := by omega
      have hh1 : 1 ≤ b / 2 := by omega
      have hh2 : b / 2 < b := by omega
      obtain ⟨k, hk⟩ : ∃ k, b / 2 = k := ⟨_, rfl⟩
      rw [hk] at hq hh1 hh2
      clear hk
      have hF := c_from (a + k) (by omega)
      rw [Int.natCast_add] at hF
      have HF := Lib.hid hF
      have HKB := Lib.hid (word_big (v := a + k) (by omega))
      have HAK : a + k < 18446744073709551616 := by omega
      clear hF
      have HZ := Lib.hid (ncmp_le ((a + k) * D) N)
      have HZ2 : Hid (0 < ncmp ((a + k) * D) N ↔ N < (a + k) * D) := by
        have := HZ.out
        show _ ↔ _
        omega
      obtain ⟨R, hR⟩ : ∃ R, ncmp ((a + k) * D) N = R := ⟨_, rfl⟩
      rw [hR] at HZ HZ2
      have HRR := Lib.hid hR
      clear hR
      by_cases hr : R ≤ 0
      · go_wp2_with fail
        refine (HF.out _).mono ?_; rintro e1 w1 ⟨A1, c1, l1, rfl, h1, hb1⟩
        have H1 := Lib.hid h1
        have H2 := Lib.hid (HIw'.out.below hb1)
        have H3 := Lib.hid (HIw.out.below hb1)
        have HB1 := Lib.hid (below_step HS.out.bel hb1)
        clear h1 hb1
        have hcm := c_rmul A1 A' c1 c' l1 m (a + k) D w1 H1.out H2.out HKB.out (nsml_big HD.out)
        rw [HL'.out] at hcm
        have HCM := Lib.hid hcm
        clear hcm
        go_wp2_with fail
        refine (HCM.out).mono ?_; rintro e2 w2 ⟨A2, c2, l2, rfl, h2, hb2⟩
        have H4 := Lib.hid h2
        have H5 := Lib.hid (H3.out.below hb2)
        have HB2 := Lib.hid (below_step HB1.out hb2)
        clear h2 hb2 H1 H2 H3 HB1 HCM
        have hl2 := len_big H4.out.lb (by decide) (nsml_mul HD.out HAK)
        have hl3 := len_big H5.out.lb (by decide) (nsml_big HN.out)
        have hcc := c_rcmp A2 A c2 c l2 l _ N w2 _ H4.out H5.out (by omega) (by omega)
        rw [HL.out, HRR.out] at hcc
        have HCC := Lib.hid hcc
        clear hcc hl2 hl3
        go_wp2_with fail
        refine (HCC.out).mono ?_; rintro e3 w3 ⟨rfl, hb3⟩
        have HB3 := Lib.hid (below_step HB2.out hb3)
        clear hb3 HCC H4 H5 HB2
        go_wp2_with fail
        go_roundw
        case rel => exact ⟨a + k, b - k, by go_num, by go_num, by omega, by omega, ⟨HZ.out.1 hr, by rw [show a + k + (b - k) = a + b from by omega]; exact HS.out.hi, HB3.out⟩⟩
        case measure => simp [intOf]; omega
      · go_wp2_with fail
        refine (HF.out _).mono ?_; rintro e1 w1 ⟨A1, c1, l1, rfl, h1, hb1⟩
        have H1 := Lib.hid h1
        have H2 := Lib.hid (HIw'.out.below hb1)
        have H3 := Lib.hid (HIw.out.below hb1)
        have HB1 := Lib.hid (below_step HS.out.bel hb1)
        clear h1 hb1
        have hcm := c_rmul A1 A' c1 c' l1 m (a + k) D w1 H1.out H2.out HKB.out (nsml_big HD.out)
        rw [HL'.out] at hcm
        have HCM := Lib.hid hcm
        clear hcm
        go_wp2_with fail
        refine (HCM.out).mono ?_; rintro e2 w2 ⟨A2, c2, l2, rfl, h2, hb2⟩
        have H4 := Lib.hid h2
        have H5 := Lib.hid (H3.out.below hb2)
        have HB2 := Lib.hid (below_step HB1.out hb2)
        clear h2 hb2 H1 H2 H3 HB1 HCM
        have hl2 := len_big H4.out.lb (by decide) (nsml_mul HD.out HAK)
        have hl3 := len_big H5.out.lb (by decide) (nsml_big HN.out)
        have hcc := c_rcmp A2 A c2 c l2 l _ N w2 _ H4.out H5.out (by omega) (by omega)
        rw [HL.out, HRR.out] at hcc
        have HCC := Lib.hid hcc
        clear hcc hl2 hl3
        go_wp2_with fail
        refine (HCC.out).mono ?_; rintro e3 w3 ⟨rfl, hb3⟩
        have HB3 := Lib.hid (below_step HB2.out hb3)
        clear hb3 HCC H4 H5 HB2
        go_wp2_with fail
        go_roundw
        case rel => exact ⟨a, k, rfl, by go_num, by omega, hh1, ⟨HS.out.lo, HZ2.out.1 (by omega), HB3.out⟩⟩
        case measure => simp [intOf]; omega
    · have hbI : ¬ (1 : Int) < (b : Int) := by omega
      obtain rfl : b = 1 := by omega
      have HQ := Lib.hid (flo_done HS.out.lo HS.out.hi)
      go_wp2_with fail
      go_ret
      exact ⟨by rw [← HC.out, HQ.out]; rfl, HS.out.bel⟩
end Go.Proofs.YtigbbogfnchgnaaGreatDoor
