/- Walk: a number times a power of two, rounded once (float.rounded). Conditions: as stated. -/
import Derived.Test.YtcohidjaehdbnaaGreatDoorGi
import Derived.Test.YtcohidjaehdbnaaGreatDoorGn
namespace Go.Proofs.YtcohidjaehdbnaaGreatDoor
open Go.RowKit
set_option linter.unusedVariables false
attribute [local go_sem ↓] Go.wp_at_zero Go.wp_at_succ

/-- What 'rounded' works with: the number's bits B, the place s from which on digits are kept, the kept digits m0, what lies below. -/
structure RndS (A d K q B s m0 : Nat) (half rest some : Bool) : Prop where
  hq : q = A / d
  hB : B = nlen q
  hs1 : 1 ≤ s
  hsK : K ≤ s
  hm : m0 = q / 2 ^ s
  hm1 : m0 < 9007199254740992
  hm2 : s = K ∨ 4503599627370496 ≤ m0
  hh : half = true ↔ q / 2 ^ (s - 1) % 2 = 1
  hr : (rest || some) = true ↔ (q % 2 ^ (s - 1) ≠ 0 ∨ A % d ≠ 0)
theorem nlen_lt (q : Nat) : q < 2 ^ nlen q := by
  unfold nlen
  split
  · rename_i h; rw [h]; decide
  · exact Nat.lt_log2_self
theorem nlen_ge {q : Nat} (h : q ≠ 0) : 2 ^ (nlen q - 1) ≤ q := by
  unfold nlen
  rw [if_neg h, Nat.add_sub_cancel]
  exact Nat.log2_self_le h
theorem rnd_setup {A d K q : Nat} {some : Bool} (hq : q = A / d) (hs : some = true ↔ A % d ≠ 0) (hK : 17 ≤ K) (h70 : 70 ≤ nlen q) :
    ∃ s m0, s = max (nlen q - 53) K ∧ RndS A d K q (nlen q) s m0 (bitN q (s - 1) == 1) (decide (q % 2 ^ (s - 1) ≠ 0)) some := by
  have h0 : q ≠ 0 := by
    rintro rfl
    have : nlen 0 = 0 := rfl
    omega
  have hlt := nlen_lt q
  have hge := nlen_ge h0
  refine ⟨max (nlen q - 53) K, q / 2 ^ (max (nlen q - 53) K), rfl, hq, rfl, by omega, by omega, rfl, ?_, ?_, ?_, ?_⟩
  · rw [Nat.div_lt_iff_lt_mul (Nat.pow_pos (by decide))]
    refine Nat.lt_of_lt_of_le hlt ?_
    have : (9007199254740992 : Nat) = 2 ^ 53 := by decide
    rw [this, ← Nat.pow_add]
    exact Nat.pow_le_pow_right (by decide) (by omega)
  · rcases Nat.le_total (nlen q - 53) K with h | h
    · left; omega
    · right
      rw [Nat.max_eq_left h, Nat.le_div_iff_mul_le (Nat.pow_pos (by decide))]
      refine Nat.le_trans ?_ hge
      have : (4503599627370496 : Nat) = 2 ^ 52 := by decide
      rw [this, ← Nat.pow_add]
      exact Nat.pow_le_pow_right (by decide) (by omega)
  · unfold bitN; simp
  · rw [Bool.or_eq_true, decide_eq_true_eq, hs]
/-- What comes out. -/
theorem RndS.near {A d K q B s m0 : Nat} {half rest some : Bool} (h : RndS A d K q B s m0 half rest some) (hd : 0 < d) : Near A (d * 2 ^ K) (min ((s - K) * 4503599627370496 + m0 + (half && ((rest || some) || m0 % 2 == 1)).toNat) 9218868437227405312) :=
  near_shr hd h.hq h.hs1 h.hsK h.hm h.hm1 h.hm2 h.hh h.hr
theorem ldres_at {s K m : Nat} {u : Int} (hu : u = -1074 + ((s : Int) - (K : Int))) (hsK : K ≤ s) : ldres u m = min ((s - K) * 4503599627370496 + m) 9218868437227405312 := by
  unfold ldres
  rw [show (u + 1074).toNat = s - K from by omega]
theorem neg_pos {b : Nat} (hb : b < 9223372036854775808) : Op.negFloat .f64 b = b + 9223372036854775808 := by
  unfold Op.negFloat
  show b ^^^ 2 ^ (11 + 52) = _
  have h := Nat.shiftLeft_add_eq_or_of_lt (show b < 2 ^ 63 by simpa using hb) 1
  have e : b ^^^ 2 ^ 63 = b ||| 2 ^ 63 := by
    apply Nat.eq_of_testBit_eq
    intro i
    rw [Nat.testBit_xor, Nat.testBit_or, Nat.testBit_two_pow]
    by_cases hi : 63 = i
    · subst hi
      have : b.testBit 63 = false := Nat.testBit_lt_two_pow (by simpa using hb)
      rw [this]; simp
    · rw [decide_eq_false hi]; simp
  rw [e]
  rw [Nat.shiftLeft_eq] at h
  rw [Nat.or_comm, Nat.add_comm]
  simpa using h.symm
theorem run_neg {R : Nat} (h : R < 9223372036854775808) (w : World) : (Op.unary UnOp.neg (.float .f64 R)).run Tryz.prog w = .ok (.float .f64 (R + 9223372036854775808)) w := by
  simp [Op.unary, neg_pos h]
def RoundR (A D : Nat) (neg : Bool) (w : World) (e : Ending) (w' : World) : Prop := ∃ r, e = .returned (.float .f64 (sgnd r neg)) ∧ Near A D r ∧ Below w.heap.size w w'
theorem rounded_none (e : Int) (neg : Bool) (w : World) (A : Option Addr) (c : Nat) : Calls Tryz.prog 27 #[.slice A 0 c, .int .i64 e, .bool false, .bool neg] w fun e' w' => e' = .returned (.float .f64 0) ∧ w = w' := by
  go_enter Tryz.func27, Tryz.ntmps27
  go_wp2
  go_ret
  exact ⟨rfl, rfl⟩
set_option maxRecDepth 100000 in
set_option maxHeartbeats 2000000 in
theorem c_rounded (P : Option Addr) (c : Nat) (l : List Nat) (e : Int) (A d K q : Nat) (some neg : Bool) (w : World) (h : IsN w w.heap.size .u64 18446744073709551616 P c l q) (hqb : q < nbig)
    (hq : q = A / d) (hd : 0 < d) (hs : some = true ↔ A % d ≠ 0) (hK : 17 ≤ K) (hK2 : K ≤ 10000) (he : e = -1074 - (K : Int)) (h70 : 70 ≤ nlen q) :
    Calls Tryz.prog 27 #[.slice P l.length c, .int .i64 e, .bool some, .bool neg] w (RoundR A (d * 2 ^ K) neg w) := by
  obtain ⟨s, m0, hsx, D⟩ := rnd_setup hq hs hK h70
  have hBb : nlen q ≤ 65536 := by
    have h0 : q ≠ 0 := by rintro rfl; have : nlen 0 = 0 := rfl; omega
    have h1 := nlen_ge h0
    have h2 : 2 ^ (nlen q - 1) < 2 ^ nexp := Nat.lt_of_le_of_lt h1 hqb
    have h3 := (Nat.pow_lt_pow_iff_right (by decide)).1 h2
    unfold nexp at h3
    omega
  have HL : Hid (l.length ≠ 0) := fun hl => by
    have := (h.lb.zero (by decide)).1 (List.eq_nil_of_length_eq_zero hl)
    rw [this] at h70
    have : nlen 0 = 0 := rfl
    omega
  have hl0 : ((l.length : Int) == 0) = false := by have := HL.out; simpa using this
  have HBI := Lib.hid (fun (w : World) (Bk : Nat) (h : IsN w Bk .u64 18446744073709551616 P c l q) => c_bits P c l q w Bk h hqb)
  have HSH := Lib.hid (c_shr P c l s q w h hqb D.hs1 (by omega))
  have HI := Lib.hid h
  have HN := Lib.hid (D.near hd)
  have hm1 := D.hm1
  have HM2 := Lib.hid D.hm2
  have hsK := D.hsK
  have hmm : q / 2 ^ s % 18446744073709551616 = m0 := by rw [← D.hm]; exact Nat.mod_eq_of_lt (by omega)
  have hqB := nlen_lt q
  have HBIG : Hid (nlen q + 1 < s → m0 = 0 ∧ (bitN q (s - 1) == 1) = false ∧ decide (q % 2 ^ (s - 1) ≠ 0) = true) := fun hb => by
    have h1 : q < 2 ^ (s - 1) := Nat.lt_of_lt_of_le hqB (Nat.pow_le_pow_right (by decide) (by omega))
    have h2 : q < 2 ^ s := Nat.lt_of_lt_of_le h1 (Nat.pow_le_pow_right (by decide) (by omega))
    have h0 : q ≠ 0 := by rintro rfl; have : nlen 0 = 0 := rfl; omega
    refine ⟨by rw [D.hm, Nat.div_eq_of_lt h2], ?_, ?_⟩
    · unfold bitN; rw [Nat.div_eq_of_lt h1]; rfl
    · rw [Nat.mod_eq_of_lt h1]; exact decide_eq_true h0
  rw [hmm] at HSH
  obtain ⟨B, hB⟩ : ∃ B, nlen q = B := ⟨_, rfl⟩
  rw [hB] at HBI hBb h70 hsx HBIG
  obtain ⟨half, hhalf⟩ : ∃ x, ((bitN q (s - 1) : Int) == 1) = x := ⟨_, rfl⟩
  have hhalf2 : (bitN q (s - 1) == 1) = half := by rw [← hhalf, Bool.eq_iff_iff, beq_iff_eq, beq_iff_eq]; omega
  rw [hhalf] at HSH
  rw [hhalf2] at HN HBIG
  obtain ⟨rest, hrest⟩ : ∃ x, decide (q % 2 ^ (s - 1) ≠ 0) = x := ⟨_, rfl⟩
  rw [hrest] at HSH HN HBIG
  clear h hq hs hmm hqB hB hhalf hhalf2 hrest D
  obtain ⟨U, hU⟩ : ∃ U : Int, U = -1074 + ((s : Int) - (K : Int)) := ⟨_, rfl⟩
  have hk70 : ¬ (0 : Int) < 70 - (B : Int) := by omega
  have hmax : max (e + (B : Int) - 53) (-1074) = U := by omega
  have hUe : U - e = (s : Int) := by omega
  have hU1 : -1074 ≤ U := by omega
  have hU2 : U ≤ 100000 := by omega
  have HUM : Hid (U = -1074 ∨ 4503599627370496 ≤ m0) := by
    rcases HM2.out with h | h
    · left; omega
    · exact .inr h
  have hand := u64_and_one (a := m0) (by omega)
  have HLD0 := Lib.hid (c_Ldexp m0 U (by omega) hU1 hU2 HUM.out)
  have hLD1 := c_Ldexp (m0 + 1) U (by omega) hU1 hU2 (by rcases HUM.out with h | h; exact .inl h; exact .inr (by omega))
  rw [show ((m0 + 1 : Nat) : Int) = (m0 : Int) + 1 from by omega] at hLD1
  have HLD1 := Lib.hid hLD1
  clear hLD1
  have hR0 := ldres_at (m := m0) hU hsK
  have hR1 := ldres_at (m := m0 + 1) hU hsK
  have hmin : ∀ z : Nat, min z 9218868437227405312 < 9223372036854775808 := fun z => by omega
  obtain ⟨R0, hr0⟩ : ∃ R, ldres U m0 = R := ⟨_, rfl⟩
  obtain ⟨R1, hr1⟩ : ∃ R, ldres U (m0 + 1) = R := ⟨_, rfl⟩
  rw [hr0] at HLD0 hR0
  rw [hr1] at HLD1 hR1
  have HN0 : Hid ((half && ((rest || some) || m0 % 2 == 1)) = false → Near A (d * 2 ^ K) R0) := fun hu => by
    have := HN.out
    rw [hu, show (false).toNat = 0 from rfl, Nat.add_zero] at this
    rw [hR0]; exact this
  have HN1 : Hid ((half && ((rest || some) || m0 % 2 == 1)) = true → Near A (d * 2 ^ K) R1) := fun hu => by
    have := HN.out
    rw [hu, show (true).toNat = 1 from rfl, Nat.add_assoc _ m0 1] at this
    rw [hR1]; exact this
  have HG0 : Hid (R0 < 9223372036854775808) := by show R0 < _; rw [hR0]; exact hmin _
  have HG1 : Hid (R1 < 9223372036854775808) := by show R1 < _; rw [hR1]; exact hmin _
  obtain ⟨pa, hpa⟩ : ∃ x, (m0 % 2 == 1) = x := ⟨_, rfl⟩
  rw [hpa] at HN0 HN1
  have hand2 : (((m0 % 2 : Nat) : Int) == 1) = pa := by rw [← hpa, Bool.eq_iff_iff, beq_iff_eq, beq_iff_eq]; omega
  obtain ⟨mm, hmm⟩ : ∃ x, m0 % 2 = x := ⟨_, rfl⟩
  rw [hmm] at hand hand2
  clear hR0 hR1 hr0 hr1 hmin HN hpa hmm hU HUM HM2 hsx
  obtain ⟨ln, hln⟩ : ∃ x, l.length = x := ⟨_, rfl⟩
  rw [hln] at hl0 HBI HSH ⊢
  clear hln HL
  have hel : -12000 ≤ e ∧ e ≤ 0 := by omega
  obtain ⟨hel1, hel2⟩ := hel
  clear he hqb
  by_cases hsb : s ≤ B + 1
  · have hsbI : (s : Int) ≤ (B : Int) + 1 := by omega
    clear HBIG
    cases half <;> cases rest <;> cases some
    · go_enter Tryz.func27, Tryz.ntmps27
      go_wp2_with fail
      refine (HBI.out _ _ HI.out).mono ?_; rintro e1 w1 ⟨rfl, rfl⟩
      go_wp2_with fail
      refine (HBI.out _ _ HI.out).mono ?_; rintro e1 w1 ⟨rfl, rfl⟩
      go_wp2_with fail
      refine (HBI.out _ _ HI.out).mono ?_; rintro e1 w1 ⟨rfl, rfl⟩
      go_wp2_with fail
      refine HSH.out.mono ?_; rintro e2 w2 ⟨rfl, hb2⟩
      have HB2 := Lib.hid hb2
      clear hb2 HSH
      go_wp2_with fail
      refine (HLD0.out _).mono ?_; rintro e9 w9 ⟨rfl, rfl⟩
      have HNR := Lib.hid (HN0.out rfl)
      have HGR := Lib.hid HG0.out
      cases neg with
      | true =>
        have hng : ∀ W, (Op.unary UnOp.neg (.float .f64 R0)).run Tryz.prog W = .ok (.float .f64 (R0 + 9223372036854775808)) W := fun W => run_neg HGR.out W
        have HSG : Hid (sgnd R0 true = R0 + 9223372036854775808) := rfl
        generalize R0 + 9223372036854775808 = RZ at *
        go_wp2
        go_ret
        exact ⟨R0, by rw [HSG.out]; rfl, HNR.out, HB2.out⟩
      | false =>
        go_wp2
        go_ret
        exact ⟨R0, rfl, HNR.out, HB2.out⟩
    · go_enter Tryz.func27, Tryz.ntmps27
      go_wp2_with fail
      refine (HBI.out _ _ HI.out).mono ?_; rintro e1 w1 ⟨rfl, rfl⟩
      go_wp2_with fail
      refine (HBI.out _ _ HI.out).mono ?_; rintro e1 w1 ⟨rfl, rfl⟩
      go_wp2_with fail
      refine (HBI.out _ _ HI.out).mono ?_; rintro e1 w1 ⟨rfl, rfl⟩
      go_wp2_with fail
      refine HSH.out.mono ?_; rintro e2 w2 ⟨rfl, hb2⟩
      have HB2 := Lib.hid hb2
      clear hb2 HSH
      go_wp2_with fail
      refine (HLD0.out _).mono ?_; rintro e9 w9 ⟨rfl, rfl⟩
      have HNR := Lib.hid (HN0.out rfl)
      have HGR := Lib.hid HG0.out
      cases neg with
      | true =>
        have hng : ∀ W, (Op.unary UnOp.neg (.float .f64 R0)).run Tryz.prog W = .ok (.float .f64 (R0 + 9223372036854775808)) W := fun W => run_neg HGR.out W
        have HSG : Hid (sgnd R0 true = R0 + 9223372036854775808) := rfl
        generalize R0 + 9223372036854775808 = RZ at *
        go_wp2
        go_ret
        exact ⟨R0, by rw [HSG.out]; rfl, HNR.out, HB2.out⟩
      | false =>
        go_wp2
        go_ret
        exact ⟨R0, rfl, HNR.out, HB2.out⟩
    · go_enter Tryz.func27, Tryz.ntmps27
      go_wp2_with fail
      refine (HBI.out _ _ HI.out).mono ?_; rintro e1 w1 ⟨rfl, rfl⟩
      go_wp2_with fail
      refine (HBI.out _ _ HI.out).mono ?_; rintro e1 w1 ⟨rfl, rfl⟩
      go_wp2_with fail
      refine (HBI.out _ _ HI.out).mono ?_; rintro e1 w1 ⟨rfl, rfl⟩
      go_wp2_with fail
      refine HSH.out.mono ?_; rintro e2 w2 ⟨rfl, hb2⟩
      have HB2 := Lib.hid hb2
      clear hb2 HSH
      go_wp2_with fail
      refine (HLD0.out _).mono ?_; rintro e9 w9 ⟨rfl, rfl⟩
      have HNR := Lib.hid (HN0.out rfl)
      have HGR := Lib.hid HG0.out
      cases neg with
      | true =>
        have hng : ∀ W, (Op.unary UnOp.neg (.float .f64 R0)).run Tryz.prog W = .ok (.float .f64 (R0 + 9223372036854775808)) W := fun W => run_neg HGR.out W
        have HSG : Hid (sgnd R0 true = R0 + 9223372036854775808) := rfl
        generalize R0 + 9223372036854775808 = RZ at *
        go_wp2
        go_ret
        exact ⟨R0, by rw [HSG.out]; rfl, HNR.out, HB2.out⟩
      | false =>
        go_wp2
        go_ret
        exact ⟨R0, rfl, HNR.out, HB2.out⟩
    · go_enter Tryz.func27, Tryz.ntmps27
      go_wp2_with fail
      refine (HBI.out _ _ HI.out).mono ?_; rintro e1 w1 ⟨rfl, rfl⟩
      go_wp2_with fail
      refine (HBI.out _ _ HI.out).mono ?_; rintro e1 w1 ⟨rfl, rfl⟩
      go_wp2_with fail
      refine (HBI.out _ _ HI.out).mono ?_; rintro e1 w1 ⟨rfl, rfl⟩
      go_wp2_with fail
      refine HSH.out.mono ?_; rintro e2 w2 ⟨rfl, hb2⟩
      have HB2 := Lib.hid hb2
      clear hb2 HSH
      go_wp2_with fail
      refine (HLD0.out _).mono ?_; rintro e9 w9 ⟨rfl, rfl⟩
      have HNR := Lib.hid (HN0.out rfl)
      have HGR := Lib.hid HG0.out
      cases neg with
      | true =>
        have hng : ∀ W, (Op.unary UnOp.neg (.float .f64 R0)).run Tryz.prog W = .ok (.float .f64 (R0 + 9223372036854775808)) W := fun W => run_neg HGR.out W
        have HSG : Hid (sgnd R0 true = R0 + 9223372036854775808) := rfl
        generalize R0 + 9223372036854775808 = RZ at *
        go_wp2
        go_ret
        exact ⟨R0, by rw [HSG.out]; rfl, HNR.out, HB2.out⟩
      | false =>
        go_wp2
        go_ret
        exact ⟨R0, rfl, HNR.out, HB2.out⟩
    · cases pa with
      | true =>
        go_enter Tryz.func27, Tryz.ntmps27
        go_wp2_with fail
        refine (HBI.out _ _ HI.out).mono ?_; rintro e1 w1 ⟨rfl, rfl⟩
        go_wp2_with fail
        refine (HBI.out _ _ HI.out).mono ?_; rintro e1 w1 ⟨rfl, rfl⟩
        go_wp2_with fail
        refine (HBI.out _ _ HI.out).mono ?_; rintro e1 w1 ⟨rfl, rfl⟩
        go_wp2_with fail
        refine HSH.out.mono ?_; rintro e2 w2 ⟨rfl, hb2⟩
        have HB2 := Lib.hid hb2
        clear hb2 HSH
        go_wp2_with fail
        refine (HLD1.out _).mono ?_; rintro e9 w9 ⟨rfl, rfl⟩
        have HNR := Lib.hid (HN1.out rfl)
        have HGR := Lib.hid HG1.out
        cases neg with
        | true =>
          have hng : ∀ W, (Op.unary UnOp.neg (.float .f64 R1)).run Tryz.prog W = .ok (.float .f64 (R1 + 9223372036854775808)) W := fun W => run_neg HGR.out W
          have HSG : Hid (sgnd R1 true = R1 + 9223372036854775808) := rfl
          generalize R1 + 9223372036854775808 = RZ at *
          go_wp2
          go_ret
          exact ⟨R1, by rw [HSG.out]; rfl, HNR.out, HB2.out⟩
        | false =>
          go_wp2
          go_ret
          exact ⟨R1, rfl, HNR.out, HB2.out⟩
      | false =>
        go_enter Tryz.func27, Tryz.ntmps27
        go_wp2_with fail
        refine (HBI.out _ _ HI.out).mono ?_; rintro e1 w1 ⟨rfl, rfl⟩
        go_wp2_with fail
        refine (HBI.out _ _ HI.out).mono ?_; rintro e1 w1 ⟨rfl, rfl⟩
        go_wp2_with fail
        refine (HBI.out _ _ HI.out).mono ?_; rintro e1 w1 ⟨rfl, rfl⟩
        go_wp2_with fail
        refine HSH.out.mono ?_; rintro e2 w2 ⟨rfl, hb2⟩
        have HB2 := Lib.hid hb2
        clear hb2 HSH
        go_wp2_with fail
        refine (HLD0.out _).mono ?_; rintro e9 w9 ⟨rfl, rfl⟩
        have HNR := Lib.hid (HN0.out rfl)
        have HGR := Lib.hid HG0.out
        cases neg with
        | true =>
          have hng : ∀ W, (Op.unary UnOp.neg (.float .f64 R0)).run Tryz.prog W = .ok (.float .f64 (R0 + 9223372036854775808)) W := fun W => run_neg HGR.out W
          have HSG : Hid (sgnd R0 true = R0 + 9223372036854775808) := rfl
          generalize R0 + 9223372036854775808 = RZ at *
          go_wp2
          go_ret
          exact ⟨R0, by rw [HSG.out]; rfl, HNR.out, HB2.out⟩
        | false =>
          go_wp2
          go_ret
          exact ⟨R0, rfl, HNR.out, HB2.out⟩
    · go_enter Tryz.func27, Tryz.ntmps27
      go_wp2_with fail
      refine (HBI.out _ _ HI.out).mono ?_; rintro e1 w1 ⟨rfl, rfl⟩
      go_wp2_with fail
      refine (HBI.out _ _ HI.out).mono ?_; rintro e1 w1 ⟨rfl, rfl⟩
      go_wp2_with fail
      refine (HBI.out _ _ HI.out).mono ?_; rintro e1 w1 ⟨rfl, rfl⟩
      go_wp2_with fail
      refine HSH.out.mono ?_; rintro e2 w2 ⟨rfl, hb2⟩
      have HB2 := Lib.hid hb2
      clear hb2 HSH
      go_wp2_with fail
      refine (HLD1.out _).mono ?_; rintro e9 w9 ⟨rfl, rfl⟩
      have HNR := Lib.hid (HN1.out rfl)
      have HGR := Lib.hid HG1.out
      cases neg with
      | true =>
        have hng : ∀ W, (Op.unary UnOp.neg (.float .f64 R1)).run Tryz.prog W = .ok (.float .f64 (R1 + 9223372036854775808)) W := fun W => run_neg HGR.out W
        have HSG : Hid (sgnd R1 true = R1 + 9223372036854775808) := rfl
        generalize R1 + 9223372036854775808 = RZ at *
        go_wp2
        go_ret
        exact ⟨R1, by rw [HSG.out]; rfl, HNR.out, HB2.out⟩
      | false =>
        go_wp2
        go_ret
        exact ⟨R1, rfl, HNR.out, HB2.out⟩
    · go_enter Tryz.func27, Tryz.ntmps27
      go_wp2_with fail
      refine (HBI.out _ _ HI.out).mono ?_; rintro e1 w1 ⟨rfl, rfl⟩
      go_wp2_with fail
      refine (HBI.out _ _ HI.out).mono ?_; rintro e1 w1 ⟨rfl, rfl⟩
      go_wp2_with fail
      refine (HBI.out _ _ HI.out).mono ?_; rintro e1 w1 ⟨rfl, rfl⟩
      go_wp2_with fail
      refine HSH.out.mono ?_; rintro e2 w2 ⟨rfl, hb2⟩
      have HB2 := Lib.hid hb2
      clear hb2 HSH
      go_wp2_with fail
      refine (HLD1.out _).mono ?_; rintro e9 w9 ⟨rfl, rfl⟩
      have HNR := Lib.hid (HN1.out rfl)
      have HGR := Lib.hid HG1.out
      cases neg with
      | true =>
        have hng : ∀ W, (Op.unary UnOp.neg (.float .f64 R1)).run Tryz.prog W = .ok (.float .f64 (R1 + 9223372036854775808)) W := fun W => run_neg HGR.out W
        have HSG : Hid (sgnd R1 true = R1 + 9223372036854775808) := rfl
        generalize R1 + 9223372036854775808 = RZ at *
        go_wp2
        go_ret
        exact ⟨R1, by rw [HSG.out]; rfl, HNR.out, HB2.out⟩
      | false =>
        go_wp2
        go_ret
        exact ⟨R1, rfl, HNR.out, HB2.out⟩
    · go_enter Tryz.func27, Tryz.ntmps27
      go_wp2_with fail
      refine (HBI.out _ _ HI.out).mono ?_; rintro e1 w1 ⟨rfl, rfl⟩
      go_wp2_with fail
      refine (HBI.out _ _ HI.out).mono ?_; rintro e1 w1 ⟨rfl, rfl⟩
      go_wp2_with fail
      refine (HBI.out _ _ HI.out).mono ?_; rintro e1 w1 ⟨rfl, rfl⟩
      go_wp2_with fail
      refine HSH.out.mono ?_; rintro e2 w2 ⟨rfl, hb2⟩
      have HB2 := Lib.hid hb2
      clear hb2 HSH
      go_wp2_with fail
      refine (HLD1.out _).mono ?_; rintro e9 w9 ⟨rfl, rfl⟩
      have HNR := Lib.hid (HN1.out rfl)
      have HGR := Lib.hid HG1.out
      cases neg with
      | true =>
        have hng : ∀ W, (Op.unary UnOp.neg (.float .f64 R1)).run Tryz.prog W = .ok (.float .f64 (R1 + 9223372036854775808)) W := fun W => run_neg HGR.out W
        have HSG : Hid (sgnd R1 true = R1 + 9223372036854775808) := rfl
        generalize R1 + 9223372036854775808 = RZ at *
        go_wp2
        go_ret
        exact ⟨R1, by rw [HSG.out]; rfl, HNR.out, HB2.out⟩
      | false =>
        go_wp2
        go_ret
        exact ⟨R1, rfl, HNR.out, HB2.out⟩
  · have hsbI : ¬ (s : Int) ≤ (B : Int) + 1 := by omega
    obtain ⟨rfl, rfl, rfl⟩ := HBIG.out (by omega)
    clear HSH
    cases some
    · go_enter Tryz.func27, Tryz.ntmps27
      go_wp2_with fail
      refine (HBI.out _ _ HI.out).mono ?_; rintro e1 w1 ⟨rfl, rfl⟩
      go_wp2_with fail
      refine (HBI.out _ _ HI.out).mono ?_; rintro e1 w1 ⟨rfl, rfl⟩
      go_wp2_with fail
      refine (HBI.out _ _ HI.out).mono ?_; rintro e1 w1 ⟨rfl, rfl⟩
      go_wp2_with fail
      refine (HLD0.out _).mono ?_; rintro e9 w9 ⟨rfl, rfl⟩
      have HNR := Lib.hid (HN0.out rfl)
      have HGR := Lib.hid HG0.out
      cases neg with
      | true =>
        have hng : ∀ W, (Op.unary UnOp.neg (.float .f64 R0)).run Tryz.prog W = .ok (.float .f64 (R0 + 9223372036854775808)) W := fun W => run_neg HGR.out W
        have HSG : Hid (sgnd R0 true = R0 + 9223372036854775808) := rfl
        generalize R0 + 9223372036854775808 = RZ at *
        go_wp2
        go_ret
        exact ⟨R0, by rw [HSG.out]; rfl, HNR.out, Below.refl _ _⟩
      | false =>
        go_wp2
        go_ret
        exact ⟨R0, rfl, HNR.out, Below.refl _ _⟩
    · go_enter Tryz.func27, Tryz.ntmps27
      go_wp2_with fail
      refine (HBI.out _ _ HI.out).mono ?_; rintro e1 w1 ⟨rfl, rfl⟩
      go_wp2_with fail
      refine (HBI.out _ _ HI.out).mono ?_; rintro e1 w1 ⟨rfl, rfl⟩
      go_wp2_with fail
      refine (HBI.out _ _ HI.out).mono ?_; rintro e1 w1 ⟨rfl, rfl⟩
      go_wp2_with fail
      refine (HLD0.out _).mono ?_; rintro e9 w9 ⟨rfl, rfl⟩
      have HNR := Lib.hid (HN0.out rfl)
      have HGR := Lib.hid HG0.out
      cases neg with
      | true =>
        have hng : ∀ W, (Op.unary UnOp.neg (.float .f64 R0)).run Tryz.prog W = .ok (.float .f64 (R0 + 9223372036854775808)) W := fun W => run_neg HGR.out W
        have HSG : Hid (sgnd R0 true = R0 + 9223372036854775808) := rfl
        generalize R0 + 9223372036854775808 = RZ at *
        go_wp2
        go_ret
        exact ⟨R0, by rw [HSG.out]; rfl, HNR.out, Below.refl _ _⟩
      | false =>
        go_wp2
        go_ret
        exact ⟨R0, rfl, HNR.out, Below.refl _ _⟩
end Go.Proofs.YtcohidjaehdbnaaGreatDoor
