/- Walks: the sum of a list and its mean as the program makes them (float.quotient, Sum, Mean). Conditions: at most 2^44 floats. -/
import Derived.Test.YtcohidjaehdbnaaGreatDoorGr
import Derived.Test.YtcohidjaehdbnaaGreatDoorGl
import Derived.Test.YtcohidjaehdbnaaGreatDoorGm
namespace Go.Proofs.YtcohidjaehdbnaaGreatDoor
open Go.RowKit
set_option linter.unusedVariables false
attribute [local go_sem ↓] Go.wp_at_zero Go.wp_at_succ

theorem len70 {T d : Nat} (hT : T ≠ 0) (hd0 : 0 < d) (hd : d ≤ 17592186044416) : 70 ≤ nlen (T * 2 ^ 140 / d) := by
  rcases Nat.lt_or_ge (nlen (T * 2 ^ 140 / d)) 70 with h | h
  · exfalso
    have h1 := nlen_lt (T * 2 ^ 140 / d)
    have h2 : (2 : Nat) ^ nlen (T * 2 ^ 140 / d) ≤ 2 ^ 69 := Nat.pow_le_pow_right (by decide) (by omega)
    have h3 : T * 2 ^ 140 < d * (T * 2 ^ 140 / d + 1) := Nat.lt_mul_div_succ _ hd0
    have h4 : d * (T * 2 ^ 140 / d + 1) ≤ 17592186044416 * 2 ^ 69 := Nat.mul_le_mul hd (by omega)
    have h5 : 1 * 2 ^ 140 ≤ T * 2 ^ 140 := Nat.mul_le_mul_right _ (by omega)
    have h6 : 17592186044416 * 2 ^ 69 < 1 * 2 ^ 140 := by decide
    omega
  · exact h
theorem div_big {A d : Nat} (h : A < nbig) : A / d < nbig := Nat.lt_of_le_of_lt (Nat.div_le_self _ _) h
theorem some_iff (A d : Nat) : ((A % d : Nat) != (0 : Int)) = true ↔ A % d ≠ 0 := by
  simp only [bne_iff_ne, ne_eq]
  omega
theorem near140 {T d r : Nat} (hd : 0 < d) (h : Near (T * 2 ^ 140) (d * 2 ^ 140) r) : Near T d r :=
  h.scale (Nat.mul_pos hd (by decide)) hd (by rw [Nat.mul_assoc T, Nat.mul_comm (2 ^ 140)])
theorem nlen_zero : nlen 0 = 0 := rfl
theorem fexp140 : 140 ≤ fexp := by unfold fexp; decide
set_option maxRecDepth 100000 in
set_option maxHeartbeats 2000000 in
theorem c_quotient (A0 : Option Addr) (n c0 : Nat) (xs : List Nat) (d : Nat) (w : World) (h : Reads w w.heap.size 1 A0 n (f64s xs)) (hb : Bit xs) (hn : n ≤ 17592186044416) (hd0 : 0 < d) (hd : d ≤ 17592186044416) :
    Calls Tryz.prog 16 #[.slice A0 n c0, .int .u64 (d : Int)] w (OverR xs d w) := by
  have hl : xs.length = n := by simpa using h.1
  have HL := Lib.hid hl
  have HED := Lib.hid (c_edges A0 n c0 xs w h hb hn)
  have HRD := Lib.hid h
  have HBT := Lib.hid hb
  have HDD : Hid (0 < d ∧ d ≤ 17592186044416) := ⟨hd0, hd⟩
  clear h hb hl
  by_cases hfl : (hasNan xs || hasPlus xs || hasLess xs) = true
  · have HFL := Lib.hid hfl
    rw [hfl] at HED
    clear hfl
    go_enter Tryz.func16, Tryz.ntmps16
    go_wp2_with fail
    refine HED.out.mono ?_; rintro e w1 ⟨z, rfl, hz, hb1⟩
    have HO := Lib.hid (edge_over (n := d) hz HFL.out)
    have HB := Lib.hid hb1
    clear hz hb1
    generalize fone z = o at *
    go_wp2_with fail
    go_ret
    exact ⟨o, rfl, HO.out, HB.out⟩
  · have hfl' : (hasNan xs || hasPlus xs || hasLess xs) = false := by simpa using hfl
    have HFL := Lib.hid hfl'
    have hall : ∀ b ∈ xs, ffin b = true := by
      refine all_fin ?_ ?_ ?_ <;> (revert hfl'; cases hasNan xs <;> cases hasPlus xs <;> cases hasLess xs <;> simp)
    have HALL := Lib.hid hall
    rw [hfl'] at HED
    have HTS := Lib.hid (tot_sml (l := xs) (by rw [HL.out]; exact hn)).2.2
    clear hfl hfl' hall
    go_enter Tryz.func16, Tryz.ntmps16
    go_wp2_with fail
    refine HED.out.mono ?_; rintro e w1 ⟨z, rfl, hz, hb1⟩
    have HB1 := Lib.hid hb1
    have HRD1 := Lib.hid (HRD.out.step hb1)
    have HTO := Lib.hid (c_total A0 n c0 xs w1 HRD1.out HBT.out hn HALL.out)
    have HNO := Lib.hid (fun (w2 : World) (hx : Below w1.heap.size w1 w2) => c_nought A0 n c0 xs w2 (HRD1.out.step hx) HBT.out hn HALL.out)
    clear hz hb1
    generalize fone z = o at *
    obtain ⟨sg, hsg⟩ : ∃ sg, decide (posN xs < negN xs) = sg := ⟨_, rfl⟩
    rw [hsg] at HTO
    have HSG := Lib.hid hsg
    clear hsg
    go_wp2_with fail
    refine HTO.out.mono ?_; rintro e w2 ⟨A, c, l, rfl, h1, hb2⟩
    have HB2 := Lib.hid (below_step HB1.out hb2)
    have hno := HNO.out w2 hb2
    have hz := h1.lb.zero (by decide)
    by_cases hl0 : l = []
    · have HZ := Lib.hid (hz.1 hl0)
      subst hl0
      have HNO2 := Lib.hid hno
      clear h1 hb2 hno hz HNO
      go_wp2_with fail
      refine HNO2.out.mono ?_; rintro e w3 ⟨rfl, rfl⟩
      go_wp2
      go_ret
      exact ⟨_, rfl, ⟨fun h => (by have := HFL.out; revert h this; cases hasNan xs <;> cases hasPlus xs <;> cases hasLess xs <;> simp), fun _ h => (by have := HFL.out; revert h this; cases hasNan xs <;> cases hasPlus xs <;> cases hasLess xs <;> simp), fun _ _ => rfl, fun _ h => absurd HZ.out h⟩, HB2.out⟩
    · have hT0 : totN xs ≠ 0 := fun h => hl0 (hz.2 h)
      have HT0 := Lib.hid hT0
      have hll : (((l.length : Nat) : Int) == 0) = false := by
        have := List.length_pos_iff.2 hl0
        simp only [beq_eq_false_iff_ne, ne_eq]
        omega
      have HSH := Lib.hid (c_shl A c l 140 (totN xs) w2 h1 (nsml_big HTS.out) (by decide))
      clear h1 hb2 hno hz HNO hl0 hT0
      go_wp2_with fail
      refine HSH.out.mono ?_; rintro e w3 ⟨A3, c3, l3, rfl, h3, hb3⟩
      have HB3 := Lib.hid (below_step HB2.out hb3)
      have HBG := Lib.hid (nsml_shl HTS.out fexp140)
      have HDV := Lib.hid (c_div A3 c3 l3 d _ w3 h3 HBG.out HDD.out.1 (by have := HDD.out.2; omega))
      clear h3 hb3
      go_wp2_with fail
      refine HDV.out.mono ?_; rintro e w4 ⟨A4, c4, l4, rfl, h4, hb4⟩
      have HB4 := Lib.hid (below_step HB3.out hb4)
      have HRN := Lib.hid (c_rounded A4 c4 l4 (-1214) (totN xs * 2 ^ 140) d 140 (totN xs * 2 ^ 140 / d) ((totN xs * 2 ^ 140 % d : Nat) != (0 : Int)) sg w4 h4 (div_big HBG.out) rfl HDD.out.1 (some_iff _ _) (by decide) (by decide) (by decide) (len70 HT0.out HDD.out.1 HDD.out.2))
      clear h4 hb4 HDV HSH HTO
      generalize ((totN xs * 2 ^ 140 % d : Nat) != (0 : Int)) = sm at *
      go_wp2_with fail
      refine HRN.out.mono ?_; rintro e w5 ⟨r, rfl, hr, hb5⟩
      have HB5 := Lib.hid (below_step HB4.out hb5)
      have HNR := Lib.hid (near140 HDD.out.1 hr)
      clear hr hb5
      go_wp2
      go_ret
      exact ⟨_, rfl, ⟨fun h => (by have := HFL.out; revert h this; cases hasNan xs <;> cases hasPlus xs <;> cases hasLess xs <;> simp), fun _ h => (by have := HFL.out; revert h this; cases hasNan xs <;> cases hasPlus xs <;> cases hasLess xs <;> simp), fun _ h => absurd h HT0.out, fun _ _ => ⟨r, HNR.out, by rw [HSG.out]⟩⟩, HB5.out⟩
theorem c_Sum (A0 : Option Addr) (n c0 : Nat) (xs : List Nat) (w : World) (h : Reads w w.heap.size 1 A0 n (f64s xs)) (hb : Bit xs) (hn : n ≤ 17592186044416) :
    Calls Tryz.prog 11 #[.slice A0 n c0] w (OverR xs 1 w) := by
  have hq := c_quotient A0 n c0 xs 1 w h hb hn (by decide) (by decide)
  rw [Int.natCast_one] at hq
  have HQ := Lib.hid hq
  clear h hb hq
  go_enter Tryz.func11, Tryz.ntmps11
  go_wp2_with fail
  refine HQ.out.mono ?_; rintro e w1 ⟨b, rfl, hb1, hb2⟩
  have HO := Lib.hid hb1
  have HB := Lib.hid hb2
  clear hb1 hb2
  go_wp2
  go_ret
  exact ⟨b, rfl, HO.out, HB.out⟩
theorem c_Mean (A0 : Option Addr) (n c0 : Nat) (xs : List Nat) (w : World) (h : Reads w w.heap.size 1 A0 n (f64s xs)) (hb : Bit xs) (hn : n ≤ 17592186044416) :
    Calls Tryz.prog 12 #[.slice A0 n c0] w (MeanR xs w) := by
  have hl : xs.length = n := by simpa using h.1
  by_cases h0 : n = 0
  · subst h0
    have HM : Hid (IsMean xs 9221120237041090560) := ⟨fun _ => rfl, fun hx => absurd (List.eq_nil_of_length_eq_zero hl) hx⟩
    have hof := fun w => c_Of 9221120237041090560 w
    have HOF := Lib.hid hof
    clear h hb hl hof
    go_enter Tryz.func12, Tryz.ntmps12
    go_wp2_with fail
    refine (HOF.out _).mono ?_; rintro e w' ⟨rfl, rfl⟩
    go_wp2
    go_ret
    exact ⟨_, rfl, HM.out, Below.refl _ _⟩
  · have HC := Lib.hid (c_quotient A0 n c0 xs n w h hb hn (by omega) hn)
    have HM : Hid (∀ b, IsOver xs n b → IsMean xs b) := fun b hb => ⟨fun hx => (by rw [hx] at hl; simp at hl; omega), fun _ => by rw [hl]; exact hb⟩
    have hn0 : ((n : Int) == 0) = false := by simpa using h0
    clear h hb hl h0
    go_enter Tryz.func12, Tryz.ntmps12
    go_wp2_with fail
    refine HC.out.mono ?_; rintro e w1 ⟨b, rfl, hb1, hb2⟩
    have HO := Lib.hid (HM.out b hb1)
    have HB := Lib.hid hb2
    clear hb1 hb2
    go_wp2
    go_ret
    exact ⟨b, rfl, HO.out, HB.out⟩
end Go.Proofs.YtcohidjaehdbnaaGreatDoor
