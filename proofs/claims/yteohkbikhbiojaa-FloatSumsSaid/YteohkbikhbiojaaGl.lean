/- Walks: the document's sum divided and rounded (quernref22.signed, NaN, over, Sum, Mean). Conditions: at most 2^44 floats. -/
import Derived.Test.YteohkbikhbiojaaGk
import Derived.Deep.RegionLaw
namespace Go.Proofs.Yteohkbikhbiojaa
open Go.RowKit
set_option linter.unusedVariables false
attribute [local go_sem ↓] Go.wp_at_zero Go.wp_at_succ

theorem c_NaN (w : World) : Calls Try.prog 19 #[] w fun e w' => e = .returned (.float .f64 9221120237041090560) ∧ w = w' := by
  have hc := call_frombits_nan
  go_enter Try.func19, Try.ntmps19
  go_wp2
  go_ret
  exact ⟨rfl, rfl⟩
theorem or_sign (b : Nat) (h : b < 9223372036854775808) : bits .or .u64 (b : Int) 9223372036854775808 = ((b + 9223372036854775808 : Nat) : Int) := by
  have h1 := u64_or_nat b 9223372036854775808 (by omega) (by decide)
  have e : b ||| 9223372036854775808 = b + 9223372036854775808 := by
    have := Nat.shiftLeft_add_eq_or_of_lt (show b < 2 ^ 63 by simpa using h) 1
    rw [Nat.shiftLeft_eq] at this
    rw [Nat.or_comm, Nat.add_comm]
    simpa using this.symm
  rw [e] at h1
  exact h1
theorem c_signed (b : Nat) (mi : Bool) (hb : b < 9223372036854775808) (w : World) : Calls Try.prog 37 #[.int .u64 (b : Int), .bool mi] w fun e w' => e = .returned (.float .f64 (sgnd b mi)) ∧ w = w' := by
  have h1 := or_sign b hb
  have hc := call_frombits (b + 9223372036854775808)
  have hc2 := call_frombits b
  cases mi with
  | true =>
    have HS : Hid (sgnd b true = b + 9223372036854775808) := rfl
    generalize b + 9223372036854775808 = z at *
    go_enter Try.func37, Try.ntmps37
    go_wp2
    go_ret
    exact ⟨by rw [HS.out]; rfl, rfl⟩
  | false =>
    have HS : Hid (sgnd b false = b) := rfl
    go_enter Try.func37, Try.ntmps37
    go_wp2
    go_ret
    exact ⟨by rw [HS.out]; rfl, rfl⟩
/-- A float that a list's sum by n is, in memory as it was. -/
def OverR (xs : List Nat) (n : Nat) (w : World) (e : Ending) (w' : World) : Prop := ∃ b, e = .returned (.float .f64 b) ∧ IsOver xs n b ∧ Below w.heap.size w w'
theorem near_lt {X D r : Nat} (h : Near X D r) : r < 9223372036854775808 := by have := h.cap; omega
theorem two_big : (1 : Nat) < nbig := word_big (by decide)
theorem pow_sml {k : Nat} (hk : k ≤ sexp - 100) {a : Nat} (ha : a < 2 ^ 100) : a * 2 ^ k < nsml := by
  have h1 : a * 2 ^ k < 2 ^ 100 * 2 ^ k := (Nat.mul_lt_mul_right (Nat.pow_pos (by decide))).2 ha
  rw [← Nat.pow_add] at h1
  refine Nat.lt_of_lt_of_le h1 ?_
  unfold nsml
  exact Nat.pow_le_pow_right (by decide) (by unfold sexp at *; omega)
set_option maxRecDepth 100000 in
set_option maxHeartbeats 2000000 in
theorem c_over (A : Option Addr) (c : Nat) (l : List Nat) (xs : List Nat) (n : Nat) (w : World) (h : IsN w w.heap.size .u32 4294967296 A c l (totN xs)) (hx : xs.length ≤ 17592186044416) (hn0 : 0 < n) (hn : n ≤ 17592186044416) :
    Calls Try.prog 16 #[.agg (tcs A l.length c (decide (posN xs < negN xs)) xs xs.length), .int .i64 (n : Int)] w (OverR xs n w) := by
  have HI := Lib.hid h
  have HT := Lib.hid (tot_sml hx)
  have HNG := Lib.hid (nghts_all xs)
  unfold tcs
  clear h
  obtain ⟨f1, hf1⟩ : ∃ f, hasNan xs = f := ⟨_, rfl⟩
  obtain ⟨f2, hf2⟩ : ∃ f, hasPlus xs = f := ⟨_, rfl⟩
  obtain ⟨f3, hf3⟩ : ∃ f, hasLess xs = f := ⟨_, rfl⟩
  rw [hf1, hf2, hf3, nghts_all]
  have HF1 := Lib.hid hf1
  have HF2 := Lib.hid hf2
  have HF3 := Lib.hid hf3
  clear hf1 hf2 hf3
  by_cases hnone : (f1 || f2 && f3) = true
  · have HO : Hid (IsOver xs n 9221120237041090560) := ⟨fun _ => rfl, fun h => (by rw [HF1.out, HF2.out, HF3.out, hnone] at h; cases h), fun h => (by revert h hnone; rw [HF1.out, HF2.out, HF3.out]; cases f1 <;> cases f2 <;> cases f3 <;> simp), fun h => (by revert h hnone; rw [HF1.out, HF2.out, HF3.out]; cases f1 <;> cases f2 <;> cases f3 <;> simp)⟩
    cases f1 <;> cases f2 <;> cases f3 <;> first | (exact absurd hnone (by decide)) | skip
    all_goals
      clear hnone
      go_enter Try.func16, Try.ntmps16
      go_wp2_with ((go_at_call 19; refine (c_NaN _).mono ?_; rintro e w' ⟨rfl, rfl⟩))
      go_ret
      exact ⟨_, rfl, HO.out, (Below.refl _ _).alloc (Nat.le_refl _) _⟩
  · have hnone' : (f1 || f2 && f3) = false := by simpa using hnone
    by_cases hinf : (f2 || f3) = true
    · have HO : Hid (IsOver xs n (sgnd 9218868437227405312 f3)) := ⟨fun h => (by rw [HF1.out, HF2.out, HF3.out, hnone'] at h; cases h), fun _ _ => by rw [HF3.out], fun h => (by revert h hinf; rw [HF1.out, HF2.out, HF3.out]; cases f1 <;> cases f2 <;> cases f3 <;> simp), fun h => (by revert h hinf; rw [HF1.out, HF2.out, HF3.out]; cases f1 <;> cases f2 <;> cases f3 <;> simp)⟩
      have HSG := Lib.hid (fun (w : World) => c_signed 9218868437227405312 f3 (by decide) w)
      cases f1 <;> cases f2 <;> cases f3 <;> first | (exact absurd hnone' (by decide)) | (exact absurd hinf (by decide)) | skip
      all_goals
        clear hnone hnone' hinf
        go_enter Try.func16, Try.ntmps16
        go_wp2_with ((go_at_call 37; refine (HSG.out _).mono ?_; rintro e w' ⟨rfl, rfl⟩))
        go_ret
        exact ⟨_, rfl, HO.out, (Below.refl _ _).alloc (Nat.le_refl _) _⟩
    · obtain rfl : f1 = false := by revert hnone; cases f1 <;> simp
      obtain rfl : f2 = false := by revert hinf; cases f2 <;> simp
      obtain rfl : f3 = false := by revert hinf; cases f3 <;> simp
      clear hnone hnone' hinf
      by_cases hz : totN xs = 0
      · have HO : Hid (IsOver xs n (sgnd 0 (allNought xs))) := ⟨fun h => (by rw [HF1.out, HF2.out, HF3.out] at h; cases h), fun _ h => (by rw [HF2.out, HF3.out] at h; cases h), fun _ _ => rfl, fun _ h => absurd hz h⟩
        have HL : Hid (l.length = 0) := by
          have := (HI.out.lb.zero (by decide)).2 hz
          show _ = _
          rw [this]; rfl
        rw [HL.out]
        have HSG := Lib.hid (fun (w : World) => c_signed 0 (allNought xs) (by decide) w)
        clear hz
        generalize allNought xs = an at *
        go_enter Try.func16, Try.ntmps16
        go_wp2_with ((go_at_call 37; refine (HSG.out _).mono ?_; rintro e w' ⟨rfl, rfl⟩))
        go_ret
        exact ⟨_, rfl, HO.out, (Below.refl _ _).alloc (Nat.le_refl _) _⟩
      · have HL : Hid (l.length ≠ 0) := fun hl => hz ((HI.out.lb.zero (by decide)).1 (List.eq_nil_of_length_eq_zero hl))
        have hl0 : ((l.length : Int) == 0) = false := by have := HL.out; simpa using this
        have HO := Lib.hid (fun (r : Nat) (hr : Near (totN xs * 2 ^ K74) (n * (1 * 2 ^ K74)) r) => (⟨fun h => (by rw [HF1.out, HF2.out, HF3.out] at h; cases h), fun _ h => (by rw [HF2.out, HF3.out] at h; cases h), fun _ h => absurd h hz, fun _ _ => ⟨r, hr.scale (Nat.mul_pos hn0 (Nat.mul_pos (by decide) (Nat.pow_pos (by decide)))) hn0 (by rw [Nat.one_mul, Nat.mul_assoc, Nat.mul_comm (2 ^ K74)]), rfl⟩⟩ : IsOver xs n (sgnd r (decide (posN xs < negN xs)))))
        have HD : Hid (n * (1 * 2 ^ K74) < nsml ∧ 0 < n * (1 * 2 ^ K74) ∧ 1 * 2 ^ K74 < nbig) := by
          refine ⟨by rw [Nat.one_mul]; exact pow_sml (by unfold K74 sexp; decide) (Nat.lt_of_le_of_lt hn (by decide)), Nat.mul_pos hn0 (Nat.mul_pos (by decide) (Nat.pow_pos (by decide))), nsml_big (pow_sml (a := 1) (by unfold K74 sexp; decide) (by decide))⟩
        have HB0 := Lib.hid ((Below.refl w.heap.size w).alloc (Nat.le_refl _) (.cells #[.slice A l.length c, .bool (decide (posN xs < negN xs)), .bool false, .bool false, .bool false, .bool (allNought xs)] 35))
        have HP := Lib.hid (Blk.new w 35 #[.slice A l.length c, .bool (decide (posN xs < negN xs)), .bool false, .bool false, .bool false, .bool (allNought xs)])
        have HIw := Lib.hid (HI.out.below HB0.out)
        clear hz HI
        generalize decide (posN xs < negN xs) = mi at *
        generalize allNought xs = an at *
        obtain ⟨L, hL⟩ : ∃ L, l.length = L := ⟨_, rfl⟩
        rw [hL] at hl0 HP HB0 HIw ⊢
        have HLL := Lib.hid hL
        clear hL
        go_enter Try.func16, Try.ntmps16
        go_wp2_with fail
        generalize w.alloc (.cells #[.slice A L c, .bool mi, .bool false, .bool false, .bool false, .bool an] 35) = W0 at *
        have hwn := wrap_small (z := n) (by omega)
        have hnw : n < 18446744073709551616 := by omega
        have HFN := Lib.hid (fun (w : World) => c_from n hnw w)
        have HFO : Hid (∀ w, Calls Try.prog 33 #[.int .u64 1] w (NewN .u32 4294967296 1 w)) := fun w => c_from 1 (by decide) w
        have hgz := HP.out.lt
        have HNB := Lib.hid (word_big hnw)
        clear hn0 hn hnw hx
        go_region_held3 (fun V => V.cell? ⟨w.heap.size, 0, none⟩ = some (.slice A L c) ∧ V.cell? ⟨w.heap.size, 1, none⟩ = some (.bool mi)) (first | exact ⟨HP.out.drew.cell 0, HP.out.drew.cell 1⟩ | exact ⟨HP.out.cell 0, HP.out.cell 1⟩ | go_keep) (first
          | (go_at_call 33; (with_reducible refine (HFO.out _).mono ?_); rintro e w2 ⟨A2, c2, l2, rfl, h2, hb2⟩; have H2 := Lib.hid h2; have H1 := Lib.hid (H1.out.below hb2); have HIw := Lib.hid (HIw.out.below hb2); have HB := Lib.hid (below_step HB.out hb2); have HP := Lib.hid (HP.out.below hb2 HP.out.lt); clear h2 hb2)
          | (go_at_call 33; (with_reducible refine (HFN.out W0.drew).mono ?_); rintro e w1 ⟨A1, c1, l1, rfl, h1, hb1⟩; have hb1 : Below W0.heap.size W0 w1 := ⟨hb1.os, hb1.tape, hb1.output, hb1.size, hb1.block⟩; have H1 := Lib.hid h1; have HIw := Lib.hid (HIw.out.below hb1); have HB := Lib.hid (below_step HB0.out hb1); have HP := Lib.hid (HP.out.below hb1 HP.out.lt); clear h1 hb1)
          | (go_at_call 32; refine (c_up _ _ _ K74 _ _ H2.out two_big (by unfold K74; decide)).mono ?_; rintro e w3 ⟨A3, c3, l3, rfl, h3, hb3⟩; have H3 := Lib.hid h3; have H1 := Lib.hid (H1.out.below hb3); have HIw := Lib.hid (HIw.out.below hb3); have HB := Lib.hid (below_step HB.out hb3); have HP := Lib.hid (HP.out.below hb3 HP.out.lt); clear h3 hb3)
          | (go_at_call 35; refine (c_rmul _ _ _ _ _ _ _ _ _ H1.out H3.out HNB.out HD.out.2.2).mono ?_; rintro e w4 ⟨A4, c4, l4, rfl, h4, hb4⟩; have H4 := Lib.hid h4; have HIw := Lib.hid (HIw.out.below hb4); have HB := Lib.hid (below_step HB.out hb4); have HP := Lib.hid (HP.out.below hb4 HP.out.lt); clear h4 hb4)
          | (go_at_call 38; rw [← HLL.out]; refine (c_nearest _ _ _ _ _ _ _ _ _ HIw.out H4.out HT.out.2.2 HD.out.1 HD.out.2.1).mono ?_; rintro e w5 ⟨r, rfl, hr, hb5⟩; have HR := Lib.hid hr; have HB := Lib.hid (below_step HB.out hb5); have HP := Lib.hid (HP.out.below hb5 HP.out.lt); clear hr hb5)
          | (go_at_call 37; refine (c_signed r mi (near_lt HR.out) _).mono ?_; rintro e w6 ⟨rfl, rfl⟩))
        go_wp2
        go_ret
        exact ⟨_, rfl, HO.out r HR.out, HB.out⟩
theorem c_rSum (A0 : Option Addr) (n c0 : Nat) (xs : List Nat) (w : World) (h : Reads w w.heap.size 1 A0 n (f64s xs)) (hb : Bit xs) (hn : n ≤ 17592186044416) :
    Calls Try.prog 7 #[.slice A0 n c0] w (OverR xs 1 w) := by
  have hl : xs.length = n := by simpa using h.1
  have HC := Lib.hid (c_rsum A0 n c0 xs w h hb hn)
  have hx : xs.length ≤ 17592186044416 := by omega
  have HL := Lib.hid hl
  clear h hb hl
  go_enter Try.func7, Try.ntmps7
  go_wp2_with fail
  refine HC.out.mono ?_; rintro e w1 ⟨A, c, l, rfl, h1, hb1⟩
  have HB1 := Lib.hid hb1
  have hov := c_over A c l xs 1 w1 h1 hx (by decide) (by decide)
  rw [HL.out] at hov
  have HO := Lib.hid hov
  clear h1 hb1 hov
  go_wp2_with fail
  refine HO.out.mono ?_; rintro e w2 ⟨b, rfl, hb2, hb3⟩
  have HB2 := Lib.hid (below_step HB1.out hb3)
  have HR := Lib.hid hb2
  clear hb2 hb3
  go_wp2
  go_ret
  exact ⟨b, rfl, HR.out, HB2.out⟩
/-- The mean: of nothing it is a NaN. -/
def IsMean (xs : List Nat) (b : Nat) : Prop := (xs = [] → b = 9221120237041090560) ∧ (xs ≠ [] → IsOver xs xs.length b)
def MeanR (xs : List Nat) (w : World) (e : Ending) (w' : World) : Prop := ∃ b, e = .returned (.float .f64 b) ∧ IsMean xs b ∧ Below w.heap.size w w'
theorem c_rMean (A0 : Option Addr) (n c0 : Nat) (xs : List Nat) (w : World) (h : Reads w w.heap.size 1 A0 n (f64s xs)) (hb : Bit xs) (hn : n ≤ 17592186044416) :
    Calls Try.prog 9 #[.slice A0 n c0] w (MeanR xs w) := by
  have hl : xs.length = n := by simpa using h.1
  by_cases h0 : n = 0
  · subst h0
    have HM : Hid (IsMean xs 9221120237041090560) := ⟨fun _ => rfl, fun hx => absurd (List.eq_nil_of_length_eq_zero hl) hx⟩
    clear h hb hl
    go_enter Try.func9, Try.ntmps9
    go_wp2_with ((go_at_call 19; refine (c_NaN _).mono ?_; rintro e w' ⟨rfl, rfl⟩))
    go_ret
    exact ⟨_, rfl, HM.out, Below.refl _ _⟩
  · have HC := Lib.hid (c_rsum A0 n c0 xs w h hb hn)
    have hx : xs.length ≤ 17592186044416 := by omega
    have hx0 : 0 < xs.length := by omega
    have HM : Hid (∀ b, IsOver xs n b → IsMean xs b) := fun b hb => ⟨fun hx => (by rw [hx] at hl; simp at hl; omega), fun _ => by rw [hl]; exact hb⟩
    have hn0 : ((n : Int) == 0) = false := by simpa using h0
    have HL := Lib.hid hl
    clear h hb hl h0
    go_enter Try.func9, Try.ntmps9
    go_wp2_with fail
    refine HC.out.mono ?_; rintro e w1 ⟨A, c, l, rfl, h1, hb1⟩
    have HB1 := Lib.hid hb1
    have hov := c_over A c l xs xs.length w1 h1 hx hx0 hx
    rw [HL.out] at hov
    have HO := Lib.hid hov
    clear h1 hb1 hov
    go_wp2_with fail
    refine HO.out.mono ?_; rintro e w2 ⟨b, rfl, hb2, hb3⟩
    have HB2 := Lib.hid (below_step HB1.out hb3)
    have HR := Lib.hid (HM.out b hb2)
    clear hb2 hb3
    go_wp2
    go_ret
    exact ⟨b, rfl, HR.out, HB2.out⟩
end Go.Proofs.Yteohkbikhbiojaa
