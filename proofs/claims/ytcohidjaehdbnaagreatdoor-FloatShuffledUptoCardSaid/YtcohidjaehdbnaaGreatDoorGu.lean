/- Walk: the spread of a list as the program makes it (float.Spread). Conditions: at most 2^44 floats. -/
import Derived.Test.YtcohidjaehdbnaaGreatDoorGt
namespace Go.Proofs.YtcohidjaehdbnaaGreatDoor
open Go.RowKit
set_option linter.unusedVariables false
attribute [local go_sem ↓] Go.wp_at_zero Go.wp_at_succ

structure SqP (w wr : World) (xs : List Nat) (i : Nat) (A : Option Addr) (c : Nat) (l : List Nat) : Prop where
  num : IsN wr wr.heap.size .u64 18446744073709551616 A c l (sqN (xs.take i))
  bel : Below w.heap.size w wr
theorem near_zero {D : Nat} (h : 0 < D) : Near 0 D 0 := by
  refine ⟨by decide, .inl rfl, .inr (.inl ?_)⟩
  have : 0 < kv 0 + kv (0 + 1) := by decide
  rw [Nat.mul_zero]
  exact Nat.mul_pos this h
set_option maxRecDepth 100000 in
set_option maxHeartbeats 4000000 in
theorem c_Spread (A0 : Option Addr) (n c0 : Nat) (xs : List Nat) (w : World) (h : Reads w w.heap.size 1 A0 n (f64s xs)) (hb : Bit xs) (hn : n ≤ 17592186044416) :
    Calls Tryz.prog 13 #[.slice A0 n c0] w (SpreadR xs w) := by
  have hl : xs.length = n := by simpa using h.1
  have hx : xs.length ≤ 17592186044416 := by omega
  have HTS := Lib.hid (tot_sml hx)
  have HRD := Lib.hid h
  have HXL := Lib.hid hl
  have HBT := Lib.hid hb
  have HX := Lib.hid hx
  have HED := Lib.hid (c_edges A0 n c0 xs w h hb hn)
  clear h hb
  by_cases hedge : (xs.isEmpty || (hasNan xs || hasPlus xs || hasLess xs)) = true
  · have HS : Hid (IsSpread xs 9221120237041090560) := ⟨fun _ => rfl, fun h => by rw [hedge] at h; cases h⟩
    have hof := fun w => c_Of 9221120237041090560 w
    have HOF := Lib.hid hof
    obtain ⟨f, hf⟩ : ∃ f, (hasNan xs || hasPlus xs || hasLess xs) = f := ⟨_, rfl⟩
    rw [hf] at HED hedge
    have hnz : (n = 0 ∧ f = false) ∨ f = true := by
      cases f with
      | true => exact .inr rfl
      | false =>
        refine .inl ⟨?_, rfl⟩
        cases xs with
        | nil => simpa using hl.symm
        | cons a l => simp at hedge
    clear hl hx hf hedge hof
    rcases hnz with ⟨rfl, rfl⟩ | rfl
    · go_enter Tryz.func13, Tryz.ntmps13
      go_wp2_with fail
      refine HED.out.mono ?_; rintro e w1 ⟨z, rfl, hz, hb1⟩
      have HB1 := Lib.hid hb1
      clear hz hb1
      generalize fone z = o at *
      go_wp2_with ((go_at_call 17; refine (HOF.out _).mono ?_; rintro e w' ⟨rfl, rfl⟩))
      go_ret
      exact ⟨_, rfl, HS.out, HB1.out⟩
    · go_enter Tryz.func13, Tryz.ntmps13
      go_wp2_with fail
      refine HED.out.mono ?_; rintro e w1 ⟨z, rfl, hz, hb1⟩
      have HB1 := Lib.hid hb1
      clear hz hb1
      generalize fone z = o at *
      go_wp2_with ((go_at_call 17; refine (HOF.out _).mono ?_; rintro e w' ⟨rfl, rfl⟩))
      go_ret
      exact ⟨_, rfl, HS.out, HB1.out⟩
  · have hedge' : (xs.isEmpty || (hasNan xs || hasPlus xs || hasLess xs)) = false := by simpa using hedge
    have HEE := Lib.hid hedge'
    obtain ⟨hne, hf1, hf2, hf3⟩ : xs.isEmpty = false ∧ hasNan xs = false ∧ hasPlus xs = false ∧ hasLess xs = false := by
      revert hedge'
      cases xs.isEmpty <;> cases hasNan xs <;> cases hasPlus xs <;> cases hasLess xs <;> simp
    have hn1 : 0 < n := by
      cases xs with
      | nil => simp at hne
      | cons a l => simp at hl; omega
    have HF := Lib.hid (all_fin hf1 hf2 hf3)
    have HQ := Lib.hid (sq_sml hx HF.out)
    rw [hf1, hf2, hf3, show (false || false || false) = false from rfl] at HED
    clear hl hx hf1 hf2 hf3 hedge hedge' hne
    have hn0 : ((n : Int) == 0) = false := by simp; omega
    go_enter Tryz.func13, Tryz.ntmps13
    go_wp2_with fail
    refine HED.out.mono ?_; rintro e w1 ⟨z, rfl, hz, hb1⟩
    have HB1 := Lib.hid hb1
    have HRD1 := Lib.hid (HRD.out.step hb1)
    clear hz hb1 HED
    generalize fone z = o at *
    go_wp2_with fail
    go_loopw [5, 33] (fun va vi wr => ∃ (i : Nat) (A2 : Option Addr) (c2 : Nat) (l2 : List Nat), va = .slice A2 l2.length c2 ∧ vi = .int .i64 i ∧ i ≤ n ∧ SqP w1 wr xs i A2 c2 l2) (fun _ vi _ => n - (intOf vi).toNat)
    case atStart => exact ⟨0, none, 0, [], rfl, rfl, Nat.zero_le _, ⟨IsN.nil, Below.refl _ _⟩⟩
    case round =>
      obtain ⟨i, A2, c2, l2, rfl, rfl, hi, HS⟩ := hrel
      by_cases hlt : i < n
      · obtain ⟨bb, off, rfl, hbB, hbw, hcells⟩ := HRD1.out.form (by omega)
        have hc1 : wr.cell? ⟨bb, off + i, none⟩ = some (.float .f64 (xs.getD i 0)) := by
          rw [(bcell HS.bel).1 _ _ hbw, hcells i hlt, f64_get (by rw [HXL.out]; exact hlt)]
        have hbb := HBT.out.get i
        have HT := Lib.hid (take_one xs (i := i) (by rw [HXL.out]; exact hlt))
        have HFB : Hid (ffin (xs.getD i 0) = true) := HF.out _ (getD_mem (by rw [HXL.out]; exact hlt))
        clear hcells
        generalize xs.getD i 0 = b at *
        have HWH := Lib.hid (c_whole2 b hbb)
        have hmb : fmag b < 9223372036854775808 := Nat.mod_lt _ (by decide)
        obtain ⟨m, hm⟩ : ∃ m, fmag b = m := ⟨_, rfl⟩
        rw [hm] at HWH hmb
        have HKM := Lib.hid hm
        clear hm
        have HKS : Hid (kv m < nbig) := by
          have h2 := kv_sml HFB.out
          rw [HKM.out] at h2
          exact nsml_big h2
        have HSQ : Hid (kv m * kv m < nbig) := by
          obtain ⟨P, p1, _, _, p4⟩ := big_P
          have h1 := p1 b HFB.out
          rw [HKM.out] at h1
          have h2 := Nat.mul_le_mul h1 h1
          have h3 : kv m * kv m < nsml := by
            generalize P * P = Q at *
            omega
          exact nsml_big h3
        have HKV := Lib.hid (kv_psig m)
        have hpm := psig_lt (m := m)
        have hkx := kx_le hmb
        generalize psig m = p at *
        generalize kx m = k at *
        have hp64 : p < 18446744073709551616 := by omega
        have HPB := Lib.hid (word_big hp64)
        go_wp2_with fail
        refine (HWH.out _).mono ?_; rintro e1 w2 ⟨rfl, rfl⟩
        go_wp2_with fail
        have HRA := Lib.hid (reads_one wr 22 (.int .u64 (p : Int)))
        have HTP := Lib.hid (isN_trim (k := .u64) (B := 18446744073709551616) (l := [p]) (c := 1) HRA.out rfl (by simp) (by intro x hx; rw [List.mem_singleton.1 hx]; exact hp64))
        have hct := c_trim (some ⟨wr.heap.size, 0, none⟩) 1 [p] _ _ HRA.out (by simp) (by simp)
        rw [show [p].length = 1 from rfl] at hct
        have HCT := Lib.hid hct
        clear hct
        have HTW : Hid (IsN (wr.alloc (.cells #[.int .u64 (p : Int)] 22)) (wr.alloc (.cells #[.int .u64 (p : Int)] 22)).heap.size .u64 18446744073709551616 (some ⟨wr.heap.size, 0, none⟩) 1 (trimN [p]) p) := by
          have := HTP.out
          rw [nval_one] at this
          exact this.more (by simp)
        have HB0 := Lib.hid ((Below.refl wr.heap.size wr).alloc (Nat.le_refl _) (.cells #[.int .u64 (p : Int)] 22))
        have hsum : IntKind.i64.wrap (k : Int) = (k : Int) := by rw [IntKind.wrap_i64]; omega
        refine HCT.out.mono ?_; rintro e1 w2 ⟨rfl, rfl⟩
        go_wp2_with fail
        refine (c_shl _ _ _ k p _ HTW.out HPB.out (by omega)).mono ?_; rintro e2 w2 ⟨A3, c3, l3, rfl, h2, hb2⟩
        have HBB := Lib.hid (below_step HB0.out hb2)
        have H2 := Lib.hid h2
        rw [← HKV.out] at H2
        clear h2 hb2
        go_wp2_with fail
        refine (c_mul _ _ _ _ _ _ _ _ _ H2.out H2.out HKS.out HKS.out).mono ?_; rintro e3 w3 ⟨A4, c4, l4, rfl, h4, hb4⟩
        have HBC := Lib.hid (below_step HBB.out hb4)
        have H4 := Lib.hid h4
        have HO := Lib.hid (HS.num.below HBC.out)
        clear h4 hb4 H2 HBB
        go_wp2_with fail
        refine (c_add _ _ _ _ _ _ _ _ _ HO.out H4.out (nsml_big (HQ.out.2.2 i)) HSQ.out).mono ?_; rintro e4 w4 ⟨A5, c5, l5, rfl, h5, hb5⟩
        have HB5 := Lib.hid (below_step HS.bel (below_step HBC.out hb5))
        have H7 : Hid (IsN w4 w4.heap.size .u64 18446744073709551616 A5 c5 l5 (sqN (xs.take (i + 1)))) := by
          show IsN _ _ _ _ _ _ _ _
          rw [HT.out, sqN_app, sqN_one, HKM.out]
          exact h5
        clear h5 hb5 H4 HO HBC
        go_wp2
        go_roundw
        case rel => exact ⟨i + 1, A5, c5, l5, rfl, by go_num, hlt, ⟨H7.out, HB5.out⟩⟩
        case measure => simp [intOf]; omega
      · have HIK : Hid (xs.take i = xs) := by
          have := HXL.out
          show _ = _
          rw [List.take_of_length_le (by omega)]
        have HN := Lib.hid HS.num
        rw [HIK.out] at HN
        have HB := Lib.hid HS.bel
        have HRD2 := Lib.hid (HRD1.out.step HB.out)
        have HBT0 := Lib.hid (below_step HB1.out HB.out)
        have HTO := Lib.hid (c_total A0 n c0 xs wr HRD2.out HBT.out hn HF.out)
        have hnw : n < 18446744073709551616 := by omega
        have HNB := Lib.hid (word_big hnw)
        have hnlt : ¬ i < n := hlt
        have hwn : IntKind.u64.wrap (n : Int) = (n : Int) := by rw [IntKind.wrap_u64]; omega
        clear HS HIK
        go_wp2_with fail
        refine HTO.out.mono ?_; rintro e1 w2 ⟨A3, c3, l3, rfl, h3, hb3⟩
        have HB3 := Lib.hid (below_step HBT0.out hb3)
        have H3 := Lib.hid h3
        have HNw := Lib.hid (HN.out.below hb3)
        clear h3 hb3 HTO HN HBT0
        generalize decide (posN xs < negN xs) = mi at *
        have HV : Hid (∃ V, n * sqN xs - totN xs * totN xs = V ∧ totN xs * totN xs ≤ n * sqN xs ∧ n * sqN xs < nsml ∧ V < nsml ∧ (V = 0 ∨ n ≤ V + 1) ∧ ∀ r, Near V (n * n * 2 ^ K74) r → IsSpread xs r) := by
          have h1 := tot_sq xs
          have h2 := HQ.out.2.1
          have h3 := spread_or HF.out
          rw [HXL.out] at h1 h2 h3
          exact ⟨_, rfl, h1, h2, by omega, h3, fun r hr => ⟨fun h => (by rw [HEE.out] at h; cases h), fun _ => by rw [HXL.out]; exact hr⟩⟩
        have HND := Lib.hid (reads_one w2 22 (.int .u64 (n : Int)))
        have HNN : Hid (IsN (w2.alloc (.cells #[.int .u64 (n : Int)] 22)) (w2.alloc (.cells #[.int .u64 (n : Int)] 22)).heap.size .u64 18446744073709551616 (some ⟨w2.heap.size, 0, none⟩) 1 [n] n) :=
          (IsN.mk (Nat.le_refl _) ⟨fun x hx => (by rw [List.mem_singleton.1 hx]; exact hnw), by simp; omega, nval_one _ _⟩ HND.out).more (by simp)
        have hba := (Below.refl w2.heap.size w2).alloc (Nat.le_refl _) (.cells #[.int .u64 (n : Int)] 22)
        have HBA := Lib.hid (below_step HB3.out hba)
        have H3a := Lib.hid (H3.out.below hba)
        have HNa := Lib.hid (HNw.out.below hba)
        clear hba H3 HNw HB3 HND
        go_wp2_with fail
        have hmul := fun W hw hw2 => c_mul A2 (some ⟨w2.heap.size, 0, none⟩) c2 1 l2 [n] (sqN xs) n W hw hw2 (nsml_big HQ.out.1) HNB.out
        rw [show [n].length = 1 from rfl] at hmul
        refine (hmul _ HNa.out HNN.out).mono ?_; rintro e2 w3 ⟨A4, c4, l4, rfl, h4, hb4⟩
        have H4 := Lib.hid h4
        have HB4 := Lib.hid (below_step HBA.out hb4)
        have H3b := Lib.hid (H3a.out.below hb4)
        clear h4 hb4 hmul HNa HNN HBA H3a
        go_wp2_with fail
        refine (c_mul _ _ _ _ _ _ _ _ _ H3b.out H3b.out (nsml_big HTS.out.2.2) (nsml_big HTS.out.2.2)).mono ?_; rintro e3 w4 ⟨A5, c5, l5, rfl, h5, hb5⟩
        have H5 := Lib.hid h5
        have H4b := Lib.hid (H4.out.below hb5)
        have HB5 := Lib.hid (below_step HB4.out hb5)
        clear h5 hb5 H4 HB4 H3b
        rw [Nat.mul_comm (sqN xs) n] at H4b
        obtain ⟨V, hV, hV1, hV2, hV3, hV4, hV5⟩ := HV.out
        have HV1 := Lib.hid hV1
        have HV2 := Lib.hid hV2
        have HV3 := Lib.hid hV3
        have HV4 := Lib.hid hV4
        have HV5 := Lib.hid hV5
        have HVV := Lib.hid hV
        clear hV hV1 hV2 hV3 hV4 hV5 HV
        go_wp2_with fail
        refine (c_sub _ _ _ _ _ _ _ _ _ H4b.out H5.out (nsml_big HV2.out) HV1.out).mono ?_; rintro e4 w5 ⟨A6, c6, l6, rfl, h6, hb6⟩
        rw [HVV.out] at h6
        have H6 := Lib.hid h6
        have HB6 := Lib.hid (below_step HB5.out hb6)
        clear h6 hb6 H4b H5 HB5 HV1 HV2 HVV
        go_wp2_with fail
        refine (c_shl _ _ _ 140 _ _ H6.out (nsml_big HV3.out) (by decide)).mono ?_; rintro e5 w6 ⟨A7, c7, l7, rfl, h7, hb7⟩
        have H7 := Lib.hid h7
        have HB7 := Lib.hid (below_step HB6.out hb7)
        have HVB := Lib.hid (nsml_shl HV3.out fexp140)
        clear h7 hb7 H6 HB6
        go_wp2_with fail
        refine (c_div _ _ _ n _ _ H7.out HVB.out hn1 (by omega)).mono ?_; rintro e6 w7 ⟨A8, c8, l8, rfl, h8, hb8⟩
        have H8 := Lib.hid h8
        have HB8 := Lib.hid (below_step HB7.out hb8)
        clear h8 hb8 H7 HB7
        obtain ⟨s1, hs1⟩ : ∃ s1, ((V * 2 ^ 140 % n : Nat) != (0 : Int)) = s1 := ⟨_, rfl⟩
        rw [hs1]
        have HS1 := Lib.hid hs1
        clear hs1
        go_wp2_with fail
        refine (c_div _ _ _ n _ _ H8.out (div_big HVB.out) hn1 (by omega)).mono ?_; rintro e7 w8 ⟨A9, c9, l9, rfl, h9, hb9⟩
        have H9 := Lib.hid h9
        have HB9 := Lib.hid (below_step HB8.out hb9)
        clear h9 hb9 H8 HB8
        obtain ⟨s2, hs2⟩ : ∃ s2, ((V * 2 ^ 140 / n % n : Nat) != (0 : Int)) = s2 := ⟨_, rfl⟩
        rw [hs2]
        have HS2 := Lib.hid hs2
        clear hs2
        have HSS := Lib.hid (two_rests (V * 2 ^ 140) n)
        rw [HS1.out, HS2.out] at HSS
        by_cases hV0 : V = 0
        · subst hV0
          have hs1 := HS1.out
          have hs2 := HS2.out
          have h9 := H9.out
          rw [Nat.zero_mul, Nat.zero_div, Nat.zero_mod] at hs2
          rw [Nat.zero_mul, Nat.zero_mod] at hs1
          rw [Nat.zero_mul, Nat.zero_div, Nat.zero_div] at h9
          obtain rfl : false = s1 := hs1
          obtain rfl : false = s2 := hs2
          obtain rfl : l9 = [] := (h9.lb.zero (by decide)).2 rfl
          have hD : 0 < n * n * 2 ^ K74 := Nat.mul_pos (Nat.mul_pos hn1 hn1) (Nat.pow_pos (by decide))
          have HR := Lib.hid (HV5.out 0 (near_zero hD))
          have HRN := Lib.hid (rounded_none (-2288) false w8 A9 c9)
          clear h9 H9 HVB HS1 HS2 HSS HV5 hD
          go_wp2_with fail
          refine HRN.out.mono ?_; rintro e8 w9 ⟨rfl, rfl⟩
          go_wp2
          go_ret
          exact ⟨0, rfl, HR.out, HB9.out⟩
        · have HRN := Lib.hid (c_rounded A9 c9 l9 (-2288) (V * 2 ^ 140) (n * n) (140 + K74) (V * 2 ^ 140 / n / n) (s1 || s2) false w8 H9.out (div_big (div_big HVB.out)) (Nat.div_div_eq_div_mul _ _ _) (Nat.mul_pos hn1 hn1) HSS.out (by unfold K74; decide) (by unfold K74; decide) (by unfold K74; decide) (len70s hV0 (by have := HV4.out; omega) hn1 hn))
          cases s1 <;> cases s2
          all_goals
            go_wp2_with fail
            refine HRN.out.mono ?_; rintro e8 w9 ⟨r, rfl, hr, hbr⟩
            have HR := Lib.hid (HV5.out r (nearK hn1 hr))
            have HBR := Lib.hid (below_step HB9.out hbr)
            clear hr hbr
            go_wp2
            go_ret
            exact ⟨r, rfl, HR.out, HBR.out⟩
end Go.Proofs.YtcohidjaehdbnaaGreatDoor
