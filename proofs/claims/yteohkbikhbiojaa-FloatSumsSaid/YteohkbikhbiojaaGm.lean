/- Walk: the document's spread (quernref22.Spread). Conditions: at most 2^44 floats. -/
import Derived.Test.YteohkbikhbiojaaGl
namespace Go.Proofs.Yteohkbikhbiojaa
open Go.RowKit
set_option linter.unusedVariables false
attribute [local go_sem ↓] Go.wp_at_zero Go.wp_at_succ

theorem all_fin {xs : List Nat} (h1 : hasNan xs = false) (h2 : hasPlus xs = false) (h3 : hasLess xs = false) : ∀ b ∈ xs, ffin b = true := by
  intro b hb
  have a1 : fnan b = false := by
    have := List.any_eq_false.1 h1 b hb
    simpa using this
  have a2 : (finf b && !fsgn b) = false := by
    have := List.any_eq_false.1 h2 b hb
    simpa using this
  have a3 : (finf b && fsgn b) = false := by
    have := List.any_eq_false.1 h3 b hb
    simpa using this
  rcases fcases b with ⟨h, _, _⟩ | ⟨_, _, h⟩ | ⟨_, h, _⟩
  · rw [a1] at h; cases h
  · rw [h] at a2 a3
    revert a2 a3
    cases fsgn b <;> simp
  · exact h
theorem sqN_le {P : Nat} (hP : ∀ b, ffin b = true → kv (fmag b) ≤ P) : ∀ l : List Nat, (∀ b ∈ l, ffin b = true) → sqN l ≤ l.length * (P * P)
  | [], _ => Nat.zero_le _
  | b :: l, h => by
    have ih := sqN_le hP l fun x hx => h x (List.mem_cons_of_mem _ hx)
    have h1 := hP b (h b List.mem_cons_self)
    have h2 := Nat.mul_le_mul h1 h1
    show kv (fmag b) * kv (fmag b) + sqN l ≤ (l.length + 1) * (P * P)
    rw [Nat.add_mul]; omega
theorem sq_sml {xs : List Nat} (hx : xs.length ≤ 17592186044416) (hf : ∀ b ∈ xs, ffin b = true) : sqN xs < nsml ∧ xs.length * sqN xs < nsml ∧ ∀ i, sqN (xs.take i) < nsml := by
  obtain ⟨P, h1, h2, _, h4⟩ := big_P
  have key : ∀ l : List Nat, l.length ≤ 17592186044416 → (∀ b ∈ l, ffin b = true) → sqN l < nsml ∧ l.length * sqN l < nsml := by
    intro l hl hf
    have a := sqN_le h1 l hf
    have b : l.length * (P * P) ≤ 17592186044416 * (P * P) := Nat.mul_le_mul_right _ hl
    have c : l.length * sqN l ≤ 17592186044416 * (17592186044416 * (P * P)) := Nat.mul_le_mul hl (by omega)
    generalize P * P = Q at *
    omega
  obtain ⟨k1, k2⟩ := key xs hx hf
  exact ⟨k1, k2, fun i => (key (xs.take i) (by rw [List.length_take]; omega) fun b hb => hf b (List.mem_of_mem_take hb)).1⟩
theorem IsN.drew {w : World} {k : IntKind} {B : Nat} {A : Option Addr} {c : Nat} {l : List Nat} {N : Nat} (h : IsN w w.heap.size k B A c l N) : IsN w.drew w.drew.heap.size k B A c l N := ⟨h.cap, h.lb, h.rd⟩
/-- What holds ahead of a round of the squares. -/
structure SqR (w wr : World) (xs : List Nat) (i : Nat) (A : Option Addr) (c : Nat) (l : List Nat) : Prop where
  num : IsN wr wr.heap.size .u32 4294967296 A c l (sqN (xs.take i))
  bel : Below w.heap.size w wr
def SpreadR (xs : List Nat) (w : World) (e : Ending) (w' : World) : Prop := ∃ b, e = .returned (.float .f64 b) ∧ IsSpread xs b ∧ Below w.heap.size w w'
set_option maxRecDepth 100000 in
set_option maxHeartbeats 4000000 in
theorem c_rSpread (A0 : Option Addr) (n c0 : Nat) (xs : List Nat) (w : World) (h : Reads w w.heap.size 1 A0 n (f64s xs)) (hb : Bit xs) (hn : n ≤ 17592186044416) :
    Calls Try.prog 11 #[.slice A0 n c0] w (SpreadR xs w) := by
  have hl : xs.length = n := by simpa using h.1
  have HC := Lib.hid (c_rsum A0 n c0 xs w h hb hn)
  have hx : xs.length ≤ 17592186044416 := by omega
  have HTS := Lib.hid (tot_sml hx)
  have HRD := Lib.hid h
  have HXL := Lib.hid hl
  have HBT := Lib.hid hb
  have HX := Lib.hid hx
  clear h hb
  by_cases hedge : (xs.isEmpty || (hasNan xs || hasPlus xs || hasLess xs)) = true
  · have HS : Hid (IsSpread xs 9221120237041090560) := ⟨fun _ => rfl, fun h => by rw [hedge] at h; cases h⟩
    obtain ⟨f1, hf1⟩ : ∃ f, hasNan xs = f := ⟨_, rfl⟩
    obtain ⟨f2, hf2⟩ : ∃ f, hasPlus xs = f := ⟨_, rfl⟩
    obtain ⟨f3, hf3⟩ : ∃ f, hasLess xs = f := ⟨_, rfl⟩
    unfold tcs at HC
    rw [hf1, hf2, hf3] at HC hedge
    have hnz : n = 0 ∨ (n ≠ 0 ∧ (f1 || f2 || f3) = true) := by
      by_cases h0 : n = 0
      · exact .inl h0
      · refine .inr ⟨h0, ?_⟩
        have : xs.isEmpty = false := by
          cases xs with
          | nil => simp at hl; omega
          | cons a l => rfl
        rw [this] at hedge
        simpa using hedge
    clear hl hx hf1 hf2 hf3 hedge
    rcases hnz with rfl | ⟨h0, hfl⟩
    · go_enter Try.func11, Try.ntmps11
      go_wp2_with fail
      refine HC.out.mono ?_; rintro e w1 ⟨A, c, l, rfl, h1, hb1⟩
      have HB1 := Lib.hid hb1
      clear h1 hb1
      go_wp2_with ((go_at_call 19; refine (c_NaN _).mono ?_; rintro e w' ⟨rfl, rfl⟩))
      go_ret
      exact ⟨_, rfl, HS.out, HB1.out.alloc HB1.out.size _⟩
    · have hn0 : ((n : Int) == 0) = false := by simpa using h0
      cases f1 <;> cases f2 <;> cases f3 <;> first | (exact absurd hfl (by decide)) | skip
      all_goals
        clear hfl
        go_enter Try.func11, Try.ntmps11
        go_wp2_with fail
        refine HC.out.mono ?_; rintro e w1 ⟨A, c, l, rfl, h1, hb1⟩
        have HB1 := Lib.hid hb1
        clear h1 hb1
        go_wp2_with ((go_at_call 19; refine (c_NaN _).mono ?_; rintro e w' ⟨rfl, rfl⟩))
        go_ret
        exact ⟨_, rfl, HS.out, HB1.out.alloc HB1.out.size _⟩
  · have hedge' : (xs.isEmpty || (hasNan xs || hasPlus xs || hasLess xs)) = false := by simpa using hedge
    have HED := Lib.hid hedge'
    obtain ⟨hne, hf1, hf2, hf3⟩ : xs.isEmpty = false ∧ hasNan xs = false ∧ hasPlus xs = false ∧ hasLess xs = false := by
      revert hedge'
      cases xs.isEmpty <;> cases hasNan xs <;> cases hasPlus xs <;> cases hasLess xs <;> simp
    have hn1 : 0 < n := by
      cases xs with
      | nil => simp at hne
      | cons a l => simp at hl; omega
    have HF := Lib.hid (all_fin hf1 hf2 hf3)
    have HQ := Lib.hid (sq_sml hx HF.out)
    unfold tcs at HC
    rw [hf1, hf2, hf3] at HC
    clear hl hx hf1 hf2 hf3 hedge hedge' hne
    have hn0 : ((n : Int) == 0) = false := by simp; omega
    go_enter Try.func11, Try.ntmps11
    go_wp2_with fail
    refine HC.out.mono ?_; rintro e w1 ⟨A, c, l, rfl, h1, hb1⟩
    have HB1 := Lib.hid hb1
    have H1 := Lib.hid h1
    clear h1 hb1 HC
    go_wp2_with fail
    generalize decide (posN xs < negN xs) = mi at *
    generalize nghts n xs = an at *
    have HK := Lib.hid (Blk.new w1 35 #[.slice A l.length c, .bool mi, .bool false, .bool false, .bool false, .bool an])
    have HBA := Lib.hid ((Below.refl w1.heap.size w1).alloc (Nat.le_refl _) (.cells #[.slice A l.length c, .bool mi, .bool false, .bool false, .bool false, .bool an] 35))
    have HBB := Lib.hid (below_step HB1.out HBA.out)
    have H1a := Lib.hid (H1.out.below HBA.out)
    have HRDa := Lib.hid (HRD.out.below HBB.out)
    obtain ⟨L, hL⟩ : ∃ L, l.length = L := ⟨_, rfl⟩
    rw [hL] at HK HBA HBB H1a HRDa ⊢
    have HLL := Lib.hid hL
    have hgz := HK.out.lt
    clear hL
    generalize hg : w1.heap.size = g at *
    generalize w1.alloc (.cells #[.slice A L c, .bool mi, .bool false, .bool false, .bool false, .bool an] 35) = W0 at *
    clear H1 HBA HB1 hg
    go_loopw [4, 5] (fun va vi wr => ∃ (i : Nat) (A2 : Option Addr) (c2 : Nat) (l2 : List Nat), va = .slice A2 l2.length c2 ∧ vi = .int .i64 i ∧ i ≤ n ∧ SqR W0 wr xs i A2 c2 l2) (fun _ vi _ => n - (intOf vi).toNat)
    case atStart => exact ⟨0, none, 0, [], rfl, rfl, Nat.zero_le _, ⟨IsN.nil, Below.refl _ _⟩⟩
    case round =>
      obtain ⟨i, A2, c2, l2, rfl, rfl, hi, HS⟩ := hrel
      by_cases hlt : i < n
      · obtain ⟨bb, off, rfl, hbB, hbw, hcells⟩ := HRD.out.form (by omega)
        have hc1 : wr.cell? ⟨bb, off + i, none⟩ = some (.float .f64 (xs.getD i 0)) := by
          rw [(bcell (below_step HBB.out HS.bel)).1 _ _ hbw, hcells i hlt, f64_get (by rw [HXL.out]; exact hlt)]
        have hbb := HBT.out.get i
        have HT := Lib.hid (take_one xs (i := i) (by rw [HXL.out]; exact hlt))
        have HFB : Hid (ffin (xs.getD i 0) = true) := HF.out _ (by
          have := HXL.out
          rw [List.getD, List.getElem?_eq_getElem (show i < xs.length by omega)]
          exact List.getElem_mem _)
        clear hcells
        generalize xs.getD i 0 = b at *
        have HBI := Lib.hid (c_rbits b hbb)
        have hmb : b % 9223372036854775808 < 9223372036854775808 := Nat.mod_lt _ (by decide)
        obtain ⟨m, hm⟩ : ∃ m, b % 9223372036854775808 = m := ⟨_, rfl⟩
        rw [hm] at HBI hmb
        have HKM : Hid (fmag b = m) := hm
        clear hm
        have HPT := Lib.hid (c_parts2 m hmb)
        have HPS : Hid (psig m < 18446744073709551616) := by have := psig_lt (m := m); show _ < _; omega
        have hkx : kx m ≤ 1000000 := by have := kx_le hmb; omega
        have HKS : Hid (kv m < nbig) := by
          have h2 := kv_sml HFB.out
          rw [HKM.out] at h2
          exact nsml_big h2
        have HSQ : Hid (kv m * kv m < nbig) := by
          obtain ⟨P, p1, _, _, p4⟩ := big_P
          have h1 := p1 b HFB.out
          rw [HKM.out] at h1
          have h2 := Nat.mul_le_mul h1 h1
          have h3 : kv m * kv m < nsml := by
            generalize P * P = Q at *
            omega
          exact nsml_big h3
        go_wp2_with fail
        refine (HBI.out _).mono ?_; rintro e1 w2 ⟨rfl, rfl⟩
        go_wp2_with fail
        refine (HPT.out _).mono ?_; rintro e1 w2 ⟨rfl, rfl⟩
        go_wp2_with fail
        refine (c_from (psig m) HPS.out _).mono ?_; rintro e1 w2 ⟨A3, c3, l3, rfl, h3, hb3⟩
        have HB3 := Lib.hid hb3
        have H3 := Lib.hid h3
        clear h3 hb3
        go_wp2_with fail
        refine (c_up A3 c3 l3 (kx m) (psig m) _ H3.out (word_big HPS.out) hkx).mono ?_; rintro e2 w3 ⟨A4, c4, l4, rfl, h4, hb4⟩
        have HB4 := Lib.hid (below_step HB3.out hb4)
        have H4 := Lib.hid h4
        clear h4 hb4 H3 HB3
        rw [← kv_psig] at H4
        go_wp2_with fail
        refine (c_rmul _ _ _ _ _ _ _ _ _ H4.out H4.out HKS.out HKS.out).mono ?_; rintro e3 w4 ⟨A5, c5, l5, rfl, h5, hb5⟩
        have HB5 := Lib.hid (below_step HB4.out hb5)
        have H5 := Lib.hid h5
        have H6 := Lib.hid (HS.num.below (below_step HB4.out hb5))
        clear h5 hb5 H4 HB4
        go_wp2_with fail
        refine (c_radd _ _ _ _ _ _ _ _ _ H6.out H5.out (nsml_big (HQ.out.2.2 i)) HSQ.out).mono ?_; rintro e4 w5 ⟨A6, c6, l6, rfl, h6, hb6⟩
        have HB6 := Lib.hid (below_step HS.bel (below_step HB5.out hb6))
        have H7 : Hid (IsN w5 w5.heap.size .u32 4294967296 A6 c6 l6 (sqN (xs.take (i + 1)))) := by
          show IsN _ _ _ _ _ _ _ _
          rw [HT.out, sqN_app, sqN_one, HKM.out]
          exact h6
        clear h6 hb6 H5 H6 HB5
        go_wp2
        go_roundw
        case rel => exact ⟨i + 1, A6, c6, l6, rfl, by go_num, hlt, ⟨H7.out, HB6.out⟩⟩
        case measure => simp [intOf]; omega
      · have HIK : Hid (xs.take i = xs) := by
          have := HXL.out
          show _ = _
          rw [List.take_of_length_le (by omega)]
        have HN := Lib.hid HS.num
        rw [HIK.out] at HN
        have HB := Lib.hid HS.bel
        have HKw := Lib.hid (HK.out.below HB.out hgz)
        have HTw := Lib.hid (H1a.out.below HB.out)
        have hgw : g < wr.heap.size := HKw.out.lt
        clear HS HK H1a HIK
        have hwn := wrap_small (z := n) (by omega)
        have hnw : n < 18446744073709551616 := by omega
        have HNB := Lib.hid (word_big hnw)
        have HD : Hid (n * n * (1 * 2 ^ (K74 + K74)) < nsml ∧ 0 < n * n * (1 * 2 ^ (K74 + K74)) ∧ 1 * 2 ^ (K74 + K74) < nbig ∧ n * n < nbig) := by
          have hnn : n * n < 2 ^ 100 := Nat.lt_of_le_of_lt (Nat.mul_le_mul hn hn) (by decide)
          refine ⟨by rw [Nat.one_mul]; exact pow_sml (by unfold K74 sexp; decide) hnn, Nat.mul_pos (Nat.mul_pos hn1 hn1) (Nat.mul_pos (by decide) (Nat.pow_pos (by decide))), nsml_big (pow_sml (a := 1) (by unfold K74 sexp; decide) (by decide)), ?_⟩
          have := pow_sml (k := 0) (Nat.zero_le _) hnn
          rw [Nat.pow_zero, Nat.mul_one] at this
          exact nsml_big this
        have HSB : Hid (totN xs * totN xs ≤ n * sqN xs ∧ n * sqN xs < nsml ∧ n * sqN xs - totN xs * totN xs < nsml) := by
          have h1 := tot_sq xs
          have h2 := HQ.out.2.1
          rw [HXL.out] at h1 h2
          exact ⟨h1, h2, by omega⟩
        have HF1 : Hid (∀ w, Calls Try.prog 33 #[.int .u64 1] w (NewN .u32 4294967296 1 w)) := fun w => c_from 1 (by decide) w
        have HFN := Lib.hid (fun (w : World) => c_from n hnw w)
        have HEND : Hid (∀ r, Near ((n * sqN xs - totN xs * totN xs) * 2 ^ K74) (n * n * (1 * 2 ^ (K74 + K74))) r → IsSpread xs r) := fun r hr => ⟨fun h => (by rw [HED.out] at h; cases h), fun _ => by
          rw [HXL.out]
          refine hr.scale (Nat.mul_pos (Nat.mul_pos hn1 hn1) (Nat.mul_pos (by decide) (Nat.pow_pos (by decide)))) (Nat.mul_pos (Nat.mul_pos hn1 hn1) (Nat.pow_pos (by decide))) ?_
          rw [Nat.one_mul, Nat.pow_add, Nat.mul_assoc, Nat.mul_left_comm (2 ^ K74)]⟩
        have hnlt : ¬ i < n := hlt
        clear hlt hn1 hi
        go_wp2_with fail
        refine (HFN.out _).mono ?_; rintro e1 w2 ⟨A3, c3, l3, rfl, h3, hb3⟩
        have H3 := Lib.hid h3
        have HNw := Lib.hid (HN.out.below hb3)
        have HTx := Lib.hid (HTw.out.below hb3)
        have HKx := Lib.hid (HKw.out.below hb3 hgw)
        have HBx := Lib.hid (below_step HB.out hb3)
        have hgx : g < w2.heap.size := HKx.out.lt
        clear h3 hb3 HN HTw HKw HB
        go_wp2_with fail
        go_region_held3 (fun V => V.cell? ⟨g, 0, none⟩ = some (.slice A L c)) (first | exact HKx.out.drew.cell 0 | exact HKx.out.cell 0 | go_keep) (first
          | (go_at_call 36; refine (c_rsub _ _ _ _ _ _ _ _ _ H4.out H5.out (nsml_big HSB.out.2.1) HSB.out.1).mono ?_; rintro e w5 ⟨A6, c6, l6, rfl, h6, hb6⟩; have H6 := Lib.hid h6; have H3 := Lib.hid (H3.out.below hb6); have HBx := Lib.hid (below_step HBx.out hb6); have HKx := Lib.hid (HKx.out.below hb6 HKx.out.lt); clear h6 hb6)
          | (go_at_call 35; (with_reducible refine (c_rmul _ _ _ _ _ _ _ _ w2.drew (H3.out.drew) (HNw.out.drew) HNB.out (nsml_big HQ.out.1)).mono ?_); rintro e w3 ⟨A4, c4, l4, rfl, h4, hb4⟩; have hb4 : Below w2.heap.size w2 w3 := ⟨hb4.os, hb4.tape, hb4.output, hb4.size, hb4.block⟩; have H4 := Lib.hid h4; have H3 := Lib.hid (H3.out.below hb4); have HTx := Lib.hid (HTx.out.below hb4); have HBx := Lib.hid (below_step HBx.out hb4); have HKx := Lib.hid (HKx.out.below hb4 HKx.out.lt); clear h4 hb4)
          | (go_at_call 35; rw [← HLL.out]; refine (c_rmul _ _ _ _ _ _ _ _ _ HTx.out HTx.out (nsml_big HTS.out.2.2) (nsml_big HTS.out.2.2)).mono ?_; rintro e w4 ⟨A5, c5, l5, rfl, h5, hb5⟩; have H5 := Lib.hid h5; have H4 := Lib.hid (H4.out.below hb5); have H3 := Lib.hid (H3.out.below hb5); have HBx := Lib.hid (below_step HBx.out hb5); have HKx := Lib.hid (HKx.out.below hb5 HKx.out.lt); clear h5 hb5))
        go_wp2_with fail
        refine (c_rmul _ _ _ _ _ _ _ _ _ H3.out H3.out HNB.out HNB.out).mono ?_; rintro e6 w6 ⟨A7, c7, l7, rfl, h7, hb7⟩
        have H7 := Lib.hid h7
        have H6 := Lib.hid (H6.out.below hb7)
        have HB7 := Lib.hid (below_step HBx.out hb7)
        clear h7 hb7 H3 HBx
        go_wp2_with fail
        refine (HF1.out _).mono ?_; rintro e7 w7 ⟨A8, c8, l8, rfl, h8, hb8⟩
        have H8 := Lib.hid h8
        have H6 := Lib.hid (H6.out.below hb8)
        have H7 := Lib.hid (H7.out.below hb8)
        have HB8 := Lib.hid (below_step HB7.out hb8)
        clear h8 hb8 HB7
        go_wp2_with fail
        refine (c_up _ _ _ (K74 + K74) _ _ H8.out two_big (by unfold K74; decide)).mono ?_; rintro e8 w8 ⟨A9, c9, l9, rfl, h9, hb9⟩
        have H9 := Lib.hid h9
        have H6 := Lib.hid (H6.out.below hb9)
        have H7 := Lib.hid (H7.out.below hb9)
        have HB9 := Lib.hid (below_step HB8.out hb9)
        clear h9 hb9 HB8 H8
        go_wp2_with fail
        refine (c_rmul _ _ _ _ _ _ _ _ _ H7.out H9.out HD.out.2.2.2 HD.out.2.2.1).mono ?_; rintro e9 w9 ⟨A10, c10, l10, rfl, h10, hb10⟩
        have H10 := Lib.hid h10
        have H6 := Lib.hid (H6.out.below hb10)
        have HB10 := Lib.hid (below_step HB9.out hb10)
        clear h10 hb10 HB9 H9 H7
        go_wp2_with fail
        refine (c_nearest _ _ _ _ _ _ _ _ _ H6.out H10.out HSB.out.2.2 HD.out.1 HD.out.2.1).mono ?_; rintro e10 w10 ⟨r, rfl, hr, hb11⟩
        have HR := Lib.hid (HEND.out r hr)
        have hrl := near_lt hr
        have HB11 := Lib.hid (below_step HBB.out (below_step HB10.out hb11))
        clear hr hb11 HB10
        go_wp2_with fail
        refine (c_signed r false hrl _).mono ?_; rintro e11 w11 ⟨rfl, rfl⟩
        go_wp2
        go_ret
        exact ⟨r, rfl, HR.out, HB11.out⟩
end Go.Proofs.Yteohkbikhbiojaa
