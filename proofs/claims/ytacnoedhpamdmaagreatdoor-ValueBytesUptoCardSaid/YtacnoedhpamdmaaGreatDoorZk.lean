/- Walks: the document's reader of bytes: text and float. Conditions: as stated. -/
import Derived.Test.YtacnoedhpamdmaaGreatDoorZj
namespace Go.Proofs.YtacnoedhpamdmaaGreatDoor
open Go.RowKit
set_option linter.unusedVariables false
set_option linter.unusedSimpArgs false
attribute [local go_sem ↓] Go.wp_at_zero Go.wp_at_succ

theorem rtx_short {xs : List Int} {h : Bool} {a : Nat} (h1 : xs.length < a + 4) : rtx xs h a = .bad a 3 := by unfold rtx; rw [if_pos h1]
theorem rtx_out {xs : List Int} {a : Nat} (h1 : ¬ xs.length < a + 4) (h2 : numL (sub xs a 4) < 1 ∨ 64 < numL (sub xs a 4)) : rtx xs true a = .bad a 4 := by unfold rtx; rw [if_neg h1, if_pos ⟨rfl, h2⟩]
theorem rtx_cut {xs : List Int} {h : Bool} {a : Nat} (h1 : ¬ xs.length < a + 4) (h2 : ¬ (h = true ∧ (numL (sub xs a 4) < 1 ∨ 64 < numL (sub xs a 4)))) (h3 : xs.length < a + 4 + numL (sub xs a 4)) : rtx xs h a = .bad (a + 4) 3 := by unfold rtx; rw [if_neg h1, if_neg h2, if_pos h3]
theorem rtx_ok {xs : List Int} {h : Bool} {a : Nat} (h1 : ¬ xs.length < a + 4) (h2 : ¬ (h = true ∧ (numL (sub xs a 4) < 1 ∨ 64 < numL (sub xs a 4)))) (h3 : ¬ xs.length < a + 4 + numL (sub xs a 4)) : rtx xs h a = .ok (strL (sub xs (a + 4) (numL (sub xs a 4)))) (a + 4 + numL (sub xs a 4)) := by unfold rtx; rw [if_neg h1, if_neg h2, if_neg h3]
set_option maxRecDepth 100000 in
set_option maxHeartbeats 2000000 in
theorem c_rtext (g a : Nat) (hd : Bool) (A : Option Addr) (N c : Nat) (q pl : Int) (xs : List Int) (w : World) (hB : Blk w g 102 (RnC A N c a q pl 0)) (hr : Reads w g 1 A N (u8s xs)) (hx : Bts xs) (ha : a ≤ N) (hN : N ≤ 1048576) (hNc : N ≤ c) (hc : c ≤ 9223372036854775807) :
    Calls Tryz.prog 99 #[.pointer (some ⟨g, 0, none⟩), .bool hd] w fun e w' => RTx w g A N c q pl (rtx xs hd a) e w' := by
  have hl : xs.length = N := by simpa using hr.1
  have hgl : g < w.heap.size := hB.lt
  have HB := Lib.hid hB
  have HR := Lib.hid hr
  have HX := Lib.hid hx
  have HL := Lib.hid hl
  have c1 : w.cell? ⟨g, 1, none⟩ = some (.int .i64 (a : Int)) := hB.cell 1
  by_cases h1 : N < a + 4
  · have HQ : Hid (rtx xs hd a = .bad a 3) := rtx_short (by rw [hl]; exact h1)
    have HW := Lib.hid (c_rword_bad g a 4 A N c q pl w hB ha hN h1 (by decide) (by decide))
    clear hB hr hx hl
    go_enter Tryz.func99, Tryz.ntmps99
    go_wp2_with fail
    refine HW.out.mono ?_; rintro e w2 ⟨rfl, hb2, hg2⟩
    have HB2 := Lib.hid hb2
    have HG2 := Lib.hid hg2
    have d4 : w2.cell? ⟨g, 4, none⟩ = some (.int .i64 3) := hb2.cell 4
    clear hb2 hg2 HW
    go_wp2_with fail
    refine (c_rtake_e g a 0 A N c q (a : Int) 3 w2 HB2.out (by decide)).mono ?_; rintro e w3 ⟨rfl, k, rfl⟩
    go_wp2_with fail
    go_ret
    rw [HQ.out]
    exact ⟨⟨⟨#[]⟩, a, rfl, HB2.out.drewN k⟩, only_drewN HG2.out k⟩
  have hw := c_rword g a 4 A N c q pl xs w hB hr hx hN hNc hc (by omega) (by decide)
  have hM : numL (sub xs a 4) < 4294967296 := by
    have := numL_lt _ (sub_bts hx a 4)
    rw [sub_len (by omega)] at this
    omega
  obtain ⟨M, hMe⟩ : ∃ M, numL (sub xs a 4) = M := ⟨_, rfl⟩
  have HME := Lib.hid hMe
  rw [hMe] at hw hM
  have HW := Lib.hid hw
  have tail : ∀ (w2 : World), Blk w2 g 102 (RnC A N c (a + 4) q pl 0) → w.grownBy w2 (some g) → ¬ (hd = true ∧ (M < 1 ∨ 64 < M)) → Calls Tryz.prog 119 #[.pointer (some ⟨g, 0, none⟩), .int .i64 (M : Int)] w2 fun e w' => RTx w g A N c q pl (rtx xs hd a) e w' := by
    intro w2 hb2 hg2 hh
    have hr2 : Reads w2 g 1 A N (u8s xs) := Reads.grown HR.out hg2 (Nat.le_of_lt hgl) (fun _ h => by injection h with h; omega)
    by_cases h3 : N < a + 4 + M
    · rw [rtx_cut (by rw [hl]; exact h1) (by rw [HME.out]; exact hh) (by rw [hl, HME.out]; exact h3)]
      refine (c_rtake_bad g (a + 4) M A N c q pl w2 hb2 (by omega) hN h3 hM).mono ?_
      rintro e w3 ⟨rfl, hb3, hg3⟩
      exact ⟨⟨⟨#[]⟩, a + 4, rfl, hb3⟩, only_trans hg2 hg3⟩
    · rw [rtx_ok (by rw [hl]; exact h1) (by rw [HME.out]; exact hh) (by rw [hl, HME.out]; exact h3), HME.out]
      refine (c_rtake g (a + 4) M A N c q pl xs w2 hb2 hr2 hN hNc hc (by omega)).mono ?_
      rintro e w3 ⟨rfl, hb3, hg3⟩
      exact ⟨rfl, hb3, only_trans hg2 hg3⟩
  have HTL := Lib.hid tail
  have h1' : ¬ xs.length < a + 4 := by rw [hl]; exact h1
  have HOUT : Hid (hd = true → (M < 1 ∨ 64 < M) → rtx xs hd a = .bad a 4) := fun e h => by subst e; exact rtx_out h1' (by rw [HME.out]; exact h)
  clear hB hr hx hl hw hMe tail h1' HR HX HL HME
  cases hd with
  | false =>
    go_enter Tryz.func99, Tryz.ntmps99
    go_wp2_with fail
    refine HW.out.mono ?_; rintro e w2 ⟨rfl, hb2, hg2⟩
    have HB2 := Lib.hid hb2
    have HG2 := Lib.hid hg2
    have d4 : w2.cell? ⟨g, 4, none⟩ = some (.int .i64 0) := hb2.cell 4
    clear hb2 hg2 HW
    go_wp2_with fail
    refine (HTL.out w2 HB2.out HG2.out (fun h => by cases h.1)).mono ?_
    intro e w3 h3
    cases hrt : rtx xs false a with
    | ok s a' =>
      rw [hrt] at h3
      obtain ⟨rfl, hb3, hg3⟩ := h3
      go_wp2_with fail
      go_ret
      rw [hrt]
      exact ⟨rfl, hb3, hg3⟩
    | bad a4 e4 =>
      rw [hrt] at h3
      obtain ⟨⟨s, a', rfl, hb3⟩, hg3⟩ := h3
      go_wp2_with fail
      go_ret
      rw [hrt]
      exact ⟨⟨s, a', rfl, hb3⟩, hg3⟩
  | true =>
    by_cases h4 : M < 1
    · have HQ : Hid (rtx xs true a = .bad a 4) := HOUT.out rfl (.inl h4)
      have hm1 : (M : Int) < 1 := by omega
      have hm0 : M = 0 := by omega
      subst hm0
      clear hm1 h4
      go_enter Tryz.func99, Tryz.ntmps99
      go_wp2_with fail
      refine HW.out.mono ?_; rintro e w2 ⟨rfl, hb2, hg2⟩
      have HB2 := Lib.hid hb2
      have HG2 := Lib.hid hg2
      have d4 : w2.cell? ⟨g, 4, none⟩ = some (.int .i64 0) := hb2.cell 4
      clear hb2 hg2 HW
      go_wp2_with fail
      refine (c_rfail g (a + 4) A N c q pl _ 4 _ HB2.out).mono ?_; rintro e w3 ⟨rfl, hb3, hg3⟩
      have HB3 := Lib.hid hb3
      have HG3 := Lib.hid (only_trans HG2.out hg3)
      clear hb3 hg3 d4
      go_wp2_with fail
      refine (c_rtake_e g (a + 4) 0 A N c q (a : Int) 4 w3 HB3.out (by decide)).mono ?_; rintro e w4 ⟨rfl, k, rfl⟩
      go_wp2_with fail
      go_ret
      rw [HQ.out]
      exact ⟨⟨⟨#[]⟩, a + 4, rfl, HB3.out.drewN k⟩, only_drewN HG3.out k⟩
    have d1 : decide ((M : Int) < 1) = false := by simp; omega
    by_cases h5 : 64 < M
    · have HQ : Hid (rtx xs true a = .bad a 4) := HOUT.out rfl (.inr h5)
      have d2 : decide ((64 : Int) < (M : Int)) = true := by simp; omega
      have HM5 := Lib.hid h5
      have HM4 := Lib.hid h4
      have HMM := Lib.hid hM
      have hwm : IntKind.i64.wrap (M : Int) = (M : Int) := IntWalk.i64_in _ (by omega)
      clear h4 h5 hM
      go_enter Tryz.func99, Tryz.ntmps99
      go_wp2_with fail
      refine HW.out.mono ?_; rintro e w2 ⟨rfl, hb2, hg2⟩
      have HB2 := Lib.hid hb2
      have HG2 := Lib.hid hg2
      have d4 : w2.cell? ⟨g, 4, none⟩ = some (.int .i64 0) := hb2.cell 4
      clear hb2 hg2 HW
      go_wp2_with fail
      refine (c_rfail g (a + 4) A N c q pl _ 4 _ HB2.out).mono ?_; rintro e w3 ⟨rfl, hb3, hg3⟩
      have HB3 := Lib.hid hb3
      have HG3 := Lib.hid (only_trans HG2.out hg3)
      clear hb3 hg3 d4
      go_wp2_with fail
      refine (c_rtake_e g (a + 4) M A N c q (a : Int) 4 w3 HB3.out (by decide)).mono ?_; rintro e w4 ⟨rfl, k, rfl⟩
      go_wp2_with fail
      go_ret
      rw [HQ.out]
      exact ⟨⟨⟨#[]⟩, a + 4, rfl, HB3.out.drewN k⟩, only_drewN HG3.out k⟩
    have d2 : decide ((64 : Int) < (M : Int)) = false := by simp; omega
    have HNO : Hid (¬ (true = true ∧ (M < 1 ∨ 64 < M))) := fun h => h.2.elim h4 h5
    have HMM := Lib.hid hM
    have hwm : IntKind.i64.wrap (M : Int) = (M : Int) := IntWalk.i64_in _ (by omega)
    clear h4 h5 hM
    go_enter Tryz.func99, Tryz.ntmps99
    go_wp2_with fail
    refine HW.out.mono ?_; rintro e w2 ⟨rfl, hb2, hg2⟩
    have HB2 := Lib.hid hb2
    have HG2 := Lib.hid hg2
    have d4 : w2.cell? ⟨g, 4, none⟩ = some (.int .i64 0) := hb2.cell 4
    clear hb2 hg2 HW
    go_wp2_with fail
    refine (HTL.out w2 HB2.out HG2.out HNO.out).mono ?_
    intro e w3 h3
    cases hrt : rtx xs true a with
    | ok s a' =>
      rw [hrt] at h3
      obtain ⟨rfl, hb3, hg3⟩ := h3
      go_wp2_with fail
      go_ret
      rw [hrt]
      exact ⟨rfl, hb3, hg3⟩
    | bad a4 e4 =>
      rw [hrt] at h3
      obtain ⟨⟨s, a', rfl, hb3⟩, hg3⟩ := h3
      go_wp2_with fail
      go_ret
      rw [hrt]
      exact ⟨⟨s, a', rfl, hb3⟩, hg3⟩
theorem c_rtext_e (g a : Nat) (hd : Bool) (A : Option Addr) (N c : Nat) (q pl e0 : Int) (w : World) (hB : Blk w g 102 (RnC A N c a q pl e0)) (he : e0 ≠ 0) :
    Calls Tryz.prog 99 #[.pointer (some ⟨g, 0, none⟩), .bool hd] w fun e w' => e = .returned (.string ⟨#[]⟩) ∧ Blk w' g 102 (RnC A N c a q pl e0) ∧ w.grownBy w' (some g) := by
  have HW := Lib.hid (c_rword_e g a 4 A N c q pl e0 w hB he (by decide) (by decide))
  have HE := Lib.hid he
  have h0 : (e0 == 0) = false := by simpa using he
  have c1 : w.cell? ⟨g, 1, none⟩ = some (.int .i64 (a : Int)) := hB.cell 1
  clear hB he
  go_enter Tryz.func99, Tryz.ntmps99
  go_wp2_with fail
  refine HW.out.mono ?_; rintro e w2 ⟨rfl, hb2, hg2⟩
  have HB2 := Lib.hid hb2
  have HG2 := Lib.hid hg2
  have d4 : w2.cell? ⟨g, 4, none⟩ = some (.int .i64 e0) := hb2.cell 4
  clear hb2 hg2 HW
  go_wp2_with fail
  refine (c_rtake_e g a 0 A N c q pl e0 w2 HB2.out HE.out).mono ?_; rintro e w3 ⟨rfl, k, rfl⟩
  go_wp2_with fail
  go_ret
  exact ⟨rfl, HB2.out.drewN k, only_drewN HG2.out k⟩
theorem c_rOfZ (b : Nat) (w : World) : Calls Tryz.prog 121 #[.int .u64 (b : Int)] w fun e w' => e = .returned (.float .f64 (fone b)) ∧ w = w' := by
  have hc := call_frombits b
  have hc2 := call_frombits (fone b)
  go_enter Tryz.func121, Tryz.ntmps121
  go_wp2_with (go_at_call 42; refine (c_rOne b _).mono ?_; rintro e w' ⟨rfl, rfl⟩)
  go_ret
  exact ⟨rfl, rfl⟩
theorem fnan_oneZ : fnan 9221120237041090560 = true := by decide +kernel
theorem fone_foneZ (b : Nat) : fone (fone b) = fone b := by
  rcases h : fnan b with _ | _
  · rw [fone_no h, fone_no h]
  · rw [fone_yes h, fone_yes fnan_oneZ]

set_option maxHeartbeats 1000000 in
theorem c_rfloat (g a : Nat) (A : Option Addr) (N c : Nat) (q pl : Int) (xs : List Int) (w : World) (hB : Blk w g 102 (RnC A N c a q pl 0)) (hr : Reads w g 1 A N (u8s xs)) (hx : Bts xs) (hN : N ≤ 1048576) (hNc : N ≤ c) (hc : c ≤ 9223372036854775807) (hn : a + 8 ≤ N) (M : Nat) (hM : numL (sub xs a 8) = M) :
    Calls Tryz.prog 98 #[.pointer (some ⟨g, 0, none⟩)] w fun e w' => e = .returned (.float .f64 (fone M)) ∧ (fone M = M → Blk w' g 102 (RnC A N c (a + 8) q pl 0)) ∧ (fone M ≠ M → Blk w' g 102 (RnC A N c (a + 8) q (a : Int) 4)) ∧ w.grownBy w' (some g) := by
  have hW := c_rword g a 8 A N c q pl xs w hB hr hx hN hNc hc hn (Nat.le_refl _)
  rw [hM] at hW
  have HW := Lib.hid hW
  have HOF : Hid (∀ W, Calls Tryz.prog 121 #[.int .u64 (M : Int)] W fun e w' => e = .returned (.float .f64 (fone M)) ∧ W = w') := fun W => c_rOfZ M W
  have HON : Hid (∀ W, Calls Tryz.prog 42 #[.float .f64 (fone M)] W fun e w' => e = .returned (.int .u64 (fone M : Nat)) ∧ W = w') := fun W => by
    have := c_rOne (fone M) W
    rw [fone_foneZ] at this; exact this
  have c1 : w.cell? ⟨g, 1, none⟩ = some (.int .i64 (a : Int)) := hB.cell 1
  clear hB hr hx hM hW
  generalize fone M = F at *
  go_enter Tryz.func98, Tryz.ntmps98
  go_wp2_with fail
  refine HW.out.mono ?_; rintro e w2 ⟨rfl, hb2, hg2⟩
  have HB2 := Lib.hid hb2
  have HG2 := Lib.hid hg2
  have d4 : w2.cell? ⟨g, 4, none⟩ = some (.int .i64 0) := hb2.cell 4
  clear hb2 hg2 HW c1
  go_wp2_with fail
  refine (HOF.out _).mono ?_; rintro e w3 ⟨rfl, rfl⟩
  by_cases hF : F = M
  · have t1 : ((F : Int) != (M : Int)) = false := by simp; omega
    have HF := Lib.hid hF
    clear hF
    go_wp2_with (go_at_call 42; refine (HON.out _).mono ?_; rintro e w4 ⟨rfl, rfl⟩)
    go_ret
    exact ⟨rfl, fun _ => HB2.out, fun h => absurd HF.out h, HG2.out⟩
  · have t1 : ((F : Int) != (M : Int)) = true := by simp; omega
    have HF := Lib.hid hF
    clear hF
    go_wp2_with (first | (go_at_call 42; refine (HON.out _).mono ?_; rintro e w4 ⟨rfl, rfl⟩) | (go_at_call 68; refine (c_rfail g (a + 8) A N c q pl _ 4 _ HB2.out).mono ?_; rintro e w5 ⟨rfl, hb5, hg5⟩))
    go_ret
    exact ⟨rfl, fun h => absurd h HF.out, fun _ => hb5, only_trans HG2.out hg5⟩
end Go.Proofs.YtacnoedhpamdmaaGreatDoor
