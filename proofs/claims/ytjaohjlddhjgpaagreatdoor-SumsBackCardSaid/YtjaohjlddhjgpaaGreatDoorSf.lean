/- Walks of the reference: a mark ahead of a line, a number in base ten, an entry's line (quernref26.ahead, digits, Plain). Conditions: lengths within the reach. -/
import Derived.Test.YtjaohjlddhjgpaaGreatDoorSe
import Derived.BigQuiet
namespace Go.Proofs.YtjaohjlddhjgpaaGreatDoor
open Go.RowKit
set_option linter.unusedVariables false
attribute [local go_sem ↓] Go.wp_at_zero Go.wp_at_succ

theorem c_rahead (s : ByteArray) (hs : s.size ≤ 70368744175616) (w : World) : Calls Tryz.prog 25 #[.string s] w fun e w' => e = .returned (bstr (ahd s)) ∧ Below w.heap.size w w' := by
  have HC := Lib.hid (fun W => c_escaped s hs W)
  have HA : Hid (ahd s = if escD s = true then [92] else []) := rfl
  have HD : Hid (escD s = !(esc s.data.toList == s.toList)) := rfl
  generalize esc s.data.toList = m at *
  go_enter Tryz.func25, Tryz.ntmps25
  go_wp2_with fail
  refine (HC.out _).mono ?_
  rintro e w1 ⟨rfl, hb1⟩
  have HB := Lib.hid hb1
  clear hb1
  go_wp2_with fail
  · rename (!m == s.toList) = true => hm
    go_ret
    exact ⟨by rw [HA.out, HD.out, if_pos hm]; rfl, HB.out⟩
  · rename _ = false => hm
    go_ret
    exact ⟨by rw [HA.out, HD.out, if_neg (by rw [hm]; simp)]; rfl, HB.out⟩
theorem cut_dig (k : Nat) (h : k < 10) : ((⟨#[48, 49, 50, 51, 52, 53, 54, 55, 56, 57]⟩ : ByteArray).extract k (k + 1)) = ⟨[UInt8.ofNat (48 + k)].toArray⟩ := by
  have : k = 0 ∨ k = 1 ∨ k = 2 ∨ k = 3 ∨ k = 4 ∨ k = 5 ∨ k = 6 ∨ k = 7 ∨ k = 8 ∨ k = 9 := by omega
  rcases this with rfl | rfl | rfl | rfl | rfl | rfl | rfl | rfl | rfl | rfl <;> rfl
set_option maxRecDepth 100000 in
theorem c_rdigits : ∀ (v : Nat), v ≤ 1125899906842624 → ∀ (w : World), Calls Tryz.prog 32 #[.int .i64 (v : Int)] w fun e w' => e = .returned (bstr (Lib.decDigits v)) ∧ ∃ k, w' = w.drewN k := by
  intro v
  induction v using Nat.strongRecOn with
  | _ v ih =>
  intro hv w
  by_cases h10 : v < 10
  · have HD : Hid (Lib.decDigits v = [UInt8.ofNat (48 + v)]) := dig_small h10
    have hcut := cut_dig v h10
    generalize UInt8.ofNat (48 + v) = ch at *
    have g1 : (v : Int) < 10 := by omega
    go_enter Tryz.func32, Tryz.ntmps32
    go_wp2_with fail
    go_ret
    exact ⟨by rw [HD.out]; rfl, 0, rfl⟩
  · have HD : Hid (Lib.decDigits v = Lib.decDigits (v / 10) ++ [UInt8.ofNat (48 + v % 10)]) := dig_big (by omega)
    have hcut := cut_dig (v % 10) (by omega)
    have HI : Hid (∀ W, Calls Tryz.prog 32 #[.int .i64 ((v : Int) / 10)] W fun e w' => e = .returned (bstr (Lib.decDigits (v / 10))) ∧ ∃ k, w' = W.drewN k) := fun W => by
      have := ih (v / 10) (by omega) (by omega) W
      rwa [show ((v / 10 : Nat) : Int) = (v : Int) / 10 by omega] at this
    have hl : (Lib.decDigits (v / 10)).length ≤ 20 := dig_len20 (by omega)
    clear ih
    generalize UInt8.ofNat (48 + v % 10) = ch at *
    have g1 : ¬ (v : Int) < 10 := by omega
    have hm : (Int.tmod (v : Int) 10) = ((v % 10 : Nat) : Int) := by rw [Int.tmod_eq_emod_of_nonneg (by omega)]; omega
    have hq : (Int.tdiv (v : Int) 10) = (v : Int) / 10 := by rw [Int.tdiv_eq_ediv_of_nonneg (by omega)]
    go_enter Tryz.func32, Tryz.ntmps32
    go_wp2_with fail
    have ht : (⟨#[48, 49, 50, 51, 52, 53, 54, 55, 56, 57]⟩ : ByteArray).size = 10 := rfl
    generalize (⟨#[48, 49, 50, 51, 52, 53, 54, 55, 56, 57]⟩ : ByteArray) = T at *
    go_quiet ((go_at_call 32; exact Calls.quiet_of (HI.out _)))
    go_wp2_with fail
    go_ret
    exact ⟨by rw [HD.out, ← bstr_add]; rfl, _, rfl⟩
set_option maxRecDepth 100000 in
set_option maxHeartbeats 2000000 in
theorem c_rPlain (e : Sm) (D : Option Addr) (n c : Nat) (w : World) (h : RdS w e D n c) (hn2 : n ≤ 140737488351232) :
    Calls Tryz.prog 9 #[smV e D n c] w fun x w' => LineIs (rightS e) (plainS e) x ∧ Below w.heap.size w w' := by
  have hB0 := Blk.new w 25 (smC e D n c)
  have hb0 := (Below.refl w.heap.size w).alloc (Nat.le_refl _) (.cells (smC e D n c) 25)
  have hR := fun W => c_rright e D n c h.hn h.bn hn2 W
  by_cases hr : rightS e = true
  · obtain ⟨p1, p2, p3, p4⟩ := right_parts hr
    have hn64 : n ≤ 64 := by have := h.hn; omega
    have HRD := Lib.hid (h.rd.step hb0)
    have hhl : (hx e.dg).length ≤ 128 := by rw [hx_len]; have := h.hn; omega
    have h4 := fileB_le p4
    have hl := (esc_len e.nm.data.toList).2
    have hl2 : e.nm.data.toList.length = e.nm.size := rfl
    have hel : (esc e.nm.data.toList).length ≤ 8192 := by omega
    have hal := ahd_len e.nm
    rw [hr] at hR
    have HR := Lib.hid hR
    have HB := Lib.hid hb0
    have HHX : Hid (∀ W, Reads W W.heap.size 1 D n (bys e.dg) → Calls Tryz.prog 26 #[.slice D n c] W fun x w' => x = .returned (bstr (hx e.dg)) ∧ Below W.heap.size W w') := fun W hr => c_rHexB D n c e.dg W hr (by omega)
    have HAH := Lib.hid (fun W => c_rahead e.nm (by omega) W)
    have HES := Lib.hid (fun W => c_escaped e.nm (by omega) W)
    obtain ⟨mk, hmk, hst⟩ : ∃ mk : List UInt8, (([32] ++ mk) = if e.st = true then [32, 42] else [32, 32]) ∧ ((e.st = true ∧ mk = [42]) ∨ (e.st = false ∧ mk = [32])) := by
      cases hs : e.st
      · exact ⟨[32], rfl, .inr ⟨rfl, rfl⟩⟩
      · exact ⟨[42], rfl, .inl ⟨rfl, rfl⟩⟩
    have HP : Hid (((((⟨(ahd e.nm).toArray⟩ ++ ⟨(hx e.dg).toArray⟩) ++ ⟨#[32]⟩) ++ ⟨mk.toArray⟩) ++ ⟨(esc e.nm.data.toList).toArray⟩ : ByteArray) = ⟨(plainS e).toArray⟩) := ba_eq (by unfold plainS; rw [← hmk]; simp only [ba_app]; simp)
    have hml : mk.length = 1 := by rcases hst with ⟨_, rfl⟩ | ⟨_, rfl⟩ <;> rfl
    clear hR hb0 p1 p2 p3 p4 h hmk hl hl2 h4
    rw [hr]
    show Calls _ _ _ _ (fun x w' => x = .returned (.tuple #[bstr (plainS e), .int .i64 0]) ∧ Below w.heap.size w w')
    generalize hx e.dg = hh at *
    generalize ahd e.nm = ah at *
    generalize esc e.nm.data.toList = es at *
    clear hr
    rcases hst with ⟨hst, hmk⟩ | ⟨hst, hmk⟩
    all_goals
     have HST := Lib.hid hst
     clear hst
     simp only [smV, smC] at HR hB0 HB ⊢
     go_enter Tryz.func9, Tryz.ntmps9
     go_wp2_with fail
     refine (HR.out _).mono ?_
     rintro x w1 ⟨rfl, hb1⟩
     have hB1 := hB0.below hb1 (by simp)
     have c1 : w1.cell? ⟨w.heap.size, 1, none⟩ = some (.string e.nm) := hB1.cell 1
     have c2 : w1.cell? ⟨w.heap.size, 2, none⟩ = some (.slice D n c) := hB1.cell 2
     have c3 : w1.cell? ⟨w.heap.size, 3, none⟩ = some (.bool e.st) := hB1.cell 3
     rw [HST.out] at c3
     have hz1 := hB1.lt
     have HRD1 := Lib.hid (HRD.out.step hb1)
     have HB1 := Lib.hid (HB.out.trans (hb1.mono (B' := w.heap.size) (by simp)))
     clear hb1 hB0 hB1
     go_wp2_with fail
     clear c3
     have s1 : ∀ W, (Op.stringOp .add ⟨ah.toArray⟩ ⟨hh.toArray⟩).run Tryz.prog W = .ok (.string (⟨ah.toArray⟩ ++ ⟨hh.toArray⟩)) W := fun W => run_string_add_sum W _ _ (by show ah.length + hh.length ≤ _; omega)
     have s2 : ∀ W, (Op.stringOp .add (⟨ah.toArray⟩ ++ ⟨hh.toArray⟩) ⟨#[32]⟩).run Tryz.prog W = .ok (.string ((⟨ah.toArray⟩ ++ ⟨hh.toArray⟩) ++ ⟨#[32]⟩)) W := fun W => run_string_add_sum W _ _ (by simp only [ByteArray.size_append]; show ah.length + hh.length + 1 ≤ _; omega)
     have s3 : ∀ W, (Op.stringOp .add ((⟨ah.toArray⟩ ++ ⟨hh.toArray⟩) ++ ⟨#[32]⟩) ⟨mk.toArray⟩).run Tryz.prog W = .ok (.string (((⟨ah.toArray⟩ ++ ⟨hh.toArray⟩) ++ ⟨#[32]⟩) ++ ⟨mk.toArray⟩)) W := fun W => run_string_add_sum W _ _ (by simp only [ByteArray.size_append]; show ah.length + hh.length + 1 + mk.length ≤ _; omega)
     have s4 : ∀ W, (Op.stringOp .add (((⟨ah.toArray⟩ ++ ⟨hh.toArray⟩) ++ ⟨#[32]⟩) ++ ⟨mk.toArray⟩) ⟨es.toArray⟩).run Tryz.prog W = .ok (.string ((((⟨ah.toArray⟩ ++ ⟨hh.toArray⟩) ++ ⟨#[32]⟩) ++ ⟨mk.toArray⟩) ++ ⟨es.toArray⟩)) W := fun W => run_string_add_sum W _ _ (by simp only [ByteArray.size_append]; show ah.length + hh.length + 1 + mk.length + es.length ≤ _; omega)
     subst hmk
     go_region_held3 (fun V => V.cell? ⟨w.heap.size, 1, none⟩ = some (.string e.nm) ∧ V.cell? ⟨w.heap.size, 2, none⟩ = some (.slice D n c)) (first | go_keep | (refine ⟨?_, ?_⟩ <;> assumption)) (first | (go_at_call 25; refine (HAH.out w1.drew).mono ?_; rintro x w2 ⟨rfl, hb2⟩; have d1 := (hb2.cell (p := ⟨w.heap.size, 1, none⟩) hz1).trans c1; have d2 := (hb2.cell (p := ⟨w.heap.size, 2, none⟩) hz1).trans c2; have HRD2 := Lib.hid (HRD1.out.drew.step hb2); have hz2 := Nat.lt_of_lt_of_le hz1 hb2.size) | (go_at_call 26; refine (HHX.out w2 HRD2.out).mono ?_; rintro x w3 ⟨rfl, hb3⟩; have k1 := (hb3.cell (p := ⟨w.heap.size, 1, none⟩) hz2).trans d1; have k2 := (hb3.cell (p := ⟨w.heap.size, 2, none⟩) hz2).trans d2; have hz3 := Nat.lt_of_lt_of_le hz2 hb3.size) | (go_at_call 27; refine (HES.out w3).mono ?_; rintro x w4 ⟨rfl, hb4⟩; have m1 := (hb4.cell (p := ⟨w.heap.size, 1, none⟩) hz3).trans k1; have m2 := (hb4.cell (p := ⟨w.heap.size, 2, none⟩) hz3).trans k2))
     have HX : Hid (Below w.heap.size w w4) := below_step HB1.out (below_step (below_step (W := w1) ⟨hb2.os, hb2.tape, hb2.output, hb2.size, hb2.block⟩ hb3) hb4)
     clear hb2 hb3 hb4 d1 d2 k1 k2 m1 m2 c1 c2 s1 s2 s3 s4
     go_wp2_with fail
     go_ret2
     exact ⟨ret_bs2 HP.out, HX.out⟩
  · rw [Bool.eq_false_iff.2 hr] at hR
    have HR := Lib.hid hR
    rw [Bool.eq_false_iff.2 hr]
    show Calls _ _ _ _ (fun x w' => x = .returned (.tuple #[bstr [], .int .i64 1]) ∧ Below w.heap.size w w')
    have HB := Lib.hid hb0
    clear hR hb0 hr h hB0
    simp only [smV, smC] at HR HB ⊢
    go_enter Tryz.func9, Tryz.ntmps9
    go_wp2_with fail
    refine (HR.out _).mono ?_
    rintro x w1 ⟨rfl, hb1⟩
    have HB1 := Lib.hid (HB.out.trans (hb1.mono (B' := w.heap.size) (by simp)))
    clear hb1
    go_wp2_with fail
    go_ret2
    exact ⟨rfl, HB1.out⟩
end Go.Proofs.YtjaohjlddhjgpaaGreatDoor
