/- Walk: an entry's line in the other form, of the reference (quernref26.Tagged). Conditions: lengths within the reach. -/
import Derived.Test.YtjaohjlddhjgpaaGreatDoorSf
namespace Go.Proofs.YtjaohjlddhjgpaaGreatDoor
open Go.RowKit
set_option linter.unusedVariables false
attribute [local go_sem ↓] Go.wp_at_zero Go.wp_at_succ

set_option maxRecDepth 100000 in
set_option maxHeartbeats 4000000 in
theorem c_rTagged (e : Sm) (D : Option Addr) (n c : Nat) (w : World) (h : RdS w e D n c) (hn2 : n ≤ 140737488351232) :
    Calls Tryz.prog 11 #[smV e D n c] w fun x w' => LineIs (rightS e) (tagS e) x ∧ Below w.heap.size w w' := by
  have hB0 := Blk.new w 25 (smC e D n c)
  have hb0 := (Below.refl w.heap.size w).alloc (Nat.le_refl _) (.cells (smC e D n c) 25)
  have hR := fun W => c_rright e D n c h.hn h.bn hn2 W
  by_cases hr : rightS e = true
  · obtain ⟨p1, p2, p3, p4⟩ := right_parts hr
    have hen := h.hn
    rw [hen] at p1 p2
    have hn64 : n ≤ 64 := by omega
    have HRD := Lib.hid (h.rd.step hb0)
    have hhl : (hx e.dg).length ≤ 128 := by rw [hx_len]; omega
    have h4 := fileB_le p4
    have hl := (esc_len e.nm.data.toList).2
    have hl2 : e.nm.data.toList.length = e.nm.size := rfl
    have hel : (esc e.nm.data.toList).length ≤ 8192 := by omega
    have hal := ahd_len e.nm
    have hwl := swrd_len e.a
    have hdl : (Lib.decDigits (8 * n)).length ≤ 3 := dig_len 2 (8 * n) (by omega)
    rw [hr] at hR
    have HR := Lib.hid hR
    have HB := Lib.hid hb0
    have HHX : Hid (∀ W, Reads W W.heap.size 1 D n (bys e.dg) → Calls Tryz.prog 26 #[.slice D n c] W fun x w' => x = .returned (bstr (hx e.dg)) ∧ Below W.heap.size W w') := fun W hr => c_rHexB D n c e.dg W hr (by omega)
    have HAH := Lib.hid (fun W => c_rahead e.nm (by omega) W)
    have HES := Lib.hid (fun W => c_escaped e.nm (by omega) W)
    have HWD : Hid (∀ W, Calls Tryz.prog 30 #[.int .i64 e.a] W fun x w' => x = .returned (bstr (swrd e.a)) ∧ w' = W) := fun W => (c_rword e.a (by omega) W).mono fun _ _ ⟨h1, h2⟩ => ⟨h1, h2.symm⟩
    have HMO : Hid (∀ W, Calls Tryz.prog 31 #[.int .i64 e.a] W fun x w' => x = .returned (.int .i64 (smost e.a : Nat)) ∧ w' = W) := fun W => (c_rMost e.a W).mono fun _ _ ⟨h1, h2⟩ => ⟨h1, h2.symm⟩
    have HDG : Hid (∀ W, Calls Tryz.prog 32 #[.int .i64 (8 * (n : Int))] W fun x w' => x = .returned (bstr (Lib.decDigits (8 * n))) ∧ ∃ k, w' = W.drewN k) := fun W => by
      have := c_rdigits (8 * n) (by omega) W
      rwa [show ((8 * n : Nat) : Int) = 8 * (n : Int) by omega] at this
    have HP : Hid (∀ SB : ByteArray, SB.data.toList = ahd e.nm ++ (swrd e.a ++ dsh e) → ((((SB ++ ⟨#[32, 40]⟩) ++ ⟨(esc e.nm.data.toList).toArray⟩) ++ ⟨#[41, 32, 61, 32]⟩) ++ ⟨(hx e.dg).toArray⟩ : ByteArray) = ⟨(tagS e).toArray⟩) := fun SB hs => ba_eq (by unfold tagS; simp only [ba_app, hs]; simp)
    have HDS : Hid (dsh e = if n < smost e.a then [45] ++ Lib.decDigits (8 * n) else []) := by show _ = _; unfold dsh; rw [hen]
    clear hR hb0 p4 h hl hl2 h4 hen
    rw [hr]
    show Calls _ _ _ _ (fun x w' => x = .returned (.tuple #[bstr (tagS e), .int .i64 0]) ∧ Below w.heap.size w w')
    generalize hx e.dg = hh at *
    generalize ahd e.nm = ah at *
    generalize esc e.nm.data.toList = es at *
    generalize swrd e.a = ww at *
    generalize smost e.a = MM at *
    generalize Lib.decDigits (8 * n) = dd at *
    clear hr
    have s0 : ∀ W, (Op.stringOp .add ⟨ah.toArray⟩ ⟨ww.toArray⟩).run Tryz.prog W = .ok (.string (⟨ah.toArray⟩ ++ ⟨ww.toArray⟩)) W := fun W => run_string_add_sum W _ _ (by show ah.length + ww.length ≤ _; omega)
    have S0 := Lib.hid s0
    clear s0
    simp only [smV, smC] at HR hB0 HB ⊢
    go_enter Tryz.func11, Tryz.ntmps11
    go_wp2_with fail
    refine (HR.out _).mono ?_
    rintro x w1 ⟨rfl, hb1⟩
    have hB1 := hB0.below hb1 (by simp)
    have c0 : w1.cell? ⟨w.heap.size, 0, none⟩ = some (.int .i64 e.a) := hB1.cell 0
    have c1 : w1.cell? ⟨w.heap.size, 1, none⟩ = some (.string e.nm) := hB1.cell 1
    have HRD1 := Lib.hid (HRD.out.step hb1)
    have HB1 := Lib.hid (HB.out.trans (hb1.mono (B' := w.heap.size) (by simp)))
    have hz1 := hB1.lt
    have HK1 := Lib.hid hB1
    clear hb1 hB0 hB1 HB HRD
    go_wp2_with fail
    have s0 := S0.out
    go_region_held3 (fun V => V.cell? ⟨w.heap.size, 0, none⟩ = some (.int .i64 e.a) ∧ V.cell? ⟨w.heap.size, 1, none⟩ = some (.string e.nm)) (first | go_keep | (refine ⟨?_, ?_⟩ <;> assumption)) (first | (go_at_call 25; refine (HAH.out w1.drew).mono ?_; rintro x w2 ⟨rfl, hb2⟩; have d0 := (hb2.cell (p := ⟨w.heap.size, 0, none⟩) hz1).trans c0; have d1 := (hb2.cell (p := ⟨w.heap.size, 1, none⟩) hz1).trans c1; have hz2 := Nat.lt_of_lt_of_le hz1 hb2.size) | (go_at_call 30; refine (HWD.out w2).mono ?_; rintro x w3 ⟨rfl, rfl⟩))
    rename _ ∧ _ => hHH
    have hb2' : Below w1.heap.size w1 w3 := ⟨hb2.os, hb2.tape, hb2.output, hb2.size, hb2.block⟩
    have hB3 := HK1.out.below hb2' hz1
    have HB3 := Lib.hid (below_step HB1.out hb2')
    have HRD3 := Lib.hid (HRD1.out.step hb2')
    clear hHH c0 c1 d0 d1 hb2 hb2' HB1 HRD1 HK1 HAH HWD HR s0 S0
    have c0 : w3.cell? ⟨w.heap.size, 0, none⟩ = some (.int .i64 e.a) := hB3.cell 0
    have c2 : w3.cell? ⟨w.heap.size, 2, none⟩ = some (.slice D n c) := hB3.cell 2
    have HK3 := Lib.hid hB3
    clear hB3
    go_wp2_with fail
    go_quiet ((go_at_call 31; exact Calls.quiet_of_same (HMO.out _)))
    go_wp2_with fail
    · rename (_ != _) = true => hne
      have hlt : n < MM := by
        have : ¬ (n : Int) = (MM : Int) := by simpa using hne
        omega
      rw [if_pos hlt] at HDS
      have HP2 := Lib.hid (HP.out ((⟨ah.toArray⟩ ++ ⟨ww.toArray⟩) ++ ⟨#[45]⟩ ++ ⟨dd.toArray⟩) (by rw [ba_app, ba_app, ba_app, ba_mk, ba_mk, HDS.out]; simp))
      have HSZ : Hid (((⟨ah.toArray⟩ ++ ⟨ww.toArray⟩) ++ ⟨#[45]⟩ ++ ⟨dd.toArray⟩ : ByteArray).size ≤ 13) := by show _ ≤ _; simp only [ByteArray.size_append]; show ah.length + ww.length + 1 + dd.length ≤ _; omega
      clear HP HDS hlt hne
      refine (HDG.out _).mono ?_
      rintro x w4 ⟨rfl, k4, rfl⟩
      have hb5 : Below w3.heap.size w3 (w3.drewN (nq + k4)) := below_drewN (Below.refl _ _) _
      go_wp2_with fail
      generalize ((⟨ah.toArray⟩ ++ ⟨ww.toArray⟩) ++ ⟨#[45]⟩ ++ ⟨dd.toArray⟩ : ByteArray) = SB at *
      generalize w3.drewN (nq + k4) = w5 at *
      have hB5 := HK3.out.below hb5 HK3.out.lt
      have c1 : w5.cell? ⟨w.heap.size, 1, none⟩ = some (.string e.nm) := hB5.cell 1
      have c2 : w5.cell? ⟨w.heap.size, 2, none⟩ = some (.slice D n c) := hB5.cell 2
      have hz5 := hB5.lt
      have HB5 := Lib.hid (below_step HB3.out hb5)
      have HRD5 := Lib.hid (HRD3.out.step hb5)
      clear hb5 hB5 HB3 HRD3 HK3 c0 HMO HDG
      have s1 : ∀ W, (Op.stringOp .add SB ⟨#[32, 40]⟩).run Tryz.prog W = .ok (.string (SB ++ ⟨#[32, 40]⟩)) W := fun W => run_string_add_sum W _ _ (by have := HSZ.out; show SB.size + 2 ≤ _; omega)
      have s2 : ∀ W, (Op.stringOp .add (SB ++ ⟨#[32, 40]⟩) ⟨es.toArray⟩).run Tryz.prog W = .ok (.string ((SB ++ ⟨#[32, 40]⟩) ++ ⟨es.toArray⟩)) W := fun W => run_string_add_sum W _ _ (by have := HSZ.out; simp only [ByteArray.size_append]; show SB.size + 2 + es.length ≤ _; omega)
      have s3 : ∀ W, (Op.stringOp .add ((SB ++ ⟨#[32, 40]⟩) ++ ⟨es.toArray⟩) ⟨#[41, 32, 61, 32]⟩).run Tryz.prog W = .ok (.string (((SB ++ ⟨#[32, 40]⟩) ++ ⟨es.toArray⟩) ++ ⟨#[41, 32, 61, 32]⟩)) W := fun W => run_string_add_sum W _ _ (by have := HSZ.out; simp only [ByteArray.size_append]; show SB.size + 2 + es.length + 4 ≤ _; omega)
      have s4 : ∀ W, (Op.stringOp .add (((SB ++ ⟨#[32, 40]⟩) ++ ⟨es.toArray⟩) ++ ⟨#[41, 32, 61, 32]⟩) ⟨hh.toArray⟩).run Tryz.prog W = .ok (.string ((((SB ++ ⟨#[32, 40]⟩) ++ ⟨es.toArray⟩) ++ ⟨#[41, 32, 61, 32]⟩) ++ ⟨hh.toArray⟩)) W := fun W => run_string_add_sum W _ _ (by have := HSZ.out; simp only [ByteArray.size_append]; show SB.size + 2 + es.length + 4 + hh.length ≤ _; omega)
      go_region_held3 (fun V => V.cell? ⟨w.heap.size, 1, none⟩ = some (.string e.nm) ∧ V.cell? ⟨w.heap.size, 2, none⟩ = some (.slice D n c)) (first | go_keep | (refine ⟨?_, ?_⟩ <;> assumption)) (first | (go_at_call 27; refine (HES.out w5.drew).mono ?_; rintro x w6 ⟨rfl, hb6⟩; have d1 := (hb6.cell (p := ⟨w.heap.size, 1, none⟩) hz5).trans c1; have d2 := (hb6.cell (p := ⟨w.heap.size, 2, none⟩) hz5).trans c2; have HRD6 := Lib.hid (HRD5.out.drew.step hb6); have hz6 := Nat.lt_of_lt_of_le hz5 hb6.size) | (go_at_call 26; refine (HHX.out w6 HRD6.out).mono ?_; rintro x w7 ⟨rfl, hb7⟩; have k1 := (hb7.cell (p := ⟨w.heap.size, 1, none⟩) hz6).trans d1; have k2 := (hb7.cell (p := ⟨w.heap.size, 2, none⟩) hz6).trans d2))
      have HX : Hid (Below w.heap.size w w7) := below_step HB5.out (below_step (W := w5) ⟨hb6.os, hb6.tape, hb6.output, hb6.size, hb6.block⟩ hb7)
      clear hb6 hb7 d1 d2 k1 k2 c1 c2 s1 s2 s3 s4
      go_wp2_with fail
      go_ret2
      exact ⟨ret_bs2 HP2.out, HX.out⟩
    · rename (_ != _) = false => hne
      have hlt : ¬ n < MM := by
        have : (n : Int) = (MM : Int) := by simpa using hne
        omega
      rw [if_neg hlt] at HDS
      have HP2 := Lib.hid (HP.out (⟨ah.toArray⟩ ++ ⟨ww.toArray⟩) (by rw [ba_app, ba_mk, HDS.out]; simp))
      have HSZ : Hid ((⟨ah.toArray⟩ ++ ⟨ww.toArray⟩ : ByteArray).size ≤ 13) := by show _ ≤ _; simp only [ByteArray.size_append]; show ah.length + ww.length ≤ _; omega
      clear HP HDS hlt hne
      have hb5 : Below w3.heap.size w3 (w3.drewN nq) := below_drewN (Below.refl _ _) _
      go_wp2_with fail
      generalize (⟨ah.toArray⟩ ++ ⟨ww.toArray⟩ : ByteArray) = SB at *
      generalize w3.drewN nq = w5 at *
      have hB5 := HK3.out.below hb5 HK3.out.lt
      have c1 : w5.cell? ⟨w.heap.size, 1, none⟩ = some (.string e.nm) := hB5.cell 1
      have c2 : w5.cell? ⟨w.heap.size, 2, none⟩ = some (.slice D n c) := hB5.cell 2
      have hz5 := hB5.lt
      have HB5 := Lib.hid (below_step HB3.out hb5)
      have HRD5 := Lib.hid (HRD3.out.step hb5)
      clear hb5 hB5 HB3 HRD3 HK3 c0 HMO HDG
      have s1 : ∀ W, (Op.stringOp .add SB ⟨#[32, 40]⟩).run Tryz.prog W = .ok (.string (SB ++ ⟨#[32, 40]⟩)) W := fun W => run_string_add_sum W _ _ (by have := HSZ.out; show SB.size + 2 ≤ _; omega)
      have s2 : ∀ W, (Op.stringOp .add (SB ++ ⟨#[32, 40]⟩) ⟨es.toArray⟩).run Tryz.prog W = .ok (.string ((SB ++ ⟨#[32, 40]⟩) ++ ⟨es.toArray⟩)) W := fun W => run_string_add_sum W _ _ (by have := HSZ.out; simp only [ByteArray.size_append]; show SB.size + 2 + es.length ≤ _; omega)
      have s3 : ∀ W, (Op.stringOp .add ((SB ++ ⟨#[32, 40]⟩) ++ ⟨es.toArray⟩) ⟨#[41, 32, 61, 32]⟩).run Tryz.prog W = .ok (.string (((SB ++ ⟨#[32, 40]⟩) ++ ⟨es.toArray⟩) ++ ⟨#[41, 32, 61, 32]⟩)) W := fun W => run_string_add_sum W _ _ (by have := HSZ.out; simp only [ByteArray.size_append]; show SB.size + 2 + es.length + 4 ≤ _; omega)
      have s4 : ∀ W, (Op.stringOp .add (((SB ++ ⟨#[32, 40]⟩) ++ ⟨es.toArray⟩) ++ ⟨#[41, 32, 61, 32]⟩) ⟨hh.toArray⟩).run Tryz.prog W = .ok (.string ((((SB ++ ⟨#[32, 40]⟩) ++ ⟨es.toArray⟩) ++ ⟨#[41, 32, 61, 32]⟩) ++ ⟨hh.toArray⟩)) W := fun W => run_string_add_sum W _ _ (by have := HSZ.out; simp only [ByteArray.size_append]; show SB.size + 2 + es.length + 4 + hh.length ≤ _; omega)
      go_region_held3 (fun V => V.cell? ⟨w.heap.size, 1, none⟩ = some (.string e.nm) ∧ V.cell? ⟨w.heap.size, 2, none⟩ = some (.slice D n c)) (first | go_keep | (refine ⟨?_, ?_⟩ <;> assumption)) (first | (go_at_call 27; refine (HES.out w5.drew).mono ?_; rintro x w6 ⟨rfl, hb6⟩; have d1 := (hb6.cell (p := ⟨w.heap.size, 1, none⟩) hz5).trans c1; have d2 := (hb6.cell (p := ⟨w.heap.size, 2, none⟩) hz5).trans c2; have HRD6 := Lib.hid (HRD5.out.drew.step hb6); have hz6 := Nat.lt_of_lt_of_le hz5 hb6.size) | (go_at_call 26; refine (HHX.out w6 HRD6.out).mono ?_; rintro x w7 ⟨rfl, hb7⟩; have k1 := (hb7.cell (p := ⟨w.heap.size, 1, none⟩) hz6).trans d1; have k2 := (hb7.cell (p := ⟨w.heap.size, 2, none⟩) hz6).trans d2))
      have HX : Hid (Below w.heap.size w w7) := below_step HB5.out (below_step (W := w5) ⟨hb6.os, hb6.tape, hb6.output, hb6.size, hb6.block⟩ hb7)
      clear hb6 hb7 d1 d2 k1 k2 c1 c2 s1 s2 s3 s4
      go_wp2_with fail
      go_ret2
      exact ⟨ret_bs2 HP2.out, HX.out⟩
  · rw [Bool.eq_false_iff.2 hr] at hR
    have HR := Lib.hid hR
    rw [Bool.eq_false_iff.2 hr]
    show Calls _ _ _ _ (fun x w' => x = .returned (.tuple #[bstr [], .int .i64 1]) ∧ Below w.heap.size w w')
    have HB := Lib.hid hb0
    clear hR hb0 hr h hB0
    simp only [smV, smC] at HR HB ⊢
    go_enter Tryz.func11, Tryz.ntmps11
    go_wp2_with fail
    refine (HR.out _).mono ?_
    rintro x w1 ⟨rfl, hb1⟩
    have HB1 := Lib.hid (HB.out.trans (hb1.mono (B' := w.heap.size) (by simp)))
    clear hb1
    go_wp2_with fail
    go_ret2
    exact ⟨rfl, HB1.out⟩
end Go.Proofs.YtjaohjlddhjgpaaGreatDoor
