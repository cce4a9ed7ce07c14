/- Walk: parameters as a line, of the reference (quernref02.Show). Conditions: the arguments as they read. -/
import Derived.Test.YtbpbokcglicggaaDoorSw
import Derived.Test.YtbpbokcglicggaaDoorNm3
namespace Go.Proofs.YtbpbokcglicggaaDoor
open Go.RowKit
set_option linter.unusedVariables false
attribute [local go_sem ↓] Go.wp_at_zero Go.wp_at_succ

def shA (p : Pm) : Array Value := #[.int .u64 p.d, .int .u64 p.key, .int .u64 p.fo, .int .u64 p.de, .int .u64 p.leaf, .int .u64 p.off, .int .u64 p.xof, .int .u64 p.nd, .int .u64 p.inn]
theorem shA_get (p : Pm) (j : Nat) (h : j < 9) : (shA p)[j]? = some (.int .u64 (fv p j)) := by
  have hc : j = 0 ∨ j = 1 ∨ j = 2 ∨ j = 3 ∨ j = 4 ∨ j = 5 ∨ j = 6 ∨ j = 7 ∨ j = 8 := by omega
  rcases hc with rfl | rfl | rfl | rfl | rfl | rfl | rfl | rfl | rfl <;> rfl
/-- What stands in memory while a line is made. -/
def ShSt (w wr : World) (g1 g2 g3 : Nat) (k : Int) (q : Pm) (sa : Option Addr) (sc : Nat) (ta : Option Addr) (tc : Nat) : Prop :=
  Blk wr g1 26 (pvC q sa sc ta tc) ∧ Blk wr g2 23 (shA q) ∧ Blk wr g3 23 (shA (plainP (kmost k) 0)) ∧ Reads wr wr.heap.size 1 sa q.s.length (u8s q.s) ∧ Reads wr wr.heap.size 1 ta q.t.length (u8s q.t) ∧ Below w.heap.size w wr
theorem ShSt.step {w wr w' : World} {g1 g2 g3 : Nat} {k : Int} {q : Pm} {sa : Option Addr} {sc : Nat} {ta : Option Addr} {tc : Nat} (h : ShSt w wr g1 g2 g3 k q sa sc ta tc) (hb : Below wr.heap.size wr w') : ShSt w w' g1 g2 g3 k q sa sc ta tc :=
  ⟨h.1.below hb h.1.lt, h.2.1.below hb h.2.1.lt, h.2.2.1.below hb h.2.2.1.lt, h.2.2.2.1.step hb, h.2.2.2.2.1.step hb, below_step h.2.2.2.2.2 hb⟩
theorem c_mostS (k : Int) (hk : k = 1 ∨ k = 2) (w : World) : Calls Tryd.prog 22 #[.int .i64 k] w fun e w' => e = .returned (.int .i64 (kmost k)) ∧ w = w' := by
  rcases hk with rfl | rfl
  all_goals
    go_enter Tryd.func22, Tryd.ntmps22
    go_wp2
    go_ret
    exact ⟨rfl, rfl⟩
set_option maxRecDepth 100000 in
set_option maxHeartbeats 4000000 in
theorem c_rShow (k : Int) (p : Pm) (sa : Option Addr) (sc : Nat) (ta : Option Addr) (tc : Nat) (w : World) (h : RdP w p sa sc ta tc) (ho : PmOk p) (hxs : ∀ z ∈ p.s, 0 ≤ z ∧ z < 256) (hxt : ∀ z ∈ p.t, 0 ≤ z ∧ z < 256) :
    Calls Tryd.prog 7 #[.int .i64 k, pvS p sa sc ta tc] w fun e w' => e = .returned (.tuple #[bstr (if chkP k p = 0 then pline k p.norm else []), .int .i64 (chkP k p)]) ∧ Below w.heap.size w w' := by
  have hb0 := (Below.refl w.heap.size w).alloc (Nat.le_refl _) (.cells (pvC p sa sc ta tc) 26)
  have h2 := h.step hb0
  have hN := c_rNormal k p sa sc ta tc _ h2
  have HBL := Lib.hid hb0
  by_cases h0 : chkP k p = 0
  · rw [if_pos h0, h0]
    have hnr : nrm k p = p.norm := if_pos h0
    rw [hnr, h0] at hN
    have hk := (chk_ok h0).1
    obtain ⟨_, ⟨a1, a2⟩, ⟨b1, b2⟩, ⟨d1, d2⟩, ⟨e1, e2⟩, ⟨g1, g2⟩, ⟨m1, m2⟩, hsl⟩ := chk_ok (sw_norm h0)
    obtain ⟨l1, l2⟩ := (sw_ok ho).leaf
    obtain ⟨o1, o2⟩ := (sw_ok ho).off
    obtain ⟨x1, x2⟩ := (sw_ok ho).xof
    have hkm : 0 ≤ kmost k ∧ kmost k ≤ 64 := by rcases hk with rfl | rfl <;> decide
    have HSL : Hid (p.norm.s.length ≤ 16 ∧ p.norm.t.length ≤ 16) := by show _ ∧ _; omega
    have HXS : Hid (∀ z ∈ p.norm.s, 0 ≤ z ∧ z < 256) := fun z hz => hxs z (List.mem_of_mem_take hz)
    have HXT : Hid (∀ z ∈ p.norm.t, 0 ≤ z ∧ z < 256) := fun z hz => hxt z (List.mem_of_mem_take hz)
    have HFV : Hid (∀ j, 0 ≤ fv p.norm j ∧ fv p.norm j < 18446744073709551616) := fun j => fv_bd (sw_norm h0) (sw_ok ho) j
    have HM := Lib.hid (c_mostS k hk)
    have HN := Lib.hid hN
    have ht : ((k == 2) = false ∧ lpre k = [50, 98]) ∨ ((k == 2) = true ∧ lpre k = [50, 115]) := by
      rcases hk with rfl | rfl
      · exact .inl ⟨rfl, rfl⟩
      · exact .inr ⟨rfl, rfl⟩
    have HKK := Lib.hid hk
    clear h hb0 hN h0 hnr h2 hsl hk hxs hxt ho
    simp only [pvS, pv] at *
    generalize p.norm = q at *
    have hz0 : w.heap.size < (w.alloc (.cells (pvC p sa sc ta tc) 26)).heap.size := by simp
    rcases ht with ⟨ht, hlp⟩ | ⟨ht, hlp⟩
    all_goals
     have HLP := Lib.hid hlp
     clear hlp
     go_enter Tryd.func7, Tryd.ntmps7
     go_wp2_with fail
     refine (HN.out).mono ?_
     rintro e w1 ⟨sa2, sc2, ta2, tc2, rfl, o1, o2, hb1⟩
     simp only [pvS, pv]
     have HB1 := Lib.hid (HBL.out.trans (hb1.mono (by simp)))
     have HO1 := Lib.hid o1
     have HO2 := Lib.hid o2
     have hz1 : w.heap.size < w1.heap.size := by have := hb1.size; simp at this; omega
     clear hb1 o1 o2
     have hB0 := Blk.new w1 26 pz
     have HR1 : Hid (Reads w1 w1.heap.size 1 sa2 q.s.length (u8s q.s)) := Reads.of_own HO1.out
     have HR2 : Hid (Reads w1 w1.heap.size 1 ta2 q.t.length (u8s q.t)) := Reads.of_own HO2.out
     clear HO1 HO2
     go_wp2_with (first | (refine wpList_storeB rfl 26 (.tmp 6) (.tmp 16) rfl rfl w1.heap.size _ rfl rfl hB0 (by kernel_rfl) rfl rfl ?_; intro w2 hB2 hg2 hz2; have q0 : w2.cell? ⟨w1.heap.size, 0, none⟩ = some (.int .i64 q.d) := hB2.cell 0; have q1 : w2.cell? ⟨w1.heap.size, 1, none⟩ = some (.int .i64 q.key) := hB2.cell 1; have q2 : w2.cell? ⟨w1.heap.size, 2, none⟩ = some (.int .i64 q.fo) := hB2.cell 2; have q3 : w2.cell? ⟨w1.heap.size, 3, none⟩ = some (.int .i64 q.de) := hB2.cell 3; have q4 : w2.cell? ⟨w1.heap.size, 4, none⟩ = some (.int .u32 q.leaf) := hB2.cell 4; have q5 : w2.cell? ⟨w1.heap.size, 5, none⟩ = some (.int .u64 q.off) := hB2.cell 5; have q6 : w2.cell? ⟨w1.heap.size, 6, none⟩ = some (.int .u32 q.xof) := hB2.cell 6; have q7 : w2.cell? ⟨w1.heap.size, 7, none⟩ = some (.int .i64 q.nd) := hB2.cell 7; have q8 : w2.cell? ⟨w1.heap.size, 8, none⟩ = some (.int .i64 q.inn) := hB2.cell 8; have HBP := Lib.hid hB2; have HGR := Lib.hid hg2; clear hB2 hg2) | (go_at_call 22; refine (HM.out _).mono ?_; rintro e w' ⟨rfl, rfl⟩))
     clear q0 q1 q2 q3 q4 q5 q6 q7 q8 hB0
     simp only [World.size_alloc] at hz2
     have HR3 := Lib.hid ((((HR1.out.alloc (Nat.le_refl _) _).grown HGR.out (by simp) (fun g h => by injection h with h; omega)).more (B' := w2.heap.size) (by omega)).step (((Below.refl w2.heap.size w2).alloc (Nat.le_refl _) (.cells (shA q) 23)).alloc (by simp) (.cells (shA (plainP (kmost k) 0)) 23)))
     have HR4 := Lib.hid ((((HR2.out.alloc (Nat.le_refl _) _).grown HGR.out (by simp) (fun g h => by injection h with h; omega)).more (B' := w2.heap.size) (by omega)).step (((Below.refl w2.heap.size w2).alloc (Nat.le_refl _) (.cells (shA q) 23)).alloc (by simp) (.cells (shA (plainP (kmost k) 0)) 23)))
     have HB2 := Lib.hid ((HB1.out.alloc (Nat.le_of_lt hz1) (.cells pz 26)).grown HGR.out (by simp; omega) (fun g h => by injection h with h; omega))
     have HST : Hid (ShSt w ((w2.alloc (.cells (shA q) 23)).alloc (.cells (shA (plainP (kmost k) 0)) 23)) w1.heap.size (w1.heap.size + 1) (w1.heap.size + 1 + 1) k q sa2 sc2 ta2 tc2) := by
       show ShSt _ _ _ _ _ _ _ _ _ _ _
       rw [← hz2]
       exact ⟨(HBP.out.alloc _).alloc _, (Blk.new _ _ _).alloc _, by have := Blk.new (w2.alloc (.cells (shA q) 23)) 23 (shA (plainP (kmost k) 0)); simp only [World.size_alloc] at this; exact this, HR3.out, HR4.out, (HB2.out.alloc (by omega) _).alloc (by simp; omega) _⟩
     clear HR1 HR2 HR3 HR4 HB1 HB2 HGR HBP hz2
     go_loopw [8, 11] (fun vs vi wr => ∃ (i : Nat) (l : List UInt8), i ≤ 9 ∧ vi = .int .i64 ((i : Int) + 1) ∧ vs = bstr l ∧ Hid (l = lpre k ++ fparts k q i) ∧ Hid (ShSt w wr w1.heap.size (w1.heap.size + 1) (w1.heap.size + 1 + 1) k q sa2 sc2 ta2 tc2)) (fun _ vi _ => 10 - (intOf vi).toNat)
     case atStart => exact ⟨0, _, by omega, rfl, rfl, (by show _ = _; rw [HLP.out]; rfl), HST.out⟩
     case round =>
       obtain ⟨i, l, hi, rfl, rfl, HLN, HS⟩ := hrel
       by_cases hlt : i < 9
       · have c0 := (HS.out.2.1.cell i).trans (shA_get q i hlt)
         have c1 := (HS.out.2.2.1.cell i).trans (shA_get (plainP (kmost k) 0) i hlt)
         by_cases heq : fv q i = fv (plainP (kmost k) 0) i
         · have hq : (fv q i != fv (plainP (kmost k) 0) i) = false := by simp [heq]
           have HLX : Hid (l = lpre k ++ fparts k q (i + 1)) := by
             show _ = _
             rw [HLN.out, fparts, fpart, if_pos heq, List.append_nil]
           clear heq
           generalize fv q i = V at *
           generalize fv (plainP (kmost k) 0) i = V' at *
           have hw1 : IntKind.i64.wrap ((i : Int) + 1 - 1) = (i : Int) := by rw [IntKind.wrap_i64]; omega
           have hw2 : IntKind.i64.wrap (i : Int) = (i : Int) := by rw [IntKind.wrap_i64]; omega
           have hi1 : (i : Int) < 9 := by omega
           have hi0 : (0 : Int) ≤ (i : Int) := by omega
           go_wp2_with fail
           go_quiet (fail)
           have HSq := Lib.hid (HS.out.step (below_drewN (Below.refl wr.heap.size wr) nq))
           go_wp2_with fail
           go_roundw
           case rel => exact ⟨i + 1, l, by omega, by go_num, rfl, HLX.out, HSq.out⟩
           case measure => simp [intOf]; omega
         · have hq : (fv q i != fv (plainP (kmost k) 0) i) = true := by simp [heq]
           have hfb := HFV.out i
           obtain ⟨u, hu⟩ : ∃ u : Nat, fv q i = (u : Int) := ⟨(fv q i).toNat, by omega⟩
           have HLX : Hid (lpre k ++ fparts k q (i + 1) = l ++ ([32] ++ (fname i ++ ([61] ++ Lib.decDigits u)))) := by
             show _ = _
             rw [HLN.out, fparts, fpart, if_neg heq, hu, List.append_assoc]; rfl
           rw [hu] at hq c0 hfb
           clear heq
           have hl300 : l.length ≤ 300 := by
             have h1 := fparts_len (k := k) HFV.out i hi
             have h2 := lpre_len k
             rw [HLN.out, List.length_append]
             omega
           have hfl := fname_len i hlt
           have hdl := dig_len20 (u := u) (by omega)
           obtain ⟨NB, hNB⟩ : ∃ B : ByteArray, B = ⟨(fname i ++ [61]).toArray⟩ := ⟨_, rfl⟩
           obtain ⟨D, hD⟩ : ∃ D : ByteArray, D = ⟨(Lib.decDigits u).toArray⟩ := ⟨_, rfl⟩
           have HNM : Hid (∀ W, Calls Tryd.prog 23 #[.int .i64 ((i : Int) + 1)] W fun e w' => e = .returned (.string NB) ∧ w' = W) := fun W => by rw [hNB]; exact c_name i (by omega) W
           have HF : Hid (∀ W, Calls Tryd.prog 24 #[.int .u64 u] W fun e w' => e = .returned (.string D) ∧ Below W.heap.size W w') := fun W => by rw [hD]; exact c_digits u (by omega) W
           obtain ⟨B1, hB1⟩ : ∃ B : ByteArray, B = ⟨l.toArray⟩ ++ ⟨#[32]⟩ := ⟨_, rfl⟩
           obtain ⟨B2, hB2⟩ : ∃ B : ByteArray, B = B1 ++ NB := ⟨_, rfl⟩
           obtain ⟨B3, hB3⟩ : ∃ B : ByteArray, B = B2 ++ D := ⟨_, rfl⟩
           have s0 : NB.size ≤ 9 := by rw [hNB]; simp [ByteArray.size]; omega
           have sl : (⟨l.toArray⟩ : ByteArray).size ≤ 300 := hl300
           have s1 : B1.size = (⟨l.toArray⟩ : ByteArray).size + 1 := by rw [hB1, ByteArray.size_append]; rfl
           have s2 : B2.size = B1.size + NB.size := by rw [hB2, ByteArray.size_append]
           have sD : D.size ≤ 20 := by rw [hD]; exact hdl
           have a1 : ∀ W, (Op.stringOp .add ⟨l.toArray⟩ ⟨#[32]⟩).run Tryd.prog W = .ok (.string B1) W := fun W => by rw [hB1]; exact run_string_add_sum W _ _ (by have : (⟨#[32]⟩ : ByteArray).size = 1 := rfl; omega)
           have a2 : ∀ W, (Op.stringOp .add B1 NB).run Tryd.prog W = .ok (.string B2) W := fun W => by rw [hB2]; exact run_string_add_sum W _ _ (by omega)
           have a3 : ∀ W, (Op.stringOp .add B2 D).run Tryd.prog W = .ok (.string B3) W := fun W => by rw [hB3]; exact run_string_add_sum W _ _ (by omega)
           have HBV : Hid (Value.string B3 = bstr (lpre k ++ fparts k q (i + 1))) := by
             show _ = _
             rw [HLX.out, hB3, hB2, hB1, hD, hNB]
             simp only [str_add, List.append_assoc]
           clear hB1 hB2 hB3 hD hNB s0 s1 s2 sD sl hfl hdl hl300 hu hfb
           generalize fv (plainP (kmost k) 0) i = V' at *
           have hw1 : IntKind.i64.wrap ((i : Int) + 1 - 1) = (i : Int) := by rw [IntKind.wrap_i64]; omega
           have hw2 : IntKind.i64.wrap (i : Int) = (i : Int) := by rw [IntKind.wrap_i64]; omega
           have hi1 : (i : Int) < 9 := by omega
           have hi0 : (0 : Int) ≤ (i : Int) := by omega
           go_wp2_with fail
           go_quiet (fail)
           have HSq := Lib.hid (HS.out.step (below_drewN (Below.refl wr.heap.size wr) nq))
           have k0 : (wr.drewN nq).cell? ⟨w1.heap.size + 1, i, none⟩ = some (.int .u64 (u : Int)) := c0
           have kz : w1.heap.size + 1 < (wr.drewN nq).heap.size := HSq.out.2.1.lt
           clear c0 c1
           go_wp2_with fail
           generalize wr.drewN nq = wq at *
           go_region_held3 (fun W => W.cell? ⟨w1.heap.size + 1, i, none⟩ = some (.int .u64 (u : Int))) (first | go_keep | assumption) (first | (go_at_call 23; refine (HNM.out _).mono ?_; rintro e w7 ⟨rfl, rfl⟩) | (go_at_call 24; refine (HF.out wq.drew).mono ?_; rintro e w9 ⟨rfl, hb9⟩; have v3 := (hb9.cell (p := ⟨w1.heap.size + 1, i, none⟩) kz).trans k0))
           all_goals
             have hb9' : Below wq.heap.size wq w9 := ⟨hb9.os, hb9.tape, hb9.output, hb9.size, hb9.block⟩
             have HS9 := Lib.hid (HSq.out.step hb9')
             clear hb9 hb9' v3 a1 a2 a3
             go_wp2_with fail
             go_roundw
             case rel => exact ⟨i + 1, _, by omega, by go_num, HBV.out, rfl, HS9.out⟩
             case measure => simp [intOf]; omega
       · obtain rfl : i = 9 := by omega
         have c9 : wr.cell? ⟨w1.heap.size, 9, none⟩ = some (.slice sa2 q.s.length sc2) := HS.out.1.cell 9
         have c10 : wr.cell? ⟨w1.heap.size, 10, none⟩ = some (.slice ta2 q.t.length tc2) := HS.out.1.cell 10
         have hz9 : w1.heap.size < wr.heap.size := HS.out.1.lt
         have hl300 : l.length ≤ 300 := by
           have h1 := fparts_len (k := k) HFV.out 9 hi
           have h2 := lpre_len k
           rw [HLN.out, List.length_append]
           omega
         have hsl := HSL.out.1
         have htl := HSL.out.2
         have HE0 : Hid ((⟨l.toArray⟩ : ByteArray) = ⟨(lpre k ++ fparts k q 9).toArray⟩) := by show _ = _; rw [HLN.out]
         have HN9 : Hid (∀ W, Calls Tryd.prog 23 #[.int .i64 10] W fun e w' => e = .returned (.string ⟨#[115, 97, 108, 116, 61]⟩) ∧ w' = W) := fun W => c_name 9 (by omega) W
         have HN10 : Hid (∀ W, Calls Tryd.prog 23 #[.int .i64 11] W fun e w' => e = .returned (.string ⟨#[112, 101, 114, 115, 111, 110, 97, 108, 61]⟩) ∧ w' = W) := fun W => c_name 10 (by omega) W
         have HFIN : Hid (pline k q = lpre k ++ fparts k q 9 ++ bpart 9 q.s ++ bpart 10 q.t) := rfl
         clear HLN
         by_cases hps : q.s = []
         · have e1 : q.s.length = 0 := by rw [hps]; rfl
           have HE1 : Hid ((⟨l.toArray⟩ : ByteArray) = ⟨(lpre k ++ fparts k q 9 ++ bpart 9 q.s).toArray⟩) := by show _ = _; rw [HE0.out, show bpart 9 q.s = [] from if_pos hps, List.append_nil]
           rw [e1] at c9
           clear e1 hps HE0
           by_cases hpt : q.t = []
           · have e2 : q.t.length = 0 := by rw [hpt]; rfl
             have HE2 : Hid ((⟨l.toArray⟩ : ByteArray) = ⟨(pline k q).toArray⟩) := by show _ = _; rw [HFIN.out, HE1.out, show bpart 10 q.t = [] from if_pos hpt, List.append_nil]
             rw [e2] at c10
             clear e2 hpt HE1
             go_wp2_with fail
             go_ret2
             exact ⟨ret_str2 HE2.out, HS.out.2.2.2.2.2⟩
           · have e2 : 0 < q.t.length := by
               rcases Nat.eq_zero_or_pos q.t.length with h | h
               · exact absurd (List.eq_nil_of_length_eq_zero h) hpt
               · exact h
             obtain ⟨D11, hD⟩ : ∃ D : ByteArray, D = ⟨((hxs q.t).map fun z => UInt8.ofNat z.toNat).toArray⟩ := ⟨_, rfl⟩
             have HF11 : Hid (Calls Tryd.prog 25 #[.slice ta2 q.t.length tc2] wr.drew fun e w' => e = .returned (.string D11) ∧ Below wr.heap.size wr w') := by
               have h : Calls Tryd.prog 25 #[.slice ta2 q.t.length tc2] wr.drew fun e w' => e = .returned (.string D11) ∧ Below wr.drew.heap.size wr.drew w' := by rw [hD]; exact c_rhex ta2 _ tc2 q.t wr.drew (HS.out.2.2.2.2.1.drew) (by omega) HXT.out
               exact h.mono fun e w' ⟨h1, h2⟩ => ⟨h1, h2.os, h2.tape, h2.output, h2.size, h2.block⟩
             have sD : D11.size ≤ 40 := by rw [hD]; simp [ByteArray.size, hxs_len]; omega
             obtain ⟨B1, hB1⟩ : ∃ B : ByteArray, B = (⟨l.toArray⟩ : ByteArray) ++ ⟨#[32]⟩ := ⟨_, rfl⟩
             obtain ⟨B2, hB2⟩ : ∃ B : ByteArray, B = B1 ++ ⟨#[112, 101, 114, 115, 111, 110, 97, 108, 61]⟩ := ⟨_, rfl⟩
             obtain ⟨E2, hB3⟩ : ∃ B : ByteArray, B = B2 ++ D11 := ⟨_, rfl⟩
             have sl : ((⟨l.toArray⟩ : ByteArray)).size ≤ 400 := (by show l.length ≤ 400; omega)
             have s1 : B1.size = ((⟨l.toArray⟩ : ByteArray)).size + 1 := by rw [hB1, ByteArray.size_append]; rfl
             have s2 : B2.size = B1.size + 9 := by rw [hB2, ByteArray.size_append]; rfl
             have s3 : E2.size = B2.size + D11.size := by rw [hB3, ByteArray.size_append]
             have a1 : ∀ W, (Op.stringOp .add (⟨l.toArray⟩ : ByteArray) ⟨#[32]⟩).run Tryd.prog W = .ok (.string B1) W := fun W => by rw [hB1]; exact run_string_add_sum W _ _ (by have : (⟨#[32]⟩ : ByteArray).size = 1 := rfl; omega)
             have a2 : ∀ W, (Op.stringOp .add B1 ⟨#[112, 101, 114, 115, 111, 110, 97, 108, 61]⟩).run Tryd.prog W = .ok (.string B2) W := fun W => by rw [hB2]; exact run_string_add_sum W _ _ (by have : (⟨#[112, 101, 114, 115, 111, 110, 97, 108, 61]⟩ : ByteArray).size = 9 := rfl; omega)
             have a3 : ∀ W, (Op.stringOp .add B2 D11).run Tryd.prog W = .ok (.string E2) W := fun W => by rw [hB3]; exact run_string_add_sum W _ _ (by omega)
             have HE2 : Hid (E2 = ⟨(pline k q).toArray⟩) := by
               show _ = _
               rw [HFIN.out, hB3, hB2, hB1, hD, HE1.out, show bpart 10 q.t = _ from if_neg hpt]
               simp only [str_add, List.append_assoc]
               rfl
             have sz11 : E2.size ≤ 500 := by omega
             clear hB1 hB2 hB3 hD s1 s2 s3 sD sl HE1 hpt
             go_wp2_with fail
             go_region_held3 (fun W => W.cell? ⟨w1.heap.size, 10, none⟩ = some (.slice ta2 q.t.length tc2)) (first | go_keep | assumption) (first | (go_at_call 23; refine (HN10.out _).mono ?_; rintro e w7 ⟨rfl, rfl⟩) | (go_at_call 25; refine (HF11.out).mono ?_; rintro e w11 ⟨rfl, hb11⟩; have v3 := (hb11.cell (p := ⟨w1.heap.size, 10, none⟩) hz9).trans c10))
             all_goals
               have HS11 := Lib.hid (HS.out.step hb11)
               clear hb11 v3 a1 a2 a3
               go_wp2_with fail
               go_ret2
               exact ⟨ret_str2 HE2.out, HS11.out.2.2.2.2.2⟩
         · have e1 : 0 < q.s.length := by
             rcases Nat.eq_zero_or_pos q.s.length with h | h
             · exact absurd (List.eq_nil_of_length_eq_zero h) hps
             · exact h
           obtain ⟨D10, hD⟩ : ∃ D : ByteArray, D = ⟨((hxs q.s).map fun z => UInt8.ofNat z.toNat).toArray⟩ := ⟨_, rfl⟩
           have HF10 : Hid (Calls Tryd.prog 25 #[.slice sa2 q.s.length sc2] wr.drew fun e w' => e = .returned (.string D10) ∧ Below wr.heap.size wr w') := by
             have h : Calls Tryd.prog 25 #[.slice sa2 q.s.length sc2] wr.drew fun e w' => e = .returned (.string D10) ∧ Below wr.drew.heap.size wr.drew w' := by rw [hD]; exact c_rhex sa2 _ sc2 q.s wr.drew (HS.out.2.2.2.1.drew) (by omega) HXS.out
             exact h.mono fun e w' ⟨h1, h2⟩ => ⟨h1, h2.os, h2.tape, h2.output, h2.size, h2.block⟩
           have sD : D10.size ≤ 40 := by rw [hD]; simp [ByteArray.size, hxs_len]; omega
           obtain ⟨B1, hB1⟩ : ∃ B : ByteArray, B = (⟨l.toArray⟩ : ByteArray) ++ ⟨#[32]⟩ := ⟨_, rfl⟩
           obtain ⟨B2, hB2⟩ : ∃ B : ByteArray, B = B1 ++ ⟨#[115, 97, 108, 116, 61]⟩ := ⟨_, rfl⟩
           obtain ⟨E1, hB3⟩ : ∃ B : ByteArray, B = B2 ++ D10 := ⟨_, rfl⟩
           have sl : ((⟨l.toArray⟩ : ByteArray)).size ≤ 300 := hl300
           have s1 : B1.size = ((⟨l.toArray⟩ : ByteArray)).size + 1 := by rw [hB1, ByteArray.size_append]; rfl
           have s2 : B2.size = B1.size + 5 := by rw [hB2, ByteArray.size_append]; rfl
           have s3 : E1.size = B2.size + D10.size := by rw [hB3, ByteArray.size_append]
           have a1 : ∀ W, (Op.stringOp .add (⟨l.toArray⟩ : ByteArray) ⟨#[32]⟩).run Tryd.prog W = .ok (.string B1) W := fun W => by rw [hB1]; exact run_string_add_sum W _ _ (by have : (⟨#[32]⟩ : ByteArray).size = 1 := rfl; omega)
           have a2 : ∀ W, (Op.stringOp .add B1 ⟨#[115, 97, 108, 116, 61]⟩).run Tryd.prog W = .ok (.string B2) W := fun W => by rw [hB2]; exact run_string_add_sum W _ _ (by have : (⟨#[115, 97, 108, 116, 61]⟩ : ByteArray).size = 5 := rfl; omega)
           have a3 : ∀ W, (Op.stringOp .add B2 D10).run Tryd.prog W = .ok (.string E1) W := fun W => by rw [hB3]; exact run_string_add_sum W _ _ (by omega)
           have HE1 : Hid (E1 = ⟨(lpre k ++ fparts k q 9 ++ bpart 9 q.s).toArray⟩) := by
             show _ = _
             rw [hB3, hB2, hB1, hD, HE0.out, show bpart 9 q.s = _ from if_neg hps]
             simp only [str_add, List.append_assoc]
             rfl
           have sz10 : E1.size ≤ 400 := by omega
           clear hB1 hB2 hB3 hD s1 s2 s3 sD sl HE0 hps
           go_wp2_with fail
           go_region_held3 (fun W => W.cell? ⟨w1.heap.size, 9, none⟩ = some (.slice sa2 q.s.length sc2)) (first | go_keep | assumption) (first | (go_at_call 23; refine (HN9.out _).mono ?_; rintro e w7 ⟨rfl, rfl⟩) | (go_at_call 25; refine (HF10.out).mono ?_; rintro e w10 ⟨rfl, hb10⟩; have v3 := (hb10.cell (p := ⟨w1.heap.size, 9, none⟩) hz9).trans c9))
           have d10 := (hb10.cell (p := ⟨w1.heap.size, 10, none⟩) hz9).trans c10
           have hz10 := Nat.lt_of_lt_of_le hz9 hb10.size
           have HSs := Lib.hid (HS.out.step hb10)
           clear hb10 v3 c9 c10 a1 a2 a3
           by_cases hpt : q.t = []
           · have e2 : q.t.length = 0 := by rw [hpt]; rfl
             have HE2 : Hid (E1 = ⟨(pline k q).toArray⟩) := by show _ = _; rw [HFIN.out, HE1.out, show bpart 10 q.t = [] from if_pos hpt, List.append_nil]
             rw [e2] at d10
             clear e2 hpt HE1
             go_wp2_with fail
             go_ret2
             exact ⟨ret_str2 HE2.out, HSs.out.2.2.2.2.2⟩
           · have e2 : 0 < q.t.length := by
               rcases Nat.eq_zero_or_pos q.t.length with h | h
               · exact absurd (List.eq_nil_of_length_eq_zero h) hpt
               · exact h
             obtain ⟨D11, hD⟩ : ∃ D : ByteArray, D = ⟨((hxs q.t).map fun z => UInt8.ofNat z.toNat).toArray⟩ := ⟨_, rfl⟩
             have HF11 : Hid (Calls Tryd.prog 25 #[.slice ta2 q.t.length tc2] w10.drew fun e w' => e = .returned (.string D11) ∧ Below w10.heap.size w10 w') := by
               have h : Calls Tryd.prog 25 #[.slice ta2 q.t.length tc2] w10.drew fun e w' => e = .returned (.string D11) ∧ Below w10.drew.heap.size w10.drew w' := by rw [hD]; exact c_rhex ta2 _ tc2 q.t w10.drew (HSs.out.2.2.2.2.1.drew) (by omega) HXT.out
               exact h.mono fun e w' ⟨h1, h2⟩ => ⟨h1, h2.os, h2.tape, h2.output, h2.size, h2.block⟩
             have sD : D11.size ≤ 40 := by rw [hD]; simp [ByteArray.size, hxs_len]; omega
             obtain ⟨B1, hB1⟩ : ∃ B : ByteArray, B = E1 ++ ⟨#[32]⟩ := ⟨_, rfl⟩
             obtain ⟨B2, hB2⟩ : ∃ B : ByteArray, B = B1 ++ ⟨#[112, 101, 114, 115, 111, 110, 97, 108, 61]⟩ := ⟨_, rfl⟩
             obtain ⟨E2, hB3⟩ : ∃ B : ByteArray, B = B2 ++ D11 := ⟨_, rfl⟩
             have sl : (E1).size ≤ 400 := sz10
             have s1 : B1.size = (E1).size + 1 := by rw [hB1, ByteArray.size_append]; rfl
             have s2 : B2.size = B1.size + 9 := by rw [hB2, ByteArray.size_append]; rfl
             have s3 : E2.size = B2.size + D11.size := by rw [hB3, ByteArray.size_append]
             have a1 : ∀ W, (Op.stringOp .add E1 ⟨#[32]⟩).run Tryd.prog W = .ok (.string B1) W := fun W => by rw [hB1]; exact run_string_add_sum W _ _ (by have : (⟨#[32]⟩ : ByteArray).size = 1 := rfl; omega)
             have a2 : ∀ W, (Op.stringOp .add B1 ⟨#[112, 101, 114, 115, 111, 110, 97, 108, 61]⟩).run Tryd.prog W = .ok (.string B2) W := fun W => by rw [hB2]; exact run_string_add_sum W _ _ (by have : (⟨#[112, 101, 114, 115, 111, 110, 97, 108, 61]⟩ : ByteArray).size = 9 := rfl; omega)
             have a3 : ∀ W, (Op.stringOp .add B2 D11).run Tryd.prog W = .ok (.string E2) W := fun W => by rw [hB3]; exact run_string_add_sum W _ _ (by omega)
             have HE2 : Hid (E2 = ⟨(pline k q).toArray⟩) := by
               show _ = _
               rw [HFIN.out, hB3, hB2, hB1, hD, HE1.out, show bpart 10 q.t = _ from if_neg hpt]
               simp only [str_add, List.append_assoc]
               rfl
             have sz11 : E2.size ≤ 500 := by omega
             clear hB1 hB2 hB3 hD s1 s2 s3 sD sl HE1 hpt
             go_wp2_with fail
             go_region_held3 (fun W => W.cell? ⟨w1.heap.size, 10, none⟩ = some (.slice ta2 q.t.length tc2)) (first | go_keep | assumption) (first | (go_at_call 23; refine (HN10.out _).mono ?_; rintro e w7 ⟨rfl, rfl⟩) | (go_at_call 25; refine (HF11.out).mono ?_; rintro e w11 ⟨rfl, hb11⟩; have v3 := (hb11.cell (p := ⟨w1.heap.size, 10, none⟩) hz10).trans d10))
             all_goals
               have HS11 := Lib.hid (HSs.out.step hb11)
               clear hb11 v3 a1 a2 a3
               go_wp2_with fail
               go_ret2
               exact ⟨ret_str2 HE2.out, HS11.out.2.2.2.2.2⟩

  · rw [if_neg h0]
    have hnr : nrm k p = Pm.zero := if_neg h0
    rw [hnr] at hN
    generalize chkP k p = C at *
    have HN := Lib.hid hN
    have hne : (C != 0) = true := by simpa using h0
    clear hN h ho h0 hnr h2 hb0
    go_enter Tryd.func7, Tryd.ntmps7
    go_wp2_with fail
    refine (HN.out).mono ?_
    rintro e w1 ⟨sa2, sc2, ta2, tc2, rfl, o1, o2, hb1⟩
    simp only [pvS, pv]
    have HB1 := Lib.hid (HBL.out.trans (hb1.mono (by simp)))
    have hz1 : w.heap.size < w1.heap.size := by have := hb1.size; simp at this; omega
    clear hb1 o1 o2
    have hB0 := Blk.new w1 26 pz
    go_wp2_with (first | (refine wpList_storeB rfl 26 (.tmp 6) (.tmp 16) rfl rfl w1.heap.size _ rfl rfl hB0 (by kernel_rfl) rfl rfl ?_; intro w2 hB2 hg2 hz2; have HGR := Lib.hid hg2; clear hB2 hg2))
    go_ret2
    exact ⟨rfl, (HB1.out.alloc (Nat.le_of_lt hz1) (.cells pz 26)).grown HGR.out (by simp; omega) (fun g h => by injection h with h; omega)⟩
end Go.Proofs.YtbpbokcglicggaaDoor
