/- Walk: parameters as a line (param.Show). Conditions: the arguments as they read; the library's table of tens as laid. -/
import Derived.Test.YtofcdffcaiajmaaDoorSh
import Derived.Test.YtofcdffcaiajmaaDoorGet
import Derived.Deep.RegionHeld3
import Derived.Lib.AppendIntMem
namespace Go.Proofs.YtofcdffcaiajmaaDoor
open Go.RowKit
set_option linter.unusedVariables false
attribute [local go_sem ↓] Go.wp_at_zero Go.wp_at_succ

/-- The line's first word. -/
def lpre (k : Int) : List UInt8 := if k = 2 then [50, 115] else [50, 98]
theorem if_zero2 {c : Prop} [Decidable c] {a b : Int} (ha : a ≠ 0) (h : (if c then a else b) = 0) : ¬c ∧ b = 0 := by
  by_cases hc : c
  · rw [if_pos hc] at h; exact absurd h ha
  · rw [if_neg hc] at h; exact ⟨hc, h⟩
theorem sw_lens {k : Int} {p q : Pm} (h : chkP k p = 0) (e1 : q.d = p.d) (e2 : q.key = p.key) (e3 : q.fo = p.fo) (e4 : q.de = p.de) (e5 : q.off = p.off) (e6 : q.xof = p.xof) (e7 : q.nd = p.nd) (e8 : q.inn = p.inn)
    (hs : (q.s.length : Int) ≤ kmost k / 4) (ht : (q.t.length : Int) ≤ kmost k / 4) : chkP k q = 0 := by
  unfold chkP chkOf chk at h ⊢
  rw [e1, e2, e3, e4, e5, e6, e7, e8]
  obtain ⟨h1, h⟩ := if_zero2 (by decide) h
  obtain ⟨h2, h⟩ := if_zero2 (by decide) h
  obtain ⟨h3, h⟩ := if_zero2 (by decide) h
  obtain ⟨h4, h⟩ := if_zero2 (by decide) h
  obtain ⟨h5, h⟩ := if_zero2 (by decide) h
  obtain ⟨h6, h⟩ := if_zero2 (by decide) h
  obtain ⟨h7, h⟩ := if_zero2 (by decide) h
  obtain ⟨h8, h⟩ := if_zero2 (by decide) h
  obtain ⟨h9, h⟩ := if_zero2 (by decide) h
  rw [if_neg h1, if_neg h2, if_neg h3, if_neg h4, if_neg h5, if_neg h6, if_neg h7, if_neg h8, if_neg h9, if_neg (by omega), if_neg (by omega)]
theorem sw_norm {k : Int} {p : Pm} (h : chkP k p = 0) : chkP k p.norm = 0 := by
  have hk := (chk_ok h).2.2.2.2.2.2.2
  exact sw_lens h rfl rfl rfl rfl rfl rfl rfl rfl (by have := trim_le p.s; show ((trim p.s).length : Int) ≤ _; omega) (by have := trim_le p.t; show ((trim p.t).length : Int) ≤ _; omega)
theorem sw_ok {p : Pm} (h : PmOk p) : PmOk p.norm := ⟨h.leaf, h.off, h.xof⟩
theorem rname_f (i : Nat) (hi : i < 9) : rname ((i : Int) + 1) = ⟨(fname i).toArray⟩ := by
  have : i = 0 ∨ i = 1 ∨ i = 2 ∨ i = 3 ∨ i = 4 ∨ i = 5 ∨ i = 6 ∨ i = 7 ∨ i = 8 := by omega
  rcases this with rfl | rfl | rfl | rfl | rfl | rfl | rfl | rfl | rfl <;> rfl
theorem fname_len (i : Nat) (hi : i < 9) : (fname i).length ≤ 8 := by
  have : i = 0 ∨ i = 1 ∨ i = 2 ∨ i = 3 ∨ i = 4 ∨ i = 5 ∨ i = 6 ∨ i = 7 ∨ i = 8 := by omega
  rcases this with rfl | rfl | rfl | rfl | rfl | rfl | rfl | rfl | rfl <;> decide
theorem fpart_len {k : Int} {p : Pm} {i : Nat} (hi : i < 9) (h : 0 ≤ fv p i ∧ fv p i < 18446744073709551616) : (fpart k p i).length ≤ 30 := by
  unfold fpart
  split
  · simp
  · have h1 := fname_len i hi
    have h2 := dig_len20 (u := (fv p i).toNat) (by omega)
    simp only [List.length_append, List.length_cons, List.length_nil]
    omega
theorem fparts_len {k : Int} {p : Pm} (h : ∀ i, 0 ≤ fv p i ∧ fv p i < 18446744073709551616) : ∀ n, n ≤ 9 → (fparts k p n).length ≤ 30 * n
  | 0, _ => by simp [fparts]
  | n + 1, hn => by
    have h1 := fparts_len (k := k) h n (by omega)
    have h2 := fpart_len (k := k) (i := n) (by omega) (h n)
    simp only [fparts, List.length_append]
    omega
theorem ret_str2 {a b : ByteArray} {c : Value} (h : a = b) : Ending.returned (.tuple #[.string a, c]) = .returned (.tuple #[.string b, c]) := by rw [h]
theorem lpre_len (k : Int) : (lpre k).length = 2 := by unfold lpre; split <;> rfl
theorem usual_chk {k : Int} (h : k = 1 ∨ k = 2) : chkP k (plainP (kmost k) 0) = 0 := by rcases h with rfl | rfl <;> rfl
theorem usual_ok {d key : Int} : PmOk (plainP d key) := ⟨⟨by simp [plainP], by simp [plainP]⟩, ⟨by simp [plainP], by simp [plainP]⟩, ⟨by simp [plainP], by simp [plainP]⟩⟩
set_option maxRecDepth 100000 in
set_option maxHeartbeats 4000000 in
theorem c_Show (k : Int) (p : Pm) (sa : Option Addr) (sc : Nat) (ta : Option Addr) (tc : Nat) (w : World) (h : RdP w p sa sc ta tc) (ho : PmOk p) (htab : Lib.TabIs Tryd.prog w "internal/strconv.uint64pow10" .u64 Lib.pow10Tab) (hxs : ∀ z ∈ p.s, 0 ≤ z ∧ z < 256) (hxt : ∀ z ∈ p.t, 0 ≤ z ∧ z < 256) :
    Calls Tryd.prog 10 #[.int .i64 k, pvS p sa sc ta tc] w fun e w' => e = .returned (.tuple #[bstr (if chkP k p = 0 then pline k p.norm else []), .int .i64 (chkP k p)]) ∧ Below w.heap.size w w' := by
  by_cases h0 : chkP k p = 0
  · rw [if_pos h0, h0]
    have hk := (chk_ok h0).1
    have hb0 := (Below.refl w.heap.size w).alloc (Nat.le_refl _) (.cells (pvC p sa sc ta tc) 26)
    have hB0 := Blk.new w 26 (pvC p sa sc ta tc)
    have h2 := h.step hb0
    have HC := Lib.hid (fun w => (h0 ▸ c_CheckP k p sa sc ta tc w : Calls Tryd.prog 5 #[.int .i64 k, pvS p sa sc ta tc] w fun e w' => e = .returned (.int .i64 0) ∧ Below w.heap.size w w'))
    have HN := Lib.hid (fun w h => c_normal p sa sc ta tc w h)
    have HB0 := Lib.hid hB0
    have HBL := Lib.hid hb0
    have H0 := Lib.hid h0
    clear h hb0 hB0 h0
    simp only [pvS, pv] at *
    have HKK := Lib.hid hk
    have ht : ((k == 2) = false ∧ lpre k = [50, 98]) ∨ ((k == 2) = true ∧ lpre k = [50, 115]) := by
      rcases hk with rfl | rfl
      · exact .inl ⟨rfl, rfl⟩
      · exact .inr ⟨rfl, rfl⟩
    clear hk
    rcases ht with ⟨ht, hlp⟩ | ⟨ht, hlp⟩
    all_goals
     have HLP := Lib.hid hlp
     clear hlp
     go_enter Tryd.func10, Tryd.ntmps10
     go_wp2_with fail
     refine (HC.out _).mono ?_
     rintro e w1 ⟨rfl, hb1⟩
     have K0 := Lib.hid (HB0.out.below hb1 (by simp))
     have h3 := h2.step hb1
     have HL := Lib.hid (HBL.out.trans (hb1.mono (B' := w.heap.size) (by simp)))
     have hz1 := hb1.size
     simp only [World.size_alloc] at hz1
     clear hb1 h2
     go_wp2_with (first | (refine wpList_load_row rfl 26 (.tmp 3) rfl w.heap.size rfl 26 _ (0, 0) _ K0.out Tryd.underlying26 rfl (by kernel_rfl) ?_))
     refine (HN.out _ h3).mono ?_
     rintro e w2 ⟨sa2, sc2, ta2, tc2, rfl, o1, o2, hb2⟩
     simp only [pvS, pv]
     have J1 := Lib.hid (K0.out.below hb2 (by omega))
     have HM := Lib.hid (HL.out.trans (hb2.mono (by omega)))
     have hz2 := hb2.size
     clear hb2
     go_wp2_with (first | (refine wpList_storeB rfl 26 (.tmp 3) (.tmp 18) rfl rfl w.heap.size _ rfl rfl J1.out (by kernel_rfl) rfl rfl ?_; intro w4 hB4 hg4 hz4))
     have hlt4 : w.heap.size < w4.heap.size := by omega
     have q1 := own_far o1 hg4 (by omega)
     have q2 := own_far o2 hg4 (by omega)
     clear o1 o2
     have HM4 := Lib.hid (HM.out.grown hg4 (by omega) (fun _ h => by injection h with h; omega))
     have hle4 : w1.heap.size < w4.heap.size + 1 := by omega
     clear hz4
     refine (c_rows k HKK.out _).mono ?_
     rintro e w5 ⟨rfl, hR, hb5⟩
     have hz5 := hb5.size
     have HBX := Lib.hid (hB4.below hb5 (by omega))
     have HRW := Lib.hid hR
     have HM5 := Lib.hid (HM4.out.trans (hb5.mono (by omega)))
     have hl5 := hR.lt
     have HRS := Lib.hid ((Reads.of_own q1).step hb5)
     have HRT := Lib.hid ((Reads.of_own q2).step hb5)
     clear hB4 hg4 hR hb5 q1 q2
     go_wp2_with fail
     go_loopw [7, 24] (fun vs vi wr => ∃ (i : Nat) (l : List UInt8), i ≤ 9 ∧ vi = .int .i64 i ∧ vs = bstr l ∧ Hid (l = lpre k ++ fparts k p.norm i) ∧ Hid (Below w5.heap.size w5 wr)) (fun _ vi _ => 9 - (intOf vi).toNat)
     case atStart => exact ⟨0, _, by omega, rfl, rfl, (by show _ = _; rw [HLP.out]; rfl), Below.refl _ _⟩
     case round =>
       obtain ⟨i, l, hi, rfl, rfl, HLN, HB⟩ := hrel
       by_cases hlt : i < 9
       · obtain ⟨r0, r1, r2, r3, r4⟩ := row_at k HKK.out i hlt
         have hRw := HRW.out.below HB.out (by omega)
         have hbx := HBX.out.below HB.out (by omega)
         have c0 := (hRw.cell _).trans r0
         have c1 := (hRw.cell _).trans r1
         have c2 := (hRw.cell _).trans r2
         have c3 := (hRw.cell _).trans r3
         have c4 := (hRw.cell _).trans r4
         have HBA := Lib.hid hbx
         clear r0 r1 r2 r3 r4 hRw hbx
         go_wp2_with (first | (refine wpList_load_row rfl 26 (.tmp 3) rfl w.heap.size rfl 26 _ (0, 0) _ (HBA.out.alloc _) Tryd.underlying26 rfl (by kernel_rfl) ?_))
         have HV := Lib.hid (fun w => c_value k p.norm sa2 sc2 ta2 tc2 i hlt (sw_norm H0.out) (sw_ok ho) w)
         have HV2 := Lib.hid (fun w => c_value k (plainP (kmost k) 0) none 0 none 0 i hlt (usual_chk HKK.out) usual_ok w)
         have HU := Lib.hid (c_usual k HKK.out)
         have HRC := Lib.hid (Blk.new wr 50 #[.int .i64 ((i : Int) + 1), .int .i64 (fatN k i : Nat), .int .i64 (fszN k i : Nat), .string (rname ((i : Int) + 1)), .int .i64 (rwhy ((i : Int) + 1))])
         have HBC := Lib.hid ((Below.refl wr.heap.size wr).alloc (Nat.le_refl _) (.cells #[.int .i64 ((i : Int) + 1), .int .i64 (fatN k i : Nat), .int .i64 (fszN k i : Nat), .string (rname ((i : Int) + 1)), .int .i64 (rwhy ((i : Int) + 1))] 50))
         refine (HV.out _).mono ?_
         rintro e w6 ⟨rfl, hb6⟩
         have HR6 := Lib.hid (HRC.out.below hb6 (by simp))
         have HB6 := Lib.hid (HBC.out.trans (hb6.mono (by simp)))
         have hz6 : wr.heap.size < w6.heap.size := by have := hb6.size; simp at this; omega
         have d0 := HR6.out.cell 0
         have d3 := HR6.out.cell 3
         simp at d0 d3
         clear hb6 c0 c1 c2 c3 c4 HRC HBC HV
         go_wp2_with fail
         go_region_held3 (fun W => W.cell? ⟨wr.heap.size, 0, none⟩ = some (.int .i64 ((i : Int) + 1)) ∧ W.cell? ⟨wr.heap.size, 3, none⟩ = some (.string (rname ((i : Int) + 1))) ∧ wr.heap.size < W.heap.size) (first | go_keep | (refine ⟨?_, ?_, ?_⟩ <;> assumption)) (first | (go_at_call 22; refine (HU.out _).mono ?_; rintro e w7 ⟨rfl, hb7⟩; have s0 := (hb7.cell (p := ⟨wr.heap.size, 0, none⟩) hz6).trans d0; have s3 := (hb7.cell (p := ⟨wr.heap.size, 3, none⟩) hz6).trans d3; have sz := Nat.lt_of_lt_of_le hz6 hb7.size; simp only [pvS, pv, plainP]) | (go_at_call 17; refine (HV2.out _).mono ?_; rintro e w8 ⟨rfl, hb8⟩; have u0 := (hb8.cell (p := ⟨wr.heap.size, 0, none⟩) sz).trans s0; have u3 := (hb8.cell (p := ⟨wr.heap.size, 3, none⟩) sz).trans s3; have uz := Nat.lt_of_lt_of_le sz hb8.size))
         clear s0 s3 sz
         have hb7' : Below w6.heap.size w6 w7 := ⟨hb7.os, hb7.tape, hb7.output, hb7.size, hb7.block⟩
         have HB8 := Lib.hid (below_step HB.out (HB6.out.trans ((below_step hb7' hb8).mono (Nat.le_of_lt hz6)) |>.mono (Nat.le_refl _)))
         clear hb7'
         clear hb7 hb8
         by_cases heq : fv p.norm i = fv (plainP (kmost k) 0) i
         · have hq : (fv p.norm i != fv (plainP (kmost k) 0) i) = false := by simp [heq]
           have HLX : Hid (l = lpre k ++ fparts k p.norm (i + 1)) := by
             show _ = _
             rw [HLN.out, fparts, fpart, if_pos heq, List.append_nil]
           go_wp2_with fail
           go_roundw
           case rel => exact ⟨i + 1, l, by omega, by go_num, rfl, HLX.out, HB8.out⟩
           case measure => simp [intOf]; omega
         · have hq : (fv p.norm i != fv (plainP (kmost k) 0) i) = true := by simp [heq]
           have hfb := fv_bd (sw_norm H0.out) (sw_ok ho) i
           obtain ⟨u, hu⟩ : ∃ u : Nat, fv p.norm i = (u : Int) := ⟨(fv p.norm i).toNat, by omega⟩
           have HTW : Hid (Lib.TabIs Tryd.prog w8 "internal/strconv.uint64pow10" .u64 Lib.pow10Tab) := Lib.tabBelow_of_tabIs htab w8 (HM5.out.trans (HB8.out.mono (by omega)))
           have HLX : Hid (lpre k ++ fparts k p.norm (i + 1) = l ++ ([32] ++ (fname i ++ ([61] ++ Lib.decDigits u)))) := by
             show _ = _
             rw [HLN.out, fparts, fpart, if_neg heq, hu, List.append_assoc]; rfl
           rw [hu] at hq
           clear heq
           have hl300 : l.length ≤ 300 := by
             have h1 := fparts_len (k := k) (fun j => fv_bd (sw_norm H0.out) (sw_ok ho) j) i hi
             have h2 := lpre_len k
             rw [HLN.out, List.length_append]
             omega
           have hfl := fname_len i hlt
           have hdl := dig_len20 (u := u) (by omega)
           obtain ⟨nb, hnb⟩ : ∃ nb : ByteArray, nb = ⟨(fname i).toArray⟩ := ⟨_, rfl⟩
           clear u0 u3
           rename w8.cell? ⟨wr.heap.size, 0, none⟩ = _ ∧ _ => hHe
           obtain ⟨-, u3, -⟩ := hHe
           rw [rname_f i hlt, ← hnb] at u3
           obtain ⟨D, hD⟩ : ∃ D : ByteArray, D = ⟨(Lib.decDigits u).toArray⟩ := ⟨_, rfl⟩
           have HF : Hid (∀ W, Lib.TabIs Tryd.prog W "internal/strconv.uint64pow10" .u64 Lib.pow10Tab → Calls Tryd.prog 23 #[.int .u64 u, .int .i64 10] W fun e w' => e = .returned (.string D) ∧ Below W.heap.size W w') := fun W ht => by rw [hD]; exact c_FmtU u (by omega) W ht
           obtain ⟨B1, hB1⟩ : ∃ B : ByteArray, B = ⟨#[32]⟩ ++ nb := ⟨_, rfl⟩
           obtain ⟨B2, hB2⟩ : ∃ B : ByteArray, B = B1 ++ ⟨#[61]⟩ := ⟨_, rfl⟩
           obtain ⟨B3, hB3⟩ : ∃ B : ByteArray, B = B2 ++ D := ⟨_, rfl⟩
           obtain ⟨B4, hB4⟩ : ∃ B : ByteArray, B = ⟨l.toArray⟩ ++ B3 := ⟨_, rfl⟩
           have s0 : nb.size ≤ 8 := by rw [hnb]; exact hfl
           have s1 : B1.size = 1 + nb.size := by rw [hB1, ByteArray.size_append]; rfl
           have s2 : B2.size = B1.size + 1 := by rw [hB2, ByteArray.size_append]; rfl
           have sD : D.size ≤ 20 := by rw [hD]; exact hdl
           have s3 : B3.size = B2.size + D.size := by rw [hB3, ByteArray.size_append]
           have sl : (⟨l.toArray⟩ : ByteArray).size ≤ 300 := hl300
           have a1 : ∀ W, (Op.stringOp .add ⟨#[32]⟩ nb).run Tryd.prog W = .ok (.string B1) W := fun W => by rw [hB1]; exact run_string_add_sum W _ _ (by have : (⟨#[32]⟩ : ByteArray).size = 1 := rfl; omega)
           have a2 : ∀ W, (Op.stringOp .add B1 ⟨#[61]⟩).run Tryd.prog W = .ok (.string B2) W := fun W => by rw [hB2]; exact run_string_add_sum W _ _ (by have : (⟨#[61]⟩ : ByteArray).size = 1 := rfl; omega)
           have a3 : ∀ W, (Op.stringOp .add B2 D).run Tryd.prog W = .ok (.string B3) W := fun W => by rw [hB3]; exact run_string_add_sum W _ _ (by omega)
           have a4 : ∀ W, (Op.stringOp .add ⟨l.toArray⟩ B3).run Tryd.prog W = .ok (.string B4) W := fun W => by rw [hB4]; exact run_string_add_sum W _ _ (by omega)
           have HBV : Hid (Value.string B4 = bstr (lpre k ++ fparts k p.norm (i + 1))) := by
             show _ = _
             rw [HLX.out, hB4, hB3, hB2, hB1, hD, hnb]
             simp only [str_add, List.append_assoc]
           clear hB1 hB2 hB3 hB4 hD hnb s0 s1 s2 s3 sD sl hfl hdl hl300
           go_wp2_with fail
           go_region_held3 (fun W => W.cell? ⟨wr.heap.size, 3, none⟩ = some (.string nb)) (first | go_keep | assumption) (first | (go_at_call 23; refine (HF.out w8.drew HTW.out).mono ?_; rintro e w9 ⟨rfl, hb9⟩; have v3 := (hb9.cell (p := ⟨wr.heap.size, 3, none⟩) uz).trans u3))
           have hb9' : Below w8.heap.size w8 w9 := ⟨hb9.os, hb9.tape, hb9.output, hb9.size, hb9.block⟩
           have HB9 := Lib.hid (below_step HB8.out hb9')
           clear hb9 hb9' v3 a1 a2 a3 a4
           go_wp2_with fail
           go_roundw
           case rel => exact ⟨i + 1, _, by omega, by go_num, HBV.out, rfl, HB9.out⟩
           case measure => simp [intOf]; omega
       · obtain rfl : i = 9 := by omega
         have hbx := HBX.out.below HB.out (by omega)
         have c9 : wr.cell? ⟨w.heap.size, 9, none⟩ = some (.slice sa2 p.norm.s.length sc2) := hbx.cell 9
         have c10 : wr.cell? ⟨w.heap.size, 10, none⟩ = some (.slice ta2 p.norm.t.length tc2) := hbx.cell 10
         have HR1 := Lib.hid (HRS.out.step HB.out)
         have HR2 := Lib.hid (HRT.out.step HB.out)
         have hz9 : w.heap.size < wr.heap.size := by have := HB.out.size; omega
         have hl300 : l.length ≤ 300 := by
           have h1 := fparts_len (k := k) (fun j => fv_bd (sw_norm H0.out) (sw_ok ho) j) 9 hi
           have h2 := lpre_len k
           rw [HLN.out, List.length_append]
           omega
         have hck := (chk_ok (sw_norm H0.out)).2.2.2.2.2.2.2
         have hkm : kmost k ≤ 64 := by rcases HKK.out with rfl | rfl <;> decide
         have hsl : p.norm.s.length ≤ 16 := by omega
         have htl : p.norm.t.length ≤ 16 := by omega
         have HXS : Hid (∀ z ∈ p.norm.s, 0 ≤ z ∧ z < 256) := fun z hz => hxs z (List.mem_of_mem_take hz)
         have HXT : Hid (∀ z ∈ p.norm.t, 0 ≤ z ∧ z < 256) := fun z hz => hxt z (List.mem_of_mem_take hz)
         clear hck hkm hbx hxs hxt
         have HE0 : Hid ((⟨l.toArray⟩ : ByteArray) = ⟨(lpre k ++ fparts k p.norm 9).toArray⟩) := by show _ = _; rw [HLN.out]
         clear HLN
         by_cases hps : p.norm.s = []
         · have e1 : p.norm.s.length = 0 := by rw [hps]; rfl
           have HE1 : Hid ((⟨l.toArray⟩ : ByteArray) = ⟨(lpre k ++ fparts k p.norm 9 ++ bpart 9 p.norm.s).toArray⟩) := by show _ = _; rw [HE0.out, show bpart 9 p.norm.s = [] from if_pos hps, List.append_nil]
           rw [e1] at c9
           have HBq := HB
           clear e1 hps HE0
           have HFIN : Hid (pline k p.norm = lpre k ++ fparts k p.norm 9 ++ bpart 9 p.norm.s ++ bpart 10 p.norm.t) := rfl
           by_cases hpt : p.norm.t = []
           · have e2 : p.norm.t.length = 0 := by rw [hpt]; rfl
             have HE2 : Hid ((⟨l.toArray⟩ : ByteArray) = ⟨(pline k p.norm).toArray⟩) := by show _ = _; rw [HFIN.out, HE1.out, show bpart 10 p.norm.t = [] from if_pos hpt, List.append_nil]
             rw [e2] at c10
             clear e2 hpt HE1
             go_wp2_with fail
             go_ret2
             exact ⟨ret_str2 HE2.out, HM5.out.trans (HBq.out.mono (by omega))⟩
           · have e2 : 0 < p.norm.t.length := by
               rcases Nat.eq_zero_or_pos p.norm.t.length with h | h
               · exact absurd (List.eq_nil_of_length_eq_zero h) hpt
               · exact h
             obtain ⟨D2, hD2⟩ : ∃ D : ByteArray, D = ⟨((hxs p.norm.t).map fun z => UInt8.ofNat z.toNat).toArray⟩ := ⟨_, rfl⟩
             have HF2 : Hid (Calls Tryd.prog 24 #[.slice ta2 p.norm.t.length tc2] wr fun e w' => e = .returned (.string D2) ∧ Below (wr).heap.size wr w') := by
               show Calls _ _ _ _ _
               rw [hD2]; exact c_Hex ta2 _ tc2 p.norm.t wr HR2.out (by omega) HXT.out
             have sD2 : D2.size ≤ 40 := by rw [hD2]; simp [ByteArray.size, hxs_len]; omega
             have HE2 : Hid ((⟨l.toArray⟩ : ByteArray) ++ (⟨#[32, 112, 101, 114, 115, 111, 110, 97, 108, 61]⟩ ++ D2) = ⟨(pline k p.norm).toArray⟩) := by
               show _ = _
               rw [HFIN.out, hD2, HE1.out, show bpart 10 p.norm.t = _ from if_neg hpt]
               simp only [str_add, List.append_assoc]
               rfl
             clear hD2 HE1 hpt
             go_wp2_with fail
             refine (HF2.out).mono ?_
             rintro e w11 ⟨rfl, hb11⟩
             have HBz := Lib.hid (below_step HBq.out hb11)
             clear hb11
             go_wp2
             go_ret2
             exact ⟨ret_str2 HE2.out, HM5.out.trans (HBz.out.mono (by omega))⟩
         · have e1 : 0 < p.norm.s.length := by
             rcases Nat.eq_zero_or_pos p.norm.s.length with h | h
             · exact absurd (List.eq_nil_of_length_eq_zero h) hps
             · exact h
           obtain ⟨D, hD⟩ : ∃ D : ByteArray, D = ⟨((hxs p.norm.s).map fun z => UInt8.ofNat z.toNat).toArray⟩ := ⟨_, rfl⟩
           have HF : Hid (Calls Tryd.prog 24 #[.slice sa2 p.norm.s.length sc2] wr fun e w' => e = .returned (.string D) ∧ Below wr.heap.size wr w') := by
             show Calls _ _ _ _ _
             rw [hD]; exact c_Hex sa2 _ sc2 p.norm.s wr HR1.out (by omega) HXS.out
           have sD : D.size ≤ 40 := by rw [hD]; simp [ByteArray.size, hxs_len]; omega
           have HE1 : Hid ((⟨l.toArray⟩ : ByteArray) ++ (⟨#[32, 115, 97, 108, 116, 61]⟩ ++ D) = ⟨(lpre k ++ fparts k p.norm 9 ++ bpart 9 p.norm.s).toArray⟩) := by
             show _ = _
             rw [hD, HE0.out, show bpart 9 p.norm.s = _ from if_neg hps]
             simp only [str_add, List.append_assoc]
             rfl
           clear hD HE0 hps
           go_wp2_with fail
           refine (HF.out).mono ?_
           rintro e w10 ⟨rfl, hb10⟩
           have d10 := (hb10.cell (p := ⟨w.heap.size, 10, none⟩) hz9).trans c10
           have HBq := Lib.hid (below_step HB.out hb10)
           have HR3 := Lib.hid (HR2.out.step hb10)
           clear hb10 c9 c10
           have HFIN : Hid (pline k p.norm = lpre k ++ fparts k p.norm 9 ++ bpart 9 p.norm.s ++ bpart 10 p.norm.t) := rfl
           by_cases hpt : p.norm.t = []
           · have e2 : p.norm.t.length = 0 := by rw [hpt]; rfl
             have HE2 : Hid (((⟨l.toArray⟩ : ByteArray) ++ (⟨#[32, 115, 97, 108, 116, 61]⟩ ++ D)) = ⟨(pline k p.norm).toArray⟩) := by show _ = _; rw [HFIN.out, HE1.out, show bpart 10 p.norm.t = [] from if_pos hpt, List.append_nil]
             rw [e2] at d10
             clear e2 hpt HE1
             go_wp2_with fail
             go_ret2
             exact ⟨ret_str2 HE2.out, HM5.out.trans (HBq.out.mono (by omega))⟩
           · have e2 : 0 < p.norm.t.length := by
               rcases Nat.eq_zero_or_pos p.norm.t.length with h | h
               · exact absurd (List.eq_nil_of_length_eq_zero h) hpt
               · exact h
             obtain ⟨D2, hD2⟩ : ∃ D : ByteArray, D = ⟨((hxs p.norm.t).map fun z => UInt8.ofNat z.toNat).toArray⟩ := ⟨_, rfl⟩
             have HF2 : Hid (Calls Tryd.prog 24 #[.slice ta2 p.norm.t.length tc2] w10 fun e w' => e = .returned (.string D2) ∧ Below (w10).heap.size w10 w') := by
               show Calls _ _ _ _ _
               rw [hD2]; exact c_Hex ta2 _ tc2 p.norm.t w10 HR3.out (by omega) HXT.out
             have sD2 : D2.size ≤ 40 := by rw [hD2]; simp [ByteArray.size, hxs_len]; omega
             have HE2 : Hid (((⟨l.toArray⟩ : ByteArray) ++ (⟨#[32, 115, 97, 108, 116, 61]⟩ ++ D)) ++ (⟨#[32, 112, 101, 114, 115, 111, 110, 97, 108, 61]⟩ ++ D2) = ⟨(pline k p.norm).toArray⟩) := by
               show _ = _
               rw [HFIN.out, hD2, HE1.out, show bpart 10 p.norm.t = _ from if_neg hpt]
               simp only [str_add, List.append_assoc]
               rfl
             clear hD2 HE1 hpt
             go_wp2_with fail
             refine (HF2.out).mono ?_
             rintro e w11 ⟨rfl, hb11⟩
             have HBz := Lib.hid (below_step HBq.out hb11)
             clear hb11
             go_wp2
             go_ret2
             exact ⟨ret_str2 HE2.out, HM5.out.trans (HBz.out.mono (by omega))⟩
  · rw [if_neg h0]
    have hC := c_CheckP k p sa sc ta tc
    generalize chkP k p = C at *
    have HC := Lib.hid hC
    have hne : (C != 0) = true := by simpa using h0
    clear hC h ho h0
    go_enter Tryd.func10, Tryd.ntmps10
    go_wp2_with fail
    refine (HC.out _).mono ?_
    rintro e w1 ⟨rfl, hb1⟩
    have HB := Lib.hid (((Below.refl w.heap.size w).alloc (Nat.le_refl _) _).trans (hb1.mono (by simp)))
    clear hb1
    go_wp2
    go_ret2
    exact ⟨rfl, HB.out⟩
end Go.Proofs.YtofcdffcaiajmaaDoor
