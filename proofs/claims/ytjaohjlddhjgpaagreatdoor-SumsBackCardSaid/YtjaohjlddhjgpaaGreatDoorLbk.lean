/- Walk: the law on lines read back (quernlaw26.SumsBack). Conditions: lengths within the reach; the library's table of tens and its errors as laid. -/
import Derived.Test.YtjaohjlddhjgpaaGreatDoorLrd
import Derived.Test.YtjaohjlddhjgpaaGreatDoorBk
namespace Go.Proofs.YtjaohjlddhjgpaaGreatDoor
open Go.RowKit
set_option linter.unusedVariables false
attribute [local go_sem ↓] Go.wp_at_zero Go.wp_at_succ

set_option maxRecDepth 100000 in
theorem c_alive26 (w : World) : Calls Tryz.prog 18 #[] w fun x w' => x = .returned (.bool true) ∧ Below w.heap.size w w' := by
  obtain ⟨i0, hi0, hz0, hz1, hz2⟩ := info_parts u8_info
  have HPL : Hid (∀ D c W, RdS W ⟨1, ⟨#[120]⟩, [10], false⟩ D 1 c → Calls Tryz.prog 7 #[.agg #[.int .i64 1, .string ⟨#[120]⟩, .slice D 1 c, .bool false]] W fun x w' => x = .returned (.tuple #[.string ⟨#[48, 97, 32, 32, 120]⟩, .int .i64 0]) ∧ Below W.heap.size W w') := fun D c W h => by
    refine (c_Plain ⟨1, ⟨#[120]⟩, [10], false⟩ D 1 c W h (by omega)).mono ?_
    rintro x w' ⟨h1, h2⟩
    refine ⟨?_, h2⟩
    have e1 : rightS ⟨1, ⟨#[120]⟩, [10], false⟩ = true := by decide
    have e2 : plainS ⟨1, ⟨#[120]⟩, [10], false⟩ = [48, 97, 32, 32, 120] := by kernel_rfl
    unfold LineIs at h1
    rw [e1, e2] at h1
    exact h1
  go_enter Tryz.func18, Tryz.ntmps18
  go_wp2_with (first | (at_builtin; refine wpList_append_any _ rfl (.tmp 5) (.tmp 6) _ rfl (w.heap.size + 1) 5 i0 _ 1 1 Tryz.underlying23 hi0 hz0 hz1 hz2 rfl (by omega) (.slice none 0 0) 0 [] rfl ⟨by simp, .inl ⟨rfl, rfl⟩⟩ _ _ 1 1 [.int .u8 10] rfl (reads_one _ _ _) (by intro u hu; rw [List.mem_singleton.1 hu]; rfl) (by simp only [maxLen]; omega) (by omega) (by simp) ?_; intro v1 w2 hown1 hg1 _; rw [Nat.zero_add, List.nil_append] at hown1; obtain ⟨A1, c1, rfl⟩ := own_slice hown1; have hb2 := below_of_grown hg1; have HB2 := Lib.hid (below_step ((Below.refl w.heap.size w).alloc (Nat.le_refl _) (.cells #[.int .u8 10] 5)) hb2); have HR2 : Hid (RdS w2 ⟨1, ⟨#[120]⟩, [10], false⟩ A1 1 c1) := ⟨rfl, by show 1 ≤ _; omega, Reads.of_own hown1⟩; clear hown1 hg1 hb2) | (go_at_call 7; refine (HPL.out _ _ _ HR2.out).mono ?_; rintro x w3 ⟨rfl, hb3⟩; have HB3 := Lib.hid (below_step HB2.out hb3); clear hb3))
  go_ret
  exact ⟨rfl, HB3.out⟩
theorem both_len {e : Sm} (h : rightS e = true) : (plainS e).length ≤ 9000 ∧ (tagS e).length ≤ 9000 := by
  obtain ⟨p1, p2, p3, p4⟩ := right_parts h
  have hb : e.nm.data.toList.length ≤ 4096 := by
    unfold fileB at p4
    simp only [Bool.and_eq_true, decide_eq_true_eq] at p4
    exact p4.1.2
  have hl := (esc_len e.nm.data.toList).2
  have ha := ahd_len e.nm
  have hh := hx_len e.dg
  have hw := swrd_len e.a
  have hd : (dsh e).length ≤ 4 := by
    unfold dsh
    split
    · have := dig_len 2 (8 * e.dg.length) (by omega)
      simp; omega
    · exact Nat.zero_le _
  constructor
  · unfold plainS
    split <;> simp <;> omega
  · unfold tagS
    simp
    omega
theorem plain_len {e : Sm} (h : rightS e = true) : (plainS e).length ≤ 9000 := (both_len h).1
theorem tag_len {e : Sm} (h : rightS e = true) : (tagS e).length ≤ 9000 := (both_len h).2
theorem mono_eq {f : Nat} {args : Array Value} {w : World} {v v' : Value} (h : Calls Tryz.prog f args w fun x w' => x = .returned v ∧ Below w.heap.size w w') (hv : v = v') : Calls Tryz.prog f args w fun x w' => x = .returned v' ∧ Below w.heap.size w w' := by subst hv; exact h
set_option maxRecDepth 100000 in
set_option maxHeartbeats 8000000 in
theorem c_SumsBack (e : Sm) (D : Option Addr) (n c : Nat) (w : World) (h : RdS w e D n c) (hn2 : n ≤ 140737488351232) (htab : Lib.TabIs Tryz.prog w "internal/strconv.uint64pow10" .u64 Lib.pow10Tab) (hL : Laid w) :
    Calls Tryz.prog 6 #[smV e D n c] w fun x w' => x = .returned (.bool true) ∧ Below w.heap.size w w' := by
  have hB0 := Blk.new w 25 (smC e D n c)
  have hb0 := (Below.refl w.heap.size w).alloc (Nat.le_refl _) (.cells (smC e D n c) 25)
  have HS0 := Lib.hid (h.step hb0)
  have HT : Hid (∀ W, Below w.heap.size w W → Lib.TabIs Tryz.prog W "internal/strconv.uint64pow10" .u64 Lib.pow10Tab) := fun W hb => Lib.tabBelow_of_tabIs htab W hb
  have HL : Hid (∀ W, Below w.heap.size w W → Laid W) := fun W hb => hL.below hb
  have HAV := Lib.hid (fun W => c_alive26 W)
  have HOW : Hid (∀ W, RdS W e D n c → Calls Tryz.prog 8 #[smV e D n c] W (OwnS W e n)) := fun W h => c_own e D n c W h hn2
  have HPL : Hid (∀ D c W, RdS W e D n c → Calls Tryz.prog 7 #[smV e D n c] W fun x w' => LineIs (rightS e) (plainS e) x ∧ Below W.heap.size W w') := fun D c W h => c_Plain e D n c W h hn2
  have HTG : Hid (∀ D c W, RdS W e D n c → Below w.heap.size w W → Calls Tryz.prog 10 #[smV e D n c] W fun x w' => LineIs (rightS e) (tagS e) x ∧ Below W.heap.size W w') := fun D c W h hb => c_Tagged e D n c W h hn2 (HT.out W hb)
  have HES0 := fun W => c_Escape e.nm h.bn W
  have hen := h.hn
  have hbn := h.bn
  have hB := Lib.hid hb0
  have HB0 := Lib.hid hb0
  have K0 := Lib.hid hB0
  clear h htab HT hb0 hB0 hL hB
  unfold LineIs at HPL HTG
  by_cases hr : rightS e = true
  · obtain ⟨p1, p2, p3, p4⟩ := right_parts hr
    have hn64 : n ≤ 64 := by omega
    have HRD1 : Hid (∀ W, Below w.heap.size w W → Calls Tryz.prog 14 #[bstr (plainS e), .int .i64 e.a] W (OutS W e 0 0)) := fun W hb => by
      have h2 := c_Read ⟨(plainS e).toArray⟩ e.a W (by have := plain_len hr; show (plainS e).length ≤ _; omega) (HL.out W hb)
      rw [rd_plain e hr] at h2
      exact h2
    have HRD2 : Hid (∀ W, Below w.heap.size w W → Calls Tryz.prog 14 #[bstr (tagS e), .int .i64 1] W (OutS W ⟨e.a, e.nm, e.dg, false⟩ 0 0)) := fun W hb => by
      have h2 := c_Read ⟨(tagS e).toArray⟩ 1 W (by have := tag_len hr; show (tagS e).length ≤ _; omega) (HL.out W hb)
      rw [rd_tagged e hr] at h2
      exact h2
    have he4 := esc_file p4
    have hue := un_esc (t := ⟨(esc e.nm.data.toList).toArray⟩) rfl p4
    have HES : Hid (∀ W, Calls Tryz.prog 19 #[.string e.nm] W fun x w' => x = .returned (.tuple #[bstr (esc e.nm.data.toList), .bool (escD e.nm), .int .i64 0]) ∧ Below W.heap.size W w') := fun W => mono_eq (HES0 W) (by unfold escN escO escE; rw [if_pos p4, if_pos p4, p4]; rfl)
    have HUN : Hid (∀ W, Calls Tryz.prog 20 #[bstr (esc e.nm.data.toList)] W fun x w' => x = .returned (.tuple #[.string e.nm, .int .i64 0, .int .i64 0]) ∧ Below W.heap.size W w') := fun W => mono_eq (c_Unescape ⟨(esc e.nm.data.toList).toArray⟩ (by show (esc e.nm.data.toList).length ≤ _; omega) W) (by rw [hue.1, hue.2.1, hue.2.2, ← ba_back e.nm]; rfl)
    have HQ : Hid ((esc e.nm.data.toList == e.nm.toList) = !(escD e.nm)) := by show _ = _; unfold escD; rw [Bool.not_not]
    have HAK1 : Hid (∀ D' c' W, Reads W W.heap.size 1 D' n (bys e.dg) → Reads W W.heap.size 1 D n (bys e.dg) → Calls Tryz.prog 16 #[smV e D' n c', smV e D n c] W fun x w' => x = .returned (.bool true) ∧ Below W.heap.size W w') := fun D' c' W h1 h2 => c_alike e D' D n c' c W _ (Nat.le_refl _) h1 h2 (by omega)
    have HAK2 : Hid (∀ D' c' D2 c2 W, Reads W W.heap.size 1 D' n (bys e.dg) → Reads W W.heap.size 1 D2 n (bys e.dg) → Calls Tryz.prog 16 #[.agg #[.int .i64 e.a, .string e.nm, .slice D' n c', .bool false], .agg #[.int .i64 e.a, .string e.nm, .slice D2 n c2, .bool false]] W fun x w' => x = .returned (.bool true) ∧ Below W.heap.size W w') := fun D' c' D2 c2 W h1 h2 => c_alike ⟨e.a, e.nm, e.dg, false⟩ D' D2 n c' c2 W _ (Nat.le_refl _) h1 h2 (by omega)
    rw [hr] at HPL HTG
    simp only [if_true] at HPL HTG
    unfold OutS at HRD1 HRD2
    simp only [hen] at HRD1 HRD2
    clear hr HL HES0 p1 p2 p3 p4 he4 hue hen hbn
    generalize plainS e = pl at *
    generalize tagS e = tg at *
    generalize esc e.nm.data.toList = es at *
    generalize escD e.nm = ed at *
    simp only [smV, smC] at *
    go_enter Tryz.func6, Tryz.ntmps6
    go_wp2_with fail
    refine (HAV.out _).mono ?_
    rintro x w1 ⟨rfl, hb1⟩
    have HB1 := Lib.hid (below_step HB0.out hb1)
    have HS1 := Lib.hid (HS0.out.step hb1)
    have K1 := Lib.hid (K0.out.below hb1 K0.out.lt)
    clear hb1 HB0 HS0 K0
    go_wp2_with (refine wpList_load_row rfl 25 (.tmp 1) rfl w.heap.size rfl 25 _ (0, 0) _ K1.out Tryz.underlying25 rfl (by kernel_rfl) ?_)
    refine (HOW.out _ HS1.out).mono ?_
    rintro x w2 ⟨D2, c2, rfl, hr2, hb2⟩
    have HR2 := Lib.hid hr2
    clear hr2
    have HB2 := Lib.hid (below_step HB1.out hb2)
    have HS2 := Lib.hid (HS1.out.step hb2)
    have K2 := Lib.hid (K1.out.below hb2 K1.out.lt)
    clear hb2 HB1 HS1 K1
    go_wp2_with fail
    refine (HPL.out _ _ _ HR2.out).mono ?_
    rintro x w3 ⟨rfl, hb3⟩
    clear HR2
    have HB3 := Lib.hid (below_step HB2.out hb3)
    have HS3 := Lib.hid (HS2.out.step hb3)
    have K3 := Lib.hid (K2.out.below hb3 K2.out.lt)
    clear hb3 HB2 HS2 K2
    have a3 := K3.out.cell 0
    go_wp2_with fail
    refine (HRD1.out _ HB3.out).mono ?_
    rintro x w4 ⟨D4, c4, rfl, ho4, hb4⟩
    clear a3
    have HB4 := Lib.hid (below_step HB3.out hb4)
    have HS4 := Lib.hid (HS3.out.step hb4)
    have K4 := Lib.hid (K3.out.below hb4 K3.out.lt)
    clear hb4 HB3 HS3 K3
    have HB5 := Lib.hid (HB4.out.alloc HB4.out.size (.cells #[.int .i64 e.a, .string e.nm, .slice D4 n c4, .bool e.st] 25))
    have HS5 := Lib.hid (HS4.out.step ((Below.refl w4.heap.size w4).alloc (Nat.le_refl _) (.cells #[.int .i64 e.a, .string e.nm, .slice D4 n c4, .bool e.st] 25)))
    have K5 := Lib.hid (K4.out.alloc (.cells #[.int .i64 e.a, .string e.nm, .slice D4 n c4, .bool e.st] 25))
    have M5 := Lib.hid (Blk.new w4 25 #[.int .i64 e.a, .string e.nm, .slice D4 n c4, .bool e.st])
    have R5 := Lib.hid (Reads.of_own (ho4.alloc (.cells #[.int .i64 e.a, .string e.nm, .slice D4 n c4, .bool e.st] 25)))
    clear ho4 HB4 HS4 K4
    go_wp2_with (first
      | (refine wpList_load_rowG (by rfl) 25 (.tmp 5) rfl w4.heap.size rfl 25 _ (0, 0) _ M5.out Tryz.underlying25 rfl (by kernel_rfl) ?_)
      | (refine wpList_load_rowG (by rfl) 25 (.tmp 1) rfl w.heap.size rfl 25 _ (0, 0) _ K5.out Tryz.underlying25 rfl (by kernel_rfl) ?_)
      | fail)
    generalize w4.alloc (.cells #[.int .i64 e.a, .string e.nm, .slice D4 n c4, .bool e.st] 25) = w5 at *
    refine (HAK1.out _ _ _ R5.out HS5.out.rd).mono ?_
    rintro x w6 ⟨rfl, hb6⟩
    clear R5 M5
    have HB6 := Lib.hid (below_step HB5.out hb6)
    have HS6 := Lib.hid (HS5.out.step hb6)
    have K6 := Lib.hid (K5.out.below hb6 K5.out.lt)
    clear hb6 HB5 HS5 K5
    go_wp2_with (refine wpList_load_row rfl 25 (.tmp 1) rfl w.heap.size rfl 25 _ (0, 0) _ K6.out Tryz.underlying25 rfl (by kernel_rfl) ?_)
    refine (HOW.out _ HS6.out).mono ?_
    rintro x w7 ⟨D7, c7, rfl, hr7, hb7⟩
    have HR7 := Lib.hid hr7
    clear hr7
    have HB7 := Lib.hid (below_step HB6.out hb7)
    have HS7 := Lib.hid (HS6.out.step hb7)
    have K7 := Lib.hid (K6.out.below hb7 K6.out.lt)
    clear hb7 HB6 HS6 K6
    go_wp2_with fail
    refine (HTG.out _ _ _ HR7.out HB7.out).mono ?_
    rintro x w8 ⟨rfl, hb8⟩
    clear HR7
    have HB8 := Lib.hid (below_step HB7.out hb8)
    have HS8 := Lib.hid (HS7.out.step hb8)
    have K8 := Lib.hid (K7.out.below hb8 K7.out.lt)
    clear hb8 HB7 HS7 K7
    go_wp2_with (refine wpList_load_row rfl 25 (.tmp 1) rfl w.heap.size rfl 25 _ (0, 0) _ K8.out Tryz.underlying25 rfl (by kernel_rfl) ?_)
    refine (HOW.out _ HS8.out).mono ?_
    rintro x w9 ⟨D9, c9, rfl, hr9, hb9⟩
    have HB9 := Lib.hid (below_step HB8.out hb9)
    have HS9 := Lib.hid (HS8.out.step hb9)
    have K9 := Lib.hid (K8.out.below hb9 K8.out.lt)
    clear hb9 HB8 HS8 K8
    have HB10 := Lib.hid (HB9.out.alloc HB9.out.size (.cells #[.int .i64 e.a, .string e.nm, .slice D9 n c9, .bool false] 25))
    have HS10 := Lib.hid (HS9.out.step ((Below.refl w9.heap.size w9).alloc (Nat.le_refl _) (.cells #[.int .i64 e.a, .string e.nm, .slice D9 n c9, .bool false] 25)))
    have K10 := Lib.hid (K9.out.alloc (.cells #[.int .i64 e.a, .string e.nm, .slice D9 n c9, .bool false] 25))
    have Z10 := Lib.hid (Blk.new w9 25 #[.int .i64 e.a, .string e.nm, .slice D9 n c9, .bool false])
    have R10 := Lib.hid ((hr9.step ((Below.refl w9.heap.size w9).alloc (Nat.le_refl _) (.cells #[.int .i64 e.a, .string e.nm, .slice D9 n c9, .bool false] 25))).rd)
    clear hr9 HB9 HS9 K9
    go_wp2_with fail
    generalize w9.alloc (.cells #[.int .i64 e.a, .string e.nm, .slice D9 n c9, .bool false] 25) = w10 at *
    refine (HRD2.out _ HB10.out).mono ?_
    rintro x w11 ⟨D11, c11, rfl, ho11, hb11⟩
    have Z11 := Lib.hid (Z10.out.below hb11 Z10.out.lt)
    have R11 := Lib.hid (R10.out.step hb11)
    clear Z10 R10
    have HB11 := Lib.hid (below_step HB10.out hb11)
    have HS11 := Lib.hid (HS10.out.step hb11)
    have K11 := Lib.hid (K10.out.below hb11 K10.out.lt)
    clear hb11 HB10 HS10 K10
    have HB12 := Lib.hid (HB11.out.alloc HB11.out.size (.cells #[.int .i64 e.a, .string e.nm, .slice D11 n c11, .bool false] 25))
    have HS12 := Lib.hid (HS11.out.step ((Below.refl w11.heap.size w11).alloc (Nat.le_refl _) (.cells #[.int .i64 e.a, .string e.nm, .slice D11 n c11, .bool false] 25)))
    have K12 := Lib.hid (K11.out.alloc (.cells #[.int .i64 e.a, .string e.nm, .slice D11 n c11, .bool false] 25))
    have Y12 := Lib.hid (Blk.new w11 25 #[.int .i64 e.a, .string e.nm, .slice D11 n c11, .bool false])
    have Z12 := Lib.hid (Z11.out.alloc (.cells #[.int .i64 e.a, .string e.nm, .slice D11 n c11, .bool false] 25))
    have Q12 := Lib.hid (Reads.of_own (ho11.alloc (.cells #[.int .i64 e.a, .string e.nm, .slice D11 n c11, .bool false] 25)))
    have R12 := Lib.hid (R11.out.step ((Below.refl w11.heap.size w11).alloc (Nat.le_refl _) (.cells #[.int .i64 e.a, .string e.nm, .slice D11 n c11, .bool false] 25)))
    clear ho11 HB11 HS11 K11 Z11 R11
    go_wp2_with (first
      | (refine wpList_load_rowG (by rfl) 25 (.tmp 10) rfl w11.heap.size rfl 25 _ (0, 0) _ Y12.out Tryz.underlying25 rfl (by kernel_rfl) ?_)
      | (refine wpList_load_rowG (by rfl) 25 (.tmp 9) rfl w9.heap.size rfl 25 _ (0, 0) _ Z12.out Tryz.underlying25 rfl (by kernel_rfl) ?_)
      | fail)
    generalize w11.alloc (.cells #[.int .i64 e.a, .string e.nm, .slice D11 n c11, .bool false] 25) = w12 at *
    refine (HAK2.out _ _ _ _ _ Q12.out R12.out).mono ?_
    rintro x w13 ⟨rfl, hb13⟩
    clear Y12 Z12 Q12 R12
    have HB13 := Lib.hid (below_step HB12.out hb13)
    have HS13 := Lib.hid (HS12.out.step hb13)
    have K13 := Lib.hid (K12.out.below hb13 K12.out.lt)
    clear hb13 HB12 HS12 K12
    have nm13 := K13.out.cell 1
    go_wp2_with fail
    refine (HES.out _).mono ?_
    rintro x w14 ⟨rfl, hb14⟩
    have HB14 := Lib.hid (below_step HB13.out hb14)
    have HS14 := Lib.hid (HS13.out.step hb14)
    have K14 := Lib.hid (K13.out.below hb14 K13.out.lt)
    clear hb14 HB13 HS13 K13
    clear nm13
    go_wp2_with fail
    refine (HUN.out _).mono ?_
    rintro x w15 ⟨rfl, hb15⟩
    have HB15 := Lib.hid (below_step HB14.out hb15)
    have HS15 := Lib.hid (HS14.out.step hb15)
    have K15 := Lib.hid (K14.out.below hb15 K14.out.lt)
    clear hb15 HB14 HS14 K14
    have nm15 := K15.out.cell 1
    go_wp2_with fail
    go_ret
    exact ⟨by simp [HQ.out], HB15.out⟩
  · have hr' : rightS e = false := by simpa using hr
    rw [hr'] at HPL HTG
    simp only [Bool.false_eq_true, if_false] at HPL HTG
    by_cases hf : fileB e.nm.data.toList = true
    · have he4 := esc_file hf
      have hue := un_esc (t := ⟨(esc e.nm.data.toList).toArray⟩) rfl hf
      have HES : Hid (∀ W, Calls Tryz.prog 19 #[.string e.nm] W fun x w' => x = .returned (.tuple #[bstr (esc e.nm.data.toList), .bool (escD e.nm), .int .i64 0]) ∧ Below W.heap.size W w') := fun W => mono_eq (HES0 W) (by unfold escN escO escE; rw [if_pos hf, if_pos hf, hf]; rfl)
      have HUN : Hid (∀ W, Calls Tryz.prog 20 #[bstr (esc e.nm.data.toList)] W fun x w' => x = .returned (.tuple #[.string e.nm, .int .i64 0, .int .i64 0]) ∧ Below W.heap.size W w') := fun W => mono_eq (c_Unescape ⟨(esc e.nm.data.toList).toArray⟩ (by show (esc e.nm.data.toList).length ≤ _; omega) W) (by rw [hue.1, hue.2.1, hue.2.2, ← ba_back e.nm]; rfl)
      have HQ : Hid ((esc e.nm.data.toList == e.nm.toList) = !(escD e.nm)) := by show _ = _; unfold escD; rw [Bool.not_not]
      clear hr hr' HL HES0 he4 hue hen hbn hf
      generalize plainS e = pl at *
      generalize tagS e = tg at *
      generalize esc e.nm.data.toList = es at *
      generalize escD e.nm = ed at *
      simp only [smV, smC] at *
      go_enter Tryz.func6, Tryz.ntmps6
      go_wp2_with fail
      refine (HAV.out _).mono ?_
      rintro x w1 ⟨rfl, hb1⟩
      have HB1 := Lib.hid (below_step HB0.out hb1)
      have HS1 := Lib.hid (HS0.out.step hb1)
      have K1 := Lib.hid (K0.out.below hb1 K0.out.lt)
      clear hb1 HB0 HS0 K0
      go_wp2_with (refine wpList_load_row rfl 25 (.tmp 1) rfl w.heap.size rfl 25 _ (0, 0) _ K1.out Tryz.underlying25 rfl (by kernel_rfl) ?_)
      refine (HOW.out _ HS1.out).mono ?_
      rintro x w2 ⟨D2, c2, rfl, hr2, hb2⟩
      have HR2 := Lib.hid hr2
      clear hr2
      have HB2 := Lib.hid (below_step HB1.out hb2)
      have HS2 := Lib.hid (HS1.out.step hb2)
      have K2 := Lib.hid (K1.out.below hb2 K1.out.lt)
      clear hb2 HB1 HS1 K1
      go_wp2_with fail
      refine (HPL.out _ _ _ HR2.out).mono ?_
      rintro x w3 ⟨rfl, hb3⟩
      clear HR2
      have HB3 := Lib.hid (below_step HB2.out hb3)
      have HS3 := Lib.hid (HS2.out.step hb3)
      have K3 := Lib.hid (K2.out.below hb3 K2.out.lt)
      clear hb3 HB2 HS2 K2
      go_wp2_with (refine wpList_load_row rfl 25 (.tmp 1) rfl w.heap.size rfl 25 _ (0, 0) _ K3.out Tryz.underlying25 rfl (by kernel_rfl) ?_)
      refine (HOW.out _ HS3.out).mono ?_
      rintro x w4 ⟨D4, c4, rfl, hr4, hb4⟩
      have HR4 := Lib.hid hr4
      clear hr4
      have HB4 := Lib.hid (below_step HB3.out hb4)
      have HS4 := Lib.hid (HS3.out.step hb4)
      have K4 := Lib.hid (K3.out.below hb4 K3.out.lt)
      clear hb4 HB3 HS3 K3
      go_wp2_with fail
      refine (HTG.out _ _ _ HR4.out HB4.out).mono ?_
      rintro x w5 ⟨rfl, hb5⟩
      clear HR4
      have HB5 := Lib.hid (below_step HB4.out hb5)
      have HS5 := Lib.hid (HS4.out.step hb5)
      have K5 := Lib.hid (K4.out.below hb5 K4.out.lt)
      clear hb5 HB4 HS4 K4
      have nm5 := K5.out.cell 1
      go_wp2_with fail
      refine (HES.out _).mono ?_
      rintro x w6 ⟨rfl, hb6⟩
      have HB6 := Lib.hid (below_step HB5.out hb6)
      have HS6 := Lib.hid (HS5.out.step hb6)
      have K6 := Lib.hid (K5.out.below hb6 K5.out.lt)
      clear hb6 HB5 HS5 K5
      clear nm5
      go_wp2_with fail
      refine (HUN.out _).mono ?_
      rintro x w7 ⟨rfl, hb7⟩
      have HB7 := Lib.hid (below_step HB6.out hb7)
      have HS7 := Lib.hid (HS6.out.step hb7)
      have K7 := Lib.hid (K6.out.below hb7 K6.out.lt)
      clear hb7 HB6 HS6 K6
      have nm7 := K7.out.cell 1
      go_wp2_with fail
      go_ret
      exact ⟨by simp [HQ.out], HB7.out⟩
    · have HES : Hid (∀ W, Calls Tryz.prog 19 #[.string e.nm] W fun x w' => x = .returned (.tuple #[.string ⟨#[]⟩, .bool false, .int .i64 1]) ∧ Below W.heap.size W w') := fun W => mono_eq (HES0 W) (by unfold escN escO escE; rw [if_neg hf, if_neg hf, Bool.eq_false_iff.2 hf]; rfl)
      clear hr hr' HL HES0 hen hbn hf
      generalize plainS e = pl at *
      generalize tagS e = tg at *
      simp only [smV, smC] at *
      go_enter Tryz.func6, Tryz.ntmps6
      go_wp2_with fail
      refine (HAV.out _).mono ?_
      rintro x w1 ⟨rfl, hb1⟩
      have HB1 := Lib.hid (below_step HB0.out hb1)
      have HS1 := Lib.hid (HS0.out.step hb1)
      have K1 := Lib.hid (K0.out.below hb1 K0.out.lt)
      clear hb1 HB0 HS0 K0
      go_wp2_with (refine wpList_load_row rfl 25 (.tmp 1) rfl w.heap.size rfl 25 _ (0, 0) _ K1.out Tryz.underlying25 rfl (by kernel_rfl) ?_)
      refine (HOW.out _ HS1.out).mono ?_
      rintro x w2 ⟨D2, c2, rfl, hr2, hb2⟩
      have HR2 := Lib.hid hr2
      clear hr2
      have HB2 := Lib.hid (below_step HB1.out hb2)
      have HS2 := Lib.hid (HS1.out.step hb2)
      have K2 := Lib.hid (K1.out.below hb2 K1.out.lt)
      clear hb2 HB1 HS1 K1
      go_wp2_with fail
      refine (HPL.out _ _ _ HR2.out).mono ?_
      rintro x w3 ⟨rfl, hb3⟩
      clear HR2
      have HB3 := Lib.hid (below_step HB2.out hb3)
      have HS3 := Lib.hid (HS2.out.step hb3)
      have K3 := Lib.hid (K2.out.below hb3 K2.out.lt)
      clear hb3 HB2 HS2 K2
      go_wp2_with (refine wpList_load_row rfl 25 (.tmp 1) rfl w.heap.size rfl 25 _ (0, 0) _ K3.out Tryz.underlying25 rfl (by kernel_rfl) ?_)
      refine (HOW.out _ HS3.out).mono ?_
      rintro x w4 ⟨D4, c4, rfl, hr4, hb4⟩
      have HR4 := Lib.hid hr4
      clear hr4
      have HB4 := Lib.hid (below_step HB3.out hb4)
      have HS4 := Lib.hid (HS3.out.step hb4)
      have K4 := Lib.hid (K3.out.below hb4 K3.out.lt)
      clear hb4 HB3 HS3 K3
      go_wp2_with fail
      refine (HTG.out _ _ _ HR4.out HB4.out).mono ?_
      rintro x w5 ⟨rfl, hb5⟩
      clear HR4
      have HB5 := Lib.hid (below_step HB4.out hb5)
      have HS5 := Lib.hid (HS4.out.step hb5)
      have K5 := Lib.hid (K4.out.below hb5 K4.out.lt)
      clear hb5 HB4 HS4 K4
      have nm5 := K5.out.cell 1
      go_wp2_with fail
      refine (HES.out _).mono ?_
      rintro x w6 ⟨rfl, hb6⟩
      have HB6 := Lib.hid (below_step HB5.out hb6)
      have HS6 := Lib.hid (HS5.out.step hb6)
      have K6 := Lib.hid (K5.out.below hb6 K5.out.lt)
      clear hb6 HB5 HS5 K5
      clear nm5
      go_wp2_with fail
      go_ret
      exact ⟨rfl, HB6.out⟩
theorem l_SumsBack (W : World) (htab : Lib.TabIs Tryz.prog W "internal/strconv.uint64pow10" .u64 Lib.pow10Tab) (hL : Laid W) (a : Int) (wa : (Lit.int .i64 a).wf = true) (s : ByteArray) (hs : s.size ≤ 140737488351232) (A : Option Addr) (n c : Nat) (xs : List Int) (hr : RdInts W .u8 1 A n c xs) (b : Bool) :
    Calls Tryz.prog 6 #[.agg #[.int .i64 a, .string s, .slice A n c, .bool b]] W fun e W' => e = .returned (.bool true) ∧ Below W.heap.size W W' := by
  obtain ⟨hc, hm, hwf, hrd⟩ := hr
  obtain ⟨l, hl⟩ := bytes_of xs hwf
  rw [hl] at hrd
  exact c_SumsBack ⟨a, s, l, b⟩ A n c W ⟨by have := hrd.1; simpa [bys] using this, hs, hrd⟩ (by omega) htab hL
end Go.Proofs.YtjaohjlddhjgpaaGreatDoor
