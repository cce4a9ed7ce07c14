/- Walk: the law ValueRanks. Conditions: the values as they read; bulk at most 1048576. -/
import Derived.Test.YtacnoedhpamdmaaGreatDoorOh
import Derived.Test.YtacnoedhpamdmaaGreatDoorYw
namespace Go.Proofs.YtacnoedhpamdmaaGreatDoor
open Go.RowKit
set_option linter.unusedVariables false
set_option linter.unusedSimpArgs false
attribute [local go_sem ↓] Go.wp_at_zero Go.wp_at_succ

theorem wpList_load_rowG {P : Program} {ops : Array Oper} {rest : List Oper} {o : Oper} {a : Act} {w : World} {Q : Exit → Act → World → Prop} (hgd : Region.wanted o (yielded ops a.tmps) = true) (ty : TypeId) (x : Operand) (ho : o.op = .load ty x)
    (g : Nat) (hx : a.eval x = .pointer (some ⟨g, 0, none⟩)) (t : TypeId) (cs : Array Value) (fr : Nat × Nat) (d : TypeDesc) (hg : w.heap[g]? = some (.cells cs t fr))
    (hu : P.underlying ty = some d) (hd : (match d with | .struct _ | .array _ _ => true | _ => false) = true) (hi : (P.info? ty).map (·.size) = some cs.size)
    (h : wpList P ops Q rest (a.put o.dst (.agg cs)) w) : wpList P ops Q (o :: rest) a w :=
  wpList_step fun K hK => by
    rw [if_pos hgd]
    exact wp_load_row ty x ho g hx t cs fr d hg hu hd hi (hK _ _ h)
/-- Three boxes made one behind the other. -/
theorem three_boxes (w : World) (cs cs' cs'' : List Value) : Box (((w.alloc (.cells cs.toArray 30)).alloc (.cells cs'.toArray 30)).alloc (.cells cs''.toArray 30)) w.heap.size cs ∧ Box (((w.alloc (.cells cs.toArray 30)).alloc (.cells cs'.toArray 30)).alloc (.cells cs''.toArray 30)) (w.heap.size + 1) cs' ∧
    Box (((w.alloc (.cells cs.toArray 30)).alloc (.cells cs'.toArray 30)).alloc (.cells cs''.toArray 30)) (w.heap.size + 1 + 1) cs'' ∧ Below w.heap.size w (((w.alloc (.cells cs.toArray 30)).alloc (.cells cs'.toArray 30)).alloc (.cells cs''.toArray 30)) := by
  obtain ⟨h1, h2, h3⟩ := two_boxes w cs cs'
  have h4 := Box.new ((w.alloc (.cells cs.toArray 30)).alloc (.cells cs'.toArray 30)) cs''
  rw [World.size_alloc, World.size_alloc] at h4
  have hb : Below ((w.alloc (.cells cs.toArray 30)).alloc (.cells cs'.toArray 30)).heap.size ((w.alloc (.cells cs.toArray 30)).alloc (.cells cs'.toArray 30)) (((w.alloc (.cells cs.toArray 30)).alloc (.cells cs'.toArray 30)).alloc (.cells cs''.toArray 30)) := (Below.refl _ _).alloc (Nat.le_refl _) _
  exact ⟨h1.step hb, h2.step hb, h4, h3.trans (hb.mono (by simp; omega))⟩
theorem ranks_fin {A B C D : Int} {S : Bool} (h3 : T3 A B C) (hn : D = -A) (h1 : One3 A) (hs : S = decide (A = 0)) :
    ((A != -D) = false ∧ (S != (A == 0)) = false ∧ ¬ A < -1 ∧ ¬ 1 < A) ∧ (A ≤ 0 → B ≤ 0 → ¬ 0 < C) ∧ (A ≤ 0 → B ≤ 0 → (A < 0 ∨ B < 0) → ¬ 0 ≤ C) := by
  unfold T3 at h3
  unfold One3 at h1
  refine ⟨⟨by simp; omega, ?_, by omega, by omega⟩, fun _ _ => by omega, fun _ _ _ => by omega⟩
  rw [hs]
  by_cases h0 : A = 0
  · simp [h0]
  · simp [h0]
set_option maxRecDepth 100000 in
set_option maxHeartbeats 4000000 in
theorem c_ValueRanks (a b c : Val) (cs cs' cs'' : List Value) (w : World) (h : RV w a cs) (h' : RV w b cs') (h'' : RV w c cs'') : Calls Tryz.prog 8 #[.agg cs.toArray, .agg cs'.toArray, .agg cs''.toArray] w fun e w' => e = .returned (.bool true) ∧ Below w.heap.size w w' := by
  have HTB := three_boxes w cs cs' cs''
  have HX0 := Lib.hid HTB.1
  have HY0 := Lib.hid HTB.2.1
  have HZ0 := Lib.hid HTB.2.2.1
  have HB0 := Lib.hid HTB.2.2.2
  have HRa := Lib.hid h.row
  have HRb := Lib.hid h'.row
  have HRc := Lib.hid h''.row
  have HV0 := Lib.hid (h.step HTB.2.2.2)
  have HW0 := Lib.hid (h'.step HTB.2.2.2)
  have HU0 := Lib.hid (h''.step HTB.2.2.2)
  have HFA : Hid (chk fone a = 0 → Fit a) := fun hc => fit_of h hc
  have HFB : Hid (chk fone b = 0 → Fit b) := fun hc => fit_of h' hc
  obtain ⟨EA, hEA⟩ : ∃ E, chk fone a = E := ⟨_, rfl⟩
  obtain ⟨EB, hEB⟩ : ∃ E, chk fone b = E := ⟨_, rfl⟩
  obtain ⟨EC, hEC⟩ : ∃ E, chk fone c = E := ⟨_, rfl⟩
  have HCA : Hid (∀ W, RV W a cs → Calls Tryz.prog 13 #[.agg cs.toArray] W fun e w' => e = .returned (.int .i64 EA) ∧ Below W.heap.size W w') := by rw [← hEA]; exact fun W hr => c_rCheck a cs W hr
  have HCB : Hid (∀ W, RV W b cs' → Calls Tryz.prog 13 #[.agg cs'.toArray] W fun e w' => e = .returned (.int .i64 EB) ∧ Below W.heap.size W w') := by rw [← hEB]; exact fun W hr => c_rCheck b cs' W hr
  have HCC : Hid (∀ W, RV W c cs'' → Calls Tryz.prog 13 #[.agg cs''.toArray] W fun e w' => e = .returned (.int .i64 EC) ∧ Below W.heap.size W w') := by rw [← hEC]; exact fun W hr => c_rCheck c cs'' W hr
  have HOab : Hid (EA = 0 → EB = 0 → EC = 0 → ∀ W, RV W a cs → RV W b cs' → Calls Tryz.prog 27 #[.agg cs.toArray, .agg cs'.toArray] W fun e w' => e = .returned (.tuple #[.int .i64 (ord a b), .int .i64 0]) ∧ Below W.heap.size W w') := fun h1 h2 h3 W hr hr' => by
    have := c_vOrder a b cs cs' W hr hr'
    rw [show bothE a b = 0 by unfold bothE; rw [hEA, hEB]; simp only [h1, h2, h3, if_true], show ordA a b = ord a b by unfold ordA bothE; rw [hEA, hEB]; simp only [h1, h2, h3, if_true]] at this
    exact this
  have HOba : Hid (EA = 0 → EB = 0 → EC = 0 → ∀ W, RV W b cs' → RV W a cs → Calls Tryz.prog 27 #[.agg cs'.toArray, .agg cs.toArray] W fun e w' => e = .returned (.tuple #[.int .i64 (ord b a), .int .i64 0]) ∧ Below W.heap.size W w') := fun h1 h2 h3 W hr hr' => by
    have := c_vOrder b a cs' cs W hr hr'
    rw [show bothE b a = 0 by unfold bothE; rw [hEB, hEA]; simp only [h1, h2, h3, if_true], show ordA b a = ord b a by unfold ordA bothE; rw [hEB, hEA]; simp only [h1, h2, h3, if_true]] at this
    exact this
  have HObc : Hid (EA = 0 → EB = 0 → EC = 0 → ∀ W, RV W b cs' → RV W c cs'' → Calls Tryz.prog 27 #[.agg cs'.toArray, .agg cs''.toArray] W fun e w' => e = .returned (.tuple #[.int .i64 (ord b c), .int .i64 0]) ∧ Below W.heap.size W w') := fun h1 h2 h3 W hr hr' => by
    have := c_vOrder b c cs' cs'' W hr hr'
    rw [show bothE b c = 0 by unfold bothE; rw [hEB, hEC]; simp only [h1, h2, h3, if_true], show ordA b c = ord b c by unfold ordA bothE; rw [hEB, hEC]; simp only [h1, h2, h3, if_true]] at this
    exact this
  have HOac : Hid (EA = 0 → EB = 0 → EC = 0 → ∀ W, RV W a cs → RV W c cs'' → Calls Tryz.prog 27 #[.agg cs.toArray, .agg cs''.toArray] W fun e w' => e = .returned (.tuple #[.int .i64 (ord a c), .int .i64 0]) ∧ Below W.heap.size W w') := fun h1 h2 h3 W hr hr' => by
    have := c_vOrder a c cs cs'' W hr hr'
    rw [show bothE a c = 0 by unfold bothE; rw [hEA, hEC]; simp only [h1, h2, h3, if_true], show ordA a c = ord a c by unfold ordA bothE; rw [hEA, hEC]; simp only [h1, h2, h3, if_true]] at this
    exact this
  have HOaa : Hid (EA = 0 → EB = 0 → EC = 0 → ∀ W, RV W a cs → RV W a cs → Calls Tryz.prog 27 #[.agg cs.toArray, .agg cs.toArray] W fun e w' => e = .returned (.tuple #[.int .i64 (ord a a), .int .i64 0]) ∧ Below W.heap.size W w') := fun h1 h2 h3 W hr hr' => by
    have := c_vOrder a a cs cs W hr hr'
    rw [show bothE a a = 0 by unfold bothE; rw [hEA]; simp only [h1, h2, h3, if_true], show ordA a a = ord a a by unfold ordA bothE; rw [hEA]; simp only [h1, h2, h3, if_true]] at this
    exact this
  have HSM : Hid (EA = 0 → EB = 0 → ∀ W, RV W a cs → RV W b cs' → Calls Tryz.prog 25 #[.agg cs.toArray, .agg cs'.toArray] W fun e w' => e = .returned (.tuple #[.bool (samA a b), .int .i64 0]) ∧ Below W.heap.size W w') := fun h1 h2 W hr hr' => by
    have := c_vSame a b cs cs' W hr hr'
    rw [show bothE a b = 0 by unfold bothE; rw [hEA, hEB]; simp only [h1, h2, if_true]] at this
    exact this
  have HSE : Hid (EA = 0 → EB = 0 → samA a b = decide (ord a b = 0)) := fun h1 h2 => by
    unfold samA bothE
    rw [hEA, hEB, if_pos h1, h2]
    simp only [decide_true, Bool.true_and, ord_zero_iff (HFA.out (hEA.trans h1)) (HFB.out (hEB.trans h2))]
  have HT3 := Lib.hid (ord_T3 a b c)
  have HNG := Lib.hid (ord_neg a b)
  have HON := Lib.hid (ord_one a b)
  have HZZ := Lib.hid (ord_self a)
  clear h h' h'' HTB hEA hEB hEC HFA HFB
  go_enter Tryz.func8, Tryz.ntmps8
  go_upto_region 1 with fail
  generalize World.alloc (World.alloc (w.alloc _) _) _ = w0 at *
  go_wp2_with fail
  refine (c_awake _).mono ?_; rintro e w1 ⟨rfl, hb1⟩
  have HX1 := Lib.hid (HX0.out.step hb1)
  have HY1 := Lib.hid (HY0.out.step hb1)
  have HZ1 := Lib.hid (HZ0.out.step hb1)
  have HV1 := Lib.hid (HV0.out.step hb1)
  have HW1 := Lib.hid (HW0.out.step hb1)
  have HU1 := Lib.hid (HU0.out.step hb1)
  have HB1 := Lib.hid (HB0.out.trans (hb1.mono HB0.out.size))
  clear hb1 HX0 HY0 HZ0 HV0 HW0 HU0 HB0
  go_wp2_with (first | (refine wpList_load_row rfl 30 (.tmp 3) rfl w.heap.size rfl 30 _ (0, 0) _ HX1.out.blk Tryz.underlying30 rfl HRa.out ?_) | (refine wpList_load_row rfl 30 (.tmp 4) rfl (w.heap.size + 1) rfl 30 _ (0, 0) _ HY1.out.blk Tryz.underlying30 rfl HRb.out ?_) | (refine wpList_load_row rfl 30 (.tmp 5) rfl (w.heap.size + 1 + 1) rfl 30 _ (0, 0) _ HZ1.out.blk Tryz.underlying30 rfl HRc.out ?_))
  refine (HCA.out _ HV1.out).mono ?_; rintro e w2 ⟨rfl, hb2⟩
  have HX2 := Lib.hid (HX1.out.step hb2)
  have HY2 := Lib.hid (HY1.out.step hb2)
  have HZ2 := Lib.hid (HZ1.out.step hb2)
  have HV2 := Lib.hid (HV1.out.step hb2)
  have HW2 := Lib.hid (HW1.out.step hb2)
  have HU2 := Lib.hid (HU1.out.step hb2)
  have HB2 := Lib.hid (HB1.out.trans (hb2.mono HB1.out.size))
  clear hb2 HX1 HY1 HZ1 HV1 HW1 HU1 HB1
  by_cases hA : EA = 0
  rotate_left
  · have tA : (EA != 0) = true := by simpa using hA
    go_wp2_with fail
    go_ret
    exact ⟨rfl, HB2.out⟩
  have tA : (EA != 0) = false := by simpa using hA
  have hA2 := Lib.hid hA
  clear hA
  go_wp2_with (refine wpList_load_rowG (by rfl) 30 (.tmp 4) rfl (w.heap.size + 1) rfl 30 _ (0, 0) _ HY2.out.blk Tryz.underlying30 rfl HRb.out ?_)
  refine (HCB.out _ HW2.out).mono ?_; rintro e w3 ⟨rfl, hb3⟩
  have HX3 := Lib.hid (HX2.out.step hb3)
  have HY3 := Lib.hid (HY2.out.step hb3)
  have HZ3 := Lib.hid (HZ2.out.step hb3)
  have HV3 := Lib.hid (HV2.out.step hb3)
  have HW3 := Lib.hid (HW2.out.step hb3)
  have HU3 := Lib.hid (HU2.out.step hb3)
  have HB3 := Lib.hid (HB2.out.trans (hb3.mono HB2.out.size))
  clear hb3 HX2 HY2 HZ2 HV2 HW2 HU2 HB2
  by_cases hB : EB = 0
  rotate_left
  · have tB : (EB != 0) = true := by simpa using hB
    go_wp2_with fail
    go_ret
    exact ⟨rfl, HB3.out⟩
  have tB : (EB != 0) = false := by simpa using hB
  have hB2 := Lib.hid hB
  clear hB
  go_wp2_with (refine wpList_load_rowG (by rfl) 30 (.tmp 5) rfl (w.heap.size + 1 + 1) rfl 30 _ (0, 0) _ HZ3.out.blk Tryz.underlying30 rfl HRc.out ?_)
  refine (HCC.out _ HU3.out).mono ?_; rintro e w4 ⟨rfl, hb4⟩
  have HX4 := Lib.hid (HX3.out.step hb4)
  have HY4 := Lib.hid (HY3.out.step hb4)
  have HZ4 := Lib.hid (HZ3.out.step hb4)
  have HV4 := Lib.hid (HV3.out.step hb4)
  have HW4 := Lib.hid (HW3.out.step hb4)
  have HU4 := Lib.hid (HU3.out.step hb4)
  have HB4 := Lib.hid (HB3.out.trans (hb4.mono HB3.out.size))
  clear hb4 HX3 HY3 HZ3 HV3 HW3 HU3 HB3
  by_cases hC : EC = 0
  rotate_left
  · have tC : (EC != 0) = true := by simpa using hC
    go_wp2_with fail
    go_ret
    exact ⟨rfl, HB4.out⟩
  have tC : (EC != 0) = false := by simpa using hC
  have hC2 := Lib.hid hC
  clear hC
  replace HSE := Lib.hid (HSE.out hA2.out hB2.out)
  replace HSM := Lib.hid (HSM.out hA2.out hB2.out)
  replace HOab := Lib.hid (HOab.out hA2.out hB2.out hC2.out)
  replace HOba := Lib.hid (HOba.out hA2.out hB2.out hC2.out)
  replace HObc := Lib.hid (HObc.out hA2.out hB2.out hC2.out)
  replace HOac := Lib.hid (HOac.out hA2.out hB2.out hC2.out)
  replace HOaa := Lib.hid (HOaa.out hA2.out hB2.out hC2.out)
  generalize samA a b = S at *
  generalize ord a b = A at *
  obtain ⟨D, hD⟩ : ∃ D, ord b a = D := ⟨_, rfl⟩
  rw [hD] at HOba HNG
  clear hD
  obtain rfl : D = -A := HNG.out
  generalize ord b c = B at *
  generalize ord a c = C at *
  generalize ord a a = Z at *
  go_wp2_with (first | (refine wpList_load_row rfl 30 (.tmp 3) rfl w.heap.size rfl 30 _ (0, 0) _ HX4.out.blk Tryz.underlying30 rfl HRa.out ?_) | (refine wpList_load_row rfl 30 (.tmp 4) rfl (w.heap.size + 1) rfl 30 _ (0, 0) _ HY4.out.blk Tryz.underlying30 rfl HRb.out ?_) | (refine wpList_load_row rfl 30 (.tmp 5) rfl (w.heap.size + 1 + 1) rfl 30 _ (0, 0) _ HZ4.out.blk Tryz.underlying30 rfl HRc.out ?_))
  refine (HOab.out _ HV4.out HW4.out).mono ?_; rintro e w5 ⟨rfl, hb5⟩
  have HX5 := Lib.hid (HX4.out.step hb5)
  have HY5 := Lib.hid (HY4.out.step hb5)
  have HZ5 := Lib.hid (HZ4.out.step hb5)
  have HV5 := Lib.hid (HV4.out.step hb5)
  have HW5 := Lib.hid (HW4.out.step hb5)
  have HU5 := Lib.hid (HU4.out.step hb5)
  have HB5 := Lib.hid (HB4.out.trans (hb5.mono HB4.out.size))
  clear hb5 HX4 HY4 HZ4 HV4 HW4 HU4 HB4
  go_wp2_with (first | (refine wpList_load_row rfl 30 (.tmp 3) rfl w.heap.size rfl 30 _ (0, 0) _ HX5.out.blk Tryz.underlying30 rfl HRa.out ?_) | (refine wpList_load_row rfl 30 (.tmp 4) rfl (w.heap.size + 1) rfl 30 _ (0, 0) _ HY5.out.blk Tryz.underlying30 rfl HRb.out ?_) | (refine wpList_load_row rfl 30 (.tmp 5) rfl (w.heap.size + 1 + 1) rfl 30 _ (0, 0) _ HZ5.out.blk Tryz.underlying30 rfl HRc.out ?_))
  refine (HOba.out _ HW5.out HV5.out).mono ?_; rintro e w6 ⟨rfl, hb6⟩
  have HX6 := Lib.hid (HX5.out.step hb6)
  have HY6 := Lib.hid (HY5.out.step hb6)
  have HZ6 := Lib.hid (HZ5.out.step hb6)
  have HV6 := Lib.hid (HV5.out.step hb6)
  have HW6 := Lib.hid (HW5.out.step hb6)
  have HU6 := Lib.hid (HU5.out.step hb6)
  have HB6 := Lib.hid (HB5.out.trans (hb6.mono HB5.out.size))
  clear hb6 HX5 HY5 HZ5 HV5 HW5 HU5 HB5
  go_wp2_with (first | (refine wpList_load_row rfl 30 (.tmp 3) rfl w.heap.size rfl 30 _ (0, 0) _ HX6.out.blk Tryz.underlying30 rfl HRa.out ?_) | (refine wpList_load_row rfl 30 (.tmp 4) rfl (w.heap.size + 1) rfl 30 _ (0, 0) _ HY6.out.blk Tryz.underlying30 rfl HRb.out ?_) | (refine wpList_load_row rfl 30 (.tmp 5) rfl (w.heap.size + 1 + 1) rfl 30 _ (0, 0) _ HZ6.out.blk Tryz.underlying30 rfl HRc.out ?_))
  refine (HObc.out _ HW6.out HU6.out).mono ?_; rintro e w7 ⟨rfl, hb7⟩
  have HX7 := Lib.hid (HX6.out.step hb7)
  have HY7 := Lib.hid (HY6.out.step hb7)
  have HZ7 := Lib.hid (HZ6.out.step hb7)
  have HV7 := Lib.hid (HV6.out.step hb7)
  have HW7 := Lib.hid (HW6.out.step hb7)
  have HU7 := Lib.hid (HU6.out.step hb7)
  have HB7 := Lib.hid (HB6.out.trans (hb7.mono HB6.out.size))
  clear hb7 HX6 HY6 HZ6 HV6 HW6 HU6 HB6
  go_wp2_with (first | (refine wpList_load_row rfl 30 (.tmp 3) rfl w.heap.size rfl 30 _ (0, 0) _ HX7.out.blk Tryz.underlying30 rfl HRa.out ?_) | (refine wpList_load_row rfl 30 (.tmp 4) rfl (w.heap.size + 1) rfl 30 _ (0, 0) _ HY7.out.blk Tryz.underlying30 rfl HRb.out ?_) | (refine wpList_load_row rfl 30 (.tmp 5) rfl (w.heap.size + 1 + 1) rfl 30 _ (0, 0) _ HZ7.out.blk Tryz.underlying30 rfl HRc.out ?_))
  refine (HOac.out _ HV7.out HU7.out).mono ?_; rintro e w8 ⟨rfl, hb8⟩
  have HX8 := Lib.hid (HX7.out.step hb8)
  have HY8 := Lib.hid (HY7.out.step hb8)
  have HZ8 := Lib.hid (HZ7.out.step hb8)
  have HV8 := Lib.hid (HV7.out.step hb8)
  have HW8 := Lib.hid (HW7.out.step hb8)
  have HU8 := Lib.hid (HU7.out.step hb8)
  have HB8 := Lib.hid (HB7.out.trans (hb8.mono HB7.out.size))
  clear hb8 HX7 HY7 HZ7 HV7 HW7 HU7 HB7
  go_wp2_with (first | (refine wpList_load_row rfl 30 (.tmp 3) rfl w.heap.size rfl 30 _ (0, 0) _ HX8.out.blk Tryz.underlying30 rfl HRa.out ?_) | (refine wpList_load_row rfl 30 (.tmp 4) rfl (w.heap.size + 1) rfl 30 _ (0, 0) _ HY8.out.blk Tryz.underlying30 rfl HRb.out ?_) | (refine wpList_load_row rfl 30 (.tmp 5) rfl (w.heap.size + 1 + 1) rfl 30 _ (0, 0) _ HZ8.out.blk Tryz.underlying30 rfl HRc.out ?_))
  refine (HOaa.out _ HV8.out HV8.out).mono ?_; rintro e w9 ⟨rfl, hb9⟩
  have HX9 := Lib.hid (HX8.out.step hb9)
  have HY9 := Lib.hid (HY8.out.step hb9)
  have HZ9 := Lib.hid (HZ8.out.step hb9)
  have HV9 := Lib.hid (HV8.out.step hb9)
  have HW9 := Lib.hid (HW8.out.step hb9)
  have HU9 := Lib.hid (HU8.out.step hb9)
  have HB9 := Lib.hid (HB8.out.trans (hb9.mono HB8.out.size))
  clear hb9 HX8 HY8 HZ8 HV8 HW8 HU8 HB8
  go_wp2_with (first | (refine wpList_load_row rfl 30 (.tmp 3) rfl w.heap.size rfl 30 _ (0, 0) _ HX9.out.blk Tryz.underlying30 rfl HRa.out ?_) | (refine wpList_load_row rfl 30 (.tmp 4) rfl (w.heap.size + 1) rfl 30 _ (0, 0) _ HY9.out.blk Tryz.underlying30 rfl HRb.out ?_) | (refine wpList_load_row rfl 30 (.tmp 5) rfl (w.heap.size + 1 + 1) rfl 30 _ (0, 0) _ HZ9.out.blk Tryz.underlying30 rfl HRc.out ?_))
  refine (HSM.out _ HV9.out HW9.out).mono ?_; rintro e w10 ⟨rfl, hb10⟩
  have HX10 := Lib.hid (HX9.out.step hb10)
  have HY10 := Lib.hid (HY9.out.step hb10)
  have HZ10 := Lib.hid (HZ9.out.step hb10)
  have HV10 := Lib.hid (HV9.out.step hb10)
  have HW10 := Lib.hid (HW9.out.step hb10)
  have HU10 := Lib.hid (HU9.out.step hb10)
  have HB10 := Lib.hid (HB9.out.trans (hb10.mono HB9.out.size))
  clear hb10 HX9 HY9 HZ9 HV9 HW9 HU9 HB9
  obtain ⟨⟨f1, f2, f3, f4⟩, f5, f6⟩ := ranks_fin HT3.out (rfl : -A = -A) HON.out HSE.out
  have n1 : -1 ≤ -A := by omega
  have n2 : -A ≤ 1 := by omega
  have n3 : (A != A) = false := by simp
  have n4 : - -A = A := by omega
  have f0 : (Z != 0) = false := by simpa using HZZ.out
  have HF5 := Lib.hid f5
  have HF6 := Lib.hid f6
  clear f5 f6
  by_cases g1 : A ≤ 0
  · by_cases g2 : B ≤ 0
    · have g3 := HF5.out g1 g2
      by_cases g4 : A < 0
      · have g5 := HF6.out g1 g2 (.inl g4)
        go_wp2_with fail
        go_ret
        exact ⟨by first | rfl | (simp; done) | (simp; omega), HB10.out⟩
      · by_cases g5 : B < 0
        · have g6 := HF6.out g1 g2 (.inr g5)
          go_wp2_with fail
          go_ret
          exact ⟨by first | rfl | (simp; done) | (simp; omega), HB10.out⟩
        · go_wp2_with fail
          go_ret
          exact ⟨by first | rfl | (simp; done) | (simp; omega), HB10.out⟩
    · go_wp2_with fail
      go_ret
      exact ⟨by first | rfl | (simp; done) | (simp; omega), HB10.out⟩
  · go_wp2_with fail
    go_ret
    exact ⟨by first | rfl | (simp; done) | (simp; omega), HB10.out⟩
theorem l_ValueRanks (W : World) (a : Val) (cs : List Value) (h : RV W a cs) (b : Val) (cs' : List Value) (h' : RV W b cs') (c : Val) (cs'' : List Value) (h'' : RV W c cs'') : Calls Tryz.prog 8 #[.agg cs.toArray, .agg cs'.toArray, .agg cs''.toArray] W fun e W' => e = .returned (.bool true) ∧ Below W.heap.size W W' := c_ValueRanks a b c cs cs' cs'' W h h' h''
end Go.Proofs.YtacnoedhpamdmaaGreatDoor
