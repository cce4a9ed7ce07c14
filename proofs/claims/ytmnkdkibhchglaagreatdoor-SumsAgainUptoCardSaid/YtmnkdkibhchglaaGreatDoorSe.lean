/- Walk: an entry's line in the other form (sums.Tagged). Conditions: lengths within the reach; the library's table of tens as laid. -/
import Derived.Test.YtmnkdkibhchglaaGreatDoorSd
import Derived.Test.YtmnkdkibhchglaaGreatDoorLy
import Derived.Lib.ItoaMem
import Derived.Lib.AppendIntMem
namespace Go.Proofs.YtmnkdkibhchglaaGreatDoor
open Go.RowKit Go.Sort
set_option linter.unusedVariables false
attribute [local go_sem ↓] Go.wp_at_zero Go.wp_at_succ

/-- The digest's length, where it is not the greatest. -/
def dsh (e : Sm) : List UInt8 := if e.dg.length < smost e.a then [45] ++ Lib.decDigits (8 * e.dg.length) else []
/-- An entry's line in the other form. -/
def tagS (e : Sm) : List UInt8 := ahd e.nm ++ (((swrd e.a ++ dsh e) ++ [32, 40]) ++ (esc e.nm.data.toList ++ ([41, 32, 61, 32] ++ hx e.dg)))
theorem below_grow (w : World) (k : Nat) (os : Array Obj) : RowKit.Below w.heap.size w (grow (w.drewN k) os) :=
  ⟨rfl, rfl, rfl, by simp [grow, World.drewN], fun i hi => heap_grow_old w os hi⟩
theorem c_Itoa (u : Nat) (hu : u < 9223372036854775808) (w : World) (htab : Lib.TabIs Tryz.prog w "internal/strconv.uint64pow10" .u64 Lib.pow10Tab) :
    Calls Tryz.prog 36 #[.int .i64 (u : Int)] w fun e w' => e = .returned (bstr (Lib.decDigits u)) ∧ Below w.heap.size w w' :=
  (Any.strconv_Itoa lays171 (u : Int) (by omega) (by omega) w htab).mono fun e w' ⟨he, k, os, hw⟩ => by
    subst hw
    refine ⟨?_, below_grow w k os⟩
    rw [he]
    have : Lib.itoa (u : Int) = Lib.decDigits u := by simp [Lib.itoa]
    rw [this]
theorem swrd_len (a : Int) : (swrd a).length ≤ 8 := by unfold swrd; (repeat' split) <;> decide
set_option maxRecDepth 100000 in
set_option maxHeartbeats 2000000 in
theorem c_Tagged (e : Sm) (D : Option Addr) (n c : Nat) (w : World) (h : RdS w e D n c) (hn2 : n ≤ 140737488351232) (htab : Lib.TabIs Tryz.prog w "internal/strconv.uint64pow10" .u64 Lib.pow10Tab) :
    Calls Tryz.prog 18 #[smV e D n c] w fun x w' => LineIs (rightS e) (tagS e) x ∧ Below w.heap.size w w' := by
  have hB0 := Blk.new w 33 (smC e D n c)
  have hb0 := (Below.refl w.heap.size w).alloc (Nat.le_refl _) (.cells (smC e D n c) 33)
  have hR := fun W => c_right e D n c h.hn h.bn hn2 W
  by_cases hr : rightS e = true
  · obtain ⟨p1, p2, p3, p4⟩ := right_parts hr
    have hen := h.hn
    rw [hen] at p1 p2
    have hn64 : n ≤ 64 := by omega
    have HRD := Lib.hid (h.rd.step hb0)
    have hhl : (hx e.dg).length ≤ 128 := by rw [hx_len]; omega
    rw [hr] at hR
    have HR := Lib.hid hR
    have HB := Lib.hid hb0
    have HO : Hid (∀ W, Calls Tryz.prog 10 #[.int .i64 e.a] W fun x w' => x = .returned (.agg #[bstr (swrd e.a), .int .i64 (smost e.a : Nat), .int .i64 (skind e.a), .bool (decide (e.a = 3 ∨ e.a = 4))]) ∧ Below W.heap.size W w') := fun W => c_of e.a W
    have HHX : Hid (∀ W, Reads W W.heap.size 1 D n (bys e.dg) → Calls Tryz.prog 35 #[.slice D n c] W fun x w' => x = .returned (bstr (hx e.dg)) ∧ Below W.heap.size W w') := fun W hr => c_HexB D n c e.dg W hr (by omega)
    have HIT : Hid (∀ W, Below w.heap.size w W → Calls Tryz.prog 36 #[.int .i64 (8 * (n : Int))] W fun x w' => x = .returned (bstr (Lib.decDigits (8 * n))) ∧ Below W.heap.size W w') := fun W hb => by
      have hi := c_Itoa (8 * n) (by omega) W (Lib.tabBelow_of_tabIs htab W hb)
      rw [show ((8 * n : Nat) : Int) = 8 * (n : Int) by omega] at hi
      exact hi
    have HLN : Hid (∀ (hd : ByteArray) (W : World), hd.data.toList = (swrd e.a ++ dsh e) ++ [32, 40] → hd.size ≤ 100 → Calls Tryz.prog 34 #[smV e D n c, .string hd, .string (⟨#[41, 32, 61, 32]⟩ ++ ⟨(hx e.dg).toArray⟩)] W fun x w' => x = .returned (bstr (tagS e)) ∧ Below W.heap.size W w') := fun hd W hk hs => by
      have hl := c_line e D n c hd (⟨#[41, 32, 61, 32]⟩ ++ ⟨(hx e.dg).toArray⟩) p4 (by omega) (by rw [ByteArray.size_append]; show 4 + (hx e.dg).length ≤ _; omega) W
      rw [ba_app, ba_mk, hk] at hl
      exact hl
    have HDS : Hid (dsh e = if n < smost e.a then [45] ++ Lib.decDigits (8 * n) else []) := by show _ = _; unfold dsh; rw [hen]
    have hwl := swrd_len e.a
    have hdl : (Lib.decDigits (8 * n)).length ≤ 3 := dig_len 2 (8 * n) (by omega)
    clear hR hb0 p4 h htab hen
    rw [hr]
    show Calls _ _ _ _ (fun x w' => x = .returned (.tuple #[bstr (tagS e), .int .i64 0]) ∧ Below w.heap.size w w')
    generalize hx e.dg = hh at *
    generalize swrd e.a = ww at *
    generalize smost e.a = MM at *
    generalize skind e.a = KK at *
    generalize decide (e.a = 3 ∨ e.a = 4) = DD at *
    generalize Lib.decDigits (8 * n) = dd at *
    clear hr
    by_cases hlt : n < MM
    · rw [if_pos hlt] at HDS
      have HLN2 : Hid (∀ W, Calls Tryz.prog 34 #[smV e D n c, .string ((⟨ww.toArray⟩ ++ (⟨#[45]⟩ ++ ⟨dd.toArray⟩)) ++ ⟨#[32, 40]⟩), .string (⟨#[41, 32, 61, 32]⟩ ++ ⟨hh.toArray⟩)] W fun x w' => x = .returned (bstr (tagS e)) ∧ Below W.heap.size W w') := fun W => HLN.out _ W (by rw [ba_app, ba_app, ba_app, ba_mk, ba_mk, HDS.out]) (by simp only [ByteArray.size_append]; show ww.length + (1 + dd.length) + 2 ≤ _; omega)
      have g1 : (n : Int) < (MM : Int) := by omega
      clear HLN HDS hlt
      simp only [smV, smC] at HR HLN2 hB0 HB ⊢
      go_enter Tryz.func18, Tryz.ntmps18
      go_wp2_with fail
      refine (HR.out _).mono ?_
      rintro x w1 ⟨rfl, hb1⟩
      have hB1 := hB0.below hb1 (by simp)
      have c0 : w1.cell? ⟨w.heap.size, 0, none⟩ = some (.int .i64 e.a) := hB1.cell 0
      have HB1 := Lib.hid (HB.out.trans (hb1.mono (B' := w.heap.size) (by simp)))
      have HRD1 := Lib.hid (HRD.out.step hb1)
      have HK1 := Lib.hid hB1
      clear hb1 hB0 hB1
      go_wp2_with fail
      refine (HO.out _).mono ?_
      rintro x w2 ⟨rfl, hb2⟩
      have HB2 := Lib.hid (below_step HB1.out hb2)
      have HRD2 := Lib.hid (HRD1.out.step hb2)
      have hB2 := HK1.out.below hb2 HK1.out.lt
      have c0 : w2.cell? ⟨w.heap.size, 0, none⟩ = some (.int .i64 e.a) := hB2.cell 0
      have c2 : w2.cell? ⟨w.heap.size, 2, none⟩ = some (.slice D n c) := hB2.cell 2
      have hz2 := hB2.lt
      have HK2 := Lib.hid hB2
      clear hb2 hB2
      go_wp2_with fail
      have hb3 : Below w2.heap.size w2 (w2.alloc (.cells #[.string ⟨ww.toArray⟩, .int .i64 MM, .int .i64 KK, .bool DD] 40)) := (Below.refl w2.heap.size w2).alloc (Nat.le_refl _) _
      have HB3 := Lib.hid (below_step HB2.out hb3)
      have HRD3 := Lib.hid (HRD2.out.step hb3)
      have HK3 := Lib.hid (HK2.out.below hb3 HK2.out.lt)
      clear hb3 HRD2 HB2 HK2
      refine (HIT.out _ HB3.out).mono ?_
      rintro x w4 ⟨rfl, hb4⟩
      have HB4 := Lib.hid (below_step HB3.out hb4)
      have HRD4 := Lib.hid (HRD3.out.step hb4)
      have hB4 := HK3.out.below hb4 HK3.out.lt
      clear hb4 HRD3 HB3 HK3 HIT HB1 HRD1 HK1 HR HO HB HRD
      have c0 : w4.cell? ⟨w.heap.size, 0, none⟩ = some (.int .i64 e.a) := hB4.cell 0
      have c1 : w4.cell? ⟨w.heap.size, 1, none⟩ = some (.string e.nm) := hB4.cell 1
      have c2 : w4.cell? ⟨w.heap.size, 2, none⟩ = some (.slice D n c) := hB4.cell 2
      have c3 : w4.cell? ⟨w.heap.size, 3, none⟩ = some (.bool e.st) := hB4.cell 3
      have hz4 := hB4.lt
      clear hB4
      go_wp2_with fail
      have a2 : ∀ W, (Op.stringOp .add (⟨ww.toArray⟩ ++ (⟨#[45]⟩ ++ ⟨dd.toArray⟩)) ⟨#[32, 40]⟩).run Tryz.prog W = .ok (.string ((⟨ww.toArray⟩ ++ (⟨#[45]⟩ ++ ⟨dd.toArray⟩)) ++ ⟨#[32, 40]⟩)) W := fun W => run_string_add_sum W _ _ (by simp only [ByteArray.size_append]; show ww.length + (1 + dd.length) + 2 ≤ _; omega)
      have a3 : ∀ W, (Op.stringOp .add ⟨#[41, 32, 61, 32]⟩ ⟨hh.toArray⟩).run Tryz.prog W = .ok (.string (⟨#[41, 32, 61, 32]⟩ ++ ⟨hh.toArray⟩)) W := fun W => run_string_add_sum W _ _ (by show 4 + hh.length ≤ _; omega)
      go_region_held3 (fun V => V.cell? ⟨w.heap.size, 0, none⟩ = some (.int .i64 e.a) ∧ V.cell? ⟨w.heap.size, 1, none⟩ = some (.string e.nm) ∧ V.cell? ⟨w.heap.size, 2, none⟩ = some (.slice D n c) ∧ V.cell? ⟨w.heap.size, 3, none⟩ = some (.bool e.st)) (first | go_keep | (refine ⟨?_, ?_, ?_, ?_⟩ <;> assumption)) (first | (go_at_call 35; refine (HHX.out w4.drew HRD4.out.drew).mono ?_; rintro x w5 ⟨rfl, hb5⟩; have d0 := (hb5.cell (p := ⟨w.heap.size, 0, none⟩) hz4).trans c0; have d1 := (hb5.cell (p := ⟨w.heap.size, 1, none⟩) hz4).trans c1; have d2 := (hb5.cell (p := ⟨w.heap.size, 2, none⟩) hz4).trans c2; have d3 := (hb5.cell (p := ⟨w.heap.size, 3, none⟩) hz4).trans c3; have hz5 := Nat.lt_of_lt_of_le hz4 hb5.size) | (go_at_call 34; refine (HLN2.out w5).mono ?_; rintro x w6 ⟨rfl, hb6⟩; have k0 := (hb6.cell (p := ⟨w.heap.size, 0, none⟩) hz5).trans d0; have k1 := (hb6.cell (p := ⟨w.heap.size, 1, none⟩) hz5).trans d1; have k2 := (hb6.cell (p := ⟨w.heap.size, 2, none⟩) hz5).trans d2; have k3 := (hb6.cell (p := ⟨w.heap.size, 3, none⟩) hz5).trans d3))
      have HX : Hid (Below w.heap.size w w6) := below_step HB4.out (below_step (W := w4) ⟨hb5.os, hb5.tape, hb5.output, hb5.size, hb5.block⟩ hb6)
      clear hb5 hb6 d0 d1 d2 d3 k0 k1 k2 k3 c0 c1 c2 c3 a2 a3
      go_wp2_with fail
      go_ret2
      exact ⟨rfl, HX.out⟩
    · rw [if_neg hlt] at HDS
      have HLN2 : Hid (∀ W, Calls Tryz.prog 34 #[smV e D n c, .string (⟨ww.toArray⟩ ++ ⟨#[32, 40]⟩), .string (⟨#[41, 32, 61, 32]⟩ ++ ⟨hh.toArray⟩)] W fun x w' => x = .returned (bstr (tagS e)) ∧ Below W.heap.size W w') := fun W => HLN.out _ W (by rw [ba_app, ba_mk, HDS.out]; simp) (by simp only [ByteArray.size_append]; show ww.length + 2 ≤ _; omega)
      clear HLN HDS HIT hdl
      simp only [smV, smC] at HR HLN2 hB0 HB ⊢
      go_enter Tryz.func18, Tryz.ntmps18
      have HN := Lib.hid hlt
      clear hlt
      go_wp2_with fail
      refine (HR.out _).mono ?_
      rintro x w1 ⟨rfl, hb1⟩
      have hB1 := hB0.below hb1 (by simp)
      have c0 : w1.cell? ⟨w.heap.size, 0, none⟩ = some (.int .i64 e.a) := hB1.cell 0
      have HB1 := Lib.hid (HB.out.trans (hb1.mono (B' := w.heap.size) (by simp)))
      have HRD1 := Lib.hid (HRD.out.step hb1)
      have HK1 := Lib.hid hB1
      clear hb1 hB0 hB1
      go_wp2_with fail
      refine (HO.out _).mono ?_
      rintro x w2 ⟨rfl, hb2⟩
      have HB2 := Lib.hid (below_step HB1.out hb2)
      have HRD2 := Lib.hid (HRD1.out.step hb2)
      have hB2 := HK1.out.below hb2 HK1.out.lt
      have c0 : w2.cell? ⟨w.heap.size, 0, none⟩ = some (.int .i64 e.a) := hB2.cell 0
      have c1 : w2.cell? ⟨w.heap.size, 1, none⟩ = some (.string e.nm) := hB2.cell 1
      have c2 : w2.cell? ⟨w.heap.size, 2, none⟩ = some (.slice D n c) := hB2.cell 2
      have c3 : w2.cell? ⟨w.heap.size, 3, none⟩ = some (.bool e.st) := hB2.cell 3
      have hz2 := hB2.lt
      have HK2 := Lib.hid hB2
      clear hb2 hB2
      go_wp2_with fail
      have hb3 : Below w2.heap.size w2 (w2.alloc (.cells #[.string ⟨ww.toArray⟩, .int .i64 MM, .int .i64 KK, .bool DD] 40)) := (Below.refl w2.heap.size w2).alloc (Nat.le_refl _) _
      have HB4 := Lib.hid (below_step HB2.out hb3)
      have HRD4 := Lib.hid (HRD2.out.step hb3)
      have hB4 := HK2.out.below hb3 HK2.out.lt
      clear hb3 HRD2 HB2 HK2 HN HB1 HRD1 HK1 HR HO HB HRD
      generalize w2.alloc (.cells #[.string ⟨ww.toArray⟩, .int .i64 MM, .int .i64 KK, .bool DD] 40) = w4 at *
      have c0 : w4.cell? ⟨w.heap.size, 0, none⟩ = some (.int .i64 e.a) := hB4.cell 0
      have c1 : w4.cell? ⟨w.heap.size, 1, none⟩ = some (.string e.nm) := hB4.cell 1
      have c2 : w4.cell? ⟨w.heap.size, 2, none⟩ = some (.slice D n c) := hB4.cell 2
      have c3 : w4.cell? ⟨w.heap.size, 3, none⟩ = some (.bool e.st) := hB4.cell 3
      have hz4 := hB4.lt
      clear hB4
      have a2 : ∀ W, (Op.stringOp .add ⟨ww.toArray⟩ ⟨#[32, 40]⟩).run Tryz.prog W = .ok (.string (⟨ww.toArray⟩ ++ ⟨#[32, 40]⟩)) W := fun W => run_string_add_sum W _ _ (by show ww.length + 2 ≤ _; omega)
      have a3 : ∀ W, (Op.stringOp .add ⟨#[41, 32, 61, 32]⟩ ⟨hh.toArray⟩).run Tryz.prog W = .ok (.string (⟨#[41, 32, 61, 32]⟩ ++ ⟨hh.toArray⟩)) W := fun W => run_string_add_sum W _ _ (by show 4 + hh.length ≤ _; omega)
      go_region_held3 (fun V => V.cell? ⟨w.heap.size, 0, none⟩ = some (.int .i64 e.a) ∧ V.cell? ⟨w.heap.size, 1, none⟩ = some (.string e.nm) ∧ V.cell? ⟨w.heap.size, 2, none⟩ = some (.slice D n c) ∧ V.cell? ⟨w.heap.size, 3, none⟩ = some (.bool e.st)) (first | go_keep | (refine ⟨?_, ?_, ?_, ?_⟩ <;> assumption)) (first | (go_at_call 35; refine (HHX.out w4.drew HRD4.out.drew).mono ?_; rintro x w5 ⟨rfl, hb5⟩; have d0 := (hb5.cell (p := ⟨w.heap.size, 0, none⟩) hz4).trans c0; have d1 := (hb5.cell (p := ⟨w.heap.size, 1, none⟩) hz4).trans c1; have d2 := (hb5.cell (p := ⟨w.heap.size, 2, none⟩) hz4).trans c2; have d3 := (hb5.cell (p := ⟨w.heap.size, 3, none⟩) hz4).trans c3; have hz5 := Nat.lt_of_lt_of_le hz4 hb5.size) | (go_at_call 34; refine (HLN2.out w5).mono ?_; rintro x w6 ⟨rfl, hb6⟩; have k0 := (hb6.cell (p := ⟨w.heap.size, 0, none⟩) hz5).trans d0; have k1 := (hb6.cell (p := ⟨w.heap.size, 1, none⟩) hz5).trans d1; have k2 := (hb6.cell (p := ⟨w.heap.size, 2, none⟩) hz5).trans d2; have k3 := (hb6.cell (p := ⟨w.heap.size, 3, none⟩) hz5).trans d3))
      have HX : Hid (Below w.heap.size w w6) := below_step HB4.out (below_step (W := w4) ⟨hb5.os, hb5.tape, hb5.output, hb5.size, hb5.block⟩ hb6)
      clear hb5 hb6 d0 d1 d2 d3 k0 k1 k2 k3 c0 c1 c2 c3 a2 a3
      go_wp2_with fail
      go_ret2
      exact ⟨rfl, HX.out⟩
  · rw [Bool.eq_false_iff.2 hr] at hR
    have HR := Lib.hid hR
    rw [Bool.eq_false_iff.2 hr]
    show Calls _ _ _ _ (fun x w' => x = .returned (.tuple #[bstr [], .int .i64 1]) ∧ Below w.heap.size w w')
    have HB := Lib.hid hb0
    clear hR hb0 hr h hB0
    simp only [smV, smC] at HR HB ⊢
    go_enter Tryz.func18, Tryz.ntmps18
    go_wp2_with fail
    refine (HR.out _).mono ?_
    rintro x w1 ⟨rfl, hb1⟩
    have HB1 := Lib.hid (HB.out.trans (hb1.mono (B' := w.heap.size) (by simp)))
    clear hb1
    go_wp2_with fail
    go_ret2
    exact ⟨rfl, HB1.out⟩
end Go.Proofs.YtmnkdkibhchglaaGreatDoor
