/- Walks: an entry's line (sums.line, sums.Plain). Conditions: lengths within the reach. -/
import Derived.Test.YtmnkdkibhchglaaGreatDoorSc
import Derived.Test.YtmnkdkibhchglaaGreatDoorRg
namespace Go.Proofs.YtmnkdkibhchglaaGreatDoor
open Go.RowKit
set_option linter.unusedVariables false
attribute [local go_sem ↓] Go.wp_at_zero Go.wp_at_succ

/-- A mark ahead of a line. -/
def ahd (s : ByteArray) : List UInt8 := if escD s = true then [92] else []
theorem ba_eq {B : ByteArray} {l : List UInt8} (h : B.data.toList = l) : B = ⟨l.toArray⟩ := by subst h; simp
theorem ba_app (a b : ByteArray) : (a ++ b).data.toList = a.data.toList ++ b.data.toList := by simp [ByteArray.data_append]
theorem ba_mk (l : List UInt8) : (⟨l.toArray⟩ : ByteArray).data.toList = l := rfl
theorem ahd_len (s : ByteArray) : (ahd s).length ≤ 1 := by unfold ahd; split <;> simp
theorem ret_bs {a b : ByteArray} (h : a = b) : Ending.returned (.string a) = .returned (.string b) := by rw [h]
theorem ret_bs2 {a b : ByteArray} {c : Value} (h : a = b) : Ending.returned (.tuple #[.string a, c]) = .returned (.tuple #[.string b, c]) := by rw [h]
set_option maxRecDepth 100000 in
set_option maxHeartbeats 1000000 in
theorem c_line (e : Sm) (D : Option Addr) (n c : Nat) (hd tl : ByteArray) (hf : fileB e.nm.data.toList = true) (h1 : hd.size ≤ 1000000) (h2 : tl.size ≤ 1000000) (w : World) :
    Calls Tryz.prog 34 #[smV e D n c, .string hd, .string tl] w fun x w' => x = .returned (bstr (ahd e.nm ++ (hd.data.toList ++ (esc e.nm.data.toList ++ tl.data.toList)))) ∧ Below w.heap.size w w' := by
  have hB0 := Blk.new w 33 (smC e D n c)
  have HB := Lib.hid ((Below.refl w.heap.size w).alloc (Nat.le_refl _) (.cells (smC e D n c) 33))
  have h4 := fileB_le hf
  have HE : Hid (∀ W, Calls Tryz.prog 57 #[.string e.nm] W fun x w' => x = .returned (.tuple #[bstr (esc e.nm.data.toList), .bool (escD e.nm), .int .i64 0]) ∧ Below W.heap.size W w') := fun W => by
    have h := c_Escape e.nm (by omega) W
    unfold escN escO escE at h
    rw [if_pos hf, if_pos hf, hf] at h
    exact h
  have hl := (esc_len e.nm.data.toList).2
  have hl2 : e.nm.data.toList.length = e.nm.size := rfl
  have hm : (esc e.nm.data.toList).length ≤ 8192 := by omega
  have HA : Hid (ahd e.nm = if escD e.nm = true then [92] else []) := rfl
  clear hf hl hl2
  generalize esc e.nm.data.toList = m at *
  generalize escD e.nm = dd at *
  rcases dd with _ | _
  · have HX : Hid ((hd ++ ⟨m.toArray⟩) ++ tl = ⟨(ahd e.nm ++ (hd.data.toList ++ (m ++ tl.data.toList))).toArray⟩) := ba_eq (by rw [HA.out, ba_app, ba_app, ba_mk]; simp)
    clear HA
    go_enter Tryz.func34, Tryz.ntmps34
    go_wp2_with fail
    refine (HE.out _).mono ?_
    rintro x w1 ⟨rfl, hb1⟩
    have HB1 := Lib.hid (below_step HB.out hb1)
    clear hb1
    go_wp2_with fail
    go_ret
    exact ⟨ret_bs HX.out, HB1.out⟩
  · have HX : Hid (((⟨#[92]⟩ ++ hd) ++ ⟨m.toArray⟩) ++ tl = ⟨(ahd e.nm ++ (hd.data.toList ++ (m ++ tl.data.toList))).toArray⟩) := ba_eq (by rw [HA.out, ba_app, ba_app, ba_app, ba_mk]; simp)
    clear HA
    go_enter Tryz.func34, Tryz.ntmps34
    go_wp2_with fail
    refine (HE.out _).mono ?_
    rintro x w1 ⟨rfl, hb1⟩
    have HB1 := Lib.hid (below_step HB.out hb1)
    clear hb1
    go_wp2_with fail
    go_ret
    exact ⟨ret_bs HX.out, HB1.out⟩
/-- An entry's line. -/
def plainS (e : Sm) : List UInt8 := ahd e.nm ++ ((hx e.dg ++ (if e.st = true then [32, 42] else [32, 32])) ++ (esc e.nm.data.toList ++ []))
theorem right_parts {e : Sm} (h : rightS e = true) : 1 ≤ e.dg.length ∧ e.dg.length ≤ smost e.a ∧ smost e.a ≤ 64 ∧ fileB e.nm.data.toList = true := by
  unfold rightS at h
  simp only [Bool.and_eq_true, decide_eq_true_eq] at h
  refine ⟨h.1.1, h.1.2, ?_, h.2⟩
  unfold smost; split; omega; split <;> omega
/-- What a line's maker answers. -/
def LineIs (r : Bool) (l : List UInt8) (x : Ending) : Prop := x = .returned (.tuple #[bstr (if r = true then l else []), .int .i64 (if r = true then 0 else 1)])
set_option maxRecDepth 100000 in
set_option maxHeartbeats 1000000 in
theorem c_Plain (e : Sm) (D : Option Addr) (n c : Nat) (w : World) (h : RdS w e D n c) (hn2 : n ≤ 140737488351232) :
    Calls Tryz.prog 17 #[smV e D n c] w fun x w' => LineIs (rightS e) (plainS e) x ∧ Below w.heap.size w w' := by
  have hB0 := Blk.new w 33 (smC e D n c)
  have hb0 := (Below.refl w.heap.size w).alloc (Nat.le_refl _) (.cells (smC e D n c) 33)
  have hR := fun W => c_right e D n c h.hn h.bn hn2 W
  by_cases hr : rightS e = true
  · obtain ⟨p1, p2, p3, p4⟩ := right_parts hr
    have hn64 : n ≤ 64 := by have := h.hn; omega
    have HRD := Lib.hid (h.rd.step hb0)
    have hhl : (hx e.dg).length ≤ 128 := by rw [hx_len]; omega
    rw [hr] at hR
    have HR := Lib.hid hR
    have HB := Lib.hid hb0
    have HHX : Hid (∀ W, Reads W W.heap.size 1 D n (bys e.dg) → Calls Tryz.prog 35 #[.slice D n c] W fun x w' => x = .returned (bstr (hx e.dg)) ∧ Below W.heap.size W w') := fun W hr => c_HexB D n c e.dg W hr (by omega)
    have HLN : Hid (∀ (mk : List UInt8) (W : World), mk.length = 2 → Calls Tryz.prog 34 #[smV e D n c, .string (⟨(hx e.dg).toArray⟩ ++ ⟨mk.toArray⟩), .string ⟨#[]⟩] W fun x w' => x = .returned (bstr (ahd e.nm ++ ((hx e.dg ++ mk) ++ (esc e.nm.data.toList ++ [])))) ∧ Below W.heap.size W w') := fun mk W hk => by
      have hl := c_line e D n c (⟨(hx e.dg).toArray⟩ ++ ⟨mk.toArray⟩) ⟨#[]⟩ p4 (by rw [ByteArray.size_append]; show (hx e.dg).length + mk.length ≤ _; omega) (by decide) W
      rw [ba_app, ba_mk, ba_mk] at hl
      exact hl
    have HP : Hid (plainS e = ahd e.nm ++ ((hx e.dg ++ (if e.st = true then [32, 42] else [32, 32])) ++ (esc e.nm.data.toList ++ []))) := rfl
    clear hR hb0 p1 p2 p3 p4 h
    rw [hr]
    show Calls _ _ _ _ (fun x w' => x = .returned (.tuple #[bstr (plainS e), .int .i64 0]) ∧ Below w.heap.size w w')
    generalize hx e.dg = hh at *
    clear hr
    obtain ⟨mk, hmk, hst⟩ : ∃ mk : List UInt8, (mk = if e.st = true then [32, 42] else [32, 32]) ∧ ((e.st = true ∧ mk = [32, 42]) ∨ (e.st = false ∧ mk = [32, 32])) := by
      cases hs : e.st
      · exact ⟨_, rfl, .inr ⟨rfl, rfl⟩⟩
      · exact ⟨_, rfl, .inl ⟨rfl, rfl⟩⟩
    rw [← hmk] at HP
    have hml : mk.length = 2 := by rcases hst with ⟨_, rfl⟩ | ⟨_, rfl⟩ <;> rfl
    have HLN2 := Lib.hid (fun W => HLN.out mk W hml)
    rw [← HP.out] at HLN2
    clear HLN HP hml
    rcases hst with ⟨hst, rfl⟩ | ⟨hst, rfl⟩
    all_goals
     clear hmk
     have HST := Lib.hid hst
     clear hst
     simp only [smV, smC] at HR HLN2 hB0 HB ⊢
     go_enter Tryz.func17, Tryz.ntmps17
     go_wp2_with fail
     refine (HR.out _).mono ?_
     rintro x w1 ⟨rfl, hb1⟩
     have hB1 := hB0.below hb1 (by simp)
     have c0 : w1.cell? ⟨w.heap.size, 0, none⟩ = some (.int .i64 e.a) := hB1.cell 0
     have c1 : w1.cell? ⟨w.heap.size, 1, none⟩ = some (.string e.nm) := hB1.cell 1
     have c2 : w1.cell? ⟨w.heap.size, 2, none⟩ = some (.slice D n c) := hB1.cell 2
     have c3 : w1.cell? ⟨w.heap.size, 3, none⟩ = some (.bool e.st) := hB1.cell 3
     have H3 := Lib.hid c3
     rw [HST.out] at c3
     have hz1 := hB1.lt
     have HRD1 := Lib.hid (HRD.out.step hb1)
     have HB1 := Lib.hid (HB.out.trans (hb1.mono (B' := w.heap.size) (by simp)))
     clear hb1 hB0 hB1
     go_wp2_with fail
     clear c3
     have c3 := H3.out
     have a1 : ∀ (mk : List UInt8) W, mk.length = 2 → (Op.stringOp .add ⟨hh.toArray⟩ ⟨mk.toArray⟩).run Tryz.prog W = .ok (.string (⟨hh.toArray⟩ ++ ⟨mk.toArray⟩)) W := fun mk W hk => run_string_add_sum W _ _ (by show hh.length + mk.length ≤ _; omega)
     have a2 := fun W => a1 [32, 42] W rfl
     have a3 := fun W => a1 [32, 32] W rfl
     clear a1
     go_region_held3 (fun V => V.cell? ⟨w.heap.size, 0, none⟩ = some (.int .i64 e.a) ∧ V.cell? ⟨w.heap.size, 1, none⟩ = some (.string e.nm) ∧ V.cell? ⟨w.heap.size, 2, none⟩ = some (.slice D n c) ∧ V.cell? ⟨w.heap.size, 3, none⟩ = some (.bool e.st)) (first | go_keep | (refine ⟨?_, ?_, ?_, ?_⟩ <;> assumption)) (first | (go_at_call 35; refine (HHX.out w1.drew HRD1.out.drew).mono ?_; rintro x w2 ⟨rfl, hb2⟩; have d0 := (hb2.cell (p := ⟨w.heap.size, 0, none⟩) hz1).trans c0; have d1 := (hb2.cell (p := ⟨w.heap.size, 1, none⟩) hz1).trans c1; have d2 := (hb2.cell (p := ⟨w.heap.size, 2, none⟩) hz1).trans c2; have d3 := (hb2.cell (p := ⟨w.heap.size, 3, none⟩) hz1).trans c3; have hz2 := Nat.lt_of_lt_of_le hz1 hb2.size) | (go_at_call 34; refine (HLN2.out w2).mono ?_; rintro x w3 ⟨rfl, hb3⟩; have k0 := (hb3.cell (p := ⟨w.heap.size, 0, none⟩) hz2).trans d0; have k1 := (hb3.cell (p := ⟨w.heap.size, 1, none⟩) hz2).trans d1; have k2 := (hb3.cell (p := ⟨w.heap.size, 2, none⟩) hz2).trans d2; have k3 := (hb3.cell (p := ⟨w.heap.size, 3, none⟩) hz2).trans d3))
     have HX : Hid (Below w.heap.size w w3) := below_step HB1.out (below_step (W := w1) ⟨hb2.os, hb2.tape, hb2.output, hb2.size, hb2.block⟩ hb3)
     clear hb2 hb3 d0 d1 d2 d3 k0 k1 k2 k3 c0 c1 c2 c3 a2 a3
     go_wp2_with fail
     go_ret2
     exact ⟨rfl, HX.out⟩
  · rw [Bool.eq_false_iff.2 hr] at hR
    have HR := Lib.hid hR
    rw [Bool.eq_false_iff.2 hr]
    show Calls _ _ _ _ (fun x w' => x = .returned (.tuple #[bstr [], .int .i64 1]) ∧ Below w.heap.size w w')
    have HB := Lib.hid hb0
    clear hR hb0 hr h hB0
    simp only [smV, smC] at HR HB ⊢
    go_enter Tryz.func17, Tryz.ntmps17
    go_wp2_with fail
    refine (HR.out _).mono ?_
    rintro x w1 ⟨rfl, hb1⟩
    have HB1 := Lib.hid (HB.out.trans (hb1.mono (B' := w.heap.size) (by simp)))
    clear hb1
    go_wp2_with fail
    go_ret2
    exact ⟨rfl, HB1.out⟩
end Go.Proofs.YtmnkdkibhchglaaGreatDoor
