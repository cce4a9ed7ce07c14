/- Walks: the errors of two values (value.both, quernref23.both). Conditions: the values as they read; bulk at most 1048576. -/
import Derived.Test.YtacnoedhpamdmaaGreatDoorKe
namespace Go.Proofs.YtacnoedhpamdmaaGreatDoor
open Go.RowKit
set_option linter.unusedVariables false
attribute [local go_sem ↓] Go.wp_at_zero Go.wp_at_succ

/-- Two boxes made one behind the other. -/
theorem two_bx (w : World) (cs cs' : List Value) : Box ((w.alloc (.cells cs.toArray 30)).alloc (.cells cs'.toArray 30)) w.heap.size cs ∧ Box ((w.alloc (.cells cs.toArray 30)).alloc (.cells cs'.toArray 30)) (w.heap.size + 1) cs' ∧
    Below w.heap.size w ((w.alloc (.cells cs.toArray 30)).alloc (.cells cs'.toArray 30)) := by
  have h0 := Box.new w cs
  have h1 := Box.new (w.alloc (.cells cs.toArray 30)) cs'
  rw [World.size_alloc] at h1
  have hb : Below (w.alloc (.cells cs.toArray 30)).heap.size (w.alloc (.cells cs.toArray 30)) ((w.alloc (.cells cs.toArray 30)).alloc (.cells cs'.toArray 30)) := (Below.refl _ _).alloc (Nat.le_refl _) _
  exact ⟨h0.step hb, h1, (((Below.refl _ _).alloc (Nat.le_refl _) _).trans (hb.mono (by simp)))⟩
/-- The first error of two. -/
def bothK (a b : Val) : Int := if chk fone a = 0 then chk fone b else chk fone a
theorem bothK_zero {a b : Val} (h : bothK a b = 0) : chk fone a = 0 ∧ chk fone b = 0 := by
  unfold bothK at h
  split at h
  · rename_i h1; exact ⟨h1, h⟩
  · rename_i h1; exact absurd h h1
set_option maxRecDepth 100000 in
theorem c_bothK (a b : Val) (cs cs' : List Value) (w : World) (h : RV w a cs) (h' : RV w b cs') : Calls Tryz.prog 54 #[.agg cs.toArray, .agg cs'.toArray] w fun e w' => e = .returned (.int .i64 (bothK a b)) ∧ Below w.heap.size w w' := by
  have HTB := two_bx w cs cs'
  have HX1 := Lib.hid HTB.1
  have HX2 := Lib.hid HTB.2.1
  have HB0 := Lib.hid HTB.2.2
  have HRa := Lib.hid h.row
  have HRb := Lib.hid h'.row
  have HV1 := Lib.hid (h.step HTB.2.2)
  have HV2 := Lib.hid (h'.step HTB.2.2)
  have HE : Hid (bothK a b = if chk fone a = 0 then chk fone b else chk fone a) := rfl
  obtain ⟨C, hC⟩ : ∃ C, bothK a b = C := ⟨_, rfl⟩
  obtain ⟨EA, hEA⟩ : ∃ E, chk fone a = E := ⟨_, rfl⟩
  obtain ⟨EB, hEB⟩ : ∃ E, chk fone b = E := ⟨_, rfl⟩
  have HCA : Hid (∀ W, RV W a cs → Calls Tryz.prog 18 #[.agg cs.toArray] W fun e w' => e = .returned (.int .i64 EA) ∧ Below W.heap.size W w') := by rw [← hEA]; exact fun W hr => c_Check a cs W hr
  have HCB : Hid (∀ W, RV W b cs' → Calls Tryz.prog 18 #[.agg cs'.toArray] W fun e w' => e = .returned (.int .i64 EB) ∧ Below W.heap.size W w') := by rw [← hEB]; exact fun W hr => c_Check b cs' W hr
  rw [hC, hEA, hEB] at HE
  rw [hC]
  clear h h' HTB hC hEA hEB
  go_enter Tryz.func54, Tryz.ntmps54
  go_upto_region 1 with fail
  generalize World.alloc (w.alloc _) _ = w0 at *
  go_wp2_with (refine wpList_load_row rfl 30 (.tmp 2) rfl w.heap.size rfl 30 _ (0, 0) _ HX1.out.blk Tryz.underlying30 rfl HRa.out ?_)
  refine (HCA.out _ HV1.out).mono ?_; rintro e w1 ⟨rfl, hb1⟩
  have HX2' := Lib.hid (HX2.out.step hb1)
  have HV2' := Lib.hid (HV2.out.step hb1)
  have HB1 := Lib.hid (HB0.out.trans (hb1.mono HB0.out.size))
  clear hb1
  by_cases h0 : EA = 0
  · have t0 : (EA != 0) = false := by simpa using h0
    have HR : Hid (C = EB) := HE.out.trans (if_pos h0)
    subst h0
    go_wp2_with (refine wpList_load_row rfl 30 (.tmp 3) rfl (w.heap.size + 1) rfl 30 _ (0, 0) _ HX2'.out.blk Tryz.underlying30 rfl HRb.out ?_)
    refine (HCB.out _ HV2'.out).mono ?_; rintro e w2 ⟨rfl, hb2⟩
    have HB2 := Lib.hid (HB1.out.trans (hb2.mono HB1.out.size))
    clear hb2
    go_wp2_with fail
    go_ret
    exact ⟨by rw [HR.out]; rfl, HB2.out⟩
  · have t0 : (EA != 0) = true := by simpa using h0
    have HR : Hid (C = EA) := HE.out.trans (if_neg h0)
    go_wp2_with fail
    go_ret
    exact ⟨by rw [HR.out]; rfl, HB1.out⟩
set_option maxRecDepth 100000 in
theorem c_rbothK (a b : Val) (cs cs' : List Value) (w : World) (h : RV w a cs) (h' : RV w b cs') : Calls Tryz.prog 55 #[.agg cs.toArray, .agg cs'.toArray] w fun e w' => e = .returned (.int .i64 (bothK a b)) ∧ Below w.heap.size w w' := by
  have HTB := two_bx w cs cs'
  have HX1 := Lib.hid HTB.1
  have HX2 := Lib.hid HTB.2.1
  have HB0 := Lib.hid HTB.2.2
  have HRa := Lib.hid h.row
  have HRb := Lib.hid h'.row
  have HV1 := Lib.hid (h.step HTB.2.2)
  have HV2 := Lib.hid (h'.step HTB.2.2)
  have HE : Hid (bothK a b = if chk fone a = 0 then chk fone b else chk fone a) := rfl
  obtain ⟨C, hC⟩ : ∃ C, bothK a b = C := ⟨_, rfl⟩
  obtain ⟨EA, hEA⟩ : ∃ E, chk fone a = E := ⟨_, rfl⟩
  obtain ⟨EB, hEB⟩ : ∃ E, chk fone b = E := ⟨_, rfl⟩
  have HCA : Hid (∀ W, RV W a cs → Calls Tryz.prog 13 #[.agg cs.toArray] W fun e w' => e = .returned (.int .i64 EA) ∧ Below W.heap.size W w') := by rw [← hEA]; exact fun W hr => c_rCheck a cs W hr
  have HCB : Hid (∀ W, RV W b cs' → Calls Tryz.prog 13 #[.agg cs'.toArray] W fun e w' => e = .returned (.int .i64 EB) ∧ Below W.heap.size W w') := by rw [← hEB]; exact fun W hr => c_rCheck b cs' W hr
  rw [hC, hEA, hEB] at HE
  rw [hC]
  clear h h' HTB hC hEA hEB
  go_enter Tryz.func55, Tryz.ntmps55
  go_upto_region 1 with fail
  generalize World.alloc (w.alloc _) _ = w0 at *
  go_wp2_with (refine wpList_load_row rfl 30 (.tmp 2) rfl w.heap.size rfl 30 _ (0, 0) _ HX1.out.blk Tryz.underlying30 rfl HRa.out ?_)
  refine (HCA.out _ HV1.out).mono ?_; rintro e w1 ⟨rfl, hb1⟩
  have HX2' := Lib.hid (HX2.out.step hb1)
  have HV2' := Lib.hid (HV2.out.step hb1)
  have HB1 := Lib.hid (HB0.out.trans (hb1.mono HB0.out.size))
  clear hb1
  by_cases h0 : EA = 0
  · have t0 : (EA != 0) = false := by simpa using h0
    have HR : Hid (C = EB) := HE.out.trans (if_pos h0)
    subst h0
    go_wp2_with (refine wpList_load_row rfl 30 (.tmp 3) rfl (w.heap.size + 1) rfl 30 _ (0, 0) _ HX2'.out.blk Tryz.underlying30 rfl HRb.out ?_)
    refine (HCB.out _ HV2'.out).mono ?_; rintro e w2 ⟨rfl, hb2⟩
    have HB2 := Lib.hid (HB1.out.trans (hb2.mono HB1.out.size))
    clear hb2
    go_wp2_with fail
    go_ret
    exact ⟨by rw [HR.out]; rfl, HB2.out⟩
  · have t0 : (EA != 0) = true := by simpa using h0
    have HR : Hid (C = EA) := HE.out.trans (if_neg h0)
    go_wp2_with fail
    go_ret
    exact ⟨by rw [HR.out]; rfl, HB1.out⟩
end Go.Proofs.YtacnoedhpamdmaaGreatDoor
