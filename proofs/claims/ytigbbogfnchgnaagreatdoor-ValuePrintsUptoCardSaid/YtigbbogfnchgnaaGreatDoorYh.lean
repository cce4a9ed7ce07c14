/- Walks: a value's own fields, the reference's way (quernref23.plain, quernref23.fields). Conditions: the value as it reads; its bulk at most 1048576. -/
import Derived.Test.YtigbbogfnchgnaaGreatDoorYg
namespace Go.Proofs.YtigbbogfnchgnaaGreatDoor
open Go.RowKit
set_option linter.unusedVariables false
attribute [local go_sem ↓] Go.wp_at_zero Go.wp_at_succ

theorem c_plainZ {f : Nat} {x : Int} (h : (fone f : Int) = x) (w : World) : Calls Tryz.prog 55 #[.float .f64 f] w fun e w' => e = .returned (.bool (x == 0)) ∧ w = w' := by
  have H := Lib.hid (c_rOne f w)
  rw [h] at H
  go_enter Tryz.func55, Tryz.ntmps55
  go_wp2_with fail
  refine H.out.mono ?_; rintro e w' ⟨rfl, rfl⟩
  go_wp2_with fail
  go_ret
  exact ⟨rfl, rfl⟩
set_option maxRecDepth 100000 in
set_option maxHeartbeats 4000000 in
theorem c_rfields (v : Val) (cs : List Value) (w : World) (h : RV w v cs) : Calls Tryz.prog 43 #[.agg cs.toArray] w fun e w' => e = .returned (.bool (flds fone v)) ∧ Below w.heap.size w w' := by
  obtain ⟨A, A', c, c', rfl, hnm, hop⟩ := h.open_
  clear hnm hop
  have HB := Lib.hid ((Below.refl w.heap.size w).alloc (Nat.le_refl _) (.cells (vcs v A A' c c').toArray 26))
  have HK := Lib.hid (Blk.new w 26 (vcs v A A' c c').toArray)
  have k0 : (w.alloc (.cells (vcs v A A' c c').toArray 26)).cell? ⟨w.heap.size, 0, none⟩ = some (.int .i64 v.k) := HK.out.cell 0
  have k1 : (w.alloc (.cells (vcs v A A' c c').toArray 26)).cell? ⟨w.heap.size, 1, none⟩ = some (.int .i64 v.i) := HK.out.cell 1
  have k2 : (w.alloc (.cells (vcs v A A' c c').toArray 26)).cell? ⟨w.heap.size, 2, none⟩ = some (.float .f64 v.f) := HK.out.cell 2
  have k3 : (w.alloc (.cells (vcs v A A' c c').toArray 26)).cell? ⟨w.heap.size, 3, none⟩ = some (.string v.t) := HK.out.cell 3
  have k4 : (w.alloc (.cells (vcs v A A' c c').toArray 26)).cell? ⟨w.heap.size, 4, none⟩ = some (.slice A v.its.length c) := HK.out.cell 4
  have k5 : (w.alloc (.cells (vcs v A A' c c').toArray 26)).cell? ⟨w.heap.size, 5, none⟩ = some (.slice A' v.nms.length c') := HK.out.cell 5
  have hln := bnd_len v
  have hbd := h.bd
  have l1 : v.its.length < 1048577 := by omega
  have l2 : v.nms.length < 1048577 := by omega
  have l3 : v.t.size < 1048577 := by omega
  have hte := empty_size v.t
  obtain ⟨C, HC⟩ : ∃ C, Hid (flds fone v = C) := ⟨_, rfl⟩
  obtain ⟨x, hx⟩ : ∃ x : Int, (fone v.f : Int) = x := ⟨_, rfl⟩
  have HCE : Hid (fldB v.k v.i (x == 0) v.t.size v.its.length v.nms.length = C) := by
    show _ = _
    rw [← HC.out, flds_eq, ← hx]
    congr 1
    by_cases h0 : fone v.f = 0
    · rw [h0]; rfl
    · rw [beq_eq_false_iff_ne.2 (show ((fone v.f : Nat) : Int) ≠ 0 by omega), beq_eq_false_iff_ne.2 h0]
  have H1 := Lib.hid (fun w => c_plainZ hx w)
  rw [HC.out]
  clear h hln hbd HC hx
  unfold vcs at k0 k1 k2 k3 k4 k5 HB HK ⊢
  generalize v.k = k at *
  generalize v.i = i at *
  generalize v.f = f at *
  generalize v.t = t at *
  generalize v.its.length = il at *
  generalize v.nms.length = nl at *
  have HTE := Lib.hid hte
  clear hte
  go_enter Tryz.func43, Tryz.ntmps43
  go_upto_region 1 with fail
  generalize w.alloc (.cells #[.int .i64 k, .int .i64 i, .float .f64 f, .string t, .slice A il c, .slice A' nl c'] 26) = w0 at *
  clear HK
  go_wp2_with (go_at_call 55; refine (H1.out _).mono ?_; rintro e w' ⟨rfl, rfl⟩)
  all_goals
    go_ret
    refine ⟨?_, HB.out⟩
    have hce := HCE.out
    have hte := HTE.out
    unfold fldB at hce
    first
      | (rw [← hce]; congr 2; simp_all; done)
      | (refine congrArg (fun b => Ending.returned (Value.bool b)) ?_; rw [← hce]; clear HB k0 k1 k2 k3 k4 k5 H1 HCE HTE; first | (simp_all; done) | grind)
end Go.Proofs.YtigbbogfnchgnaaGreatDoor
