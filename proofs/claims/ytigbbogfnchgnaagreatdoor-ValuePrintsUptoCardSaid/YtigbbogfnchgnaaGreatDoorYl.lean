/- Walks: what a value without items is as an interface (value.leafOf). Conditions: the value as it reads; its bulk at most 1048576. -/
import Derived.Test.YtigbbogfnchgnaaGreatDoorYg
namespace Go.Proofs.YtigbbogfnchgnaaGreatDoor
open Go.RowKit
set_option linter.unusedVariables false
attribute [local go_sem ↓] Go.wp_at_zero Go.wp_at_succ

/-- A value without items, as an interface. -/
def leafV (v : Val) : Value :=
  if v.k = 1 then .iface 77 (.bool (v.i == 1)) else if v.k = 2 then .iface 78 (.int .i64 v.i) else if v.k = 3 then .iface 79 (.float .f64 v.f)
  else if v.k = 4 then .iface 80 (.string v.t) else if v.k = 5 then .iface 81 (.string v.t) else if v.k = 8 then .iface 82 (.string v.t)
  else if v.k = 6 ∨ v.k = 7 then .nilIface else .iface 76 (.agg #[])
set_option maxRecDepth 100000 in
theorem c_leafOf (v : Val) (cs : List Value) (w : World) (h : RV w v cs) : Calls Tryz.prog 24 #[.agg cs.toArray] w fun e w' => e = .returned (leafV v) ∧ Below w.heap.size w w' := by
  obtain ⟨A, A', c, c', hvc, hnm, hop⟩ := h.open_
  clear hnm hop
  have HB : Hid (Below w.heap.size w (w.alloc (.cells cs.toArray 26))) := (Below.refl w.heap.size w).alloc (Nat.le_refl _) _
  have HK := Lib.hid (Blk.new w 26 cs.toArray)
  have k0 : (w.alloc (.cells cs.toArray 26)).cell? ⟨w.heap.size, 0, none⟩ = some (.int .i64 v.k) := by rw [HK.out.cell 0, hvc]; rfl
  have k1 : (w.alloc (.cells cs.toArray 26)).cell? ⟨w.heap.size, 1, none⟩ = some (.int .i64 v.i) := by rw [HK.out.cell 1, hvc]; rfl
  have k2 : (w.alloc (.cells cs.toArray 26)).cell? ⟨w.heap.size, 2, none⟩ = some (.float .f64 v.f) := by rw [HK.out.cell 2, hvc]; rfl
  have k3 : (w.alloc (.cells cs.toArray 26)).cell? ⟨w.heap.size, 3, none⟩ = some (.string v.t) := by rw [HK.out.cell 3, hvc]; rfl
  obtain ⟨C, HC⟩ : ∃ C, Hid (leafV v = C) := ⟨_, Lib.hid rfl⟩
  rw [HC.out]
  have HCE : Hid ((if v.k = 1 then .iface 77 (.bool (v.i == 1)) else if v.k = 2 then .iface 78 (.int .i64 v.i) else if v.k = 3 then .iface 79 (.float .f64 v.f)
  else if v.k = 4 then .iface 80 (.string v.t) else if v.k = 5 then .iface 81 (.string v.t) else if v.k = 8 then .iface 82 (.string v.t)
  else if v.k = 6 ∨ v.k = 7 then .nilIface else .iface 76 (.agg #[])) = C) := HC.out
  clear h hvc HC
  generalize v.k = k at *
  generalize v.i = i at *
  generalize v.f = f at *
  generalize v.t = t at *
  go_enter Tryz.func24, Tryz.ntmps24
  go_upto_region 1 with fail
  generalize w.alloc (.cells cs.toArray 26) = w0 at *
  clear HK
  go_wp2
  all_goals
    go_ret
    refine ⟨?_, HB.out⟩
    have hce := HCE.out
    clear HB k0 k1 k2 k3 HCE
    first
      | (rw [← hce]; congr 1; simp_all; done)
      | (refine congrArg (fun b => Ending.returned b) ?_; rw [← hce]; first | (simp_all; done) | grind)
end Go.Proofs.YtigbbogfnchgnaaGreatDoor
