/- Walks: what param.Check and quernref02.Check answer, of any parameters. Conditions: none. -/
import Derived.Test.YtofcdffcaiajmaaDoorPl
import Derived.Test.YtofcdffcaiajmaaDoorRows
import Derived.WalkKit
import Derived.WalkSpells
import Derived.WalkLawsBesides
import Derived.Lib.Hide
import Derived.Handy
namespace Go.Proofs.YtofcdffcaiajmaaDoor
open Go.RowKit
theorem ret_int {k : IntKind} {a b : Int} (h : a = b) : Ending.returned (.int k a) = .returned (.int k b) := by rw [h]
set_option maxRecDepth 100000 in
set_option maxHeartbeats 4000000 in
theorem c_Check (k d key fo de leaf off xof nd inn : Int) (sa ta : Option Addr) (sn sc tn tc : Nat) (w : World) :
    Calls Tryd.prog 5 #[.int .i64 k, (pv d key fo de leaf off xof nd inn (.slice sa sn sc) (.slice ta tn tc))] w fun e w' => e = .returned (.int .i64 (chkOf k d key fo de off xof nd inn sn tn)) ∧ Below w.heap.size w w' := by
  obtain ⟨C, hC⟩ : ∃ C, chkOf k d key fo de off xof nd inn sn tn = C := ⟨_, rfl⟩
  rw [hC]
  have Hc := Lib.hid hC
  clear hC
  simp only [pv]
  go_enter Tryd.func5, Tryd.ntmps5
  go_wp2
  all_goals (go_ret; refine ⟨?_, (Below.refl _ _).alloc (Nat.le_refl _) _⟩; refine ret_int ?_; rw [← Hc.out]; unfold chkOf chk kmost; clear Hc; grind)
end Go.Proofs.YtofcdffcaiajmaaDoor
