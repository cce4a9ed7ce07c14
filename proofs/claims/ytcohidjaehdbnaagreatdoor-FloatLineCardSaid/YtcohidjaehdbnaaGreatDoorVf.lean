/- The law of the order of floats at any memory that bears the library's tables. Conditions: as stated. -/
import Derived.Test.YtcohidjaehdbnaaGreatDoorVe
namespace Go.Proofs.YtcohidjaehdbnaaGreatDoor
open Go.RowKit
set_option linter.unusedVariables false

theorem wf_u64n {k : Int} (h : (Lit.int .u64 k).wf = true) : ∃ n : Nat, k = (n : Int) ∧ n < 18446744073709551616 := by
  have h' : 0 ≤ k ∧ k ≤ 18446744073709551615 := of_decide_eq_true (show decide (0 ≤ k ∧ k ≤ 18446744073709551615) = true from by simpa [Lit.wf, IntKind.min, IntKind.max, IntKind.signed, IntKind.bits] using h)
  exact ⟨k.toNat, by omega, by omega⟩
theorem l_FloatLineT (W : World) (ht : Tab W) (x1 : Int) (w1 : (Lit.int .u64 x1).wf = true) (x2 : Int) (w2 : (Lit.int .u64 x2).wf = true) (x3 : Int) (w3 : (Lit.int .u64 x3).wf = true) :
    Calls Tryz.prog 3 #[.int .u64 x1, .int .u64 x2, .int .u64 x3] W fun e w' => e = .returned (.bool true) ∧ Below W.heap.size W w' := by
  obtain ⟨a, rfl, ha⟩ := wf_u64n w1
  obtain ⟨b, rfl, hb⟩ := wf_u64n w2
  obtain ⟨c, rfl, hc⟩ := wf_u64n w3
  exact l_FloatLine a b c ha hb hc W (c_alive W ht)
end Go.Proofs.YtcohidjaehdbnaaGreatDoor
