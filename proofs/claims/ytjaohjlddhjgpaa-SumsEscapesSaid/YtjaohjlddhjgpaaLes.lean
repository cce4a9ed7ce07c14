/- Walk: the law SumsEscapes. Conditions: lengths within the reach. -/
import Derived.Test.YtjaohjlddhjgpaaRg
import Derived.Test.YtjaohjlddhjgpaaEe
import Derived.Test.YtjaohjlddhjgpaaLaw
namespace Go.Proofs.Ytjaohjlddhjgpaa
open Go.RowKit
set_option linter.unusedVariables false

set_option maxRecDepth 100000 in
set_option maxHeartbeats 1000000 in
theorem L_Escapes (s : ByteArray) (hs : s.size ≤ 140737488351232) (W : World) : Calls Try.prog 3 #[.string s] W fun e W' => e = .returned (.bool true) ∧ Below W.heap.size W W' := by
  have H1 := Lib.hid (fun w => c_Escape s hs w)
  have H2 := Lib.hid (fun w => c_rEscape s (by omega) w)
  have H3 := Lib.hid (fun w => c_Unescape s (by omega) w)
  have H4 := Lib.hid (fun w => c_rUnescape s (by omega) w)
  generalize escN s = a1 at *
  generalize escO s = a2 at *
  generalize escE s = a3 at *
  generalize unN s = b1 at *
  generalize unI s = b2 at *
  generalize unE s = b3 at *
  go_enter Try.func3, Try.ntmps3
  go_wp2_with fail
  refine (H1.out _).mono ?_
  rintro e w1 ⟨rfl, hb1⟩
  have B1 := Lib.hid hb1
  clear hb1
  go_wp2_with fail
  refine (H2.out _).mono ?_
  rintro e w2 ⟨rfl, hb2⟩
  have B2 := Lib.hid (below_step B1.out hb2)
  clear hb2
  go_wp2_with fail
  refine (H3.out _).mono ?_
  rintro e w3 ⟨rfl, hb3⟩
  have B3 := Lib.hid (below_step B2.out hb3)
  clear hb3
  go_wp2_with fail
  refine (H4.out _).mono ?_
  rintro e w4 ⟨rfl, hb4⟩
  have B4 := Lib.hid (below_step B3.out hb4)
  clear hb4
  go_wp2_with fail
  go_ret
  exact ⟨by simp, B4.out⟩
theorem l_SumsEscapes (W : World) (s : ByteArray) (hs : s.size ≤ 140737488351232) : Calls Try.prog 3 #[.string s] W fun e W' => e = .returned (.bool true) ∧ Below W.heap.size W W' := L_Escapes s hs W
end Go.Proofs.Ytjaohjlddhjgpaa
