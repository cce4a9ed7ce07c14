/- Walk: how many digits 10^15 has (strconv: numDigits), by the library's contract. Conditions: the table of powers. -/
import Derived.Test.YtcohidjaehdbnaaGreatDoorTd
import Derived.Test.YtcohidjaehdbnaaGreatDoorLy
namespace Go.Proofs.YtcohidjaehdbnaaGreatDoor
open Go.RowKit
set_option linter.unusedVariables false

theorem c_numd (w : World) (htab : Lib.TabIs Tryz.prog w "internal/strconv.uint64pow10" .u64 Lib.pow10Tab) : Calls Tryz.prog 93 #[.int .u64 1000000000000000] w fun e w' => e = .returned (.int .i64 16) ∧ w = w' := by
  have h := Any.internal_strconv_numDigits lays284 1000000000000000 (by decide) (by decide) w htab
  refine h.mono fun e w' h => ?_
  obtain ⟨rfl, rfl⟩ := h
  have hn : Lib.nDigits 1000000000000000 = 16 := by decide +kernel
  rw [hn]
  exact ⟨rfl, rfl⟩
end Go.Proofs.YtcohidjaehdbnaaGreatDoor
