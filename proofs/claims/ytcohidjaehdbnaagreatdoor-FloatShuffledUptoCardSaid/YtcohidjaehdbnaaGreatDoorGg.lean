/- Walks: the document's numbers times a power of two, and out of one word (quernref22's up and from). Conditions: as stated. -/
import Derived.Test.YtcohidjaehdbnaaGreatDoorGf
namespace Go.Proofs.YtcohidjaehdbnaaGreatDoor
open Go.RowKit
set_option linter.unusedVariables false

theorem up_parts {x y r : Nat} (hx : x < 4294967296) (hr : r < 32) (hy : y < 2 ^ r) : y ||| x * 2 ^ r = x * 2 ^ r + y ∧ x * 2 ^ r + y < 9223372036854775808 ∧ (x * 2 ^ r + y) / 4294967296 < 2 ^ r ∧ x * 2 ^ r < 9223372036854775808 := by
  have hp : 0 < 2 ^ r := Nat.pow_pos (by decide)
  have hr2 : 2 ^ r ≤ 2147483648 := by
    have : 2 ^ r ≤ 2 ^ 31 := Nat.pow_le_pow_right (by decide) (by omega)
    simpa using this
  have h1 : (x + 1) * 2 ^ r ≤ 4294967296 * 2 ^ r := Nat.mul_le_mul_right _ hx
  rw [Nat.add_mul, Nat.one_mul] at h1
  refine ⟨?_, by omega, ?_, by omega⟩
  · have := Nat.shiftLeft_add_eq_or_of_lt hy x
    rw [Nat.shiftLeft_eq] at this
    rw [Nat.or_comm]; exact this.symm
  · rw [Nat.div_lt_iff_lt_mul (by decide), Nat.mul_comm (2 ^ r)]
    omega
theorem built32_2 (x y : Int) : Tryz.prog.builtSlice 101 2 [(0, .int .u32 x), (1, .int .u32 y)] = some #[.int .u32 x, .int .u32 y] := by kernel_rfl
end Go.Proofs.YtcohidjaehdbnaaGreatDoor
