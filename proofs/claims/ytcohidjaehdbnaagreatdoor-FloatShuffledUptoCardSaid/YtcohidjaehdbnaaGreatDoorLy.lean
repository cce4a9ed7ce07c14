/- The library's contracts laid at this program: the numbers of functions, types and variables side by side. Conditions: none. (Written by wip/gen/lay.py.) -/
import Derived.Shelf.Strconv.Itoa3
import Derived.Test.YtcohidjaehdbnaaGreatDoorProg
import Derived.KernelRfl
namespace Go.Proofs.YtcohidjaehdbnaaGreatDoor
open Go.Shelf
set_option linter.unusedVariables false

/-- The numbers that the library's texts name, in this program. -/
def lrenLy : Ren :=
  { f := fun x => match x with
      | 283 => 109
      | 284 => 93
      | 129 => 62
      | 317 => 94
      | 318 => 124
      | 285 => 110
      | n => n
    t := fun x => match x with
      | 3 => 3
      | 9 => 9
      | 4 => 4
      | 53 => 22
      | 212 => 153
      | 0 => 0
      | 46 => 61
      | 5 => 5
      | 37 => 75
      | 51 => 101
      | n => n
    g := fun x => match x with
      | 17 => 9
      | n => n }
theorem lays283 : Lays.n283 Tryz.prog lrenLy := by constructor <;> first | kernel_rfl | (intro w; kernel_rfl) | decide
theorem lays284a : Lays.n284 Tryz.prog lrenLy := by constructor <;> first | kernel_rfl | (intro w; kernel_rfl) | decide
theorem lays284 : LaysM.n284 Tryz.prog lrenLy := by
  constructor
  · exact lays284a
  all_goals first | kernel_rfl | (intro w; kernel_rfl) | decide
theorem lays285 : Lays.n285 Tryz.prog lrenLy := by constructor <;> first | kernel_rfl | (intro w; kernel_rfl) | decide
end Go.Proofs.YtcohidjaehdbnaaGreatDoor
