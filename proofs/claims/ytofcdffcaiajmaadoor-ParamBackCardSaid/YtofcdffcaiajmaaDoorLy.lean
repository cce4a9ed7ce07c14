/- The library's contracts laid at this program: the numbers of functions, types and variables side by side. Conditions: none. (Written by wip/gen/lay.py.) -/
import Derived.Shelf.Strconv.Itoa3
import Derived.Test.YtofcdffcaiajmaaDoorProg
import Derived.KernelRfl
namespace Go.Proofs.YtofcdffcaiajmaaDoor
open Go.Shelf
set_option linter.unusedVariables false

/-- The numbers that the library's texts name, in this program. -/
def lrenLy : Ren :=
  { f := fun x => match x with
      | 283 => 35
      | 284 => 36
      | 129 => 45
      | 317 => 44
      | 318 => 46
      | 285 => 37
      | n => n
    t := fun x => match x with
      | 3 => 3
      | 9 => 9
      | 4 => 4
      | 53 => 23
      | 212 => 88
      | 0 => 0
      | 46 => 67
      | 5 => 5
      | 37 => 24
      | 51 => 22
      | n => n
    g := fun x => match x with
      | 17 => 0
      | n => n }
theorem lays283 : Lays.n283 Tryd.prog lrenLy := by constructor <;> first | kernel_rfl | (intro w; kernel_rfl) | decide
theorem lays284a : Lays.n284 Tryd.prog lrenLy := by constructor <;> first | kernel_rfl | (intro w; kernel_rfl) | decide
theorem lays284 : LaysM.n284 Tryd.prog lrenLy := by
  constructor
  · exact lays284a
  all_goals first | kernel_rfl | (intro w; kernel_rfl) | decide
theorem lays285 : Lays.n285 Tryd.prog lrenLy := by constructor <;> first | kernel_rfl | (intro w; kernel_rfl) | decide
end Go.Proofs.YtofcdffcaiajmaaDoor
