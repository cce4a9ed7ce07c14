/- The library's contracts laid at this program: the numbers of functions, types and variables side by side. Conditions: none. (Written by wip/gen/lay.py.) -/
import Derived.Shelf.Small.Strs
import Derived.Shelf.Small.Wraps
import Derived.Shelf.Strings.LastIndexAll
import Derived.Test.YtjaohjlddhjgpaaGreatDoorProg
import Derived.KernelRfl
namespace Go.Proofs.YtjaohjlddhjgpaaGreatDoor
open Go.Shelf
set_option linter.unusedVariables false

/-- The numbers that the library's texts name, in this program. -/
def lrenLz : Ren :=
  { f := fun x => match x with
      | 137 => 75
      | 217 => 91
      | 266 => 106
      | 103 => 70
      | 210 => 86
      | 206 => 67
      | 148 => 72
      | 222 => 88
      | 223 => 89
      | 269 => 105
      | n => n
    t := fun x => match x with
      | 9 => 9
      | 5 => 5
      | 3 => 3
      | 4 => 4
      | 24 => 81
      | 146 => 186
      | 51 => 118
      | 46 => 88
      | n => n
    g := fun x => x }
theorem lays137 : Lays.n137 Tryz.prog lrenLz := by constructor <;> first | kernel_rfl | (intro w; kernel_rfl) | decide
theorem lays103 : Lays.n103 Tryz.prog lrenLz := by constructor <;> first | kernel_rfl | (intro w; kernel_rfl) | decide
theorem lays148 : Lays.n148 Tryz.prog lrenLz := by constructor <;> first | kernel_rfl | (intro w; kernel_rfl) | decide
end Go.Proofs.YtjaohjlddhjgpaaGreatDoor
