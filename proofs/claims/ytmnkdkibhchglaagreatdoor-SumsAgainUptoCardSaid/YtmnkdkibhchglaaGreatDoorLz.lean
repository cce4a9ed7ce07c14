/- The library's contracts laid at this program: the numbers of functions, types and variables side by side. Conditions: none. (Written by wip/gen/lay.py.) -/
import Derived.Shelf.Small.Strs
import Derived.Shelf.Small.Wraps
import Derived.Shelf.Strings.LastIndexAll
import Derived.Shelf.Strings.Prefix
import Derived.Test.YtmnkdkibhchglaaGreatDoorProg
import Derived.KernelRfl
namespace Go.Proofs.YtmnkdkibhchglaaGreatDoor
open Go.Shelf
set_option linter.unusedVariables false

/-- The numbers that the library's texts name, in this program. -/
def lrenLz : Ren :=
  { f := fun x => match x with
      | 137 => 68
      | 217 => 76
      | 266 => 91
      | 103 => 63
      | 210 => 80
      | 206 => 62
      | 148 => 65
      | 222 => 82
      | 223 => 83
      | 269 => 95
      | 102 => 23
      | 209 => 39
      | 207 => 61
      | n => n
    t := fun x => match x with
      | 9 => 9
      | 5 => 5
      | 3 => 3
      | 4 => 4
      | 24 => 82
      | 146 => 172
      | 51 => 152
      | 46 => 117
      | n => n
    g := fun x => x }
theorem lays137 : Lays.n137 Tryz.prog lrenLz := by constructor <;> first | kernel_rfl | (intro w; kernel_rfl) | decide
theorem lays103 : Lays.n103 Tryz.prog lrenLz := by constructor <;> first | kernel_rfl | (intro w; kernel_rfl) | decide
theorem lays148 : Lays.n148 Tryz.prog lrenLz := by constructor <;> first | kernel_rfl | (intro w; kernel_rfl) | decide
theorem lays102 : Lays.n102 Tryz.prog lrenLz := by constructor <;> first | kernel_rfl | (intro w; kernel_rfl) | decide
end Go.Proofs.YtmnkdkibhchglaaGreatDoor
