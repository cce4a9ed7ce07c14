/- The library's contracts laid at this program: the numbers of functions, types and variables side by side. Conditions: none. (Written by wip/gen/lay.py.) -/
import Derived.Shelf.Small.Strs
import Derived.Test.YtacnoedhpamdmaaGreatDoorProg
import Derived.KernelRfl
namespace Go.Proofs.YtacnoedhpamdmaaGreatDoor
open Go.Shelf
set_option linter.unusedVariables false

/-- The numbers that the library's texts name, in this program. -/
def lrenLc : Ren :=
  { f := fun x => match x with
      | 106 => 88
      | 213 => 115
      | 265 => 137
      | n => n
    t := fun x => match x with
      | 9 => 9
      | 3 => 3
      | n => n
    g := fun x => x }
theorem lays106 : Lays.n106 Tryz.prog lrenLc := by constructor <;> first | kernel_rfl | (intro w; kernel_rfl) | decide
end Go.Proofs.YtacnoedhpamdmaaGreatDoor
