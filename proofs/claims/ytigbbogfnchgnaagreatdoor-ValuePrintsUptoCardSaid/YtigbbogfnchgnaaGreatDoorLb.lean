/- The library's contracts laid at this program: the numbers of functions, types and variables side by side. Conditions: none. (Written by wip/gen/lay.py.) -/
import Derived.Shelf.Small.Bits
import Derived.Shelf.Strconv.Itoa0
import Derived.Shelf.Bits.Mul64
import Derived.Test.YtigbbogfnchgnaaGreatDoorProg
import Derived.KernelRfl
namespace Go.Proofs.YtigbbogfnchgnaaGreatDoor
open Go.Shelf
set_option linter.unusedVariables false

/-- The numbers that the library's texts name, in this program. -/
def lrenLb : Ren :=
  { f := fun x => match x with
      | 264 => 151
      | 129 => 137
      | n => n
    t := fun x => match x with
      | 53 => 73
      | 46 => 83
      | 3 => 3
      | 4 => 4
      | 5 => 5
      | 9 => 9
      | n => n
    g := fun x => x }
theorem lays264 : Lays.n264 Tryz.prog lrenLb := by constructor <;> first | kernel_rfl | (intro w; kernel_rfl) | decide
theorem lays129 : Lays.n129 Tryz.prog lrenLb := by constructor <;> first | kernel_rfl | (intro w; kernel_rfl) | decide
end Go.Proofs.YtigbbogfnchgnaaGreatDoor
