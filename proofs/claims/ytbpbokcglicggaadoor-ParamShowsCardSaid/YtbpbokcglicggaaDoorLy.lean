/- The library's contracts on decimal digits, laid at this program: the numbers of functions and types side by side. Conditions: none. -/
import Derived.Shelf.Strconv.Itoa3
import Derived.Test.YtbpbokcglicggaaDoorProg
import Derived.KernelRfl
namespace Go.Proofs.YtbpbokcglicggaaDoor
open Go.Shelf
set_option linter.unusedVariables false

/-- The numbers that the library's texts name, in this program. -/
def lren : Ren :=
  { f := fun x => match x with
      | 283 => 44
      | 284 => 45
      | 285 => 46
      | 129 => 54
      | 317 => 53
      | 318 => 55
      | n => n
    t := fun x => match x with
      | 53 => 23
      | 212 => 95
      | 46 => 75
      | 37 => 24
      | 51 => 22
      | n => n
    g := fun x => match x with
      | 17 => 0
      | n => n }
theorem lays283 : Lays.n283 Tryd.prog lren := by constructor <;> first | kernel_rfl | (intro w; kernel_rfl) | decide
theorem lays285 : Lays.n285 Tryd.prog lren := by constructor <;> first | kernel_rfl | (intro w; kernel_rfl) | decide
theorem lays284a : Lays.n284 Tryd.prog lren := by constructor <;> first | kernel_rfl | (intro w; kernel_rfl) | decide
theorem lays284 : LaysM.n284 Tryd.prog lren := by
  constructor
  · exact lays284a
  all_goals first | kernel_rfl | decide
end Go.Proofs.YtbpbokcglicggaaDoor
