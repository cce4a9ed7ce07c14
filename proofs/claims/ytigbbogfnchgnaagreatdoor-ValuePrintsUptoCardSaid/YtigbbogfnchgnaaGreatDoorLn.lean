/- The library's contracts laid at this program: the numbers of functions, types and variables side by side. Conditions: none. (Written by wip/gen/lay.py.) -/
import Derived.Shelf.Strconv.ParseInt10At64
import Derived.Test.YtigbbogfnchgnaaGreatDoorProg
import Derived.KernelRfl
namespace Go.Proofs.YtigbbogfnchgnaaGreatDoor
open Go.Shelf
set_option linter.unusedVariables false

/-- The numbers that the library's texts name, in this program. -/
def lrenLn : Ren :=
  { f := fun x => match x with
      | 247 => 86
      | 287 => 92
      | 321 => 104
      | 322 => 105
      | n => n
    t := fun x => match x with
      | 9 => 9
      | 3 => 3
      | 2 => 2
      | 75 => 57
      | 4 => 4
      | 167 => 132
      | 5 => 5
      | 53 => 73
      | 175 => 133
      | 46 => 83
      | 37 => 36
      | 0 => 0
      | 21 => 21
      | 80 => 41
      | n => n
    g := fun x => x }
theorem lays247a : Lays.n247 Tryz.prog lrenLn := by constructor <;> first | kernel_rfl | (intro w; kernel_rfl) | decide
theorem lays247m : LaysM.n247 Tryz.prog lrenLn := by
  constructor
  · exact lays247a
  all_goals first | kernel_rfl | (intro w; kernel_rfl) | decide
theorem lays247 : LaysC.n247 Tryz.prog lrenLn := by
  constructor
  · exact lays247m
  all_goals first | kernel_rfl | (intro w; kernel_rfl) | decide
end Go.Proofs.YtigbbogfnchgnaaGreatDoor
