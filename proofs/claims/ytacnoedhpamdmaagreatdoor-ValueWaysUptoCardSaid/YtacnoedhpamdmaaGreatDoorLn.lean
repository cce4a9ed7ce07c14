/- The library's contracts laid at this program: the numbers of functions, types and variables side by side. Conditions: none. (Written by wip/gen/lay.py.) -/
import Derived.Shelf.Strconv.ParseInt10At64
import Derived.Test.YtacnoedhpamdmaaGreatDoorProg
import Derived.KernelRfl
namespace Go.Proofs.YtacnoedhpamdmaaGreatDoor
open Go.Shelf
set_option linter.unusedVariables false

/-- The numbers that the library's texts name, in this program. -/
def lrenLn : Ren :=
  { f := fun x => match x with
      | 247 => 138
      | 287 => 149
      | 321 => 161
      | 322 => 162
      | n => n
    t := fun x => match x with
      | 9 => 9
      | 3 => 3
      | 2 => 2
      | 75 => 156
      | 4 => 4
      | 167 => 186
      | 5 => 5
      | 53 => 72
      | 175 => 187
      | 46 => 150
      | 37 => 23
      | 0 => 0
      | 21 => 21
      | 80 => 132
      | n => n
    g := fun x => x }
theorem lays247a : Lays.n247 Tryz.prog lrenLn := by constructor <;> first | kernel_rfl | (intro w; kernel_rfl) | decide
theorem lays247m : LaysM.n247 Tryz.prog lrenLn := by
  constructor
  · exact lays247a
  all_goals first | kernel_rfl | (intro w; kernel_rfl) | decide
theorem lays247 : LaysC.n247 Tryz.prog lrenLn := by
  constructor
  · exact lays247m
  all_goals first | kernel_rfl | (intro w; kernel_rfl) | decide
end Go.Proofs.YtacnoedhpamdmaaGreatDoor
