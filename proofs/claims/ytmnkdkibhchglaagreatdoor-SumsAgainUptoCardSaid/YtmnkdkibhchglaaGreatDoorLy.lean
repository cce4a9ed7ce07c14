/- The library's contracts laid at this program: the numbers of functions, types and variables side by side. Conditions: none. (Written by wip/gen/lay.py.) -/
import Derived.Shelf.Strconv.Itoa3
import Derived.Test.YtmnkdkibhchglaaGreatDoorProg
import Derived.KernelRfl
namespace Go.Proofs.YtmnkdkibhchglaaGreatDoor
open Go.Shelf
set_option linter.unusedVariables false

/-- The numbers that the library's texts name, in this program. -/
def lrenLy : Ren :=
  { f := fun x => match x with
      | 171 => 36
      | 243 => 58
      | 246 => 75
      | 283 => 87
      | 284 => 88
      | 285 => 89
      | 286 => 90
      | 129 => 100
      | 317 => 99
      | 318 => 101
      | 319 => 102
      | 320 => 103
      | 337 => 115
      | 338 => 116
      | n => n
    t := fun x => match x with
      | 3 => 3
      | 9 => 9
      | 2 => 2
      | 4 => 4
      | 171 => 166
      | 0 => 0
      | 53 => 167
      | 37 => 31
      | 5 => 5
      | 173 => 170
      | 212 => 178
      | 51 => 152
      | 20 => 20
      | 213 => 179
      | 46 => 117
      | 232 => 222
      | 233 => 223
      | n => n
    g := fun x => match x with
      | 17 => 2
      | 18 => 5
      | 19 => 6
      | n => n }
theorem lays171a : Lays.n171 Tryz.prog lrenLy := by constructor <;> first | kernel_rfl | (intro w; kernel_rfl) | decide
theorem lays171 : LaysM.n171 Tryz.prog lrenLy := by
  constructor
  · exact lays171a
  all_goals first | kernel_rfl | (intro w; kernel_rfl) | decide
end Go.Proofs.YtmnkdkibhchglaaGreatDoor
