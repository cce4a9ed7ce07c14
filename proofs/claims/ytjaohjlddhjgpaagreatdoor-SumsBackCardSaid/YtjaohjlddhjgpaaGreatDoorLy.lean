/- The library's contracts laid at this program: the numbers of functions, types and variables side by side. Conditions: none. (Written by wip/gen/lay.py.) -/
import Derived.Shelf.Strconv.Itoa3
import Derived.Test.YtjaohjlddhjgpaaGreatDoorProg
import Derived.KernelRfl
namespace Go.Proofs.YtjaohjlddhjgpaaGreatDoor
open Go.Shelf
set_option linter.unusedVariables false

/-- The numbers that the library's texts name, in this program. -/
def lrenLy : Ren :=
  { f := fun x => match x with
      | 171 => 29
      | 243 => 49
      | 246 => 68
      | 283 => 82
      | 284 => 83
      | 285 => 84
      | 286 => 85
      | 129 => 99
      | 317 => 98
      | 318 => 100
      | 319 => 101
      | 320 => 102
      | 337 => 113
      | 338 => 114
      | n => n
    t := fun x => match x with
      | 3 => 3
      | 9 => 9
      | 2 => 2
      | 4 => 4
      | 171 => 156
      | 0 => 0
      | 53 => 157
      | 37 => 23
      | 5 => 5
      | 173 => 160
      | 212 => 181
      | 51 => 118
      | 20 => 20
      | 213 => 182
      | 46 => 88
      | 232 => 219
      | 233 => 220
      | n => n
    g := fun x => match x with
      | 17 => 1
      | 18 => 3
      | 19 => 4
      | n => n }
theorem lays171a : Lays.n171 Tryz.prog lrenLy := by constructor <;> first | kernel_rfl | (intro w; kernel_rfl) | decide
theorem lays171 : LaysM.n171 Tryz.prog lrenLy := by
  constructor
  · exact lays171a
  all_goals first | kernel_rfl | (intro w; kernel_rfl) | decide
end Go.Proofs.YtjaohjlddhjgpaaGreatDoor
