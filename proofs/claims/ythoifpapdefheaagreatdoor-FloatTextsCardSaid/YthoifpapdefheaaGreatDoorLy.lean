/- The library's contracts laid at this program: the numbers of functions, types and variables side by side. Conditions: none. (Written by wip/gen/lay.py.) -/
import Derived.Shelf.Strconv.Itoa3
import Derived.Test.YthoifpapdefheaaGreatDoorProg
import Derived.KernelRfl
namespace Go.Proofs.YthoifpapdefheaaGreatDoor
open Go.Shelf
set_option linter.unusedVariables false

/-- The numbers that the library's texts name, in this program. -/
def lrenLy : Ren :=
  { f := fun x => match x with
      | 283 => 88
      | 284 => 72
      | 129 => 69
      | 317 => 73
      | 318 => 103
      | 285 => 89
      | 171 => 12
      | 243 => 30
      | 246 => 55
      | 286 => 90
      | 319 => 115
      | 320 => 116
      | 337 => 120
      | 338 => 121
      | n => n
    t := fun x => match x with
      | 3 => 3
      | 9 => 9
      | 4 => 4
      | 53 => 22
      | 212 => 136
      | 0 => 0
      | 46 => 56
      | 5 => 5
      | 37 => 49
      | 51 => 83
      | 2 => 2
      | 171 => 100
      | 173 => 121
      | 20 => 20
      | 213 => 146
      | 232 => 94
      | 233 => 159
      | n => n
    g := fun x => match x with
      | 17 => 7
      | 18 => 10
      | 19 => 11
      | n => n }
theorem lays283 : Lays.n283 Tryz.prog lrenLy := by constructor <;> first | kernel_rfl | (intro w; kernel_rfl) | decide
theorem lays284a : Lays.n284 Tryz.prog lrenLy := by constructor <;> first | kernel_rfl | (intro w; kernel_rfl) | decide
theorem lays284 : LaysM.n284 Tryz.prog lrenLy := by
  constructor
  · exact lays284a
  all_goals first | kernel_rfl | (intro w; kernel_rfl) | decide
theorem lays285 : Lays.n285 Tryz.prog lrenLy := by constructor <;> first | kernel_rfl | (intro w; kernel_rfl) | decide
theorem lays171a : Lays.n171 Tryz.prog lrenLy := by constructor <;> first | kernel_rfl | (intro w; kernel_rfl) | decide
theorem lays171 : LaysM.n171 Tryz.prog lrenLy := by
  constructor
  · exact lays171a
  all_goals first | kernel_rfl | (intro w; kernel_rfl) | decide
end Go.Proofs.YthoifpapdefheaaGreatDoor
