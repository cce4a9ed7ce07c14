/- The library's contracts laid at this program: the numbers of functions, types and variables side by side. Conditions: none. (Written by wip/gen/lay.py.) -/
import Derived.Shelf.Strconv.Itoa3
import Derived.Test.YtigbbogfnchgnaaGreatDoorProg
import Derived.KernelRfl
namespace Go.Proofs.YtigbbogfnchgnaaGreatDoor
open Go.Shelf
set_option linter.unusedVariables false

/-- The numbers that the library's texts name, in this program. -/
def lrenLy : Ren :=
  { f := fun x => match x with
      | 283 => 130
      | 284 => 131
      | 129 => 137
      | 317 => 148
      | 318 => 141
      | 285 => 132
      | 171 => 108
      | 243 => 112
      | 246 => 116
      | 286 => 133
      | 319 => 149
      | 320 => 150
      | 337 => 155
      | 338 => 156
      | n => n
    t := fun x => match x with
      | 3 => 3
      | 9 => 9
      | 4 => 4
      | 53 => 73
      | 212 => 201
      | 0 => 0
      | 46 => 83
      | 5 => 5
      | 37 => 36
      | 51 => 93
      | 2 => 2
      | 171 => 178
      | 173 => 181
      | 20 => 20
      | 213 => 202
      | 232 => 217
      | 233 => 218
      | n => n
    g := fun x => match x with
      | 17 => 9
      | 18 => 12
      | 19 => 13
      | n => n }
theorem lays283 : Lays.n283 Tryz.prog lrenLy := by constructor <;> first | kernel_rfl | (intro w; kernel_rfl) | decide
theorem lays284a : Lays.n284 Tryz.prog lrenLy := by constructor <;> first | kernel_rfl | (intro w; kernel_rfl) | decide
theorem lays284 : LaysM.n284 Tryz.prog lrenLy := by
  constructor
  · exact lays284a
  all_goals first | kernel_rfl | (intro w; kernel_rfl) | decide
theorem lays285 : Lays.n285 Tryz.prog lrenLy := by constructor <;> first | kernel_rfl | (intro w; kernel_rfl) | decide
theorem lays171a : Lays.n171 Tryz.prog lrenLy := by constructor <;> first | kernel_rfl | (intro w; kernel_rfl) | decide
theorem lays171 : LaysM.n171 Tryz.prog lrenLy := by
  constructor
  · exact lays171a
  all_goals first | kernel_rfl | (intro w; kernel_rfl) | decide
end Go.Proofs.YtigbbogfnchgnaaGreatDoor
