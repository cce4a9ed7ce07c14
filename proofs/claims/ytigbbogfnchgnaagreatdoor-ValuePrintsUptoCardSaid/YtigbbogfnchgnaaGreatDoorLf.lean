/- The library's contracts laid at this program: the numbers of functions, types and variables side by side. Conditions: none. (Written by wip/gen/lay.py.) -/
import Derived.Shelf.Strconv.Itoa4
import Derived.Test.YtigbbogfnchgnaaGreatDoorProg
import Derived.KernelRfl
namespace Go.Proofs.YtigbbogfnchgnaaGreatDoor
open Go.Shelf
set_option linter.unusedVariables false

/-- The numbers that the library's texts name, in this program. -/
def lrenLf : Ren :=
  { f := fun x => match x with
      | 173 => 185
      | 246 => 116
      | 283 => 130
      | 284 => 131
      | 285 => 132
      | 286 => 133
      | 129 => 137
      | 317 => 148
      | 318 => 141
      | 319 => 149
      | 320 => 150
      | 337 => 155
      | 338 => 156
      | n => n
    t := fun x => match x with
      | 2 => 2
      | 3 => 3
      | 9 => 9
      | 4 => 4
      | 171 => 178
      | 0 => 0
      | 53 => 73
      | 37 => 36
      | 5 => 5
      | 173 => 181
      | 212 => 201
      | 51 => 93
      | 20 => 20
      | 213 => 202
      | 46 => 83
      | 232 => 217
      | 233 => 218
      | n => n
    g := fun x => match x with
      | 17 => 9
      | 18 => 12
      | 19 => 13
      | n => n }
theorem lays173a : Lays.n173 Tryz.prog lrenLf := by constructor <;> first | kernel_rfl | (intro w; kernel_rfl) | decide
theorem lays173 : LaysM.n173 Tryz.prog lrenLf := by
  constructor
  · exact lays173a
  all_goals first | kernel_rfl | (intro w; kernel_rfl) | decide
end Go.Proofs.YtigbbogfnchgnaaGreatDoor
