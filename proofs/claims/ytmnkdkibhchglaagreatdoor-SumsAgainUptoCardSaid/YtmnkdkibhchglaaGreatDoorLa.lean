/- The library's contracts laid at this program: the numbers of functions, types and variables side by side. Conditions: none. (Written by wip/gen/lay.py.) -/
import Derived.Shelf.Strconv.AtoiAll
import Derived.Test.YtmnkdkibhchglaaGreatDoorProg
import Derived.KernelRfl
namespace Go.Proofs.YtmnkdkibhchglaaGreatDoor
open Go.Shelf
set_option linter.unusedVariables false

/-- The numbers that the library's texts name, in this program. -/
def lrenLa : Ren :=
  { f := fun x => match x with
      | 172 => 81
      | 244 => 93
      | 245 => 94
      | 247 => 104
      | 279 => 105
      | 280 => 106
      | 281 => 107
      | 282 => 108
      | 287 => 117
      | 316 => 118
      | 171 => 36
      | 205 => 119
      | 321 => 126
      | 322 => 127
      | 243 => 58
      | 246 => 75
      | 283 => 87
      | 284 => 88
      | 285 => 89
      | 286 => 90
      | 129 => 100
      | 317 => 99
      | 318 => 101
      | 319 => 102
      | 320 => 103
      | 337 => 115
      | 338 => 116
      | n => n
    t := fun x => match x with
      | 9 => 9
      | 3 => 3
      | 75 => 59
      | 76 => 60
      | 4 => 4
      | 5 => 5
      | 167 => 182
      | 37 => 31
      | 0 => 0
      | 85 => 183
      | 2 => 2
      | 168 => 185
      | 53 => 167
      | 175 => 204
      | 46 => 117
      | 210 => 207
      | 127 => 88
      | 145 => 227
      | 143 => 225
      | 21 => 21
      | 171 => 166
      | 173 => 170
      | 212 => 178
      | 51 => 152
      | 20 => 20
      | 213 => 179
      | 232 => 222
      | 233 => 223
      | 80 => 62
      | n => n
    g := fun x => match x with
      | 15 => 3
      | 16 => 4
      | 17 => 2
      | 18 => 5
      | 19 => 6
      | n => n }
theorem lays172a : Lays.n172 Tryz.prog lrenLa := by constructor <;> first | kernel_rfl | (intro w; kernel_rfl) | decide
theorem lays172m : LaysM.n172 Tryz.prog lrenLa := by
  constructor
  · exact lays172a
  all_goals first | kernel_rfl | (intro w; kernel_rfl) | decide
theorem lays172 : LaysC.n172 Tryz.prog lrenLa := by
  constructor
  · exact lays172m
  all_goals first | kernel_rfl | (intro w; kernel_rfl) | decide
end Go.Proofs.YtmnkdkibhchglaaGreatDoor
