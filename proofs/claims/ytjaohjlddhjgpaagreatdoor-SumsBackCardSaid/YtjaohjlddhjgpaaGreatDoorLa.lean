/- The library's contracts laid at this program: the numbers of functions, types and variables side by side. Conditions: none. (Written by wip/gen/lay.py.) -/
import Derived.Shelf.Strconv.AtoiAll
import Derived.Test.YtjaohjlddhjgpaaGreatDoorProg
import Derived.KernelRfl
namespace Go.Proofs.YtjaohjlddhjgpaaGreatDoor
open Go.Shelf
set_option linter.unusedVariables false

/-- The numbers that the library's texts name, in this program. -/
def lrenLa : Ren :=
  { f := fun x => match x with
      | 172 => 87
      | 244 => 103
      | 245 => 104
      | 247 => 115
      | 279 => 116
      | 280 => 117
      | 281 => 118
      | 282 => 119
      | 287 => 129
      | 316 => 130
      | 171 => 29
      | 205 => 131
      | 321 => 139
      | 322 => 140
      | 243 => 49
      | 246 => 68
      | 283 => 82
      | 284 => 83
      | 285 => 84
      | 286 => 85
      | 129 => 99
      | 317 => 98
      | 318 => 100
      | 319 => 101
      | 320 => 102
      | 337 => 113
      | 338 => 114
      | n => n
    t := fun x => match x with
      | 9 => 9
      | 3 => 3
      | 75 => 63
      | 76 => 64
      | 4 => 4
      | 5 => 5
      | 167 => 203
      | 37 => 23
      | 0 => 0
      | 85 => 204
      | 2 => 2
      | 168 => 206
      | 53 => 157
      | 175 => 221
      | 46 => 88
      | 210 => 224
      | 127 => 89
      | 145 => 231
      | 143 => 229
      | 21 => 21
      | 171 => 156
      | 173 => 160
      | 212 => 181
      | 51 => 118
      | 20 => 20
      | 213 => 182
      | 232 => 219
      | 233 => 220
      | 80 => 66
      | n => n
    g := fun x => match x with
      | 15 => 5
      | 16 => 6
      | 17 => 1
      | 18 => 3
      | 19 => 4
      | n => n }
theorem lays172a : Lays.n172 Tryz.prog lrenLa := by constructor <;> first | kernel_rfl | (intro w; kernel_rfl) | decide
theorem lays172m : LaysM.n172 Tryz.prog lrenLa := by
  constructor
  · exact lays172a
  all_goals first | kernel_rfl | (intro w; kernel_rfl) | decide
theorem lays172 : LaysC.n172 Tryz.prog lrenLa := by
  constructor
  · exact lays172m
  all_goals first | kernel_rfl | (intro w; kernel_rfl) | decide
end Go.Proofs.YtjaohjlddhjgpaaGreatDoor
