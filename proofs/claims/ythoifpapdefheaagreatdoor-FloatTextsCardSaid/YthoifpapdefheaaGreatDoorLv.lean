/- The library's contracts laid at this program: the numbers of functions, types and variables side by side. Conditions: none. (Written by wip/gen/lay.py.) -/
import Derived.Shelf.Strings.Search2
import Derived.Shelf.Strings.Count
import Derived.Shelf.Strings.Repeat
import Derived.Shelf.Strconv.Atoi
import Derived.Test.YthoifpapdefheaaGreatDoorProg
import Derived.KernelRfl
namespace Go.Proofs.YthoifpapdefheaaGreatDoor
open Go.Shelf
set_option linter.unusedVariables false

/-- The numbers that the library's texts name, in this program. -/
def lrenLv : Ren :=
  { f := fun x => match x with
      | 138 => 24
      | 195 => 50
      | 218 => 51
      | 143 => 26
      | 219 => 44
      | 217 => 79
      | 225 => 80
      | 224 => 81
      | 267 => 82
      | 266 => 112
      | 314 => 113
      | 105 => 13
      | 212 => 31
      | 99 => 32
      | 165 => 25
      | 166 => 27
      | 170 => 33
      | 169 => 29
      | 263 => 56
      | 264 => 57
      | 206 => 58
      | 240 => 52
      | 241 => 53
      | 276 => 86
      | 277 => 87
      | 172 => 10
      | 244 => 22
      | 245 => 23
      | 247 => 45
      | 279 => 46
      | 280 => 47
      | 281 => 48
      | 282 => 49
      | 287 => 83
      | 316 => 84
      | 171 => 12
      | 205 => 85
      | 321 => 94
      | 322 => 114
      | 243 => 30
      | 246 => 55
      | 283 => 88
      | 284 => 72
      | 285 => 89
      | 286 => 90
      | 129 => 69
      | 317 => 73
      | 318 => 103
      | 319 => 115
      | 320 => 116
      | 337 => 120
      | 338 => 121
      | n => n
    t := fun x => match x with
      | 9 => 9
      | 3 => 3
      | 4 => 4
      | 5 => 5
      | 0 => 0
      | 46 => 56
      | 146 => 84
      | 51 => 83
      | 20 => 20
      | 109 => 57
      | 72 => 51
      | 76 => 34
      | 53 => 22
      | 148 => 39
      | 70 => 48
      | 37 => 49
      | 75 => 33
      | 127 => 81
      | 164 => 113
      | 80 => 55
      | 167 => 73
      | 85 => 74
      | 2 => 2
      | 168 => 76
      | 175 => 107
      | 210 => 111
      | 145 => 145
      | 143 => 143
      | 21 => 21
      | 171 => 100
      | 173 => 121
      | 212 => 136
      | 213 => 146
      | 232 => 94
      | 233 => 159
      | n => n
    g := fun x => match x with
      | 1 => 2
      | 15 => 3
      | 16 => 4
      | 17 => 7
      | 18 => 10
      | 19 => 11
      | n => n }
theorem lays138 : Lays.n138 Tryz.prog lrenLv := by constructor <;> first | kernel_rfl | (intro w; kernel_rfl) | decide
theorem lays219 : Lays.n219 Tryz.prog lrenLv := by constructor <;> first | kernel_rfl | (intro w; kernel_rfl) | decide
theorem lays105 : Lays.n105 Tryz.prog lrenLv := by constructor <;> first | kernel_rfl | (intro w; kernel_rfl) | decide
theorem lays172 : Lays.n172 Tryz.prog lrenLv := by constructor <;> first | kernel_rfl | (intro w; kernel_rfl) | decide
end Go.Proofs.YthoifpapdefheaaGreatDoor
