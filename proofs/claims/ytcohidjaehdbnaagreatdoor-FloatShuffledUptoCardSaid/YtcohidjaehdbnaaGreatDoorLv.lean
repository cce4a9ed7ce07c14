/- The library's contracts laid at this program: the numbers of functions, types and variables side by side. Conditions: none. (Written by wip/gen/lay.py.) -/
import Derived.Shelf.Strings.Search2
import Derived.Shelf.Strings.Count
import Derived.Shelf.Strings.Repeat
import Derived.Shelf.Strconv.Atoi
import Derived.Test.YtcohidjaehdbnaaGreatDoorProg
import Derived.KernelRfl
namespace Go.Proofs.YtcohidjaehdbnaaGreatDoor
open Go.Shelf
set_option linter.unusedVariables false

/-- The numbers that the library's texts name, in this program. -/
def lrenLv : Ren :=
  { f := fun x => match x with
      | 138 => 50
      | 195 => 74
      | 218 => 75
      | 143 => 52
      | 219 => 68
      | 217 => 100
      | 225 => 101
      | 224 => 102
      | 267 => 103
      | 266 => 133
      | 314 => 134
      | 105 => 34
      | 212 => 57
      | 99 => 58
      | 165 => 51
      | 166 => 53
      | 170 => 59
      | 169 => 55
      | 263 => 80
      | 264 => 38
      | 206 => 81
      | 240 => 76
      | 241 => 77
      | 276 => 107
      | 277 => 108
      | 172 => 31
      | 244 => 48
      | 245 => 49
      | 247 => 69
      | 279 => 70
      | 280 => 71
      | 281 => 72
      | 282 => 73
      | 287 => 104
      | 316 => 105
      | 171 => 33
      | 205 => 106
      | 321 => 115
      | 322 => 135
      | 243 => 56
      | 246 => 79
      | 283 => 109
      | 284 => 93
      | 285 => 110
      | 286 => 111
      | 129 => 62
      | 317 => 94
      | 318 => 124
      | 319 => 136
      | 320 => 137
      | 337 => 141
      | 338 => 142
      | n => n
    t := fun x => match x with
      | 9 => 9
      | 3 => 3
      | 4 => 4
      | 5 => 5
      | 0 => 0
      | 46 => 61
      | 146 => 102
      | 51 => 101
      | 20 => 20
      | 109 => 82
      | 72 => 77
      | 76 => 56
      | 53 => 22
      | 148 => 62
      | 70 => 74
      | 37 => 75
      | 75 => 55
      | 127 => 99
      | 164 => 130
      | 80 => 81
      | 167 => 91
      | 85 => 92
      | 2 => 2
      | 168 => 94
      | 175 => 124
      | 210 => 128
      | 145 => 162
      | 143 => 160
      | 21 => 21
      | 171 => 117
      | 173 => 138
      | 212 => 153
      | 213 => 163
      | 232 => 112
      | 233 => 176
      | n => n
    g := fun x => match x with
      | 1 => 4
      | 15 => 5
      | 16 => 6
      | 17 => 9
      | 18 => 12
      | 19 => 13
      | n => n }
theorem lays138 : Lays.n138 Tryz.prog lrenLv := by constructor <;> first | kernel_rfl | (intro w; kernel_rfl) | decide
theorem lays219 : Lays.n219 Tryz.prog lrenLv := by constructor <;> first | kernel_rfl | (intro w; kernel_rfl) | decide
theorem lays105 : Lays.n105 Tryz.prog lrenLv := by constructor <;> first | kernel_rfl | (intro w; kernel_rfl) | decide
theorem lays172 : Lays.n172 Tryz.prog lrenLv := by constructor <;> first | kernel_rfl | (intro w; kernel_rfl) | decide
end Go.Proofs.YtcohidjaehdbnaaGreatDoor
