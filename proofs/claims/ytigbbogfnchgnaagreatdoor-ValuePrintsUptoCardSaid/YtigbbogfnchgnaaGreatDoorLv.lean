/- The library's contracts laid at this program: the numbers of functions, types and variables side by side. Conditions: none. (Written by wip/gen/lay.py.) -/
import Derived.Shelf.Strings.Search2
import Derived.Shelf.Strings.Count
import Derived.Shelf.Strings.Repeat
import Derived.Shelf.Strconv.Atoi
import Derived.Test.YtigbbogfnchgnaaGreatDoorProg
import Derived.KernelRfl
namespace Go.Proofs.YtigbbogfnchgnaaGreatDoor
open Go.Shelf
set_option linter.unusedVariables false

/-- The numbers that the library's texts name, in this program. -/
def lrenLv : Ren :=
  { f := fun x => match x with
      | 138 => 198
      | 195 => 207
      | 218 => 208
      | 143 => 200
      | 219 => 206
      | 217 => 224
      | 225 => 225
      | 224 => 226
      | 267 => 227
      | 266 => 238
      | 314 => 239
      | 105 => 194
      | 212 => 202
      | 99 => 203
      | 165 => 199
      | 166 => 25
      | 170 => 9
      | 169 => 10
      | 263 => 211
      | 264 => 151
      | 206 => 212
      | 240 => 42
      | 241 => 209
      | 276 => 54
      | 277 => 228
      | 172 => 192
      | 244 => 197
      | 245 => 87
      | 247 => 86
      | 279 => 93
      | 280 => 94
      | 281 => 95
      | 282 => 96
      | 287 => 92
      | 316 => 106
      | 171 => 108
      | 205 => 107
      | 321 => 104
      | 322 => 105
      | 243 => 112
      | 246 => 116
      | 283 => 130
      | 284 => 131
      | 285 => 132
      | 286 => 133
      | 129 => 137
      | 317 => 148
      | 318 => 141
      | 319 => 149
      | 320 => 150
      | 337 => 155
      | 338 => 156
      | n => n
    t := fun x => match x with
      | 9 => 9
      | 3 => 3
      | 4 => 4
      | 5 => 5
      | 0 => 0
      | 46 => 83
      | 146 => 248
      | 51 => 93
      | 20 => 20
      | 109 => 242
      | 72 => 38
      | 76 => 58
      | 53 => 73
      | 148 => 84
      | 70 => 35
      | 37 => 36
      | 75 => 57
      | 127 => 61
      | 164 => 95
      | 80 => 41
      | 167 => 132
      | 85 => 113
      | 2 => 2
      | 168 => 135
      | 175 => 133
      | 210 => 143
      | 145 => 149
      | 143 => 147
      | 21 => 21
      | 171 => 178
      | 173 => 181
      | 212 => 201
      | 213 => 202
      | 232 => 217
      | 233 => 218
      | n => n
    g := fun x => match x with
      | 1 => 14
      | 15 => 1
      | 16 => 2
      | 17 => 9
      | 18 => 12
      | 19 => 13
      | n => n }
theorem lays138 : Lays.n138 Tryz.prog lrenLv := by constructor <;> first | kernel_rfl | (intro w; kernel_rfl) | decide
theorem lays219 : Lays.n219 Tryz.prog lrenLv := by constructor <;> first | kernel_rfl | (intro w; kernel_rfl) | decide
theorem lays105 : Lays.n105 Tryz.prog lrenLv := by constructor <;> first | kernel_rfl | (intro w; kernel_rfl) | decide
theorem lays172 : Lays.n172 Tryz.prog lrenLv := by constructor <;> first | kernel_rfl | (intro w; kernel_rfl) | decide
end Go.Proofs.YtigbbogfnchgnaaGreatDoor
