/- The library's contracts laid at this program: the numbers of functions, types and variables side by side. Conditions: none. (Written by wip/gen/lay.py.) -/
import Derived.Shelf.Strings.Split
import Derived.Shelf.Strings.Search2
import Derived.Shelf.Strings.Search3
import Derived.Shelf.Strings.Count
import Derived.Shelf.Strings.SplitCore
import Derived.Shelf.Strconv.ParseUint10b64
import Derived.Test.YtofcdffcaiajmaaDoorProg
import Derived.KernelRfl
namespace Go.Proofs.YtofcdffcaiajmaaDoor
open Go.Shelf
set_option linter.unusedVariables false

/-- The numbers that the library's texts name, in this program. -/
def lrenLq : Ren :=
  { f := fun x => match x with
      | 146 => 31
      | 221 => 39
      | 268 => 49
      | 138 => 50
      | 143 => 51
      | 195 => 58
      | 197 => 59
      | 218 => 60
      | 219 => 61
      | 260 => 65
      | 217 => 66
      | 225 => 67
      | 224 => 68
      | 267 => 69
      | 266 => 77
      | 314 => 78
      | 287 => 63
      | 321 => 71
      | 322 => 72
      | n => n
    t := fun x => match x with
      | 9 => 9
      | 31 => 69
      | 3 => 3
      | 4 => 4
      | 0 => 0
      | 105 => 101
      | 21 => 21
      | 5 => 5
      | 46 => 67
      | 119 => 117
      | 139 => 120
      | 138 => 119
      | 146 => 121
      | 51 => 22
      | 53 => 23
      | 75 => 96
      | 167 => 111
      | 37 => 24
      | 80 => 132
      | n => n
    g := fun x => match x with
      | 1 => 3
      | 3 => 4
      | 4 => 5
      | n => n }
theorem lays146 : Lays.n146 Tryd.prog lrenLq := by constructor <;> first | kernel_rfl | (intro w; kernel_rfl) | decide
theorem lays287 : Lays.n287 Tryd.prog lrenLq := by constructor <;> first | kernel_rfl | (intro w; kernel_rfl) | decide
end Go.Proofs.YtofcdffcaiajmaaDoor
