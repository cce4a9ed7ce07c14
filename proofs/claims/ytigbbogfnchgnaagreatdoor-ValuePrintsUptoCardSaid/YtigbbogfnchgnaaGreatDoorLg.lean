/- The library's contracts for strings.Builder (Grow, WriteString, String) laid at this program in plain words. Conditions: none. -/
import Derived.Shelf.Strings.Builder1
import Derived.Shelf.Strings.Builder2
import Derived.Test.YtigbbogfnchgnaaGreatDoorProg
import Derived.Test.YtigbbogfnchgnaaGreatDoorMem2
import Derived.KernelRfl
namespace Go.Proofs.YtigbbogfnchgnaaGreatDoor
open Go.Shelf Go.RowKit
set_option linter.unusedVariables false
/-- The numbers that the library's texts name, in this program. -/
def lrenLg : Ren :=
  { f := fun x => match x with
      | 165 => 199
      | 241 => 209
      | 277 => 228
      | 166 => 25
      | 240 => 42
      | 276 => 54
      | 169 => 10
      | n => n
    t := fun x => match x with
      | 3 => 3
      | 4 => 4
      | 5 => 5
      | 9 => 9
      | 20 => 20
      | 37 => 36
      | 70 => 35
      | 72 => 38
      | 75 => 57
      | 80 => 41
      | 127 => 61
      | 164 => 95
      | n => n
    g := fun x => x }
theorem lays165 : Lays.n165 Tryz.prog lrenLg := by constructor <;> first | kernel_rfl | (intro w; kernel_rfl) | decide
theorem lays166 : Lays.n166 Tryz.prog lrenLg := by constructor <;> first | kernel_rfl | (intro w; kernel_rfl) | decide
theorem lays169 : Lays.n169 Tryz.prog lrenLg := by constructor <;> first | kernel_rfl | (intro w; kernel_rfl) | decide
theorem laysX : Builder.Extra Tryz.prog lrenLg where
  sizeBuilder := by kernel_rfl
  liesBuilder := by kernel_rfl
  t5 := by kernel_rfl
  a5 := by intro w; kernel_rfl
  z5 := by intro w; kernel_rfl
  v5 := by intro w; kernel_rfl
  infoByte := by kernel_rfl
  cellsByte := by kernel_rfl
  sizeByte := by kernel_rfl
  neB5 := by decide
/-- A builder of the call's own that holds these bytes. -/
def IsB (B b : Nat) (l : List UInt8) (w : World) : Prop := Lib.IsBuilder 38 5 B b (Lib.byteCells l) w
theorem isB_new (w : World) : IsB w.heap.size w.heap.size [] (w.alloc (.cells #[.pointer none, .slice none 0 0] 38)) := Lib.fresh_isBuilder _ _ w
theorem cells_app (l m : List UInt8) : Lib.byteCells l ++ Lib.strCells ⟨m.toArray⟩ = Lib.byteCells (l ++ m) := by simp [Lib.byteCells, Lib.strCells]
theorem IsB.step {B b : Nat} {l : List UInt8} {w w' : World} (h : IsB B b l w) (hb : Below w.heap.size w w') : IsB B b l w' := by
  rcases h with ⟨h1, v, h2, h3, h4⟩ | ⟨h1, v, h2, h3, h4⟩
  · exact .inl ⟨h1, v, by rw [hb.block b (Array.getElem?_eq_some_iff.1 h2).1]; exact h2, own_below h3 hb, h4⟩
  · exact .inr ⟨h1, v, by rw [hb.block b (Array.getElem?_eq_some_iff.1 h2).1]; exact h2, own_below h3 hb, h4⟩
theorem c_BGrow (B b n : Nat) (w : World) (hB : B ≤ b) (hbk : w.heap[b]? = some (.cells #[.pointer none, .slice none 0 0] 38 (0, 0))) (hBw : B ≤ w.heap.size) (hn : n ≤ 281474976710656) :
    Calls Tryz.prog 199 #[.pointer (some ⟨b, 0, none⟩), .int .i64 n] w fun e w' => e = .returned (.tuple #[]) ∧ IsB B b [] w' ∧ Below B w w' :=
  (Any.Builder_Grow_fresh lays165 laysX B b n w hB hbk hBw hn).mono fun e w' ⟨h1, h2, h3⟩ => ⟨h1, .inr h2, h3⟩
theorem c_BWS (B b : Nat) (l m : List UInt8) (w : World) (h : IsB B b l w) (hlen : l.length + m.length ≤ 140737488355328) (hBw : B ≤ w.heap.size) :
    Calls Tryz.prog 25 #[.pointer (some ⟨b, 0, none⟩), .string ⟨m.toArray⟩] w fun e w' => e = .returned (.tuple #[.int .i64 (m.length : Nat), .nilIface]) ∧ IsB B b (l ++ m) w' ∧ Below B w w' :=
  (Any.Builder_WriteString lays166 laysX B b (Lib.byteCells l) ⟨m.toArray⟩ w h (by rw [Lib.byteCells_length]; exact hlen) hBw).mono fun e w' ⟨h1, h2, h3⟩ =>
    ⟨by rw [h1]; rfl, .inr (by rw [cells_app] at h2; exact h2), h3⟩
theorem c_BStr (B b : Nat) (l : List UInt8) (w : World) (h : IsB B b l w) (hBw : B ≤ w.heap.size) :
    Calls Tryz.prog 10 #[.pointer (some ⟨b, 0, none⟩)] w fun e w' => e = .returned (.string ⟨l.toArray⟩) ∧ Below B w w' :=
  Any.Builder_String_any lays169 laysX B b l w h hBw
end Go.Proofs.YtigbbogfnchgnaaGreatDoor
