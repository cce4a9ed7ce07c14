/- Walks: a list of floats copied with nine more behind it, and whether it is kept (quernlaw22.copied, quernlaw22.kept), by themselves. Conditions: as stated. -/
import Derived.Test.YtcohidjaehdbnaaGreatDoorFw2
import Derived.Test.YtcohidjaehdbnaaGreatDoorMem2
import Derived.BigQuiet
import Derived.Deep.QuietTactic
import Derived.Great.Walk
import Derived.Deep.DrawnRows
import Derived.Deep.RegionHeld3
import Derived.IntWalk
import Derived.Handy
namespace Go.Proofs.YtcohidjaehdbnaaGreatDoor
open Go.RowKit
set_option linter.unusedVariables false
attribute [local go_sem ↓] Go.wp_at_zero Go.wp_at_succ

/-- Floats as cells. -/
abbrev f64s (xs : List Nat) : List Value := xs.map (Value.float .f64)
theorem f64_info : (Tryz.prog.info? 24).map (fun i => (i.zero, i.size, i.bytes)) = some (some (.float .f64 0), 1, 8) := by kernel_rfl
theorem f64s_one (xs : List Nat) : ∀ u ∈ f64s xs, u.oneCell' = true := by intro u hu; obtain ⟨z, _, rfl⟩ := List.mem_map.1 hu; rfl
/-- All numbers are bits. -/
def Bit (xs : List Nat) : Prop := ∀ z ∈ xs, z < 18446744073709551616
theorem Bit.get {xs : List Nat} (h : Bit xs) (k : Nat) : xs.getD k 0 < 18446744073709551616 := by
  rcases Nat.lt_or_ge k xs.length with hk | hk
  · simp only [List.getD, List.getElem?_eq_getElem hk, Option.getD_some]; exact h _ (List.getElem_mem hk)
  · simp [List.getD, List.getElem?_eq_none hk]
theorem built1 (y : Nat) : Tryz.prog.builtSlice 24 1 [(0, .float .f64 y)] = some #[.float .f64 y] := by kernel_rfl
theorem take_one (xs : List Nat) {i : Nat} (h : i < xs.length) : xs.take (i + 1) = xs.take i ++ [xs.getD i 0] := by
  rw [List.take_succ_eq_append_getElem h]; simp [List.getD, List.getElem?_eq_getElem h]
abbrev Fown (w : World) (v : Value) (n : Nat) (xs : List Nat) (w' : World) : Prop := w'.ownsRow w.heap.size 24 1 v n (f64s xs) ∧ Below w.heap.size w w'
/-- 0, 1 .. 8 as floats. -/
def cv (j : Nat) : Nat := [0, 4607182418800017408, 4611686018427387904, 4613937818241073152, 4616189618054758400, 4617315517961601024, 4618441417868443648, 4619567317775286272, 4620693217682128896].getD j 0
/-- 0.5, 1.5 .. 8.5. -/
abbrev halves : List Nat := [4602678819172646912, 4609434218613702656, 4612811918334230528, 4615063718147915776, 4616752568008179712, 4617878467915022336, 4619004367821864960, 4620130267728707584, 4620974692658839552]
/-- The j-th of them. -/
abbrev hv (j : Nat) : Nat := halves.getD j 0
theorem add_half0 (w : World) : (binOp BinOp.add 24 (.float .f64 (floatOfInt FloatKind.f64 ((0 : Nat) : Int))) (.float .f64 4602678819172646912)).run Tryz.prog w = .ok (.float .f64 4602678819172646912) w := by kernel_rfl
theorem add_half1 (w : World) : (binOp BinOp.add 24 (.float .f64 (floatOfInt FloatKind.f64 ((1 : Nat) : Int))) (.float .f64 4602678819172646912)).run Tryz.prog w = .ok (.float .f64 4609434218613702656) w := by kernel_rfl
theorem add_half2 (w : World) : (binOp BinOp.add 24 (.float .f64 (floatOfInt FloatKind.f64 ((2 : Nat) : Int))) (.float .f64 4602678819172646912)).run Tryz.prog w = .ok (.float .f64 4612811918334230528) w := by kernel_rfl
theorem add_half3 (w : World) : (binOp BinOp.add 24 (.float .f64 (floatOfInt FloatKind.f64 ((3 : Nat) : Int))) (.float .f64 4602678819172646912)).run Tryz.prog w = .ok (.float .f64 4615063718147915776) w := by kernel_rfl
theorem add_half4 (w : World) : (binOp BinOp.add 24 (.float .f64 (floatOfInt FloatKind.f64 ((4 : Nat) : Int))) (.float .f64 4602678819172646912)).run Tryz.prog w = .ok (.float .f64 4616752568008179712) w := by kernel_rfl
theorem add_half5 (w : World) : (binOp BinOp.add 24 (.float .f64 (floatOfInt FloatKind.f64 ((5 : Nat) : Int))) (.float .f64 4602678819172646912)).run Tryz.prog w = .ok (.float .f64 4617878467915022336) w := by kernel_rfl
theorem add_half6 (w : World) : (binOp BinOp.add 24 (.float .f64 (floatOfInt FloatKind.f64 ((6 : Nat) : Int))) (.float .f64 4602678819172646912)).run Tryz.prog w = .ok (.float .f64 4619004367821864960) w := by kernel_rfl
theorem add_half7 (w : World) : (binOp BinOp.add 24 (.float .f64 (floatOfInt FloatKind.f64 ((7 : Nat) : Int))) (.float .f64 4602678819172646912)).run Tryz.prog w = .ok (.float .f64 4620130267728707584) w := by kernel_rfl
theorem add_half8 (w : World) : (binOp BinOp.add 24 (.float .f64 (floatOfInt FloatKind.f64 ((8 : Nat) : Int))) (.float .f64 4602678819172646912)).run Tryz.prog w = .ok (.float .f64 4620974692658839552) w := by kernel_rfl
theorem add_half {j : Nat} (h : j < 9) (w : World) : (binOp BinOp.add 24 (.float .f64 (floatOfInt FloatKind.f64 (j : Int))) (.float .f64 4602678819172646912)).run Tryz.prog w = .ok (.float .f64 (hv j)) w := by
  have : j = 0 ∨ j = 1 ∨ j = 2 ∨ j = 3 ∨ j = 4 ∨ j = 5 ∨ j = 6 ∨ j = 7 ∨ j = 8 := by omega
  rcases this with rfl | rfl | rfl | rfl | rfl | rfl | rfl | rfl | rfl
  · exact add_half0 w
  · exact add_half1 w
  · exact add_half2 w
  · exact add_half3 w
  · exact add_half4 w
  · exact add_half5 w
  · exact add_half6 w
  · exact add_half7 w
  · exact add_half8 w
theorem hv_num {j : Nat} (h : j < 9) : fnan (hv j) = false := by
  have : j = 0 ∨ j = 1 ∨ j = 2 ∨ j = 3 ∨ j = 4 ∨ j = 5 ∨ j = 6 ∨ j = 7 ∨ j = 8 := by omega
  rcases this with rfl | rfl | rfl | rfl | rfl | rfl | rfl | rfl | rfl <;> decide +kernel
theorem bit_halves : Bit halves := by intro x hx; revert x; decide
theorem f64_get {xs : List Nat} {i : Nat} (h : i < xs.length) : (f64s xs).getD i undef = .float .f64 (xs.getD i 0) := by
  simp [f64s, List.getD, List.getElem?_eq_getElem h]
theorem get_left {xs ys : List Nat} {i : Nat} (h : i < xs.length) : (xs ++ ys).getD i 0 = xs.getD i 0 := by
  simp [List.getD, List.getElem?_append_left h]
theorem get_right {xs ys : List Nat} {i : Nat} : (xs ++ ys).getD (xs.length + i) 0 = ys.getD i 0 := by
  simp [List.getD, List.getElem?_append_right (show xs.length ≤ xs.length + i by omega)]
end Go.Proofs.YtcohidjaehdbnaaGreatDoor
