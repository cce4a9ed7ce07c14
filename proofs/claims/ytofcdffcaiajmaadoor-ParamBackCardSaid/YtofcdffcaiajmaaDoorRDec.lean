/- Words: what quernref02.Decode reads out of a block, field by field (no walk). Conditions: none. -/
import Derived.Test.YtofcdffcaiajmaaDoorDec
import Derived.Test.YtofcdffcaiajmaaDoorWd2
import Derived.BigRegion
namespace Go.Proofs.YtofcdffcaiajmaaDoor
open Go.RowKit
set_option linter.unusedVariables false

def vLn (k : Int) (ext : Bool) (j : Nat) : Nat := if j = 5 ∧ ext = true then 4 else fszN k j
/-- The numbers read so far; the first is nought. -/
def vL (k : Int) (xs : List Int) (ext : Bool) : Nat → List Int
  | 0 => [0]
  | j + 1 => vL k xs ext j ++ [le (seg xs (fatN k j) (vLn k ext j))]
theorem vL_len (k : Int) (xs : List Int) (ext : Bool) (j : Nat) : (vL k xs ext j).length = j + 1 := by
  induction j with
  | zero => rfl
  | succ j ih => simp [vL, ih]
theorem vL_get (k : Int) (xs : List Int) (ext : Bool) (j i : Nat) (h : i < j) : (vL k xs ext j).getD (i + 1) 0 = le (seg xs (fatN k i) (vLn k ext i)) := by
  induction j with
  | zero => omega
  | succ j ih =>
    have hl := vL_len k xs ext j
    show (vL k xs ext j ++ [le (seg xs (fatN k j) (vLn k ext j))]).getD (i + 1) 0 = _
    by_cases h1 : i < j
    · rw [← ih h1]
      simp only [List.getD]
      rw [List.getElem?_append_left (by omega)]
    · obtain rfl : i = j := by omega
      simp only [List.getD]
      rw [List.getElem?_append_right (by omega), hl]
      simp
theorem le_seg1 {xs : List Int} {a : Nat} (h : a < xs.length) : le (seg xs a 1) = xs.getD a 0 := by
  unfold seg
  rw [drop_take_cons xs a 0 h]
  simp [le]
theorem rep_getD0 (n i : Nat) : (List.replicate n (0 : Int)).getD i 0 = 0 := by
  rw [List.getD_eq_getElem?_getD, List.getElem?_replicate]
  by_cases h : i < n
  · rw [if_pos h]; rfl
  · rw [if_neg h]; rfl
theorem seg18_zero {xs : List Int} (hl : xs.length = 64) (h : ∀ m, 18 ≤ m → m < 32 → xs.getD m 0 = 0) : seg xs 18 14 = List.replicate 14 0 := by
  unfold seg
  apply List.ext_getElem?
  intro i
  by_cases hi : i < 14
  · have h1 := h (18 + i) (by omega) (by omega)
    simp only [List.getElem?_take, if_pos hi, List.getElem?_drop, List.getElem?_replicate]
    simp only [List.getD] at h1
    rw [List.getElem?_eq_getElem (by omega)] at h1 ⊢
    simpa using h1
  · simp [List.getElem?_take, hi]
theorem seg18_ne {xs : List Int} (hl : xs.length = 64) {m : Nat} (h1 : 18 ≤ m) (h2 : m < 32) (h : xs.getD m 0 ≠ 0) : seg xs 18 14 ≠ List.replicate 14 0 := fun e => h (by
  have h3 : (seg xs 18 14).getD (m - 18) 0 = 0 := by rw [e]; exact rep_getD0 _ _
  unfold seg at h3
  simp only [List.getD, List.getElem?_take, if_pos (show m - 18 < 14 by omega), List.getElem?_drop] at h3
  rw [show 18 + (m - 18) = m from by omega] at h3
  exact h3)
end Go.Proofs.YtofcdffcaiajmaaDoor
