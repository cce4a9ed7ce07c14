/- Walks: a block's bytes out of parameters (quernref02.Encode). Conditions: as stated. -/
import Derived.Test.YtofcdffcaiajmaaDoorAlv
import Derived.Test.YtofcdffcaiajmaaDoorPs
namespace Go.Proofs.YtofcdffcaiajmaaDoor
open Go.RowKit
set_option linter.unusedVariables false

/-- Bytes laid one by one. -/
def setL (xs : List Int) (a : Nat) (ys : List Int) : Nat → List Int
  | 0 => xs
  | j + 1 => (setL xs a ys j).set (a + j) (ys.getD j 0)
theorem setL_len (xs : List Int) (a : Nat) (ys : List Int) (j : Nat) : (setL xs a ys j).length = xs.length := by
  induction j with
  | zero => rfl
  | succ j ih => simp [setL, ih]
theorem setL_get (xs : List Int) (a : Nat) (ys : List Int) (j i : Nat) (h : a + j ≤ xs.length) (hj : j ≤ ys.length) : (setL xs a ys j)[i]? = if a ≤ i ∧ i < a + j then ys[i - a]? else xs[i]? := by
  induction j with
  | zero => rw [if_neg (by omega)]; rfl
  | succ j ih =>
    unfold setL
    rw [List.getElem?_set, setL_len, ih (by omega) (by omega)]
    by_cases h1 : a + j = i
    · subst h1
      rw [if_pos rfl, if_pos (by omega), if_pos (by omega), Nat.add_sub_cancel_left]
      simp [List.getD, List.getElem?_eq_getElem (show j < ys.length by omega)]
    · rw [if_neg h1]
      by_cases h2 : a ≤ i ∧ i < a + j
      · rw [if_pos h2, if_pos (by omega)]
      · rw [if_neg h2, if_neg (by omega)]
theorem setL_blit (xs : List Int) (a : Nat) (ys : List Int) (h : a + ys.length ≤ xs.length) : setL xs a ys ys.length = blit xs a ys := by
  apply List.ext_getElem?
  intro i
  rw [setL_get xs a ys _ i h (Nat.le_refl _)]
  unfold blit
  simp only [List.append_assoc, List.getElem?_append, List.length_take, List.getElem?_take, List.getElem?_drop]
  grind
theorem kmost_ksz {k : Int} (hk : k = 1 ∨ k = 2) : kmost k = (ksz k : Nat) := by rcases hk with rfl | rfl <;> rfl
def vArr (p : Pm) : Array Value := #[.int .u64 p.d, .int .u64 p.key, .int .u64 p.fo, .int .u64 p.de, .int .u64 p.leaf, .int .u64 p.off, .int .u64 p.xof, .int .u64 p.nd, .int .u64 p.inn]
theorem vArr_get (p : Pm) (j : Nat) (h : j < 9) : (vArr p)[j]? = some (.int .u64 (fv p j)) := by
  have hc : j = 0 ∨ j = 1 ∨ j = 2 ∨ j = 3 ∨ j = 4 ∨ j = 5 ∨ j = 6 ∨ j = 7 ∨ j = 8 := by omega
  rcases hc with rfl | rfl | rfl | rfl | rfl | rfl | rfl | rfl | rfl <;> rfl
end Go.Proofs.YtofcdffcaiajmaaDoor
