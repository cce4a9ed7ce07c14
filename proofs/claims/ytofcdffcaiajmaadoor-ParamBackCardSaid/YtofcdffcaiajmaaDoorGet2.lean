/- Walks: a field of a block found and read (param.find, Get; quernref02.Get). Conditions: as stated. -/
import Derived.Test.YtofcdffcaiajmaaDoorGet
namespace Go.Proofs.YtofcdffcaiajmaaDoor
open Go.RowKit
set_option linter.unusedVariables false

theorem szerr_k {k : Int} {n : Nat} (hz : szerr k n = 0) : k = 1 ∨ k = 2 := by
  unfold szerr at hz
  by_cases h : k = 1 ∨ k = 2
  · exact h
  · rw [if_neg h] at hz; cases hz
/-- What Get answers: the error; the number. -/
def gerr (k f : Int) (n : Nat) : Int := if szerr k n ≠ 0 then szerr k n else if 1 ≤ f ∧ f ≤ 9 then 0 else 1
def gval (k f : Int) (n : Nat) (xs : List Int) : Int := if szerr k n = 0 ∧ 1 ≤ f ∧ f ≤ 9 then le ((xs.drop (fatN k (f - 1).toNat)).take (fszN k (f - 1).toNat)) else 0
end Go.Proofs.YtofcdffcaiajmaaDoor
