/- Walks: sizes of a kind, the law ParamSizes. Conditions: none. -/
import Derived.Test.YtofcdffcaiajmaaDoorPa
import Derived.Test.YtofcdffcaiajmaaDoorFld
namespace Go.Proofs.YtofcdffcaiajmaaDoor
open Go.RowKit
set_option linter.unusedVariables false

/-- The error of a kind. -/
def kerr (k : Int) : Int := if k = 1 ∨ k = 2 then 0 else 1
theorem k_cases (k : Int) : (k = 1 ∧ kmost k = 64 ∧ kerr k = 0) ∨ (k = 2 ∧ kmost k = 32 ∧ kerr k = 0) ∨ ((k == 1) = false ∧ (k == 2) = false ∧ kmost k = 0 ∧ kerr k = 1) := by
  unfold kmost kerr
  by_cases h1 : k = 1
  · subst h1; exact .inl ⟨rfl, rfl, rfl⟩
  · by_cases h2 : k = 2
    · subst h2; exact .inr (.inl ⟨rfl, rfl, rfl⟩)
    · exact .inr (.inr ⟨by simpa using h1, by simpa using h2, by simp [h1, h2], by simp [h1, h2]⟩)
end Go.Proofs.YtofcdffcaiajmaaDoor
