/- Walks: a field of a block put (param.Put; quernref02.Put), the law ParamFields. Conditions: as stated. -/
import Derived.Test.YtofcdffcaiajmaaDoorGet2
import Derived.Test.YtofcdffcaiajmaaDoorLaw
namespace Go.Proofs.YtofcdffcaiajmaaDoor
open Go.RowKit
set_option linter.unusedVariables false

/-- What Put answers: the error; the block. -/
def perr (k f : Int) (n : Nat) (V : Int) : Int := if gerr k f n ≠ 0 then gerr k f n else if fszN k (f - 1).toNat < 8 ∧ V / 2 ^ (8 * fszN k (f - 1).toNat) ≠ 0 then 1 else 0
def pput (k f : Int) (xs : List Int) (V : Int) : List Int := layL xs (fatN k (f - 1).toNat) V (fszN k (f - 1).toNat)
def pans (k f : Int) (n : Nat) (xs : List Int) (V : Int) : List Int := if perr k f n V = 0 then pput k f xs V else []
theorem pans_len (k f : Int) (n : Nat) (xs : List Int) (V : Int) : (pans k f n xs V).length ≤ xs.length := by
  unfold pans; split
  · unfold pput; rw [layL_length]; exact Nat.le_refl _
  · simp
/-- What both Puts hand back. -/
def PutGives (w : World) (k f : Int) (n : Nat) (xs : List Int) (V : Int) (e : Ending) (w' : World) : Prop :=
  ∃ v, e = .returned (.tuple #[v, .int .i64 (perr k f n V)]) ∧ OwnB w w' v (pans k f n xs V) ∧ Below w.heap.size w w'
theorem gerr_cases (k f : Int) (n : Nat) : (szerr k n ≠ 0 ∧ gerr k f n = szerr k n) ∨ (szerr k n = 0 ∧ ¬(1 ≤ f ∧ f ≤ 9) ∧ gerr k f n = 1) ∨ (szerr k n = 0 ∧ (1 ≤ f ∧ f ≤ 9) ∧ gerr k f n = 0) := by unfold gerr; grind
theorem put_bad {w w' : World} {k f : Int} {n : Nat} {xs : List Int} {V E : Int} (h : gerr k f n = E) (h0 : E ≠ 0) (hb : Below w.heap.size w w') : PutGives w k f n xs V (.returned (.tuple #[.slice none 0 0, .int .i64 E])) w' := by
  have : perr k f n V = E := by unfold perr; rw [h, if_pos h0]
  refine ⟨_, by rw [this], ?_, hb⟩
  rw [pans, this, if_neg h0]
  exact World.ownsRow_nil _ _ _ _
theorem put_big {w w' : World} {k : Int} {i n : Nat} {xs : List Int} {V : Int} (h : gerr k ((i : Int) + 1) n = 0) (h8 : fszN k i < 8) (hV : V / 2 ^ (8 * fszN k i) ≠ 0) (hb : Below w.heap.size w w') : PutGives w k ((i : Int) + 1) n xs V (.returned (.tuple #[.slice none 0 0, .int .i64 1])) w' := by
  have : perr k ((i : Int) + 1) n V = 1 := by unfold perr; rw [h, if_neg (by simp), show ((i : Int) + 1 - 1).toNat = i from by omega, if_pos ⟨h8, hV⟩]
  refine ⟨_, by rw [this], ?_, hb⟩
  rw [pans, this, if_neg (by decide)]
  exact World.ownsRow_nil _ _ _ _
theorem put_ok {w w' : World} {k : Int} {i n : Nat} {xs : List Int} {V : Int} {v : Value} (h : gerr k ((i : Int) + 1) n = 0) (hV : ¬(fszN k i < 8 ∧ V / 2 ^ (8 * fszN k i) ≠ 0)) (hl : xs.length = n) (ho : w'.ownsRow w.heap.size 5 1 v n (u8s (layL xs (fatN k i) V (fszN k i)))) (hb : Below w.heap.size w w') : PutGives w k ((i : Int) + 1) n xs V (.returned (.tuple #[v, .int .i64 0])) w' := by
  have : perr k ((i : Int) + 1) n V = 0 := by unfold perr; rw [h, if_neg (by simp), show ((i : Int) + 1 - 1).toNat = i from by omega, if_neg hV]
  refine ⟨_, by rw [this], ?_, hb⟩
  rw [pans, this, if_pos rfl]
  unfold pput OwnB
  rw [show ((i : Int) + 1 - 1).toNat = i from by omega, layL_length, hl]
  exact ho
end Go.Proofs.YtofcdffcaiajmaaDoor
