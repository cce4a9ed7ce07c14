/- Walks: normal parameters after a check (param.Normal; quernref02.Normal). Conditions: as stated. -/
import Derived.Test.YtofcdffcaiajmaaDoorNm2
namespace Go.Proofs.YtofcdffcaiajmaaDoor
open Go.RowKit
set_option linter.unusedVariables false

def nrm (k : Int) (p : Pm) : Pm := if chkP k p = 0 then p.norm else Pm.zero
theorem nrm_len (k : Int) (p : Pm) : (nrm k p).s.length ≤ p.s.length ∧ (nrm k p).t.length ≤ p.t.length := by
  unfold nrm; split
  · exact ⟨trim_le _, trim_le _⟩
  · simp [Pm.zero]
end Go.Proofs.YtofcdffcaiajmaaDoor
