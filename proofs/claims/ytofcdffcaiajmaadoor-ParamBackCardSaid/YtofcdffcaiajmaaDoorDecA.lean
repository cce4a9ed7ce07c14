/- Walks: parameters out of any block (param.Decode, quernref02.Decode), whatever its kind, its length, the option. Conditions: as stated. -/
import Derived.Test.YtofcdffcaiajmaaDoorDec2
import Derived.Test.YtofcdffcaiajmaaDoorDec2x
import Derived.Test.YtofcdffcaiajmaaDoorDec1
import Derived.Test.YtofcdffcaiajmaaDoorDec1x
import Derived.Test.YtofcdffcaiajmaaDoorRDec1
import Derived.Test.YtofcdffcaiajmaaDoorRDec1x
import Derived.Test.YtofcdffcaiajmaaDoorRDec2
import Derived.Test.YtofcdffcaiajmaaDoorRDec2x
namespace Go.Proofs.YtofcdffcaiajmaaDoor
open Go.RowKit
set_option linter.unusedVariables false

theorem szerr_zero {k : Int} {n : Nat} (h : szerr k n = 0) : (k = 1 ∧ n = 64) ∨ (k = 2 ∧ n = 32) := by
  have hk := szerr_k h
  unfold szerr at h
  rw [if_pos hk] at h
  rcases hk with rfl | rfl
  · rw [show kmost 1 = 64 from rfl] at h
    split at h
    · cases h
    · split at h
      · cases h
      · exact .inl ⟨rfl, by omega⟩
  · rw [show kmost 2 = 32 from rfl] at h
    split at h
    · cases h
    · split at h
      · cases h
      · exact .inr ⟨rfl, by omega⟩
theorem c_Decode (k : Int) (A : Option Addr) (c : Nat) (xs : List Int) (ext : Bool) (w : World) (hn : xs.length ≤ 140737488355328) (hc : xs.length ≤ c) (hr : Reads w w.heap.size 1 A xs.length (u8s xs)) (hx : ∀ z ∈ xs, 0 ≤ z ∧ z < 256) :
    Calls Tryd.prog 8 #[.int .i64 k, .slice A xs.length c, .bool ext] w (GivesP w (decA k xs ext) (decE k xs ext)) := by
  by_cases hz : szerr k xs.length = 0
  · rcases szerr_zero hz with ⟨rfl, hl⟩ | ⟨rfl, hl⟩
    · rw [hl] at hc hr ⊢
      by_cases h18 : seg xs 18 14 = List.replicate 14 0
      · cases ext with
        | false => exact c_Decode_1 A c xs w hl hc hr hx h18
        | true => exact c_Decode_1x A c xs w hl hc hr hx h18
      · exact c_Decode_1f A c xs ext w hl hc hr h18
    · rw [hl] at hc hr ⊢
      cases ext with
      | false => exact c_Decode_2 A c xs w hl hc hr hx
      | true => exact c_Decode_2x A c xs w hl hc hr hx
  · exact c_Decode_size k A c xs ext w hn hz
theorem decA_len {k : Int} {xs : List Int} {ext : Bool} : (decA k xs ext).s.length ≤ xs.length ∧ (decA k xs ext).t.length ≤ xs.length := by
  unfold decA
  split
  · refine ⟨Nat.le_trans (trim_le _) ?_, Nat.le_trans (trim_le _) ?_⟩ <;> (show (seg _ _ _).length ≤ _; unfold seg; simp; omega)
  · simp [Pm.zero]
end Go.Proofs.YtofcdffcaiajmaaDoor
