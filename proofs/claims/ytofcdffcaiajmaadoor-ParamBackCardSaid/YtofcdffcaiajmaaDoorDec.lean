/- Words and walks: parameters out of a block (param.Decode). Conditions: as stated. -/
import Derived.Test.YtofcdffcaiajmaaDoorNm3
import Derived.Test.YtofcdffcaiajmaaDoorPut
import Derived.Test.YtofcdffcaiajmaaDoorEn2
import Derived.StillTailTactics
namespace Go.Proofs.YtofcdffcaiajmaaDoor
open Go.RowKit
set_option linter.unusedVariables false

def seg (xs : List Int) (a n : Nat) : List Int := (xs.drop a).take n
/-- What a block of the right length says, unchecked. -/
def decRaw (k : Int) (xs : List Int) (ext : Bool) : Pm :=
  { d := xs.getD 0 0, key := xs.getD 1 0, fo := xs.getD 2 0, de := xs.getD 3 0, leaf := le (seg xs 4 4), off := if ext then le (seg xs 8 4) else le (seg xs 8 (fszN k 5)),
    xof := if ext then le (seg xs (fatN k 6) (fszN k 6)) else 0, nd := xs.getD (fatN k 7) 0, inn := xs.getD (fatN k 8) 0, s := seg xs (2 * ksl k) (ksl k), t := seg xs (3 * ksl k) (ksl k) }
/-- The error. -/
def decE (k : Int) (xs : List Int) (ext : Bool) : Int :=
  if szerr k xs.length ≠ 0 then szerr k xs.length else if k = 1 ∧ seg xs 18 14 ≠ List.replicate 14 0 then 4 else if ext = true ∧ (decRaw k xs ext).xof = 0 then 24 else chkP k (decRaw k xs ext)
def decA (k : Int) (xs : List Int) (ext : Bool) : Pm := if decE k xs ext = 0 then (decRaw k xs ext).norm else Pm.zero
theorem seg_len {xs : List Int} {a n : Nat} (h : a + n ≤ xs.length) : (seg xs a n).length = n := by unfold seg; simp; omega
theorem reads_seg {w : World} {B b off n a m : Nat} {xs : List Int} (h : Reads w B 1 (some ⟨b, off, none⟩) n (u8s xs)) (hl : xs.length = n) (ha : a + m ≤ n) (h0 : 0 < m) : Reads w B 1 (some ⟨b, off + a, none⟩) m (u8s (seg xs a m)) := by
  refine ⟨by simp [u8s, seg]; omega, fun _ => ?_⟩
  obtain ⟨ad, e, hb, hc⟩ := h.2 (by omega)
  injection e with e
  subst e
  refine ⟨⟨b, off + a, none⟩, rfl, hb, fun j u hu => ?_⟩
  have hj : (u8s xs)[a + j]? = some u := by
    have hu' : (((u8s xs).drop a).take m)[j]? = some u := by rw [← hu]; simp [u8s, seg, List.map_take, List.map_drop]
    rw [List.getElem?_take] at hu'
    split at hu'
    · rw [← hu', List.getElem?_drop]
    · cases hu'
  have := hc (a + j) u hj
  have e2 : (⟨b, off + a, none⟩ : Addr) = (⟨b, off, none⟩ : Addr).add a := by simp [Addr.add]
  rw [e2, add_of_add]
  exact this
theorem gives_zero {w w' : World} {k : Int} {xs : List Int} {ext : Bool} {E : Int} (h : decE k xs ext = E) (h0 : E ≠ 0) (hb : Below w.heap.size w w') : GivesP w (decA k xs ext) (decE k xs ext) (.returned (.tuple #[pv 0 0 0 0 0 0 0 0 0 (.slice none 0 0) (.slice none 0 0), .int .i64 E])) w' := by
  have : decA k xs ext = Pm.zero := if_neg (by rw [h]; exact h0)
  rw [this, h]
  exact gives_nil (p := Pm.zero) rfl rfl hb
set_option maxRecDepth 100000 in
set_option maxHeartbeats 1000000 in
theorem c_Decode_size (k : Int) (A : Option Addr) (c : Nat) (xs : List Int) (ext : Bool) (w : World) (hn : xs.length ≤ 140737488355328) (hz : szerr k xs.length ≠ 0) :
    Calls Tryd.prog 8 #[.int .i64 k, .slice A xs.length c, .bool ext] w (GivesP w (decA k xs ext) (decE k xs ext)) := by
  have HG : Hid (∀ w', Below w.heap.size w w' → GivesP w (decA k xs ext) (decE k xs ext) (.returned (.tuple #[pv 0 0 0 0 0 0 0 0 0 (.slice none 0 0) (.slice none 0 0), .int .i64 (szerr k xs.length)])) w') := fun w' hb => gives_zero (by unfold decE; rw [if_pos hz]) hz hb
  have hR := c_right k A xs.length c
  have hne : (szerr k xs.length != 0) = true := by simpa using hz
  generalize szerr k xs.length = E at *
  have HR := Lib.hid hR
  clear hR hz
  go_enter Tryd.func8, Tryd.ntmps8
  go_wp2_with (go_at_call 18; refine (HR.out _ hn).mono ?_; rintro e w' ⟨rfl, rfl⟩)
  exact bodyPost_ret (results_cell_tmpB (p := 6) (u := 7) rfl _ (Blk.new w 26 pz) _ rfl Tryd.underlying26 rfl (by kernel_rfl)) rfl (HG.out _ ((Below.refl _ _).alloc (Nat.le_refl _) _))
end Go.Proofs.YtofcdffcaiajmaaDoor
