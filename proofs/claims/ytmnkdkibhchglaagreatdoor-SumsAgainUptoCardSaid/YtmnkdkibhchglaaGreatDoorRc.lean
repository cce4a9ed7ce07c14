/- Walk: all escapes laid by the table ((*strings.byteStringReplacer).Replace). Conditions: the table stands in memory; lengths within the reach. -/
import Derived.Test.YtmnkdkibhchglaaGreatDoorRb
import Derived.Test.YtmnkdkibhchglaaGreatDoorEd
import Derived.Laws.CopyOwn
import Derived.Lib.Bytealg
import Derived.Deep.RegionLaw
namespace Go.Proofs.YtmnkdkibhchglaaGreatDoor
open Go.RowKit
set_option linter.unusedVariables false
attribute [local go_sem ↓] Go.wp_at_zero Go.wp_at_succ

/-- How many bytes have an escape. -/
def spc (l : List UInt8) : Nat := l.count 13 + (l.count 10 + l.count 92)
theorem esc1_cases (c : UInt8) : (spc [c] = 0 ∧ esc1 c = [c] ∧ look rep3 c.toNat = none) ∨ (spc [c] = 1 ∧ (esc1 c).length = 2 ∧ look rep3 c.toNat = some (esc1 c)) := by
  by_cases h1 : c = 13
  · subst h1; exact .inr ⟨by decide, by decide, by decide⟩
  by_cases h2 : c = 10
  · subst h2; exact .inr ⟨by decide, by decide, by decide⟩
  by_cases h3 : c = 92
  · subst h3; exact .inr ⟨by decide, by decide, by decide⟩
  refine .inl ⟨by simp [spc, h1, h2, h3], by simp [esc1, h1, h2, h3], ?_⟩
  simp [look, rep3]
  exact ⟨fun h => h1 (UInt8.toNat_inj.1 (show c.toNat = (13 : UInt8).toNat from h.symm)), fun h => h2 (UInt8.toNat_inj.1 (show c.toNat = (10 : UInt8).toNat from h.symm)), fun h => h3 (UInt8.toNat_inj.1 (show c.toNat = (92 : UInt8).toNat from h.symm))⟩
theorem spc_app (a b : List UInt8) : spc (a ++ b) = spc a + spc b := by simp only [spc, List.count_append]; omega
theorem esc_app (a b : List UInt8) : esc (a ++ b) = esc a ++ esc b := by simp [esc]
theorem esc_one (c : UInt8) : esc [c] = esc1 c := by simp [esc]
theorem esc_count (l : List UInt8) : (esc l).length = l.length + spc l := by
  induction l with
  | nil => rfl
  | cons c l ih =>
    rw [show c :: l = [c] ++ l from rfl, esc_app, spc_app, List.length_append, List.length_append, ih, esc_one]
    rcases esc1_cases c with ⟨h1, h2, _⟩ | ⟨h1, h2, _⟩
    · rw [h1, h2]; simp; omega
    · rw [h1, h2]; simp; omega
theorem esc_id (l : List UInt8) (h : spc l = 0) : esc l = l := by
  induction l with
  | nil => rfl
  | cons c l ih =>
    rw [show c :: l = [c] ++ l from rfl, spc_app] at h
    rw [show c :: l = [c] ++ l from rfl, esc_app, ih (by omega), esc_one]
    rcases esc1_cases c with ⟨h1, h2, _⟩ | ⟨h1, h2, _⟩
    · rw [h2]
    · omega
theorem esc_pre_le (s : ByteArray) (i : Nat) : (esc (pre s i)).length ≤ (esc s.data.toList).length := by
  have : esc s.data.toList = esc (pre s i) ++ esc (s.data.toList.drop i) := by rw [← esc_app, List.take_append_drop]
  rw [this, List.length_append]; omega
theorem RepSt.step {W w w' : World} {g : Nat} {ps : List (UInt8 × List UInt8)} (h : RepSt W w g ps) (hb : Below w.heap.size w w') : RepSt W w' g ps := by
  obtain ⟨C, A, c, h1, h2, h3, h4, h5, h6⟩ := h
  exact ⟨C, A, c, h1.below hb h1.lt, h2, h3, own_below h4 hb, fun i hi => by obtain ⟨v, k1, k2⟩ := h5 i hi; exact ⟨v, k1, k2.step (fun b l h => h.below hb)⟩, below_step h6 hb⟩
theorem RepSt.lt {W w : World} {g : Nat} {ps : List (UInt8 × List UInt8)} (h : RepSt W w g ps) : g < w.heap.size := by
  obtain ⟨C, A, c, h1, _⟩ := h; exact h1.lt
theorem RepSt.at_ {W w : World} {g : Nat} (h : RepSt W w g rep3) (c : UInt8) :
    (spc [c] = 0 ∧ esc1 c = [c] ∧ w.cell? ⟨g, c.toNat, none⟩ = some (.slice none 0 0)) ∨
    (spc [c] = 1 ∧ (esc1 c).length = 2 ∧ ∃ b k, w.cell? ⟨g, c.toNat, none⟩ = some (.slice (some ⟨b, 0, none⟩) 2 k) ∧ BBlk w b (esc1 c)) := by
  obtain ⟨C, A, k, h1, h2, h3, h4, h5, h6⟩ := h
  obtain ⟨v, k1, k2⟩ := h5 c.toNat c.toNat_lt
  rcases esc1_cases c with ⟨e1, e2, e3⟩ | ⟨e1, e2, e3⟩
  · rw [e3] at k2
    exact .inl ⟨e1, e2, by rw [h1.cell, k1]; exact congrArg some k2⟩
  · rw [e3] at k2
    obtain ⟨b, c', rfl, hb⟩ := k2
    exact .inr ⟨e1, e2, b, c', by rw [h1.cell, k1, e2], hb⟩
theorem RepSt.row {W w : World} {g : Nat} (h : RepSt W w g rep3) : ∃ q c, w.cell? ⟨g, 256, none⟩ = some (.slice (some ⟨q, 0, none⟩) 3 c) ∧ w.cell? ⟨q, 0, none⟩ = some (.string ⟨#[13]⟩) ∧ w.cell? ⟨q, 1, none⟩ = some (.string ⟨#[10]⟩) ∧ w.cell? ⟨q, 2, none⟩ = some (.string ⟨#[92]⟩) := by
  obtain ⟨C, A, k, h1, h2, h3, h4, h5, h6⟩ := h
  obtain ⟨q, cap, hv, _, hlt⟩ := h4.form (by decide)
  obtain ⟨rfl, _, rfl⟩ : A = some ⟨q, 0, none⟩ ∧ True ∧ k = cap := by injection hv with a b c; exact ⟨a, trivial, c⟩
  refine ⟨q, k, by rw [h1.cell, h3]; rfl, ?_, ?_, ?_⟩
  · exact h4.cells rfl 0 (bstr [13]) rfl
  · exact h4.cells rfl 1 (bstr [10]) rfl
  · exact h4.cells rfl 2 (bstr [92]) rfl
theorem fill_set (m : List UInt8) (n : Nat) (c : UInt8) (x : Value) (hx : x = .int .u8 (c.toNat : Int)) : (bys m ++ List.replicate (n + 1) (Value.int .u8 0)).toArray.setIfInBounds m.length x = (bys (m ++ [c]) ++ List.replicate n (Value.int .u8 0)).toArray := by
  subst hx
  apply Array.ext'
  rw [Array.toList_setIfInBounds]
  simp [bys, List.replicate_succ]
theorem fill_splice (m r : List UInt8) (n : Nat) (h : r.length ≤ n) : splice (bys m ++ List.replicate n (.int .u8 0)) m.length (bys r) = bys (m ++ r) ++ List.replicate (n - r.length) (.int .u8 0) := by
  unfold splice
  have h1 : (bys m ++ List.replicate n (Value.int .u8 0)).take m.length = bys m := by
    rw [List.take_append_of_le_length (by simp)]; exact List.take_of_length_le (by simp)
  have h2 : (bys m ++ List.replicate n (Value.int .u8 0)).drop (m.length + (bys r).length) = List.replicate (n - r.length) (Value.int .u8 0) := by
    rw [List.drop_append, List.drop_eq_nil_of_le (by simp), List.nil_append]
    simp
  rw [h1, h2]
  simp [bys]
set_option maxRecDepth 100000 in
theorem c_count1 (s : ByteArray) (c : UInt8) (w : World) : Calls Tryz.prog 196 #[.string s, .string ⟨#[c]⟩] w fun e w' => e = .returned (.int .i64 (s.data.toList.count c : Nat)) ∧ w = w' := by
  go_enter Tryz.func196, Tryz.ntmps196
  go_wp2
  rw [run_callFunc_extern Tryz.func198 (by kernel_rfl) (by kernel_rfl) (by kernel_rfl) (e := Extern.BytealgCount.count) (by kernel_rfl), Lib.run_countString]
  simp only [Result.andThen]
  rw [Oper.upon_value]
  go_wp2
  go_ret
  exact ⟨by simp [Lib.countByte]; rfl, rfl⟩
end Go.Proofs.YtmnkdkibhchglaaGreatDoor
