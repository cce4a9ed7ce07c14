/- Walk of a line's reader: how many bytes the digest has (reader.bits). Conditions: lengths within the reach; the library's two errors as laid. -/
import Derived.Test.YtmnkdkibhchglaaGreatDoorTi
import Derived.Test.YtmnkdkibhchglaaGreatDoorLa
import Derived.Lib.UnsafeStr
namespace Go.Proofs.YtmnkdkibhchglaaGreatDoor
open Go.RowKit
set_option linter.unusedVariables false
attribute [local go_sem ↓] Go.wp_at_zero Go.wp_at_succ

/-- A global that holds an error, or none. -/
def ErrOK (w : World) (g : Nat) : Prop := ∃ ev, w.cell? ⟨g, 0, none⟩ = some ev ∧ (ev = .nilIface ∨ ∃ te pe, ev = .iface te pe)
theorem ErrOK.lt {w : World} {g : Nat} (h : ErrOK w g) : g < w.heap.size := by
  obtain ⟨ev, h, _⟩ := h
  exact Lib.lt_of_cell h
theorem ErrOK.grown {w w' : World} {g : Nat} {row : Option Nat} (h : ErrOK w g) (hg : w.grownBy w' row) (hr : some g ≠ row) : ErrOK w' g := by
  obtain ⟨ev, h, h2⟩ := h
  exact ⟨ev, hg.cell h hr, h2⟩
theorem ErrOK.below {w w' : World} {g : Nat} (h : ErrOK w g) (hb : Below w.heap.size w w') : ErrOK w' g := by
  have hlt := h.lt
  obtain ⟨ev, h, h2⟩ := h
  exact ⟨ev, (hb.cell (p := ⟨g, 0, none⟩) hlt).trans h, h2⟩
/-- Both errors of the library's numbers. -/
def Errs (w : World) : Prop := ErrOK w 3 ∧ ErrOK w 4 ∧ 6 < w.heap.size
theorem Errs.grown {w w' : World} {row : Option Nat} (h : Errs w) (hg : w.grownBy w' row) (hr : ∀ b, row = some b → 6 < b) : Errs w' :=
  ⟨h.1.grown hg (fun e => by have := hr _ e.symm; omega), h.2.1.grown hg (fun e => by have := hr _ e.symm; omega), Nat.lt_of_lt_of_le h.2.2 hg.size⟩
theorem Errs.below {w w' : World} (h : Errs w) (hb : Below w.heap.size w w') : Errs w' := ⟨h.1.below hb, h.2.1.below hb, Nat.lt_of_lt_of_le h.2.2 hb.size⟩
theorem below_bytes (w : World) (t : TypeId) (s : ByteArray) : Below w.heap.size w (Lib.bytesWorld w t s) := Lib.below_freeze ((Below.refl _ _).drew.alloc (Nat.le_refl _) _) (Nat.le_refl _) 1
/-- What Atoi answers at digits of base ten. -/
theorem c_Atoi_bad (t : ByteArray) (ht : t.size ≤ 1000000) (hd : ∀ c ∈ t.data.toList, dP c = true) (hb : t.data.toList = [] ∨ 9223372036854775808 ≤ dval t.data.toList) (w : World) (he : Errs w) :
    Calls Tryz.prog 81 #[.string t] w fun e w' => ∃ v te p, e = .returned (.tuple #[.int .i64 v, .iface te p]) ∧ Below w.heap.size w w' := by
  obtain ⟨⟨e1, h1, k1⟩, ⟨e2, h2, k2⟩, _⟩ := he
  have ha := atoi_digits t.data.toList hd
  by_cases h0 : t.data.toList = []
  · rw [if_pos h0] at ha
    refine (Any.strconv_Atoi_syntax lays172 t (by omega) ha e1 w h1 k1).mono ?_
    rintro e w' ⟨N, rfl, _, _, hb⟩
    exact ⟨_, _, _, rfl, hb⟩
  · rw [if_neg h0, if_pos (by rcases hb with h | h; exact absurd h h0; exact h)] at ha
    refine (Any.strconv_Atoi_range lays172 t (by omega) ha e2 w h2 k2).mono ?_
    rintro e w' ⟨N, rfl, _, _, hb⟩
    exact ⟨_, _, _, rfl, hb⟩
theorem c_Atoi_ok (t : ByteArray) (ht : t.size ≤ 1000000) (hd : ∀ c ∈ t.data.toList, dP c = true) (h0 : t.data.toList ≠ []) (hb : dval t.data.toList < 9223372036854775808) (w : World) :
    Calls Tryz.prog 81 #[.string t] w fun e w' => e = .returned (.tuple #[.int .i64 (dval t.data.toList : Nat), .nilIface]) ∧ Below w.heap.size w w' := by
  have ha := atoi_digits t.data.toList hd
  rw [if_neg h0, if_neg (by omega)] at ha
  refine (Any.strconv_Atoi_ok lays172 t (by omega) _ ha w).mono ?_
  rintro e w' ⟨rfl, hw⟩
  refine ⟨rfl, ?_⟩
  rcases hw with rfl | ⟨t, rfl⟩
  · exact Below.refl _ _
  · exact below_bytes _ _ _
end Go.Proofs.YtmnkdkibhchglaaGreatDoor
