/- Walk: the law on lines read (quernlaw26.SumsReads). Conditions: lengths within the reach; the library's errors as laid. -/
import Derived.Test.YtmnkdkibhchglaaGreatDoorTr
import Derived.Test.YtmnkdkibhchglaaGreatDoorTs
import Derived.Test.YtmnkdkibhchglaaGreatDoorLaw
namespace Go.Proofs.YtmnkdkibhchglaaGreatDoor
open Go.RowKit
set_option linter.unusedVariables false
attribute [local go_sem ↓] Go.wp_at_zero Go.wp_at_succ

theorem wpList_load_rowG {P : Program} {ops : Array Oper} {rest : List Oper} {o : Oper} {a : Act} {w : World} {Q : Exit → Act → World → Prop} (hgd : Region.wanted o (yielded ops a.tmps) = true) (ty : TypeId) (x : Operand) (ho : o.op = .load ty x)
    (g : Nat) (hx : a.eval x = .pointer (some ⟨g, 0, none⟩)) (t : TypeId) (cs : Array Value) (fr : Nat × Nat) (d : TypeDesc) (hg : w.heap[g]? = some (.cells cs t fr))
    (hu : P.underlying ty = some d) (hd : (match d with | .struct _ | .array _ _ => true | _ => false) = true) (hi : (P.info? ty).map (·.size) = some cs.size)
    (h : wpList P ops Q rest (a.put o.dst (.agg cs)) w) : wpList P ops Q (o :: rest) a w :=
  wpList_step fun K hK => by
    rw [if_pos hgd]
    exact wp_load_row ty x ho g hx t cs fr d hg hu hd hi (hK _ _ h)
/-- A row keeps what stands elsewhere. -/
theorem own_keep {w w' : World} {B n : Nat} {v : Value} {xs : List Value} {row : Option Nat} (h : w.ownsRow B 5 1 v n xs) (hg : w.grownBy w' row) (hr : ∀ g, row = some g → g < B) : w'.ownsRow B 5 1 v n xs := by
  cases row with
  | none => exact h.kept hg (by
      cases hv : v.ownBlock with
      | none => exact .inl rfl
      | some k => exact .inr (by simp))
  | some g => exact own_far h hg (hr g rfl)
theorem own_lt {w : World} {B n : Nat} {v : Value} {xs : List Value} (h : w.ownsRow B 5 1 v n xs) : ∀ g, v.ownBlock = some g → B ≤ g ∧ g < w.heap.size := by
  intro g hg
  rcases h.2 with ⟨rfl, _⟩ | ⟨g', cap, cur, rfl, hb, hh, _⟩
  · simp [Value.ownBlock] at hg
  · have : g' = g := by simpa [Value.ownBlock] using hg
    subst this
    exact ⟨hb, (show Blk w g' 5 cur from hh).lt⟩
theorem uhp_td (s : ByteArray) (i n : Nat) : (uhp ((s.data.toList.drop i).take n)).length ≤ s.size := by
  unfold uhp
  rw [uhk_len, List.length_take, List.length_drop]
  have : s.data.toList.length = s.size := rfl
  omega
theorem bareS_len {s : ByteArray} {i : Nat} {p : Int} {mk : Bool} {e : Sm} (h : bareS s i p mk = .inr e) : e.dg.length ≤ s.size := by
  unfold bareS at h
  repeat' (split at h)
  all_goals cases h
  exact uhp_td _ _ _
theorem tailS_len {s : ByteArray} {i n : Nat} {a : Int} {mk : Bool} {e : Sm} (h : tailS s i n a mk = .inr e) : e.dg.length ≤ s.size := by
  unfold tailS at h
  repeat' (split at h)
  all_goals cases h
  exact uhp_td _ _ _
theorem tggS_len {s : ByteArray} {i : Nat} {a : Int} {mk : Bool} {e : Sm} (h : tggS s i a mk = .inr e) : e.dg.length ≤ s.size := by
  unfold tggS at h
  split at h
  · cases h
  · exact tailS_len h
theorem lineS_len {s : ByteArray} {p : Int} {e : Sm} (h : lineS s p = .inr e) : e.dg.length ≤ s.size := by
  unfold lineS at h
  by_cases hw : wayAt s (if hpB s 92 then 1 else 0) ≠ 0
  · rw [if_pos hw] at h
    exact tggS_len h
  · rw [if_neg hw] at h
    exact bareS_len h
theorem rdA_len (s : ByteArray) (p : Int) : (rdA s p).1.dg.length ≤ 1000000 := by
  unfold rdA
  split
  · exact Nat.zero_le _
  split
  · exact Nat.zero_le _
  split
  · exact Nat.zero_le _
  · rename_i h
    exact Nat.le_trans (lineS_len h) (by omega)
end Go.Proofs.YtmnkdkibhchglaaGreatDoor
