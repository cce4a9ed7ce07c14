/- Walks: bytes without the noughts at their end, bytes held against bytes (param.trimmed, quernref02.trimmed, quernref02.alike, quernlaw02.same). Conditions: as stated. -/
import Derived.Test.YtmnkdkibhchglaaGreatDoorMem
import Derived.Test.YtmnkdkibhchglaaGreatDoorRows
import Derived.WalkKit
import Derived.WalkSpells
import Derived.WalkLawsBesides
import Derived.Lib.Hide
import Derived.Handy
import Derived.BigQuiet
import Derived.Deep.QuietTactic
namespace Go.Proofs.YtmnkdkibhchglaaGreatDoor
open Go.RowKit

/-- Bytes as cells. -/
abbrev u8s (xs : List Int) : List Value := xs.map (Value.int .u8)
theorem u8s_one (xs : List Int) : ∀ u ∈ u8s xs, u.oneCell' = true := by intro u hu; obtain ⟨z, _, rfl⟩ := List.mem_map.1 hu; rfl
theorem u8_info : (Tryz.prog.info? 5).map (fun i => (i.zero, i.size, i.bytes)) = some (some (.int .u8 0), 1, 1) := by kernel_rfl
/-- How many are left without the noughts at the end. -/
def keep (xs : List Int) : Nat → Nat
  | 0 => 0
  | n + 1 => if xs.getD n 0 = 0 then keep xs n else n + 1
theorem keep_le (xs : List Int) : ∀ n, keep xs n ≤ n
  | 0 => Nat.le_refl _
  | n + 1 => by unfold keep; split; exact Nat.le_succ_of_le (keep_le xs n); exact Nat.le_refl _
/-- New bytes of the call's own. -/
def OwnBytes (w : World) (xs : List Int) (e : Ending) (w' : World) : Prop :=
  ∃ v, e = .returned v ∧ w'.ownsRow w.heap.size 5 1 v xs.length (u8s xs) ∧ Below w.heap.size w w'
theorem Reads.pre {w : World} {B n k : Nat} {A : Option Addr} {xs : List Int} (h : Reads w B 1 A n (u8s xs)) (hk : k ≤ n) : Reads w B 1 A k (u8s (xs.take k)) := by
  have hl : xs.length = n := by simpa using h.1
  refine ⟨by simp; omega, fun h0 => ?_⟩
  obtain ⟨ad, rfl, hb, hc⟩ := h.2 (by omega)
  refine ⟨ad, rfl, hb, fun j u hu => hc j u ?_⟩
  rw [show u8s (xs.take k) = (u8s xs).take k from List.map_take, List.getElem?_take] at hu
  split at hu
  · exact hu
  · cases hu
theorem own_take {w w1 : World} {xs : List Int} {k n : Nat} {v : Value} (hk : k ≤ n) (hl : xs.length = n) (hK : keep xs n = k) (ho : w1.ownsRow w.heap.size 5 1 v (0 + k) ([] ++ u8s (xs.take k))) (hb : Below w.heap.size w w1) : OwnBytes w (xs.take (keep xs n)) (.returned v) w1 := by
  rw [hK]
  refine ⟨v, rfl, ?_, hb⟩
  rw [show (xs.take k).length = k from by simp; omega]
  simpa using ho
theorem getD_u8s {xs : List Int} {k : Nat} (h : k < xs.length) : (u8s xs).getD k undef = .int .u8 (xs.getD k 0) := by
  simp [List.getD, List.getElem?_eq_getElem h]
theorem take_next {xs ys : List Int} {k : Nat} (h : k < xs.length) (h' : k < ys.length) (ht : xs.take k = ys.take k) (he : xs.getD k 0 = ys.getD k 0) : xs.take (k + 1) = ys.take (k + 1) := by
  have e1 : xs.getD k 0 = xs[k] := by simp [List.getD, List.getElem?_eq_getElem h]
  have e2 : ys.getD k 0 = ys[k] := by simp [List.getD, List.getElem?_eq_getElem h']
  rw [List.take_succ_eq_append_getElem h, List.take_succ_eq_append_getElem h', ht, ← e1, ← e2, he]
theorem ne_of_getD {xs ys : List Int} {k : Nat} (he : xs.getD k 0 ≠ ys.getD k 0) : xs ≠ ys := fun h => he (by rw [h])
end Go.Proofs.YtmnkdkibhchglaaGreatDoor
