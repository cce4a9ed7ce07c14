/- Words for memory: a slice whose digits stand for a number (lowest first, no nought on top), of a call's own or of what was there. Conditions: none. -/
import Derived.Test.YtcohidjaehdbnaaGreatDoorMem2
import Derived.Test.YtcohidjaehdbnaaGreatDoorNt
import Derived.Handy
namespace Go.Proofs.YtcohidjaehdbnaaGreatDoor
open Go.RowKit
set_option linter.unusedVariables false

/-- Digits as cells. -/
def digs (k : IntKind) (l : List Nat) : List Value := l.map fun (x : Nat) => Value.int k (x : Int)
theorem digs_len (k : IntKind) (l : List Nat) : (digs k l).length = l.length := by simp [digs]
theorem digs_app (k : IntKind) (a b : List Nat) : digs k (a ++ b) = digs k a ++ digs k b := by simp [digs]
theorem digs_one (k : IntKind) (x : Nat) : digs k [x] = [Value.int k (x : Int)] := rfl
theorem digs_nil (k : IntKind) : digs k [] = [] := rfl
theorem digs_take (k : IntKind) (l : List Nat) (n : Nat) : digs k (l.take n) = (digs k l).take n := by simp [digs]
theorem digs_set (k : IntKind) (l : List Nat) (i x : Nat) : digs k (l.set i x) = (digs k l).set i (.int k (x : Int)) := by simp [digs]
theorem digs_getD {k : IntKind} {l : List Nat} {i : Nat} (h : i < l.length) : (digs k l).getD i undef = .int k ((l.getD i 0 : Nat) : Int) := by
  simp [digs, List.getD, List.getElem?_eq_getElem h]
theorem digs_one' (k : IntKind) (l : List Nat) : ∀ u ∈ digs k l, u.oneCell' = true := by intro u hu; obtain ⟨z, _, rfl⟩ := List.mem_map.1 hu; rfl
theorem digs_zeros (k : IntKind) (n : Nat) : List.replicate n (Value.int k 0) = digs k (List.replicate n 0) := by simp [digs]
theorem rows_pre {w : World} {B n j : Nat} {A : Option Addr} {xs : List Value} (h : Reads w B 1 A n xs) (hj : j ≤ n) : Reads w B 1 A j (xs.take j) := by
  have hl : xs.length = n := by simpa using h.1
  refine ⟨by simp; omega, fun h0 => ?_⟩
  obtain ⟨ad, rfl, hb, hc⟩ := h.2 (by omega)
  refine ⟨ad, rfl, hb, fun i u hu => hc i u ?_⟩
  rw [List.getElem?_take] at hu
  split at hu
  · exact hu
  · cases hu
/-- A slice that stands for a number. -/
structure IsN (w : World) (Bk : Nat) (k : IntKind) (B : Nat) (A : Option Addr) (c : Nat) (l : List Nat) (N : Nat) : Prop where
  cap : l.length ≤ c
  lb : Lb B N l
  rd : Reads w Bk 1 A l.length (digs k l)
section
variable {w w' : World} {Bk Bk' : Nat} {k : IntKind} {B : Nat} {A : Option Addr} {c : Nat} {l : List Nat} {N : Nat}
theorem IsN.nil : IsN w Bk k B none 0 [] 0 := ⟨Nat.le_refl _, Lb.nil, Reads.none_⟩
theorem IsN.below (h : IsN w w.heap.size k B A c l N) (hb : Below w.heap.size w w') : IsN w' w'.heap.size k B A c l N := ⟨h.cap, h.lb, (h.rd.below hb).more hb.size⟩
theorem IsN.more (h : IsN w Bk k B A c l N) (hb : Bk ≤ Bk') : IsN w Bk' k B A c l N := ⟨h.cap, h.lb, h.rd.more hb⟩
theorem IsN.at_ (h : IsN w Bk k B A c l N) {i : Nat} (hi : i < l.length) : ∃ b off, A = some ⟨b, off, none⟩ ∧ b < Bk ∧ b < w.heap.size ∧ w.cell? ⟨b, off + i, none⟩ = some (.int k ((l.getD i 0 : Nat) : Int)) := by
  obtain ⟨b, off, e, h1, h2, h3⟩ := h.rd.form (by omega)
  exact ⟨b, off, e, h1, h2, by rw [h3 i hi, digs_getD hi]⟩
theorem IsN.dig (h : IsN w Bk k B A c l N) (hB : 0 < B) (i : Nat) : l.getD i 0 < B := by
  rw [List.getD]
  rcases Nat.lt_or_ge i l.length with hi | hi
  · rw [List.getElem?_eq_getElem hi]; exact h.lb.rng _ (List.getElem_mem hi)
  · rw [List.getElem?_eq_none hi]; exact hB
/-- Out of a row of the call's own, its noughts cut off. -/
theorem isN_trim {l : List Nat} {n : Nat} (hr : Reads w Bk 1 A n (digs k l)) (hn : n = l.length) (hc : n ≤ c) (hB : ∀ x ∈ l, x < B) : IsN w Bk k B A c (trimN l) (nval B l) :=
  ⟨by rw [trimN_len]; have := kpN_le l l.length; omega, trimN_lb hB, by
    subst hn
    rw [trimN_len]
    unfold trimN
    rw [digs_take]
    exact rows_pre hr (kpN_le l _)⟩
end
/-- New memory that stands for a number. -/
def NewN (k : IntKind) (B : Nat) (N : Nat) (w : World) (e : Ending) (w' : World) : Prop :=
  ∃ A c l, e = .returned (.slice A l.length c) ∧ IsN w' w'.heap.size k B A c l N ∧ Below w.heap.size w w'
/-- How great numbers here may be. -/
def nexp : Nat := 65536
def nbig : Nat := 2 ^ nexp
theorem len_big {B N : Nat} {l : List Nat} (h : Lb B N l) (hB : 2 ≤ B) (hN : N < nbig) : l.length ≤ 65536 := by
  by_cases hl : l = []
  · subst hl; exact Nat.zero_le _
  · have h1 := h.le hl
    have h2 : 2 ^ (l.length - 1) ≤ B ^ (l.length - 1) := Nat.pow_le_pow_left hB _
    have h3 : 2 ^ (l.length - 1) < 2 ^ nexp := Nat.lt_of_le_of_lt (Nat.le_trans h2 h1) hN
    have h4 := (Nat.pow_lt_pow_iff_right (by decide)).1 h3
    unfold nexp at h4
    omega
end Go.Proofs.YtcohidjaehdbnaaGreatDoor
