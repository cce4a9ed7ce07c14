/- Walk: the document's spread (quernref22.Spread). Conditions: at most 2^44 floats. -/
import Derived.Test.YtcohidjaehdbnaaGreatDoorGl
namespace Go.Proofs.YtcohidjaehdbnaaGreatDoor
open Go.RowKit
set_option linter.unusedVariables false
attribute [local go_sem ↓] Go.wp_at_zero Go.wp_at_succ

theorem all_fin {xs : List Nat} (h1 : hasNan xs = false) (h2 : hasPlus xs = false) (h3 : hasLess xs = false) : ∀ b ∈ xs, ffin b = true := by
  intro b hb
  have a1 : fnan b = false := by
    have := List.any_eq_false.1 h1 b hb
    simpa using this
  have a2 : (finf b && !fsgn b) = false := by
    have := List.any_eq_false.1 h2 b hb
    simpa using this
  have a3 : (finf b && fsgn b) = false := by
    have := List.any_eq_false.1 h3 b hb
    simpa using this
  rcases fcases b with ⟨h, _, _⟩ | ⟨_, _, h⟩ | ⟨_, h, _⟩
  · rw [a1] at h; cases h
  · rw [h] at a2 a3
    revert a2 a3
    cases fsgn b <;> simp
  · exact h
theorem sqN_le {P : Nat} (hP : ∀ b, ffin b = true → kv (fmag b) ≤ P) : ∀ l : List Nat, (∀ b ∈ l, ffin b = true) → sqN l ≤ l.length * (P * P)
  | [], _ => Nat.zero_le _
  | b :: l, h => by
    have ih := sqN_le hP l fun x hx => h x (List.mem_cons_of_mem _ hx)
    have h1 := hP b (h b List.mem_cons_self)
    have h2 := Nat.mul_le_mul h1 h1
    show kv (fmag b) * kv (fmag b) + sqN l ≤ (l.length + 1) * (P * P)
    rw [Nat.add_mul]; omega
theorem sq_sml {xs : List Nat} (hx : xs.length ≤ 17592186044416) (hf : ∀ b ∈ xs, ffin b = true) : sqN xs < nsml ∧ xs.length * sqN xs < nsml ∧ ∀ i, sqN (xs.take i) < nsml := by
  obtain ⟨P, h1, h2, _, h4⟩ := big_P
  have key : ∀ l : List Nat, l.length ≤ 17592186044416 → (∀ b ∈ l, ffin b = true) → sqN l < nsml ∧ l.length * sqN l < nsml := by
    intro l hl hf
    have a := sqN_le h1 l hf
    have b : l.length * (P * P) ≤ 17592186044416 * (P * P) := Nat.mul_le_mul_right _ hl
    have c : l.length * sqN l ≤ 17592186044416 * (17592186044416 * (P * P)) := Nat.mul_le_mul hl (by omega)
    generalize P * P = Q at *
    omega
  obtain ⟨k1, k2⟩ := key xs hx hf
  exact ⟨k1, k2, fun i => (key (xs.take i) (by rw [List.length_take]; omega) fun b hb => hf b (List.mem_of_mem_take hb)).1⟩
theorem IsN.drew {w : World} {k : IntKind} {B : Nat} {A : Option Addr} {c : Nat} {l : List Nat} {N : Nat} (h : IsN w w.heap.size k B A c l N) : IsN w.drew w.drew.heap.size k B A c l N := ⟨h.cap, h.lb, h.rd⟩
/-- What holds ahead of a round of the squares. -/
structure SqR (w wr : World) (xs : List Nat) (i : Nat) (A : Option Addr) (c : Nat) (l : List Nat) : Prop where
  num : IsN wr wr.heap.size .u32 4294967296 A c l (sqN (xs.take i))
  bel : Below w.heap.size w wr
def SpreadR (xs : List Nat) (w : World) (e : Ending) (w' : World) : Prop := ∃ b, e = .returned (.float .f64 b) ∧ IsSpread xs b ∧ Below w.heap.size w w'
end Go.Proofs.YtcohidjaehdbnaaGreatDoor
