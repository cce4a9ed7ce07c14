/- Plain law: the squares' sum times how many they are lies above the sum's square by nought or by at least one less than they are many. -/
import Derived.Test.YtcohidjaehdbnaaGreatDoorGs
namespace Go.Proofs.YtcohidjaehdbnaaGreatDoor
open Go.RowKit
set_option linter.unusedVariables false

def iS : List Int → Int
  | [] => 0
  | y :: l => y + iS l
def iQ : List Int → Int
  | [] => 0
  | y :: l => y * y + iQ l
def iD (x : Int) : List Int → Int
  | [] => 0
  | y :: l => (y - x) * (y - x) + iD x l
def iV (l : List Int) : Int := l.length * iQ l - iS l * iS l
theorem iD_eq (x : Int) : ∀ l : List Int, iD x l = iQ l - 2 * x * iS l + l.length * (x * x)
  | [] => by simp [iD, iQ, iS]
  | y :: l => by
    have := iD_eq x l
    simp only [iD, iQ, iS, this, List.length_cons]
    push_cast
    have e1 : (y - x) * (y - x) = y * y - 2 * (x * y) + x * x := by
      rw [Int.sub_mul, Int.mul_sub, Int.mul_sub, Int.mul_comm y x]; omega
    have e2 : ((l.length : Int) + 1) * (x * x) = l.length * (x * x) + x * x := by rw [Int.add_mul, Int.one_mul]
    have e3 : 2 * x * (y + iS l) = 2 * (x * y) + 2 * x * iS l := by rw [Int.mul_add, Int.mul_assoc]
    rw [e1, e2, e3]; omega
theorem iV_step (x : Int) (l : List Int) : iV (x :: l) = iV l + iD x l := by
  rw [iD_eq]
  simp only [iV, iQ, iS, List.length_cons]
  push_cast
  have e1 : ((l.length : Int) + 1) * (x * x + iQ l) = l.length * (x * x) + l.length * iQ l + x * x + iQ l := by
    rw [Int.add_mul, Int.mul_add, Int.one_mul]; omega
  have e2 : (x + iS l) * (x + iS l) = x * x + 2 * x * iS l + iS l * iS l := by
    rw [Int.add_mul, Int.mul_add, Int.mul_add, Int.mul_comm (iS l) x, Int.mul_assoc 2]; omega
  rw [e1, e2]; omega
theorem sq_nn (z : Int) : 0 ≤ z * z := by
  rcases Int.le_total 0 z with h | h
  · exact Int.mul_nonneg h h
  · exact Int.mul_nonneg_of_nonpos_of_nonpos h h
theorem sq_one {z : Int} (h : z ≠ 0) : 1 ≤ z * z := by
  have h1 := sq_nn z
  have h2 : z * z ≠ 0 := Int.mul_ne_zero h h
  omega
theorem iD_nn (x : Int) : ∀ l : List Int, 0 ≤ iD x l
  | [] => Int.le_refl _
  | y :: l => by have h1 := sq_nn (y - x); have h2 := iD_nn x l; show 0 ≤ _ + iD x l; omega
theorem iD_all (x : Int) : ∀ l : List Int, (∀ y ∈ l, y ≠ x) → (l.length : Int) ≤ iD x l
  | [], _ => Int.le_refl _
  | y :: l, h => by
    have h1 := sq_one (z := y - x) (by have := h y (by simp); omega)
    have h2 := iD_all x l (fun z hz => h z (by simp [hz]))
    show ((l.length + 1 : Nat) : Int) ≤ _ + iD x l
    omega
theorem iD_one (x : Int) : ∀ l : List Int, (¬ ∀ y ∈ l, y = x) → 1 ≤ iD x l
  | [], h => absurd (fun y hy => (by cases hy)) h
  | y :: l, h => by
    show 1 ≤ (y - x) * (y - x) + iD x l
    by_cases hy : y = x
    · have h2 := iD_one x l (fun hl => h (fun z hz => by
        rcases List.mem_cons.1 hz with rfl | hz
        · exact hy
        · exact hl z hz))
      have h1 := sq_nn (y - x)
      omega
    · have h1 := sq_one (z := y - x) (by omega)
      have h2 := iD_nn x l
      omega
theorem iD_same (x : Int) : ∀ l : List Int, (∀ y ∈ l, y = x) → iD x l = 0
  | [], _ => rfl
  | y :: l, h => by
    have h1 := h y (by simp)
    subst h1
    have h2 := iD_same y l (fun z hz => h z (by simp [hz]))
    show (y - y) * (y - y) + iD y l = 0
    rw [h2]; simp
theorem iV_nn : ∀ l : List Int, 0 ≤ iV l
  | [] => by decide
  | x :: l => by rw [iV_step]; have h1 := iV_nn l; have h2 := iD_nn x l; omega
theorem iV_zero : ∀ (l : List Int) (c : Int), (∀ y ∈ l, y = c) → iV l = 0
  | [], _, _ => by decide
  | x :: l, c, h => by
    have hx := h x (by simp)
    subst hx
    rw [iV_step, iV_zero l x (fun y hy => h y (by simp [hy])), iD_same x l (fun y hy => h y (by simp [hy]))]; rfl
theorem iV_big : ∀ l : List Int, (∃ c, ∀ y ∈ l, y = c) ∨ (l.length : Int) ≤ iV l + 1
  | [] => .inl ⟨0, fun y hy => by cases hy⟩
  | x :: l => by
    by_cases hx : ∀ y ∈ l, y = x
    · exact .inl ⟨x, fun y hy => by
        rcases List.mem_cons.1 hy with h | h
        · exact h
        · exact hx y h⟩
    · right
      rw [iV_step, List.length_cons]
      push_cast
      have h0 := iV_nn l
      rcases iV_big l with ⟨c, hc⟩ | h
      · by_cases hcx : c = x
        · subst hcx; exact absurd hc hx
        · have h1 := iD_all x l (fun y hy => by rw [hc y hy]; exact hcx)
          omega
      · have h1 := iD_one x l hx
        omega
theorem iV_or (l : List Int) : iV l = 0 ∨ (l.length : Int) ≤ iV l + 1 := by
  rcases iV_big l with ⟨c, hc⟩ | h
  · exact .inl (iV_zero l c hc)
  · exact .inr h
def iOf (b : Nat) : Int := if fsgn b then -(kv (fmag b) : Int) else (kv (fmag b) : Int)
theorem iS_of : ∀ l : List Nat, (∀ b ∈ l, ffin b = true) → iS (l.map iOf) = (posN l : Int) - negN l
  | [], _ => rfl
  | b :: l, h => by
    have ih := iS_of l (fun c hc => h c (by simp [hc]))
    have hf := h b (by simp)
    show iOf b + iS (l.map iOf) = (((if ffin b && !fsgn b then kv (fmag b) else 0) + posN l : Nat) : Int) - ((if ffin b && fsgn b then kv (fmag b) else 0) + negN l : Nat)
    rw [ih, hf]
    unfold iOf
    cases fsgn b <;> simp <;> omega
theorem iQ_of : ∀ l : List Nat, iQ (l.map iOf) = (sqN l : Int)
  | [] => rfl
  | b :: l => by
    have ih := iQ_of l
    show iOf b * iOf b + iQ (l.map iOf) = ((kv (fmag b) * kv (fmag b) + sqN l : Nat) : Int)
    rw [ih]
    unfold iOf
    cases fsgn b <;> simp [Int.neg_mul_neg]
theorem spread_or {l : List Nat} (h : ∀ b ∈ l, ffin b = true) : l.length * sqN l - totN l * totN l = 0 ∨ l.length ≤ l.length * sqN l - totN l * totN l + 1 := by
  have h1 := iV_or (l.map iOf)
  have h2 := tot_sq l
  have h3 : iV (l.map iOf) = ((l.length * sqN l - totN l * totN l : Nat) : Int) := by
    unfold iV
    rw [iS_of l h, iQ_of, List.length_map]
    have e : ((posN l : Int) - negN l) * ((posN l : Int) - negN l) = ((totN l * totN l : Nat) : Int) := by
      rcases Nat.le_total (negN l) (posN l) with k | k
      · rw [totN_ge k]
        obtain ⟨z, hz⟩ : ∃ z, posN l = negN l + z := ⟨posN l - negN l, by omega⟩
        rw [hz, show negN l + z - negN l = z from by omega, show ((negN l + z : Nat) : Int) - negN l = z from by omega]
        push_cast; rfl
      · have ht : totN l = negN l - posN l := by unfold totN; omega
        rw [ht]
        obtain ⟨z, hz⟩ : ∃ z, negN l = posN l + z := ⟨negN l - posN l, by omega⟩
        rw [hz, show posN l + z - posN l = z from by omega, show (posN l : Int) - ((posN l + z : Nat) : Int) = -z from by omega]
        push_cast
        rw [Int.neg_mul_neg]
    rw [e]
    rw [Int.ofNat_sub h2]
    push_cast; rfl
  rw [h3, List.length_map] at h1
  omega
theorem len70s {V n : Nat} (hV0 : V ≠ 0) (hV : n ≤ V + 1) (hn0 : 0 < n) (hn : n ≤ 17592186044416) : 70 ≤ nlen (V * 2 ^ 140 / n / n) := by
  rw [Nat.div_div_eq_div_mul]
  rcases Nat.lt_or_ge (nlen (V * 2 ^ 140 / (n * n))) 70 with h | h
  · exfalso
    have h1 := nlen_lt (V * 2 ^ 140 / (n * n))
    have h2 : (2 : Nat) ^ nlen (V * 2 ^ 140 / (n * n)) ≤ 2 ^ 69 := Nat.pow_le_pow_right (by decide) (by omega)
    have h3 : V * 2 ^ 140 < n * n * (V * 2 ^ 140 / (n * n) + 1) := Nat.lt_mul_div_succ _ (Nat.mul_pos hn0 hn0)
    have h4 : n * n * (V * 2 ^ 140 / (n * n) + 1) ≤ n * n * 2 ^ 69 := Nat.mul_le_mul_left _ (by omega)
    have h5 : n * n ≤ n * 17592186044416 := Nat.mul_le_mul_left _ hn
    have h6 : n * n * 2 ^ 69 ≤ n * 17592186044416 * 2 ^ 69 := Nat.mul_le_mul_right _ h5
    have h7 : n ≤ 2 * V := by omega
    have h8 : V * 2 ^ 140 < n * 17592186044416 * 2 ^ 69 := Nat.lt_of_lt_of_le h3 (Nat.le_trans h4 h6)
    have h9 : n * 17592186044416 * 2 ^ 69 ≤ 2 * V * 17592186044416 * 2 ^ 69 := Nat.mul_le_mul_right _ (Nat.mul_le_mul_right _ h7)
    have h10 : 2 * V * 17592186044416 * 2 ^ 69 ≤ V * 2 ^ 140 := by
      rw [Nat.mul_comm 2 V, Nat.mul_assoc, Nat.mul_assoc]
      exact Nat.mul_le_mul_left _ (by decide)
    exact absurd (Nat.lt_of_lt_of_le h8 (Nat.le_trans h9 h10)) (Nat.lt_irrefl _)
  · exact h
theorem two_rests (a n : Nat) : (((a % n : Nat) != (0 : Int)) || ((a / n % n : Nat) != (0 : Int))) = true ↔ a % (n * n) ≠ 0 := by
  rw [Nat.mod_mul]
  simp only [Bool.or_eq_true, bne_iff_ne, ne_eq]
  have hm : a % n + n * (a / n % n) = 0 ↔ a % n = 0 ∧ (n = 0 ∨ a / n % n = 0) := by
    rw [Nat.add_eq_zero_iff, Nat.mul_eq_zero]
  rw [hm]
  rcases Nat.eq_zero_or_pos n with rfl | h
  · simp
  · omega
theorem nearK {V n r : Nat} (hn : 0 < n) (h : Near (V * 2 ^ 140) (n * n * 2 ^ (140 + K74)) r) : Near V (n * n * 2 ^ K74) r := by
  have hp : ∀ k : Nat, 0 < (2 : Nat) ^ k := fun k => Nat.pow_pos (by decide)
  refine h.scale (Nat.mul_pos (Nat.mul_pos hn hn) (hp _)) (Nat.mul_pos (Nat.mul_pos hn hn) (hp _)) ?_
  rw [Nat.pow_add]
  simp only [Nat.mul_assoc, Nat.mul_left_comm]
end Go.Proofs.YtcohidjaehdbnaaGreatDoor
