/- Plain words: exact sums of floats in units of the least one, by their bits; what the rounded sum, mean and spread are, each only one (no program). Conditions: none. -/
import Derived.Test.YtcohidjaehdbnaaGreatDoorNr
import Derived.Test.YtcohidjaehdbnaaGreatDoorPlain
namespace Go.Proofs.YtcohidjaehdbnaaGreatDoor
set_option linter.unusedVariables false

/-- The magnitude's bits. -/
def fmag (b : Nat) : Nat := b % 9223372036854775808
/-- Is a float finite? -/
def ffin (b : Nat) : Bool := decide (fmag b < 9218868437227405312)
/-- An infinity? -/
def finf (b : Nat) : Bool := decide (fmag b = 9218868437227405312)
/-- Is the sign bit set? -/
def fsgn (b : Nat) : Bool := !decide (b < 9223372036854775808)
theorem fcases (b : Nat) : (fnan b = true ∧ ffin b = false ∧ finf b = false) ∨ (fnan b = false ∧ ffin b = false ∧ finf b = true) ∨ (fnan b = false ∧ ffin b = true ∧ finf b = false) := by
  unfold fnan ffin finf fmag
  simp only [decide_eq_true_eq, decide_eq_false_iff_not]
  omega
/-- What stands above, and below nought, of a list. -/
def posN : List Nat → Nat
  | [] => 0
  | b :: l => (if ffin b && !fsgn b then kv (fmag b) else 0) + posN l
def negN : List Nat → Nat
  | [] => 0
  | b :: l => (if ffin b && fsgn b then kv (fmag b) else 0) + negN l
/-- The squares of all magnitudes. -/
def sqN : List Nat → Nat
  | [] => 0
  | b :: l => kv (fmag b) * kv (fmag b) + sqN l
/-- The magnitude of the sum. -/
def totN (l : List Nat) : Nat := (posN l - negN l) + (negN l - posN l)
theorem totN_ge {l : List Nat} (h : negN l ≤ posN l) : totN l = posN l - negN l := by unfold totN; omega
theorem totN_lt {l : List Nat} (h : posN l < negN l) : totN l = negN l - posN l := by unfold totN; omega
theorem posN_app (a b : List Nat) : posN (a ++ b) = posN a + posN b := by
  induction a with
  | nil => simp [posN]
  | cons x a ih => simp [posN, ih, Nat.add_assoc]
theorem negN_app (a b : List Nat) : negN (a ++ b) = negN a + negN b := by
  induction a with
  | nil => simp [negN]
  | cons x a ih => simp [negN, ih, Nat.add_assoc]
theorem sqN_app (a b : List Nat) : sqN (a ++ b) = sqN a + sqN b := by
  induction a with
  | nil => simp [sqN]
  | cons x a ih => simp [sqN, ih, Nat.add_assoc]
theorem posN_one (b : Nat) : posN [b] = if ffin b && !fsgn b then kv (fmag b) else 0 := by simp [posN]
theorem negN_one (b : Nat) : negN [b] = if ffin b && fsgn b then kv (fmag b) else 0 := by simp [negN]
theorem sqN_one (b : Nat) : sqN [b] = kv (fmag b) * kv (fmag b) := by simp [sqN]
/-- The square of the sum is at most the squares' sum times how many they are. -/
theorem cauchy_step {S Q n x : Nat} (h : S * S ≤ n * Q) (h0 : n = 0 → S = 0) : (S + x) * (S + x) ≤ (n + 1) * (Q + x * x) := by
  rcases Nat.eq_zero_or_pos n with rfl | hn
  · rw [h0 rfl]; simp
  · have key : 2 * (S * x) ≤ Q + n * (x * x) := by
      have a : n * (2 * (S * x)) ≤ n * (Q + n * (x * x)) := by
        have sq : 2 * (S * (n * x)) ≤ S * S + (n * x) * (n * x) := by
          rcases Nat.le_total S (n * x) with hle | hle
          · obtain ⟨d, hd⟩ : ∃ d, n * x = S + d := ⟨n * x - S, by omega⟩
            rw [hd]
            have e1 : 2 * (S * (S + d)) = 2 * (S * S) + 2 * (S * d) := by rw [Nat.mul_add S, Nat.mul_add]
            have e2 : (S + d) * (S + d) = S * S + 2 * (S * d) + d * d := by
              rw [Nat.add_mul, Nat.mul_add, Nat.mul_add, Nat.mul_comm d S]; omega
            rw [e1, e2]; omega
          · obtain ⟨d, hd⟩ : ∃ d, S = n * x + d := ⟨S - n * x, by omega⟩
            generalize n * x = y at *
            rw [hd]
            have e1 : 2 * ((y + d) * y) = 2 * (y * y) + 2 * (d * y) := by rw [Nat.add_mul y, Nat.mul_add]
            have e2 : (y + d) * (y + d) = y * y + 2 * (d * y) + d * d := by
              rw [Nat.add_mul, Nat.mul_add, Nat.mul_add, Nat.mul_comm d y]; omega
            rw [e1, e2]; omega
        have e1 : n * (2 * (S * x)) = 2 * (S * (n * x)) := by
          simp only [Nat.mul_left_comm]
        have e2 : n * (Q + n * (x * x)) = n * Q + (n * x) * (n * x) := by
          rw [Nat.mul_add]; congr 1; simp only [Nat.mul_left_comm, Nat.mul_assoc]
        rw [e1, e2]; omega
      exact Nat.le_of_mul_le_mul_left a hn
    have e1 : (S + x) * (S + x) = S * S + 2 * (S * x) + x * x := by
      rw [Nat.add_mul, Nat.mul_add, Nat.mul_add, Nat.mul_comm x S]; omega
    have e2 : (n + 1) * (Q + x * x) = n * Q + n * (x * x) + Q + x * x := by
      rw [Nat.add_mul, Nat.mul_add]; omega
    rw [e1, e2]; omega
theorem cauchy : ∀ l : List Nat, (posN l + negN l) * (posN l + negN l) ≤ l.length * sqN l
  | [] => by simp [posN, negN]
  | b :: l => by
    have ih := cauchy l
    have hst := cauchy_step (x := (if ffin b && !fsgn b then kv (fmag b) else 0) + (if ffin b && fsgn b then kv (fmag b) else 0)) ih (by
      intro h
      have : l = [] := List.eq_nil_of_length_eq_zero h
      subst this; rfl)
    have hx : (if ffin b && !fsgn b then kv (fmag b) else 0) + (if ffin b && fsgn b then kv (fmag b) else 0) ≤ kv (fmag b) := by
      cases ffin b <;> cases fsgn b <;> simp
    show ((if ffin b && !fsgn b then kv (fmag b) else 0) + posN l + ((if ffin b && fsgn b then kv (fmag b) else 0) + negN l)) * ((if ffin b && !fsgn b then kv (fmag b) else 0) + posN l + ((if ffin b && fsgn b then kv (fmag b) else 0) + negN l)) ≤ (l.length + 1) * (kv (fmag b) * kv (fmag b) + sqN l)
    generalize (if ffin b && !fsgn b then kv (fmag b) else 0) = p at *
    generalize (if ffin b && fsgn b then kv (fmag b) else 0) = q at *
    rw [show p + posN l + (q + negN l) = posN l + negN l + (p + q) from by omega]
    refine Nat.le_trans hst (Nat.mul_le_mul_left _ ?_)
    have := Nat.mul_le_mul hx hx
    omega
theorem tot_sq (l : List Nat) : totN l * totN l ≤ l.length * sqN l := by
  refine Nat.le_trans ?_ (cauchy l)
  have : totN l ≤ posN l + negN l := by unfold totN; omega
  exact Nat.mul_le_mul this this
/-- Which edges a list has. -/
def hasNan (l : List Nat) : Bool := l.any fnan
def hasPlus (l : List Nat) : Bool := l.any fun b => finf b && !fsgn b
def hasLess (l : List Nat) : Bool := l.any fun b => finf b && fsgn b
def allNought (l : List Nat) : Bool := !l.isEmpty && l.all fun b => b == 9223372036854775808
/-- A sign above a magnitude's bits. -/
def sgnd (r : Nat) (minus : Bool) : Nat := if minus then r + 9223372036854775808 else r
/-- The sum of a list by n, rounded: its bits. -/
structure IsOver (l : List Nat) (n b : Nat) : Prop where
  none_ : (hasNan l || hasPlus l && hasLess l) = true → b = 9221120237041090560
  inf_ : (hasNan l || hasPlus l && hasLess l) = false → (hasPlus l || hasLess l) = true → b = sgnd 9218868437227405312 (hasLess l)
  nought : (hasNan l || hasPlus l || hasLess l) = false → totN l = 0 → b = sgnd 0 (allNought l)
  some_ : (hasNan l || hasPlus l || hasLess l) = false → totN l ≠ 0 → ∃ r, Near (totN l) n r ∧ b = sgnd r (decide (posN l < negN l))
theorem IsOver.one {l : List Nat} {n b c : Nat} (hn : 0 < n) (h : IsOver l n b) (k : IsOver l n c) : b = c := by
  by_cases h1 : (hasNan l || hasPlus l && hasLess l) = true
  · rw [h.none_ h1, k.none_ h1]
  · have h1' : (hasNan l || hasPlus l && hasLess l) = false := by simpa using h1
    by_cases h2 : (hasPlus l || hasLess l) = true
    · rw [h.inf_ h1' h2, k.inf_ h1' h2]
    · have h3 : (hasNan l || hasPlus l || hasLess l) = false := by
        revert h1' h2
        cases hasNan l <;> cases hasPlus l <;> cases hasLess l <;> simp
      by_cases h4 : totN l = 0
      · rw [h.nought h3 h4, k.nought h3 h4]
      · obtain ⟨r, hr, rfl⟩ := h.some_ h3 h4
        obtain ⟨s, hs, rfl⟩ := k.some_ h3 h4
        rw [hr.one hn hs]
/-- The least float is 2 ^ -K74. -/
def K74 : Nat := 1074
/-- The spread of a list, rounded: its bits. -/
structure IsSpread (l : List Nat) (b : Nat) : Prop where
  none_ : (l.isEmpty || (hasNan l || hasPlus l || hasLess l)) = true → b = 9221120237041090560
  some_ : (l.isEmpty || (hasNan l || hasPlus l || hasLess l)) = false → Near (l.length * sqN l - totN l * totN l) (l.length * l.length * 2 ^ K74) b
theorem IsSpread.one {l : List Nat} {b c : Nat} (h : IsSpread l b) (k : IsSpread l c) : b = c := by
  by_cases h1 : (l.isEmpty || (hasNan l || hasPlus l || hasLess l)) = true
  · rw [h.none_ h1, k.none_ h1]
  · have h1' : (l.isEmpty || (hasNan l || hasPlus l || hasLess l)) = false := by simpa using h1
    have hl : 0 < l.length := by
      rcases Nat.eq_zero_or_pos l.length with h0 | h0
      · have : l = [] := List.eq_nil_of_length_eq_zero h0
        subst this; simp at h1
      · exact h0
    exact (h.some_ h1').one (Nat.mul_pos (Nat.mul_pos hl hl) (Nat.pow_pos (by decide))) (k.some_ h1')
/-- A product of a significand and a power, held against a quotient. -/
theorem held_lt (a num den x K : Nat) : (a * den * 2 ^ ((x : Int) - K).toNat < num * 2 ^ (-((x : Int) - K)).toNat ↔ a * 2 ^ x * den < num * 2 ^ K) ∧
    (a * den * 2 ^ ((x : Int) - K).toNat = num * 2 ^ (-((x : Int) - K)).toNat ↔ a * 2 ^ x * den = num * 2 ^ K) := by
  have m : ∀ p q z : Nat, 0 < z → ((p * z < q * z ↔ p < q) ∧ (p * z = q * z ↔ p = q)) := fun p q z hz =>
    ⟨Nat.mul_lt_mul_right hz, ⟨fun h => Nat.eq_of_mul_eq_mul_right hz h, fun h => by rw [h]⟩⟩
  rcases Nat.le_total K x with h | h
  · have e1 : ((x : Int) - K).toNat = x - K := by omega
    have e2 : (-((x : Int) - K)).toNat = 0 := by omega
    have e3 : a * 2 ^ x * den = a * den * 2 ^ (x - K) * 2 ^ K := by
      rw [Nat.mul_assoc (a * den), ← Nat.pow_add, show x - K + K = x from by omega]
      rw [Nat.mul_assoc, Nat.mul_comm (2 ^ x), ← Nat.mul_assoc]
    rw [e1, e2, e3, Nat.pow_zero, Nat.mul_one]
    obtain ⟨m1, m2⟩ := m (a * den * 2 ^ (x - K)) num (2 ^ K) (Nat.pow_pos (by decide))
    exact ⟨m1.symm, m2.symm⟩
  · have e1 : ((x : Int) - K).toNat = 0 := by omega
    have e2 : (-((x : Int) - K)).toNat = K - x := by omega
    have e3 : num * 2 ^ K = num * 2 ^ (K - x) * 2 ^ x := by
      rw [Nat.mul_assoc, ← Nat.pow_add, show K - x + x = K from by omega]
    have e4 : a * 2 ^ x * den = a * den * 2 ^ x := by rw [Nat.mul_assoc, Nat.mul_comm (2 ^ x), ← Nat.mul_assoc]
    rw [e1, e2, e3, e4, Nat.pow_zero, Nat.mul_one]
    obtain ⟨m1, m2⟩ := m (a * den) (num * 2 ^ (K - x)) (2 ^ x) (Nat.pow_pos (by decide))
    exact ⟨m1.symm, m2.symm⟩
/-- A magnitude's significand and exponent, as 'parts' and 'whole' give them. -/
def psig (m : Nat) : Nat := if m < 4503599627370496 then m else 4503599627370496 + m % 4503599627370496
theorem kv_psig (m : Nat) : kv m = psig m * 2 ^ kx m := by
  unfold kv psig kx
  split
  · rw [show m / 4503599627370496 - 1 = 0 from by omega]; simp
  · rfl
theorem kv_mid (m : Nat) : kv m + kv (m + 1) = (2 * psig m + 1) * 2 ^ kx m := by
  rw [kv_succ, kv_psig, Nat.add_mul, Nat.one_mul, Nat.mul_assoc]; omega
end Go.Proofs.YtcohidjaehdbnaaGreatDoor
