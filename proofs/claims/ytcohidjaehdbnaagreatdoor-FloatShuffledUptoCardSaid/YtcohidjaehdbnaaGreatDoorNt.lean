/- Plain words: the digits and bits of a number's row, its length in bits, shifts and a division digit by digit (no program). Conditions: none. -/
import Derived.Test.YtcohidjaehdbnaaGreatDoorNb
namespace Go.Proofs.YtcohidjaehdbnaaGreatDoor
set_option linter.unusedVariables false

theorem nval_cons (B x : Nat) (l : List Nat) : nval B (x :: l) = x + B * nval B l := rfl
/-- The digit at a place. -/
theorem nval_digit {B : Nat} (hB : 0 < B) : ∀ {l : List Nat} (q : Nat), (∀ x ∈ l, x < B) → nval B l / B ^ q % B = l.getD q 0
  | [], q, _ => by simp [nval]
  | x :: l, 0, h => by
    have hx := h x List.mem_cons_self
    rw [nval_cons, Nat.pow_zero, Nat.div_one, Nat.add_mul_mod_self_left, Nat.mod_eq_of_lt hx]; rfl
  | x :: l, q + 1, h => by
    have hx := h x List.mem_cons_self
    have ih := nval_digit hB (l := l) q fun y hy => h y (List.mem_cons_of_mem _ hy)
    rw [nval_cons, Nat.pow_succ, Nat.mul_comm (B ^ q) B, ← Nat.div_div_eq_div_mul, Nat.add_mul_div_left _ _ hB, Nat.div_eq_of_lt hx, Nat.zero_add, ih]
    rfl
theorem Lb.digit {B N : Nat} {l : List Nat} (h : Lb B N l) (hB : 0 < B) (q : Nat) : N / B ^ q % B = l.getD q 0 := by rw [← h.val]; exact nval_digit hB q h.rng
/-- The bit at a place of a number whose digits have 64 bits. -/
theorem Lb.bit {N : Nat} {l : List Nat} (h : Lb 18446744073709551616 N l) (i : Nat) : N / 2 ^ i % 2 = l.getD (i / 64) 0 / 2 ^ (i % 64) % 2 := by
  rw [← h.digit (by decide) (i / 64)]
  have e1 : (18446744073709551616 : Nat) ^ (i / 64) = 2 ^ (64 * (i / 64)) := by rw [Nat.pow_mul]
  rw [e1]
  have e2 : 2 ^ i = 2 ^ (64 * (i / 64)) * 2 ^ (i % 64) := by rw [← Nat.pow_add]; congr 1; omega
  rw [e2, ← Nat.div_div_eq_div_mul]
  generalize N / 2 ^ (64 * (i / 64)) = M
  have e3 : (18446744073709551616 : Nat) = 2 ^ (i % 64) * (2 ^ (64 - i % 64 - 1) * 2) := by
    rw [← Nat.pow_succ, ← Nat.pow_add, show i % 64 + (64 - i % 64 - 1).succ = 64 from by omega]
  rw [e3, Nat.mod_mul_right_div_self, Nat.mod_mul_left_mod]
/-- Digits of 64 bits behind the end are nought. -/
theorem Lb.bits {N : Nat} {l : List Nat} {t : Nat} (h : Lb 18446744073709551616 N l) (hl : l ≠ []) (ht : l.getD (l.length - 1) 0 = t) : N ≠ 0 ∧ t ≠ 0 ∧ N.log2 = 64 * (l.length - 1) + t.log2 := by
  obtain ⟨m, x, rfl⟩ := last_split hl
  have hlen : (m ++ [x]).length - 1 = m.length := by simp
  rw [hlen] at ht ⊢
  have hx : x = t := by
    rw [← ht, List.getD, List.getElem?_append_right (Nat.le_refl _)]; simp
  subst hx
  have htop := h.top
  rw [List.getLast?_append] at htop
  have hx0 : x ≠ 0 := by rintro rfl; exact htop rfl
  have hv := h.val
  rw [nval_snoc] at hv
  have hlt : nval 18446744073709551616 m < 18446744073709551616 ^ m.length := nval_lt fun y hy => h.rng y (List.mem_append_left _ hy)
  have e1 : (18446744073709551616 : Nat) ^ m.length = 2 ^ (64 * m.length) := by rw [Nat.pow_mul]
  rw [e1] at hv hlt
  have hp : 0 < 2 ^ (64 * m.length) := Nat.pow_pos (by decide)
  have hge : 2 ^ (64 * m.length) * 1 ≤ 2 ^ (64 * m.length) * x := Nat.mul_le_mul_left _ (Nat.pos_of_ne_zero hx0)
  have hN : N ≠ 0 := by omega
  refine ⟨hN, hx0, ?_⟩
  rw [Nat.log2_eq_iff hN]
  have a1 := Nat.log2_self_le hx0
  have a2 : x < 2 ^ (x.log2 + 1) := Nat.lt_log2_self
  constructor
  · rw [Nat.pow_add]
    have := Nat.mul_le_mul_left (2 ^ (64 * m.length)) a1
    omega
  · rw [Nat.add_assoc, Nat.pow_add]
    have : 2 ^ (64 * m.length) * (x + 1) ≤ 2 ^ (64 * m.length) * 2 ^ (x.log2 + 1) := Nat.mul_le_mul_left _ a2
    rw [Nat.mul_add] at this
    omega
/-- A number's bits from a place on, read one by one from above. -/
theorem bits_step (N k j : Nat) : N / 2 ^ (k + (j + 1)) % 2 ^ (64 - (j + 1)) * 2 + N / 2 ^ (k + j) % 2 = N / 2 ^ (k + j) % (2 ^ (64 - (j + 1)) * 2) := by
  rw [← Nat.add_assoc, Nat.pow_succ, ← Nat.div_div_eq_div_mul]
  generalize N / 2 ^ (k + j) = M
  rw [Nat.mul_comm (2 ^ (64 - (j + 1))) 2, Nat.mod_mul (x := M) (a := 2) (b := 2 ^ (64 - (j + 1)))]
  omega
/-- Is something left below a place? One bit more. -/
theorem low_step (N i : Nat) : N % 2 ^ (i + 1) ≠ 0 ↔ (N % 2 ^ i ≠ 0 ∨ N / 2 ^ i % 2 = 1) := by
  rw [Nat.pow_succ, Nat.mod_mul]
  have hp : 0 < 2 ^ i := Nat.pow_pos (by decide)
  have h2 : N / 2 ^ i % 2 = 0 ∨ N / 2 ^ i % 2 = 1 := by omega
  rcases h2 with h | h
  · rw [h]; simp
  · rw [h]; omega
/-- A division's next digit from above: r is what was left, x the digit. -/
theorem div_next {B d r x Q : Nat} (a : List Nat) {i : Nat} (hd : 0 < d) (hx : a.getD i 0 = x) (hi : i < a.length) (h : nval B (a.drop (i + 1)) = Q * d + r) :
    nval B (a.drop i) = ((r * B + x) / d + B * Q) * d + (r * B + x) % d := by
  rw [List.drop_eq_getElem_cons hi, nval_cons, h]
  have e : a[i] = x := by rw [← hx, List.getD, List.getElem?_eq_getElem hi]; rfl
  have e2 := Nat.div_add_mod (r * B + x) d
  have e3 : ((r * B + x) / d + B * Q) * d = d * ((r * B + x) / d) + B * Q * d := by rw [Nat.add_mul, Nat.mul_comm d]
  have e4 : B * (Q * d + r) = B * Q * d + r * B := by rw [Nat.mul_add, Nat.mul_assoc, Nat.mul_comm B r]
  rw [e, e3, e4]
  omega
theorem nval_drop_set {B : Nat} {L : List Nat} {i x : Nat} (hi : i < L.length) : nval B ((L.set i x).drop i) = x + B * nval B (L.drop (i + 1)) := by
  rw [List.drop_eq_getElem_cons (by simpa using hi), nval_cons]
  congr 1
  · simp
  · congr 2
    rw [List.drop_set_of_lt (by omega)]
end Go.Proofs.YtcohidjaehdbnaaGreatDoor
