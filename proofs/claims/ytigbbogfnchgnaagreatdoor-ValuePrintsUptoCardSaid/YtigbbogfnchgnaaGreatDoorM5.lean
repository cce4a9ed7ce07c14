/- Plain words: numbers as rows of digits to a base, the lowest first; sums, differences, products, shifts step by step (no program). Conditions: none. Plain words: the values of the rungs of a float of 64 bits, the rung nearest to a quotient, and that it is the only one (no program). Conditions: none. Plain words: a whole number times a power of two that a float of 64 bits can say is written as its rung; whole numbers as floats; a float times 1 and times 2^-53 (no program). Conditions: none. Plain words: a number of two words divided by one word, half a word at a time, as bits.Div64 does it (no program). Conditions: none. Plain words: exact sums of floats in units of the least one, by their bits; what the rounded sum, mean and spread are, each only one (no program). Conditions: none. Plain words: the digits and bits of a number's row, its length in bits, shifts and a division digit by digit (no program). Conditions: none. Words for memory: a slice whose digits stand for a number (lowest first, no nought on top), of a call's own or of what was there. Conditions: none. Walks: noughts on top cut off, and two numbers held against one another (float.nat's trim and cmp, quernref22's trim and cmp). Conditions: as stated. Walks: sums of two numbers (float.nat's add, quernref22's add). Conditions: as stated. Walks: differences of two numbers (float.nat's sub, quernref22's sub). Conditions: as stated. Walks: products of two numbers (float.nat's mul, quernref22's mul). Conditions: as stated. Walks: the bits of a number, one by one and in words; its length in bits (float.nat's bits, shr). Conditions: as stated. Walks: numbers times a power of two, and out of one word (float.nat's shl, quernref22's up and from). Conditions: as stated. Walks: the document's numbers times a power of two, and out of one word (quernref22's up and from). Conditions: as stated. Walk: a number of two words by one (math/bits.Div64). Conditions: as stated. Walks: the laws FloatOrders and FloatBits of any two bit patterns. Conditions: both below 2^64. Walks: a finite magnitude taken apart (float.whole, quernref22.parts), trailing noughts, Split. Conditions: as stated. Walks: a number by one word; a float's magnitude held against a quotient; the nearest float (float.nat's div; quernref22's against, nearest). Conditions: as stated. Walks: the nearest float of a quotient, by halves (quernref22's nearest, signed). Conditions: as stated. -/
import Derived.WalkKit
import Ieee.Arith
import GoSem.Core.Float
import Derived.Test.YtigbbogfnchgnaaGreatDoorPlain
import Derived.Test.YtigbbogfnchgnaaGreatDoorMem2
import Derived.Handy
import Derived.Test.YtigbbogfnchgnaaGreatDoorRows
import Derived.WalkSpells
import Derived.WalkLawsBesides
import Derived.Lib.Hide
import Derived.BigQuiet
import Derived.Great.Walk
import Derived.IntWalk
import Derived.Deep.DrawnRows
import Derived.Deep.RegionHeld3
import Derived.Laws.Externs
import Derived.Deep.QuietTactic
import Derived.Test.YtigbbogfnchgnaaGreatDoorFw1
import Derived.Lib.TrailingZeros
namespace Go.Proofs.YtigbbogfnchgnaaGreatDoor
set_option linter.unusedVariables false

/-- The number that digits stand for, the lowest first. -/
def nval (B : Nat) : List Nat → Nat
  | [] => 0
  | x :: l => x + B * nval B l
theorem nval_app (B : Nat) : ∀ (a b : List Nat), nval B (a ++ b) = nval B a + B ^ a.length * nval B b
  | [], b => by simp [nval]
  | x :: a, b => by
    show x + B * nval B (a ++ b) = x + B * nval B a + B ^ (a.length + 1) * nval B b
    rw [nval_app B a b, Nat.mul_add, Nat.pow_succ, ← Nat.mul_assoc, Nat.mul_comm B (B ^ a.length)]
    omega
theorem nval_one (B x : Nat) : nval B [x] = x := by simp [nval]
theorem nval_snoc (B : Nat) (l : List Nat) (x : Nat) : nval B (l ++ [x]) = nval B l + B ^ l.length * x := by rw [nval_app, nval_one]
theorem nval_zeros (B n : Nat) : nval B (List.replicate n 0) = 0 := by
  induction n with
  | zero => rfl
  | succ n ih => rw [List.replicate_succ]; show 0 + B * nval B _ = 0; rw [ih]; simp
theorem nval_lt {B : Nat} : ∀ {l : List Nat}, (∀ x ∈ l, x < B) → nval B l < B ^ l.length
  | [], _ => by simp [nval]
  | x :: l, h => by
    have h1 := nval_lt (l := l) fun y hy => h y (List.mem_cons_of_mem _ hy)
    have h2 := h x List.mem_cons_self
    show x + B * nval B l < B ^ (l.length + 1)
    rw [Nat.pow_succ, Nat.mul_comm (B ^ l.length)]
    have h3 : B * (nval B l + 1) ≤ B * B ^ l.length := Nat.mul_le_mul_left B h1
    rw [Nat.mul_add] at h3
    omega
/-- One more digit of a row; behind its end stand noughts. -/
theorem nval_take (B : Nat) (l : List Nat) (i : Nat) : nval B (l.take (i + 1)) = nval B (l.take i) + B ^ i * l.getD i 0 := by
  rcases Nat.lt_or_ge i l.length with h | h
  · rw [List.take_succ_eq_append_getElem h, nval_snoc, List.length_take, Nat.min_eq_left (by omega), List.getD, List.getElem?_eq_getElem h]; rfl
  · rw [List.take_of_length_le h, List.take_of_length_le (by omega), List.getD, List.getElem?_eq_none h]; simp
theorem nval_set (B : Nat) : ∀ (l : List Nat) (i x : Nat), i < l.length → nval B (l.set i x) + B ^ i * l.getD i 0 = nval B l + B ^ i * x
  | [], i, x, h => by simp at h
  | y :: l, 0, x, h => by
    simp only [List.set_cons_zero, List.getD_cons_zero, Nat.pow_zero, Nat.one_mul, nval]
    omega
  | y :: l, i + 1, x, h => by
    have ih := nval_set B l i x (by simpa using h)
    simp only [List.set_cons_succ, List.getD_cons_succ, nval, Nat.pow_succ]
    have e1 : B ^ i * B * l.getD i 0 = B * (B ^ i * l.getD i 0) := by rw [Nat.mul_comm (B ^ i) B, Nat.mul_assoc]
    have e2 : B ^ i * B * x = B * (B ^ i * x) := by rw [Nat.mul_comm (B ^ i) B, Nat.mul_assoc]
    rw [e1, e2]
    have := congrArg (B * ·) ih
    simp only [Nat.mul_add] at this
    omega
/-- A number's row: digits in their range, no nought on top. -/
structure Lb (B N : Nat) (l : List Nat) : Prop where
  rng : ∀ x ∈ l, x < B
  top : l.getLast? ≠ some 0
  val : nval B l = N
theorem Lb.lt {B N : Nat} {l : List Nat} (h : Lb B N l) : N < B ^ l.length := by rw [← h.val]; exact nval_lt h.rng
theorem Lb.nil {B : Nat} : Lb B 0 [] := ⟨fun x h => (by cases h), by simp, rfl⟩
theorem last_split {l : List Nat} (h : l ≠ []) : ∃ m x, l = m ++ [x] := ⟨l.dropLast, l.getLast h, (List.dropLast_concat_getLast h).symm⟩
theorem Lb.le {B N : Nat} {l : List Nat} (h : Lb B N l) (hl : l ≠ []) : B ^ (l.length - 1) ≤ N := by
  obtain ⟨m, x, rfl⟩ := last_split hl
  have ht := h.top
  rw [List.getLast?_append] at ht
  have hx : 1 ≤ x := Nat.pos_of_ne_zero (by rintro rfl; exact ht rfl)
  rw [← h.val, nval_snoc, List.length_append]
  show B ^ (m.length + 1 - 1) ≤ _
  rw [Nat.add_sub_cancel]
  have := Nat.mul_le_mul_left (B ^ m.length) hx
  omega
theorem Lb.zero {B N : Nat} {l : List Nat} (h : Lb B N l) (hB : 0 < B) : l = [] ↔ N = 0 := by
  constructor
  · rintro rfl; exact h.val.symm
  · rintro rfl
    by_cases hl : l = []
    · exact hl
    · have := h.le hl
      have := Nat.pow_pos (n := l.length - 1) hB
      omega
theorem Lb.shorter {B N M : Nat} {l m : List Nat} (hB : 0 < B) (h : Lb B N l) (k : Lb B M m) (hl : l.length < m.length) : N < M := by
  have h1 := h.lt
  have h2 := k.le (by rintro rfl; simp at hl)
  have h3 : B ^ l.length ≤ B ^ (m.length - 1) := Nat.pow_le_pow_right hB (by omega)
  omega
/-- How many digits stand below a nought's row on top. -/
def kpN (l : List Nat) : Nat → Nat
  | 0 => 0
  | n + 1 => if l.getD n 0 = 0 then kpN l n else n + 1
theorem kpN_le (l : List Nat) : ∀ n, kpN l n ≤ n
  | 0 => Nat.le_refl _
  | n + 1 => by unfold kpN; split; exact Nat.le_succ_of_le (kpN_le l n); exact Nat.le_refl _
theorem kpN_stop {l : List Nat} {n : Nat} (h : l.getD n 0 ≠ 0) : kpN l (n + 1) = n + 1 := if_neg h
theorem kpN_go {l : List Nat} {n : Nat} (h : l.getD n 0 = 0) : kpN l (n + 1) = kpN l n := if_pos h
theorem kpN_val (B : Nat) (l : List Nat) : ∀ n, nval B (l.take (kpN l n)) = nval B (l.take n)
  | 0 => rfl
  | n + 1 => by
    unfold kpN
    split
    · rename_i h
      rw [kpN_val B l n, nval_take, h]; simp
    · rfl
theorem kpN_top (l : List Nat) : ∀ n, n ≤ l.length → (l.take (kpN l n)).getLast? ≠ some 0
  | 0, _ => by simp [kpN]
  | n + 1, hn => by
    unfold kpN
    split
    · exact kpN_top l n (by omega)
    · rename_i h
      rw [List.take_succ_eq_append_getElem (by omega), List.getLast?_append]
      have e : l.getD n 0 = l[n] := by rw [List.getD, List.getElem?_eq_getElem (by omega)]; rfl
      rw [e] at h
      simpa using h
/-- What is left when the noughts on top are cut off. -/
def trimN (l : List Nat) : List Nat := l.take (kpN l l.length)
theorem trimN_lb {B : Nat} {l : List Nat} (h : ∀ x ∈ l, x < B) : Lb B (nval B l) (trimN l) :=
  ⟨fun x hx => h x (List.mem_of_mem_take hx), kpN_top l _ (Nat.le_refl _), by unfold trimN; rw [kpN_val, List.take_of_length_le (Nat.le_refl _)]⟩
theorem trimN_len (l : List Nat) : (trimN l).length = kpN l l.length := by
  have := kpN_le l l.length
  unfold trimN; rw [List.length_take]; omega
/-- A sum's next digit. -/
theorem add_next {B i x y c s : Nat} {L a b : List Nat} (hL : L.length = i) (hx : a.getD i 0 = x) (hy : b.getD i 0 = y) (hs : s = x + y + c) (h : nval B L + c * B ^ i = nval B (a.take i) + nval B (b.take i)) :
    nval B (L ++ [s % B]) + (s / B) * B ^ (i + 1) = nval B (a.take (i + 1)) + nval B (b.take (i + 1)) := by
  rw [nval_snoc, nval_take, nval_take, hx, hy, hL, Nat.pow_succ]
  have e := Nat.div_add_mod s B
  have e2 : B ^ i * (s % B) + s / B * (B ^ i * B) = B ^ i * s := by
    conv => rhs; rw [← e, Nat.mul_add]
    rw [Nat.mul_comm (s / B), Nat.mul_assoc, Nat.add_comm]
  have e3 : B ^ i * s = B ^ i * x + B ^ i * y + c * B ^ i := by rw [hs, Nat.mul_add, Nat.mul_add, Nat.mul_comm c]
  omega
/-- A difference's next digit: d is the digit, c2 what is borrowed. -/
theorem sub_next {B i x y c d c2 : Nat} {L a b : List Nat} (hL : L.length = i) (hx : a.getD i 0 = x) (hy : b.getD i 0 = y) (hs : x + c2 * B = d + y + c) (h : nval B (a.take i) + c * B ^ i = nval B L + nval B (b.take i)) :
    nval B (a.take (i + 1)) + c2 * B ^ (i + 1) = nval B (L ++ [d]) + nval B (b.take (i + 1)) := by
  rw [nval_snoc, nval_take, nval_take, hx, hy, hL, Nat.pow_succ]
  have e := congrArg (B ^ i * ·) hs
  simp only [Nat.mul_add] at e
  have e2 : B ^ i * (c2 * B) = c2 * (B ^ i * B) := by rw [Nat.mul_comm c2 B, ← Nat.mul_assoc, Nat.mul_comm c2]
  have e3 : B ^ i * c = c * B ^ i := Nat.mul_comm _ _
  omega
/-- A shifted row's next digit. -/
theorem up_next {B i q x c s T : Nat} {L a : List Nat} (hL : L.length = q + i) (hx : a.getD i 0 = x) (hs : s = x * T + c) (h : nval B L + c * B ^ (q + i) = nval B (a.take i) * T * B ^ q) :
    nval B (L ++ [s % B]) + (s / B) * B ^ (q + (i + 1)) = nval B (a.take (i + 1)) * T * B ^ q := by
  rw [nval_snoc, nval_take, hx, hL, ← Nat.add_assoc, Nat.pow_succ]
  have e := Nat.div_add_mod s B
  have e2 : B ^ (q + i) * (s % B) + s / B * (B ^ (q + i) * B) = B ^ (q + i) * s := by
    conv => rhs; rw [← e, Nat.mul_add]
    rw [Nat.mul_comm (s / B), Nat.mul_assoc, Nat.add_comm]
  have e3 : B ^ (q + i) * s = B ^ i * x * T * B ^ q + c * B ^ (q + i) := by
    rw [hs, Nat.mul_add, Nat.mul_comm _ c]
    congr 1
    rw [Nat.add_comm q i, Nat.pow_add]
    simp only [Nat.mul_comm, Nat.mul_left_comm, Nat.mul_assoc]
  have e4 : (nval B (a.take i) + B ^ i * x) * T * B ^ q = nval B (a.take i) * T * B ^ q + B ^ i * x * T * B ^ q := by rw [Nat.add_mul, Nat.add_mul]
  omega
/-- A product's next digit within a row: position i + k takes the low part of s, c2 is carried. -/
theorem mul_next {B i k x y o c s : Nat} {L b : List Nat} {P : Nat} (hk : i + k < L.length) (ho : L.getD (i + k) 0 = o) (hy : b.getD k 0 = y) (hs : s = o + x * y + c) (h : nval B L + c * B ^ (i + k) = P + B ^ i * (x * nval B (b.take k))) :
    nval B (L.set (i + k) (s % B)) + (s / B) * B ^ (i + (k + 1)) = P + B ^ i * (x * nval B (b.take (k + 1))) := by
  have h1 := nval_set B L (i + k) (s % B) hk
  rw [ho] at h1
  rw [nval_take, hy, ← Nat.add_assoc, Nat.pow_succ]
  have e := Nat.div_add_mod s B
  have e2 : B ^ (i + k) * (s % B) + s / B * (B ^ (i + k) * B) = B ^ (i + k) * s := by
    conv => rhs; rw [← e, Nat.mul_add]
    rw [Nat.mul_comm (s / B), Nat.mul_assoc, Nat.add_comm]
  have e3 : B ^ (i + k) * s = B ^ (i + k) * o + B ^ (i + k) * (x * y) + c * B ^ (i + k) := by rw [hs, Nat.mul_add, Nat.mul_add, Nat.mul_comm _ c]
  have e4 : B ^ i * (x * (nval B (b.take k) + B ^ k * y)) = B ^ i * (x * nval B (b.take k)) + B ^ (i + k) * (x * y) := by
    rw [Nat.mul_add, Nat.mul_add, Nat.pow_add]
    congr 1
    simp only [Nat.mul_comm, Nat.mul_left_comm, Nat.mul_assoc]
  omega
/-- Two rows of one length, alike above a place. -/
theorem nval_cmp {B : Nat} : ∀ {a b : List Nat} {i : Nat}, a.length = b.length → (∀ x ∈ a, x < B) → (∀ x ∈ b, x < B) → a.drop (i + 1) = b.drop (i + 1) → i < a.length → a.getD i 0 < b.getD i 0 → nval B a < nval B b := by
  intro a b i hl ha hb hd hi hx
  have hta : nval B (a.take i) < B ^ i := by
    have := nval_lt (l := a.take i) fun x h => ha x (List.mem_of_mem_take h)
    rwa [List.length_take, Nat.min_eq_left (by omega)] at this
  have e1 : nval B a = nval B (a.take (i + 1)) + B ^ (i + 1) * nval B (a.drop (i + 1)) := by
    conv => lhs; rw [← List.take_append_drop (i + 1) a, nval_app, List.length_take, Nat.min_eq_left (by omega)]
  have e2 : nval B b = nval B (b.take (i + 1)) + B ^ (i + 1) * nval B (b.drop (i + 1)) := by
    conv => lhs; rw [← List.take_append_drop (i + 1) b, nval_app, List.length_take, Nat.min_eq_left (by omega)]
  rw [e1, e2, hd, nval_take, nval_take]
  have h1 : B ^ i * (a.getD i 0 + 1) ≤ B ^ i * b.getD i 0 := Nat.mul_le_mul_left _ hx
  rw [Nat.mul_add] at h1
  omega
theorem drop_eq_step {a b : List Nat} {i : Nat} (hl : a.length = b.length) (hi : i < a.length) (h : a.drop (i + 1) = b.drop (i + 1)) (hx : a.getD i 0 = b.getD i 0) : a.drop i = b.drop i := by
  have hj : i < b.length := by omega
  rw [List.drop_eq_getElem_cons hi, List.drop_eq_getElem_cons hj, h]
  rw [List.getD, List.getD, List.getElem?_eq_getElem hi, List.getElem?_eq_getElem hj] at hx
  exact congrArg (· :: _) hx
end Go.Proofs.YtigbbogfnchgnaaGreatDoor
namespace Go.Proofs.YtigbbogfnchgnaaGreatDoor
set_option linter.unusedVariables false

/-- The least exponent above a rung, from that of the smallest floats on. -/
def kx (r : Nat) : Nat := r / 4503599627370496 - 1
/-- What a rung is worth, in units of the least float. -/
def kv (r : Nat) : Nat := if r < 4503599627370496 then r else (4503599627370496 + r % 4503599627370496) * 2 ^ (r / 4503599627370496 - 1)
theorem kv_lo {r : Nat} (h : r < 4503599627370496) : kv r = r := if_pos h
theorem kv_hi {r : Nat} (h : ¬ r < 4503599627370496) : kv r = (4503599627370496 + r % 4503599627370496) * 2 ^ (r / 4503599627370496 - 1) := if_neg h
theorem kv_succ (r : Nat) : kv (r + 1) = kv r + 2 ^ kx r := by
  unfold kx
  by_cases h1 : r + 1 < 4503599627370496
  · rw [kv_lo h1, kv_lo (by omega), show r / 4503599627370496 - 1 = 0 from by omega]
  · by_cases h2 : r < 4503599627370496
    · have : r = 4503599627370495 := by omega
      subst this
      decide +kernel
    · rw [kv_hi h1, kv_hi h2]
      by_cases h3 : r % 4503599627370496 + 1 < 4503599627370496
      · have e1 : (r + 1) % 4503599627370496 = r % 4503599627370496 + 1 := by omega
        have e2 : (r + 1) / 4503599627370496 = r / 4503599627370496 := by omega
        rw [e1, e2, ← Nat.add_assoc, Nat.add_mul]
        omega
      · have e1 : (r + 1) % 4503599627370496 = 0 := by omega
        have e2 : (r + 1) / 4503599627370496 - 1 = r / 4503599627370496 - 1 + 1 := by omega
        have e3 : r % 4503599627370496 = 4503599627370495 := by omega
        rw [e1, e2, e3, Nat.pow_succ]
        generalize 2 ^ (r / 4503599627370496 - 1) = z
        omega
theorem kv_lt_succ (r : Nat) : kv r < kv (r + 1) := by
  rw [kv_succ]; have := Nat.pow_pos (n := kx r) (show 0 < 2 by decide); omega
theorem kv_mono {a b : Nat} (h : a ≤ b) : kv a ≤ kv b := by
  obtain ⟨d, rfl⟩ : ∃ d, b = a + d := ⟨b - a, by omega⟩
  clear h
  induction d with
  | zero => exact Nat.le_refl _
  | succ d ih => have := kv_lt_succ (a + d); rw [← Nat.add_assoc]; omega
theorem kv_strict {a b : Nat} (h : a < b) : kv a < kv b := Nat.lt_of_lt_of_le (kv_lt_succ a) (kv_mono h)
/-- The value of a rung, put together of an exponent and a significand. -/
theorem kv_make {j m : Nat} (h1 : m < 9007199254740992) (h2 : j = 0 ∨ 4503599627370496 ≤ m) : kv (j * 4503599627370496 + m) = m * 2 ^ j ∧ kx (j * 4503599627370496 + m) = j := by
  by_cases h : j * 4503599627370496 + m < 4503599627370496
  · have hj : j = 0 := by omega
    subst hj
    rw [kv_lo h]
    unfold kx
    constructor <;> omega
  · by_cases hm : m < 4503599627370496
    · exfalso; omega
    · have e1 : (j * 4503599627370496 + m) % 4503599627370496 = m - 4503599627370496 := by omega
      have e2 : (j * 4503599627370496 + m) / 4503599627370496 - 1 = j := by omega
      rw [kv_hi h]
      unfold kx
      rw [e1, e2]
      exact ⟨by rw [show 4503599627370496 + (m - 4503599627370496) = m from by omega], rfl⟩

/-- The rung nearest to X / D (in units of the least float); between two the even one; infinity's, if it is too great. -/
structure Near (X D r : Nat) : Prop where
  cap : r ≤ 9218868437227405312
  low : r = 0 ∨ (kv (r - 1) + kv r) * D < 2 * X ∨ ((kv (r - 1) + kv r) * D = 2 * X ∧ r % 2 = 0)
  high : r = 9218868437227405312 ∨ 2 * X < (kv r + kv (r + 1)) * D ∨ (2 * X = (kv r + kv (r + 1)) * D ∧ r % 2 = 0)
theorem Near.not_lt {X D r s : Nat} (hD : 0 < D) (h : Near X D r) (k : Near X D s) (hl : r < s) : False := by
  have h1 := h.high
  have h2 := k.low
  have h3 := k.cap
  rcases h2 with h2 | h2
  · omega
  rcases h1 with h1 | h1
  · omega
  by_cases e : s = r + 1
  · subst e
    rw [Nat.add_sub_cancel] at h2
    omega
  · have m1 : kv (r + 1) ≤ kv (s - 1) := kv_mono (by omega)
    have m2 : kv r < kv s := kv_strict hl
    have m3 : (kv r + kv (r + 1) + 1) * D ≤ (kv (s - 1) + kv s) * D := Nat.mul_le_mul_right D (by omega)
    rw [Nat.add_mul _ 1 D] at m3
    omega
theorem Near.one {X D r s : Nat} (hD : 0 < D) (h : Near X D r) (k : Near X D s) : r = s := by
  rcases Nat.lt_trichotomy r s with h1 | h1 | h1
  · exact (h.not_lt hD k h1).elim
  · exact h1
  · exact (k.not_lt hD h h1).elim
/-- The same quotient, the same rung. -/
theorem Near.scale {X D Y E r : Nat} (hD : 0 < D) (hE : 0 < E) (h : Near X D r) (e : X * E = Y * D) : Near Y E r := by
  have key : ∀ v : Nat, (v * D < 2 * X ↔ v * E < 2 * Y) ∧ (v * D = 2 * X ↔ v * E = 2 * Y) ∧ (2 * X < v * D ↔ 2 * Y < v * E) := by
    intro v
    have e1 : v * D * E = v * E * D := by rw [Nat.mul_assoc, Nat.mul_comm D E, Nat.mul_assoc]
    have e2 : 2 * X * E = 2 * Y * D := by rw [Nat.mul_assoc, e, Nat.mul_assoc]
    have l1 : v * D < 2 * X ↔ v * D * E < 2 * X * E := (Nat.mul_lt_mul_right hE).symm
    have l2 : v * E < 2 * Y ↔ v * E * D < 2 * Y * D := (Nat.mul_lt_mul_right hD).symm
    have l3 : 2 * X < v * D ↔ 2 * X * E < v * D * E := (Nat.mul_lt_mul_right hE).symm
    have l4 : 2 * Y < v * E ↔ 2 * Y * D < v * E * D := (Nat.mul_lt_mul_right hD).symm
    rw [e1, e2] at l1 l3
    have a1 : v * D < 2 * X ↔ v * E < 2 * Y := l1.trans l2.symm
    have a3 : 2 * X < v * D ↔ 2 * Y < v * E := l3.trans l4.symm
    exact ⟨a1, by omega, a3⟩
  obtain ⟨a1, a2, a3⟩ := key (kv (r - 1) + kv r)
  obtain ⟨b1, b2, b3⟩ := key (kv r + kv (r + 1))
  refine ⟨h.cap, ?_, ?_⟩
  · rcases h.low with x | x | ⟨x, y⟩
    · exact .inl x
    · exact .inr (.inl (a1.1 x))
    · exact .inr (.inr ⟨a2.1 x, y⟩)
  · rcases h.high with x | x | ⟨x, y⟩
    · exact .inl x
    · exact .inr (.inl (b3.1 x))
    · exact .inr (.inr ⟨(b2.1 x.symm).symm, y⟩)
/-- Found from the rung below: up, where the middle lies below, or is met and the rung is odd. -/
theorem near_of {X D lo : Nat} (hD : 0 < D) (h1 : kv lo * D ≤ X) (h2 : lo + 1 = 9218868437227405312 ∨ X < kv (lo + 1) * D) (hlo : lo < 9218868437227405312) {up : Bool}
    (hup : up = true ↔ (kv lo + kv (lo + 1)) * D < 2 * X ∨ ((kv lo + kv (lo + 1)) * D = 2 * X ∧ lo % 2 = 1)) : Near X D (lo + up.toNat) := by
  cases up with
  | true =>
    have hu := hup.1 rfl
    show Near X D (lo + 1)
    refine ⟨by omega, .inr ?_, ?_⟩
    · rw [Nat.add_sub_cancel]; omega
    · rcases h2 with h2 | h2
      · exact .inl h2
      · refine .inr (.inl ?_)
        have m := kv_lt_succ (lo + 1)
        have m2 : (kv (lo + 1) + kv (lo + 1)) * D ≤ (kv (lo + 1) + kv (lo + 1 + 1)) * D := Nat.mul_le_mul_right D (by omega)
        rw [Nat.add_mul] at m2
        omega
  | false =>
    have hu : ¬ ((kv lo + kv (lo + 1)) * D < 2 * X ∨ ((kv lo + kv (lo + 1)) * D = 2 * X ∧ lo % 2 = 1)) := fun h => by cases hup.2 h
    show Near X D (lo + 0)
    rw [Nat.add_zero]
    refine ⟨by omega, ?_, .inr (by omega)⟩
    by_cases h0 : lo = 0
    · exact .inl h0
    · refine .inr (.inl ?_)
      have m := kv_lt_succ (lo - 1)
      rw [show lo - 1 + 1 = lo from by omega] at m
      have m2 : (kv (lo - 1) + kv lo) * D < (kv lo + kv lo) * D := (Nat.mul_lt_mul_right hD).2 (by omega)
      rw [Nat.add_mul (kv lo)] at m2
      omega
theorem over_lt {X D lo T : Nat} (hD : 0 < D) (hT : 1 ≤ T) (hlo : T ≤ lo) (h1 : kv lo * D ≤ X) : (kv (T - 1) + kv T) * D < 2 * X := by
  have m := kv_mono hlo
  have m1 := kv_lt_succ (T - 1)
  rw [show T - 1 + 1 = T from by omega] at m1
  have m2 : (kv (T - 1) + kv T) * D < (kv lo + kv lo) * D := (Nat.mul_lt_mul_right hD).2 (by omega)
  rw [Nat.add_mul (kv lo)] at m2
  omega
/-- Found without a bound, and then cut at infinity. -/
theorem near_cut {X D lo : Nat} (hD : 0 < D) (h1 : kv lo * D ≤ X) (h2 : X < kv (lo + 1) * D) {up : Bool}
    (hup : up = true ↔ (kv lo + kv (lo + 1)) * D < 2 * X ∨ ((kv lo + kv (lo + 1)) * D = 2 * X ∧ lo % 2 = 1)) : Near X D (min (lo + up.toNat) 9218868437227405312) := by
  by_cases hlo : lo < 9218868437227405312
  · have := near_of hD h1 (.inr h2) hlo hup
    rwa [Nat.min_eq_left this.cap]
  · rw [Nat.min_eq_right (by omega)]
    exact ⟨Nat.le_refl _, .inr (.inl (over_lt hD (by decide) (by omega) h1)), .inl rfl⟩
/-- How the program finds it: A / d = q, cut to the digits from place s on (s - K above that of the least float), then rounded by the half, what lies below it, and what is left over. -/
theorem near_shr {A d K s q m0 : Nat} {half rest : Bool} (hd : 0 < d) (hq : q = A / d) (hs : 1 ≤ s) (hK : K ≤ s) (hm : m0 = q / 2 ^ s) (hm1 : m0 < 9007199254740992) (hm2 : s = K ∨ 4503599627370496 ≤ m0)
    (hh : half = true ↔ q / 2 ^ (s - 1) % 2 = 1) (hr : rest = true ↔ (q % 2 ^ (s - 1) ≠ 0 ∨ A % d ≠ 0)) :
    Near A (d * 2 ^ K) (min ((s - K) * 4503599627370496 + m0 + (half && (rest || m0 % 2 == 1)).toNat) 9218868437227405312) := by
  obtain ⟨k1, k2⟩ := kv_make (j := s - K) hm1 (by omega)
  have hD : 0 < d * 2 ^ K := Nat.mul_pos hd (Nat.pow_pos (by decide))
  have k3 := kv_succ ((s - K) * 4503599627370496 + m0)
  rw [k1, k2] at k3
  -- the quotient by its parts
  obtain ⟨t, rfl⟩ : ∃ t, s = t + 1 := ⟨s - 1, by omega⟩
  rw [Nat.add_sub_cancel] at hh hr
  have hT : 0 < 2 ^ t := Nat.pow_pos (by decide)
  have p1 : 2 ^ (t + 1) = 2 * 2 ^ t := by rw [Nat.pow_succ, Nat.mul_comm]
  have p2 : 2 ^ (t + 1 - K) * 2 ^ K = 2 ^ (t + 1) := by rw [← Nat.pow_add]; congr 1; omega
  have q1 : q = q / 2 ^ t * 2 ^ t + q % 2 ^ t := by rw [Nat.mul_comm]; exact (Nat.div_add_mod q (2 ^ t)).symm
  have q2 : q / 2 ^ t = 2 * m0 + q / 2 ^ t % 2 := by
    have : q / 2 ^ (t + 1) = q / 2 ^ t / 2 := by rw [Nat.pow_succ, Nat.div_div_eq_div_mul]
    omega
  have q3 : q % 2 ^ t < 2 ^ t := Nat.mod_lt _ hT
  have a1 : A = q * d + A % d := by rw [hq, Nat.mul_comm]; exact (Nat.div_add_mod A d).symm
  have a2 : A % d < d := Nat.mod_lt _ hd
  -- everything in units of d * 2 ^ t
  have u1 : kv ((t + 1 - K) * 4503599627370496 + m0) * (d * 2 ^ K) = 2 * m0 * (d * 2 ^ t) := by
    rw [k1, show m0 * 2 ^ (t + 1 - K) * (d * 2 ^ K) = m0 * d * (2 ^ (t + 1 - K) * 2 ^ K) from by simp only [Nat.mul_comm, Nat.mul_left_comm, Nat.mul_assoc], p2, p1]
    simp only [Nat.mul_comm, Nat.mul_left_comm, Nat.mul_assoc]
  have u2 : 2 ^ (t + 1 - K) * (d * 2 ^ K) = 2 * (d * 2 ^ t) := by
    rw [show 2 ^ (t + 1 - K) * (d * 2 ^ K) = d * (2 ^ (t + 1 - K) * 2 ^ K) from by rw [← Nat.mul_assoc, Nat.mul_comm _ d, Nat.mul_assoc], p2, p1]
    rw [← Nat.mul_assoc, Nat.mul_comm d 2, Nat.mul_assoc]
  have u3 : kv ((t + 1 - K) * 4503599627370496 + m0 + 1) * (d * 2 ^ K) = 2 * m0 * (d * 2 ^ t) + 2 * (d * 2 ^ t) := by
    rw [k3, ← k1, Nat.add_mul, u1, u2]
  generalize hb : q / 2 ^ t % 2 = b at *
  generalize hl : q % 2 ^ t = l at *
  have hb2 : b < 2 := by omega
  have a3 : A = 2 * m0 * (d * 2 ^ t) + b * (d * 2 ^ t) + (l * d + A % d) := by
    conv => lhs; rw [a1, q1, q2]
    rw [Nat.add_mul, Nat.add_mul, Nat.add_mul]
    have : ∀ x : Nat, x * 2 ^ t * d = x * (d * 2 ^ t) := fun x => by rw [Nat.mul_assoc, Nat.mul_comm (2 ^ t)]
    rw [this, this]; omega
  have a4 : l * d + A % d < d * 2 ^ t := by
    have h1 : (l + 1) * d ≤ 2 ^ t * d := Nat.mul_le_mul_right d q3
    rw [Nat.add_mul] at h1
    rw [Nat.mul_comm d]; omega
  have a5 : (l * d + A % d = 0) ↔ (l = 0 ∧ A % d = 0) := by
    constructor
    · intro h
      have : l * d = 0 := by omega
      rcases Nat.mul_eq_zero.1 this with h1 | h1
      · exact ⟨h1, by omega⟩
      · omega
    · rintro ⟨rfl, h⟩; rw [h]; simp
  have hlo2 : ((t + 1 - K) * 4503599627370496 + m0) % 2 = m0 % 2 := by omega
  refine near_cut hD (by rw [u1]; omega) (by rw [u3]; rcases Nat.lt_or_ge b 1 with h | h <;> (first | (have : b = 0 := by omega) | (have : b = 1 := by omega)) <;> subst this <;> omega) ?_
  rw [Nat.add_mul, u1, u3, hlo2]
  generalize hz : l * d + A % d = z at *
  generalize d * 2 ^ t = U at *
  generalize 2 * m0 * U = V at *
  have hb3 : b = 0 ∨ b = 1 := by omega
  rcases hb3 with rfl | rfl
  · have : half = false := by cases half with
      | false => rfl
      | true => exact absurd (hh.1 rfl) (by decide)
    subst this
    constructor
    · intro h; cases h
    · intro h; omega
  · have : half = true := hh.2 rfl
    subst this
    rcases hrs : rest with _ | _
    · have hz0 : z = 0 := a5.2 (by
        have : ¬ (l ≠ 0 ∨ A % d ≠ 0) := fun h => by rw [hr.2 h] at hrs; cases hrs
        constructor
        · exact Classical.byContradiction fun h => this (.inl h)
        · exact Classical.byContradiction fun h => this (.inr h))
      simp
      constructor
      · intro h; exact .inr ⟨by omega, h⟩
      · rintro (h | ⟨_, h⟩)
        · omega
        · exact h
    · have hz1 : z ≠ 0 := fun h => by
        have := a5.1 h
        rcases hr.1 hrs with h1 | h1
        · exact h1 this.1
        · exact h1 this.2
      simp
      left; omega
end Go.Proofs.YtigbbogfnchgnaaGreatDoor
namespace Go.Proofs.YtigbbogfnchgnaaGreatDoor
set_option linter.unusedVariables false

theorem df_bin : Ieee.double.binade = 4503599627370496 := by decide +kernel
theorem df_inf : Ieee.double.infRung = 9218868437227405312 := by decide +kernel
theorem df_sw : Ieee.double.signWeight = 9223372036854775808 := by decide +kernel
theorem df_least : Ieee.double.leastPlace = -1074 := by decide +kernel
theorem df_frac : Ieee.double.fractionBits = 52 := by decide +kernel
/-- How far a number reaches: its bits less one. -/
theorem log2_pow {m k : Nat} (hm : m ≠ 0) : (m * 2 ^ k).log2 = m.log2 + k := by
  have hp : 0 < 2 ^ k := Nat.pow_pos (by decide)
  rw [Nat.log2_eq_iff (by have := Nat.mul_ne_zero hm (Nat.pos_iff_ne_zero.1 hp); exact this)]
  have h1 := Nat.log2_self_le hm
  have h2 : m < 2 ^ (m.log2 + 1) := Nat.lt_log2_self
  constructor
  · rw [Nat.pow_add]; exact Nat.mul_le_mul_right _ h1
  · rw [show m.log2 + k + 1 = m.log2 + 1 + k from by omega, Nat.pow_add]; exact (Nat.mul_lt_mul_right hp).2 h2
theorem log2_lt {m k : Nat} (hm : m ≠ 0) (h : m < 2 ^ k) : m.log2 < k := (Nat.log2_lt hm).2 h
theorem log2_ge {m k : Nat} (hm : m ≠ 0) (h : 2 ^ k ≤ m) : k ≤ m.log2 := (Nat.le_log2 hm).2 h
/-- Nothing is cut off. -/
theorem cut_none (neg : Bool) (n : Nat) : Ieee.Toward.even.cut neg n 0 = n := by
  unfold Ieee.Toward.cut
  rw [Nat.zero_min]
  simp [Nat.mod_one]
/-- Noughts are cut off. -/
theorem cut_exact (neg : Bool) {m d : Nat} (hm : m ≠ 0) : Ieee.Toward.even.cut neg (m * 2 ^ d) d = m := by
  unfold Ieee.Toward.cut
  rw [log2_pow hm, Nat.min_eq_left (by omega), Nat.one_shiftLeft]
  have hp : 0 < 2 ^ d := Nat.pow_pos (by decide)
  simp only [Nat.mul_div_left _ hp, Nat.mul_mod_left]
  have : (decide (2 ^ d < 2 * 0) || (2 ^ d == 2 * 0) && m % 2 == 1) = false := by
    have h1 : decide (2 ^ d < 2 * 0) = false := by simp
    have h2 : (2 ^ d == 2 * 0) = false := by rw [beq_eq_false_iff_ne]; omega
    rw [h1, h2]; rfl
  rw [this]; rfl
/-- A number that can be said: m * 2^j of the least float, m * 2^d there being mag, or mag * 2^a being m. -/
theorem write_rung (neg : Bool) {m j mag : Nat} {place : Int} (hm0 : m ≠ 0) (hm1 : m < 9007199254740992) (hm2 : j = 0 ∨ 4503599627370496 ≤ m)
    (h : (∃ a : Nat, place + 1074 = (j : Int) + a ∧ m = mag * 2 ^ a) ∨ (∃ d : Nat, place + 1074 + d = (j : Int) ∧ mag = m * 2 ^ d)) :
    Ieee.double.nearest neg mag place = (if neg then 9223372036854775808 + min (j * 4503599627370496 + m) 9218868437227405312 else min (j * 4503599627370496 + m) 9218868437227405312) := by
  have hl1 : m.log2 < 53 := log2_lt hm0 (by omega)
  have hl2 : j = 0 ∨ 52 ≤ m.log2 := by
    rcases hm2 with h | h
    · exact .inl h
    · exact .inr (log2_ge hm0 (by omega))
  unfold Ieee.Format.nearest Ieee.Format.word
  rw [df_sw, df_bin, df_inf, df_least, df_frac]
  rcases h with ⟨a, ha, hma⟩ | ⟨d, hd, hmd⟩
  · have hg : mag ≠ 0 := by rintro rfl; exact hm0 (by rw [hma, Nat.zero_mul])
    have hlog : m.log2 = mag.log2 + a := by rw [hma]; exact log2_pow hg
    have e1 : max (place + (mag.log2 : Int) - (52 : Nat)) (-1074) = (j : Int) - 1074 := by
      rcases hl2 with h | h <;> omega
    rw [if_neg hg]
    simp only [e1]
    have e2 : (place - ((j : Int) - 1074)).toNat = a := by omega
    have e3 : ((j : Int) - 1074 - place).toNat = 0 - a := by omega
    have e4 : ((j : Int) - 1074 - -1074).toNat = j := by omega
    rw [e2, e3, e4, Nat.zero_sub, cut_none, Nat.shiftLeft_eq, ← hma]
  · have hg : mag ≠ 0 := by rw [hmd]; exact Nat.mul_ne_zero hm0 (Nat.pos_iff_ne_zero.1 (Nat.pow_pos (by decide)))
    have hlog : mag.log2 = m.log2 + d := by rw [hmd]; exact log2_pow hm0
    have e1 : max (place + (mag.log2 : Int) - (52 : Nat)) (-1074) = (j : Int) - 1074 := by
      rcases hl2 with h | h <;> omega
    rw [if_neg hg]
    simp only [e1]
    have e2 : (place - ((j : Int) - 1074)).toNat = 0 := by omega
    have e3 : ((j : Int) - 1074 - place).toNat = d := by omega
    have e4 : ((j : Int) - 1074 - -1074).toNat = j := by omega
    rw [e2, e3, e4, Nat.shiftLeft_zero, hmd, cut_exact neg hm0]
/-- The bits of a whole number that is at most 2^53, and not nought. -/
def wbits (m : Nat) : Nat := (1022 + m.log2) * 4503599627370496 + (if m.log2 ≤ 52 then m * 2 ^ (52 - m.log2) else m / 2)
theorem wsig {m : Nat} (h0 : m ≠ 0) (h1 : m ≤ 9007199254740992) : m.log2 ≤ 53 ∧
    4503599627370496 ≤ (if m.log2 ≤ 52 then m * 2 ^ (52 - m.log2) else m / 2) ∧ (if m.log2 ≤ 52 then m * 2 ^ (52 - m.log2) else m / 2) < 9007199254740992 ∧ (m.log2 = 53 → m = 9007199254740992) := by
  have a1 : m.log2 < 54 := log2_lt h0 (by omega)
  have a2 := Nat.log2_self_le h0
  have a3 : m < 2 ^ (m.log2 + 1) := Nat.lt_log2_self
  refine ⟨by omega, ?_⟩
  by_cases h : m.log2 ≤ 52
  · rw [if_pos h]
    have hp : 0 < 2 ^ (52 - m.log2) := Nat.pow_pos (by decide)
    have b1 : 2 ^ m.log2 * 2 ^ (52 - m.log2) ≤ m * 2 ^ (52 - m.log2) := Nat.mul_le_mul_right _ a2
    have b2 : m * 2 ^ (52 - m.log2) < 2 ^ (m.log2 + 1) * 2 ^ (52 - m.log2) := (Nat.mul_lt_mul_right hp).2 a3
    rw [← Nat.pow_add, show m.log2 + (52 - m.log2) = 52 from by omega] at b1
    rw [← Nat.pow_add, show m.log2 + 1 + (52 - m.log2) = 53 from by omega] at b2
    exact ⟨by simpa using b1, by simpa using b2, by omega⟩
  · have e : m.log2 = 53 := by omega
    rw [e] at a2
    have e2 : m = 9007199254740992 := by
      have : (2 : Nat) ^ 53 = 9007199254740992 := by decide
      omega
    subst e2
    rw [if_neg h]
    exact ⟨by decide, by decide, fun _ => rfl⟩
theorem whole_bits {m : Nat} (h0 : m ≠ 0) (h1 : m ≤ 9007199254740992) : FloatKind.f64.nearest (m : Int) = wbits m := by
  obtain ⟨s1, s2, s3, s4⟩ := wsig h0 h1
  unfold FloatKind.nearest FloatKind.encode Ieee.Format.write
  show Ieee.double.nearest (decide ((m : Int) < 0)) (m : Int).natAbs 0 = _
  rw [show decide ((m : Int) < 0) = false from decide_eq_false (by omega), Int.natAbs_natCast]
  have hw := write_rung false (m := if m.log2 ≤ 52 then m * 2 ^ (52 - m.log2) else m / 2) (j := 1022 + m.log2) (mag := m) (place := 0) (by omega) s3 (.inr s2) (by
    by_cases h : m.log2 ≤ 52
    · rw [if_pos h]; exact .inl ⟨52 - m.log2, by omega, rfl⟩
    · have e : m.log2 = 53 := by omega
      have e2 := s4 e
      rw [if_neg h]
      refine .inr ⟨1, by omega, by omega⟩)
  rw [hw]
  simp only [Bool.false_eq_true, if_false]
  unfold wbits
  omega
theorem zero_bits : FloatKind.f64.nearest 0 = 0 := by decide +kernel
/-- A normal number that is no NaN and no infinity, read. -/
theorem read_norm {j m : Nat} (hj : j < 2046) (h1 : 4503599627370496 ≤ m) (h2 : m < 9007199254740992) :
    Ieee.double.read (j * 4503599627370496 + m) = .number false m ((j : Int) - 1074) := by
  unfold Ieee.Format.read
  rw [df_sw, df_bin, df_inf, df_least]
  have e0 : (j * 4503599627370496 + m) / 9223372036854775808 = 0 := by omega
  have e1 : (j * 4503599627370496 + m) % 9223372036854775808 = j * 4503599627370496 + m := by omega
  simp only [e0, e1]
  rw [if_neg (by omega), if_pos (by omega)]
  have e2 : (j * 4503599627370496 + m) % 4503599627370496 = m - 4503599627370496 := by omega
  have e3 : (j * 4503599627370496 + m) / 4503599627370496 - 1 = j := by omega
  rw [e2, e3]
  rw [show 4503599627370496 + (m - 4503599627370496) = m from by omega, show (-1074 : Int) + (j : Nat) = (j : Int) - 1074 from by omega]
  rfl
theorem read_one : Ieee.double.read 4607182418800017408 = .number false 4503599627370496 (-52) := by decide +kernel
theorem read_least : Ieee.double.read 4368491638549381120 = .number false 4503599627370496 (-105) := by decide +kernel
/-- Times 1. -/
theorem mul_one_bits {j m : Nat} (hj : j < 2046) (h1 : 4503599627370496 ≤ m) (h2 : m < 9007199254740992) :
    Ieee.double.mul 4607182418800017408 (j * 4503599627370496 + m) = some (j * 4503599627370496 + m) := by
  unfold Ieee.Format.mul
  rw [read_one, read_norm hj h1 h2]
  show some (Ieee.double.nearest (false ^^ false) (4503599627370496 * m) (-52 + ((j : Int) - 1074))) = _
  rw [write_rung (false ^^ false) (m := m) (j := j) (by omega) h2 (.inr h1) (.inr ⟨52, by omega, by omega⟩)]
  simp only [Bool.xor_self, Bool.false_eq_true, if_false]
  exact congrArg some (by omega)
/-- Times 2^-53, down to the smallest floats. -/
theorem mul_least_bits {j m s : Nat} (hj : j < 2046) (h1 : 4503599627370496 ≤ m) (h2 : m < 9007199254740992) (hs0 : s ≠ 0) (hs : s < 4503599627370496) {a : Nat} (ha : j + a = 53) (hm : m = s * 2 ^ a) :
    Ieee.double.mul 4368491638549381120 (j * 4503599627370496 + m) = some s := by
  unfold Ieee.Format.mul
  rw [read_least, read_norm hj h1 h2]
  show some (Ieee.double.nearest (false ^^ false) (4503599627370496 * m) (-105 + ((j : Int) - 1074))) = _
  rw [write_rung (false ^^ false) (m := s) (j := 0) hs0 (by omega) (.inl rfl) (.inr ⟨52 + a, by omega, by
    rw [hm, Nat.pow_add]
    rw [show (4503599627370496 : Nat) = 2 ^ 52 from by decide, ← Nat.mul_assoc, Nat.mul_comm (2 ^ 52) s, Nat.mul_assoc]⟩)]
  simp only [Bool.xor_self, Bool.false_eq_true, if_false]
  exact congrArg some (by omega)
end Go.Proofs.YtigbbogfnchgnaaGreatDoor
namespace Go.Proofs.YtigbbogfnchgnaaGreatDoor
set_option linter.unusedVariables false

/-- What holds of a guess q with its rest r, ahead of each trial: u is what is divided's upper part, y1 and y0 the divisor's halves, u1 the next half word. -/
structure Guess (u y1 y0 u1 q r : Nat) : Prop where
  eq : q * y1 + r = u
  ge : (u * 4294967296 + u1) / (y1 * 4294967296 + y0) ≤ q
  le : q ≤ 4294967297
theorem guess_start {u y1 y0 u1 : Nat} (h1 : 2147483648 ≤ y1) (h2 : y1 < 4294967296) (h3 : y0 < 4294967296) (h4 : u1 < 4294967296) (h5 : u < y1 * 4294967296 + y0) :
    Guess u y1 y0 u1 (u / y1) (u % y1) ∧ u % y1 < y1 := by
  have hy : 0 < y1 := by omega
  have e : u / y1 * y1 + u % y1 = u := by rw [Nat.mul_comm]; exact Nat.div_add_mod u y1
  refine ⟨⟨e, ?_, ?_⟩, Nat.mod_lt _ hy⟩
  · apply Nat.le_of_lt_succ
    rw [Nat.div_lt_iff_lt_mul (by omega)]
    have k : u < (u / y1 + 1) * y1 := by rw [Nat.add_mul]; have := Nat.mod_lt u hy; omega
    have k2 : (u + 1) * 4294967296 ≤ (u / y1 + 1) * y1 * 4294967296 := Nat.mul_le_mul_right _ k
    have k3 : (u / y1).succ * (y1 * 4294967296 + y0) = (u / y1 + 1) * y1 * 4294967296 + (u / y1 + 1) * y0 := by
      rw [Nat.succ_eq_add_one, Nat.mul_add, Nat.mul_assoc]
    rw [k3]; omega
  · apply Nat.le_of_lt_succ
    rw [Nat.div_lt_iff_lt_mul hy]
    show u < 4294967298 * y1
    omega
section
variable {u y1 y0 u1 q r : Nat}
/-- The trial says: too great. -/
theorem guess_less (h : Guess u y1 y0 u1 q r) (hy : 0 < y1) (h5 : u < y1 * 4294967296 + y0) (h4 : u1 < 4294967296) (ht : 4294967296 ≤ q ∨ 4294967296 * r + u1 < q * y0) :
    Guess u y1 y0 u1 (q - 1) (r + y1) ∧ 1 ≤ q := by
  have hY : 0 < y1 * 4294967296 + y0 := by omega
  have key : (u * 4294967296 + u1) / (y1 * 4294967296 + y0) < q := by
    rw [Nat.div_lt_iff_lt_mul hY]
    rcases ht with ht | ht
    · have : 4294967296 * (y1 * 4294967296 + y0) ≤ q * (y1 * 4294967296 + y0) := Nat.mul_le_mul_right _ ht
      omega
    · have e := h.eq
      rw [Nat.mul_add, ← Nat.mul_assoc, ← e]
      omega
  have h1 : 1 ≤ q := Nat.lt_of_le_of_lt (Nat.zero_le _) key
  refine ⟨⟨?_, Nat.le_sub_one_of_lt key, by have := h.le; omega⟩, h1⟩
  have e := h.eq
  obtain ⟨p, rfl⟩ : ∃ p, q = p + 1 := ⟨q - 1, by omega⟩
  rw [Nat.add_sub_cancel]
  rw [Nat.add_mul] at e
  omega
/-- The trial is passed: the guess is the digit. -/
theorem guess_done (h : Guess u y1 y0 u1 q r) (hy : 0 < y1) (ht : q * y0 ≤ 4294967296 * r + u1) : q = (u * 4294967296 + u1) / (y1 * 4294967296 + y0) := by
  have hY : 0 < y1 * 4294967296 + y0 := by omega
  refine Nat.le_antisymm ?_ h.ge
  rw [Nat.le_div_iff_mul_le hY]
  have e := h.eq
  rw [Nat.mul_add, ← Nat.mul_assoc, ← e]
  omega
/-- No trial is needed where the rest has outgrown half a word. -/
theorem guess_out (h : Guess u y1 y0 u1 q r) (hy : 0 < y1) (h3 : y0 < 4294967296) (h5 : u < y1 * 4294967296 + y0) (ht : 4294967296 ≤ r) : q = (u * 4294967296 + u1) / (y1 * 4294967296 + y0) := by
  refine guess_done h hy ?_
  have e := h.eq
  have k : q < 4294967296 := by
    have : q * y1 < 4294967296 * y1 := by omega
    exact Nat.lt_of_mul_lt_mul_right this
  have : q * y0 ≤ 4294967296 * 4294967296 := Nat.mul_le_mul (by omega) (by omega)
  omega
end
/-- One digit, and what is left. -/
theorem digit_rest {u Y u1 q : Nat} (hY : 0 < Y) (hq : q = (u * 4294967296 + u1) / Y) : u * 4294967296 + u1 - q * Y = (u * 4294967296 + u1) % Y ∧ q * Y ≤ u * 4294967296 + u1 := by
  have := Nat.div_add_mod (u * 4294967296 + u1) Y
  rw [Nat.mul_comm Y, ← hq] at this
  omega
theorem digit_lt {u Y u1 q : Nat} (hu : u < Y) (h1 : u1 < 4294967296) (hq : q = (u * 4294967296 + u1) / Y) : q < 4294967296 := by
  rw [hq, Nat.div_lt_iff_lt_mul (by omega)]
  have : (u + 1) * 4294967296 ≤ Y * 4294967296 := Nat.mul_le_mul_right _ hu
  rw [Nat.mul_comm 4294967296]
  omega
/-- Two digits make the quotient; the rest, shifted back. -/
theorem div_two {N Y u1 u0 u q1 q0 r1 : Nat} (hY : 0 < Y) (hN : N = (u * 4294967296 + u1) * 4294967296 + u0) (h1 : q1 = (u * 4294967296 + u1) / Y) (hr : r1 = (u * 4294967296 + u1) % Y) (h0 : q0 = (r1 * 4294967296 + u0) / Y) (hu0 : u0 < 4294967296) :
    N / Y = q1 * 4294967296 + q0 ∧ N % Y = (r1 * 4294967296 + u0) % Y := by
  have a := Nat.div_add_mod (u * 4294967296 + u1) Y
  have b := Nat.div_add_mod (r1 * 4294967296 + u0) Y
  rw [← h1, ← hr] at a
  rw [← h0] at b
  have c : N = Y * (q1 * 4294967296 + q0) + (r1 * 4294967296 + u0) % Y := by
    rw [hN, ← a, Nat.mul_add, ← Nat.mul_assoc]; omega
  have hm := Nat.mod_lt (r1 * 4294967296 + u0) hY
  constructor
  · rw [c, Nat.mul_add_div hY, Nat.div_eq_of_lt hm]; omega
  · rw [c, Nat.mul_add_mod, Nat.mod_mod]
/-- Both shifted by s: the quotient stays, the rest is shifted too. -/
theorem div_shift (N d s : Nat) (hd : 0 < d) : N * 2 ^ s / (d * 2 ^ s) = N / d ∧ N * 2 ^ s % (d * 2 ^ s) / 2 ^ s = N % d := by
  have hp : 0 < 2 ^ s := Nat.pow_pos (by decide)
  constructor
  · exact Nat.mul_div_mul_right N d hp
  · rw [Nat.mul_mod_mul_right, Nat.mul_div_cancel _ hp]
end Go.Proofs.YtigbbogfnchgnaaGreatDoor
namespace Go.Proofs.YtigbbogfnchgnaaGreatDoor
set_option linter.unusedVariables false

/-- The magnitude's bits. -/
def fmag (b : Nat) : Nat := b % 9223372036854775808
/-- Is a float finite? -/
def ffin (b : Nat) : Bool := decide (fmag b < 9218868437227405312)
/-- An infinity? -/
def finf (b : Nat) : Bool := decide (fmag b = 9218868437227405312)
/-- Is the sign bit set? -/
def fsgn (b : Nat) : Bool := !decide (b < 9223372036854775808)
theorem fcases (b : Nat) : (fnan b = true ∧ ffin b = false ∧ finf b = false) ∨ (fnan b = false ∧ ffin b = false ∧ finf b = true) ∨ (fnan b = false ∧ ffin b = true ∧ finf b = false) := by
  unfold fnan ffin finf fmag
  simp only [decide_eq_true_eq, decide_eq_false_iff_not]
  omega
/-- What stands above, and below nought, of a list. -/
def posN : List Nat → Nat
  | [] => 0
  | b :: l => (if ffin b && !fsgn b then kv (fmag b) else 0) + posN l
def negN : List Nat → Nat
  | [] => 0
  | b :: l => (if ffin b && fsgn b then kv (fmag b) else 0) + negN l
/-- The squares of all magnitudes. -/
def sqN : List Nat → Nat
  | [] => 0
  | b :: l => kv (fmag b) * kv (fmag b) + sqN l
/-- The magnitude of the sum. -/
def totN (l : List Nat) : Nat := (posN l - negN l) + (negN l - posN l)
theorem totN_ge {l : List Nat} (h : negN l ≤ posN l) : totN l = posN l - negN l := by unfold totN; omega
theorem totN_lt {l : List Nat} (h : posN l < negN l) : totN l = negN l - posN l := by unfold totN; omega
theorem posN_app (a b : List Nat) : posN (a ++ b) = posN a + posN b := by
  induction a with
  | nil => simp [posN]
  | cons x a ih => simp [posN, ih, Nat.add_assoc]
theorem negN_app (a b : List Nat) : negN (a ++ b) = negN a + negN b := by
  induction a with
  | nil => simp [negN]
  | cons x a ih => simp [negN, ih, Nat.add_assoc]
theorem sqN_app (a b : List Nat) : sqN (a ++ b) = sqN a + sqN b := by
  induction a with
  | nil => simp [sqN]
  | cons x a ih => simp [sqN, ih, Nat.add_assoc]
theorem posN_one (b : Nat) : posN [b] = if ffin b && !fsgn b then kv (fmag b) else 0 := by simp [posN]
theorem negN_one (b : Nat) : negN [b] = if ffin b && fsgn b then kv (fmag b) else 0 := by simp [negN]
theorem sqN_one (b : Nat) : sqN [b] = kv (fmag b) * kv (fmag b) := by simp [sqN]
/-- The square of the sum is at most the squares' sum times how many they are. -/
theorem cauchy_step {S Q n x : Nat} (h : S * S ≤ n * Q) (h0 : n = 0 → S = 0) : (S + x) * (S + x) ≤ (n + 1) * (Q + x * x) := by
  rcases Nat.eq_zero_or_pos n with rfl | hn
  · rw [h0 rfl]; simp
  · have key : 2 * (S * x) ≤ Q + n * (x * x) := by
      have a : n * (2 * (S * x)) ≤ n * (Q + n * (x * x)) := by
        have sq : 2 * (S * (n * x)) ≤ S * S + (n * x) * (n * x) := by
          rcases Nat.le_total S (n * x) with hle | hle
          · obtain ⟨d, hd⟩ : ∃ d, n * x = S + d := ⟨n * x - S, by omega⟩
            rw [hd]
            have e1 : 2 * (S * (S + d)) = 2 * (S * S) + 2 * (S * d) := by rw [Nat.mul_add S, Nat.mul_add]
            have e2 : (S + d) * (S + d) = S * S + 2 * (S * d) + d * d := by
              rw [Nat.add_mul, Nat.mul_add, Nat.mul_add, Nat.mul_comm d S]; omega
            rw [e1, e2]; omega
          · obtain ⟨d, hd⟩ : ∃ d, S = n * x + d := ⟨S - n * x, by omega⟩
            generalize n * x = y at *
            rw [hd]
            have e1 : 2 * ((y + d) * y) = 2 * (y * y) + 2 * (d * y) := by rw [Nat.add_mul y, Nat.mul_add]
            have e2 : (y + d) * (y + d) = y * y + 2 * (d * y) + d * d := by
              rw [Nat.add_mul, Nat.mul_add, Nat.mul_add, Nat.mul_comm d y]; omega
            rw [e1, e2]; omega
        have e1 : n * (2 * (S * x)) = 2 * (S * (n * x)) := by
          simp only [Nat.mul_left_comm]
        have e2 : n * (Q + n * (x * x)) = n * Q + (n * x) * (n * x) := by
          rw [Nat.mul_add]; congr 1; simp only [Nat.mul_left_comm, Nat.mul_assoc]
        rw [e1, e2]; omega
      exact Nat.le_of_mul_le_mul_left a hn
    have e1 : (S + x) * (S + x) = S * S + 2 * (S * x) + x * x := by
      rw [Nat.add_mul, Nat.mul_add, Nat.mul_add, Nat.mul_comm x S]; omega
    have e2 : (n + 1) * (Q + x * x) = n * Q + n * (x * x) + Q + x * x := by
      rw [Nat.add_mul, Nat.mul_add]; omega
    rw [e1, e2]; omega
theorem cauchy : ∀ l : List Nat, (posN l + negN l) * (posN l + negN l) ≤ l.length * sqN l
  | [] => by simp [posN, negN]
  | b :: l => by
    have ih := cauchy l
    have hst := cauchy_step (x := (if ffin b && !fsgn b then kv (fmag b) else 0) + (if ffin b && fsgn b then kv (fmag b) else 0)) ih (by
      intro h
      have : l = [] := List.eq_nil_of_length_eq_zero h
      subst this; rfl)
    have hx : (if ffin b && !fsgn b then kv (fmag b) else 0) + (if ffin b && fsgn b then kv (fmag b) else 0) ≤ kv (fmag b) := by
      cases ffin b <;> cases fsgn b <;> simp
    show ((if ffin b && !fsgn b then kv (fmag b) else 0) + posN l + ((if ffin b && fsgn b then kv (fmag b) else 0) + negN l)) * ((if ffin b && !fsgn b then kv (fmag b) else 0) + posN l + ((if ffin b && fsgn b then kv (fmag b) else 0) + negN l)) ≤ (l.length + 1) * (kv (fmag b) * kv (fmag b) + sqN l)
    generalize (if ffin b && !fsgn b then kv (fmag b) else 0) = p at *
    generalize (if ffin b && fsgn b then kv (fmag b) else 0) = q at *
    rw [show p + posN l + (q + negN l) = posN l + negN l + (p + q) from by omega]
    refine Nat.le_trans hst (Nat.mul_le_mul_left _ ?_)
    have := Nat.mul_le_mul hx hx
    omega
theorem tot_sq (l : List Nat) : totN l * totN l ≤ l.length * sqN l := by
  refine Nat.le_trans ?_ (cauchy l)
  have : totN l ≤ posN l + negN l := by unfold totN; omega
  exact Nat.mul_le_mul this this
/-- Which edges a list has. -/
def hasNan (l : List Nat) : Bool := l.any fnan
def hasPlus (l : List Nat) : Bool := l.any fun b => finf b && !fsgn b
def hasLess (l : List Nat) : Bool := l.any fun b => finf b && fsgn b
def allNought (l : List Nat) : Bool := !l.isEmpty && l.all fun b => b == 9223372036854775808
/-- A sign above a magnitude's bits. -/
def sgnd (r : Nat) (minus : Bool) : Nat := if minus then r + 9223372036854775808 else r
/-- The sum of a list by n, rounded: its bits. -/
structure IsOver (l : List Nat) (n b : Nat) : Prop where
  none_ : (hasNan l || hasPlus l && hasLess l) = true → b = 9221120237041090560
  inf_ : (hasNan l || hasPlus l && hasLess l) = false → (hasPlus l || hasLess l) = true → b = sgnd 9218868437227405312 (hasLess l)
  nought : (hasNan l || hasPlus l || hasLess l) = false → totN l = 0 → b = sgnd 0 (allNought l)
  some_ : (hasNan l || hasPlus l || hasLess l) = false → totN l ≠ 0 → ∃ r, Near (totN l) n r ∧ b = sgnd r (decide (posN l < negN l))
theorem IsOver.one {l : List Nat} {n b c : Nat} (hn : 0 < n) (h : IsOver l n b) (k : IsOver l n c) : b = c := by
  by_cases h1 : (hasNan l || hasPlus l && hasLess l) = true
  · rw [h.none_ h1, k.none_ h1]
  · have h1' : (hasNan l || hasPlus l && hasLess l) = false := by simpa using h1
    by_cases h2 : (hasPlus l || hasLess l) = true
    · rw [h.inf_ h1' h2, k.inf_ h1' h2]
    · have h3 : (hasNan l || hasPlus l || hasLess l) = false := by
        revert h1' h2
        cases hasNan l <;> cases hasPlus l <;> cases hasLess l <;> simp
      by_cases h4 : totN l = 0
      · rw [h.nought h3 h4, k.nought h3 h4]
      · obtain ⟨r, hr, rfl⟩ := h.some_ h3 h4
        obtain ⟨s, hs, rfl⟩ := k.some_ h3 h4
        rw [hr.one hn hs]
/-- The least float is 2 ^ -K74. -/
def K74 : Nat := 1074
/-- The spread of a list, rounded: its bits. -/
structure IsSpread (l : List Nat) (b : Nat) : Prop where
  none_ : (l.isEmpty || (hasNan l || hasPlus l || hasLess l)) = true → b = 9221120237041090560
  some_ : (l.isEmpty || (hasNan l || hasPlus l || hasLess l)) = false → Near (l.length * sqN l - totN l * totN l) (l.length * l.length * 2 ^ K74) b
theorem IsSpread.one {l : List Nat} {b c : Nat} (h : IsSpread l b) (k : IsSpread l c) : b = c := by
  by_cases h1 : (l.isEmpty || (hasNan l || hasPlus l || hasLess l)) = true
  · rw [h.none_ h1, k.none_ h1]
  · have h1' : (l.isEmpty || (hasNan l || hasPlus l || hasLess l)) = false := by simpa using h1
    have hl : 0 < l.length := by
      rcases Nat.eq_zero_or_pos l.length with h0 | h0
      · have : l = [] := List.eq_nil_of_length_eq_zero h0
        subst this; simp at h1
      · exact h0
    exact (h.some_ h1').one (Nat.mul_pos (Nat.mul_pos hl hl) (Nat.pow_pos (by decide))) (k.some_ h1')
/-- A product of a significand and a power, held against a quotient. -/
theorem held_lt (a num den x K : Nat) : (a * den * 2 ^ ((x : Int) - K).toNat < num * 2 ^ (-((x : Int) - K)).toNat ↔ a * 2 ^ x * den < num * 2 ^ K) ∧
    (a * den * 2 ^ ((x : Int) - K).toNat = num * 2 ^ (-((x : Int) - K)).toNat ↔ a * 2 ^ x * den = num * 2 ^ K) := by
  have m : ∀ p q z : Nat, 0 < z → ((p * z < q * z ↔ p < q) ∧ (p * z = q * z ↔ p = q)) := fun p q z hz =>
    ⟨Nat.mul_lt_mul_right hz, ⟨fun h => Nat.eq_of_mul_eq_mul_right hz h, fun h => by rw [h]⟩⟩
  rcases Nat.le_total K x with h | h
  · have e1 : ((x : Int) - K).toNat = x - K := by omega
    have e2 : (-((x : Int) - K)).toNat = 0 := by omega
    have e3 : a * 2 ^ x * den = a * den * 2 ^ (x - K) * 2 ^ K := by
      rw [Nat.mul_assoc (a * den), ← Nat.pow_add, show x - K + K = x from by omega]
      rw [Nat.mul_assoc, Nat.mul_comm (2 ^ x), ← Nat.mul_assoc]
    rw [e1, e2, e3, Nat.pow_zero, Nat.mul_one]
    obtain ⟨m1, m2⟩ := m (a * den * 2 ^ (x - K)) num (2 ^ K) (Nat.pow_pos (by decide))
    exact ⟨m1.symm, m2.symm⟩
  · have e1 : ((x : Int) - K).toNat = 0 := by omega
    have e2 : (-((x : Int) - K)).toNat = K - x := by omega
    have e3 : num * 2 ^ K = num * 2 ^ (K - x) * 2 ^ x := by
      rw [Nat.mul_assoc, ← Nat.pow_add, show K - x + x = K from by omega]
    have e4 : a * 2 ^ x * den = a * den * 2 ^ x := by rw [Nat.mul_assoc, Nat.mul_comm (2 ^ x), ← Nat.mul_assoc]
    rw [e1, e2, e3, e4, Nat.pow_zero, Nat.mul_one]
    obtain ⟨m1, m2⟩ := m (a * den) (num * 2 ^ (K - x)) (2 ^ x) (Nat.pow_pos (by decide))
    exact ⟨m1.symm, m2.symm⟩
/-- A magnitude's significand and exponent, as 'parts' and 'whole' give them. -/
def psig (m : Nat) : Nat := if m < 4503599627370496 then m else 4503599627370496 + m % 4503599627370496
theorem kv_psig (m : Nat) : kv m = psig m * 2 ^ kx m := by
  unfold kv psig kx
  split
  · rw [show m / 4503599627370496 - 1 = 0 from by omega]; simp
  · rfl
theorem kv_mid (m : Nat) : kv m + kv (m + 1) = (2 * psig m + 1) * 2 ^ kx m := by
  rw [kv_succ, kv_psig, Nat.add_mul, Nat.one_mul, Nat.mul_assoc]; omega
end Go.Proofs.YtigbbogfnchgnaaGreatDoor
namespace Go.Proofs.YtigbbogfnchgnaaGreatDoor
set_option linter.unusedVariables false

theorem nval_cons (B x : Nat) (l : List Nat) : nval B (x :: l) = x + B * nval B l := rfl
/-- The digit at a place. -/
theorem nval_digit {B : Nat} (hB : 0 < B) : ∀ {l : List Nat} (q : Nat), (∀ x ∈ l, x < B) → nval B l / B ^ q % B = l.getD q 0
  | [], q, _ => by simp [nval]
  | x :: l, 0, h => by
    have hx := h x List.mem_cons_self
    rw [nval_cons, Nat.pow_zero, Nat.div_one, Nat.add_mul_mod_self_left, Nat.mod_eq_of_lt hx]; rfl
  | x :: l, q + 1, h => by
    have hx := h x List.mem_cons_self
    have ih := nval_digit hB (l := l) q fun y hy => h y (List.mem_cons_of_mem _ hy)
    rw [nval_cons, Nat.pow_succ, Nat.mul_comm (B ^ q) B, ← Nat.div_div_eq_div_mul, Nat.add_mul_div_left _ _ hB, Nat.div_eq_of_lt hx, Nat.zero_add, ih]
    rfl
theorem Lb.digit {B N : Nat} {l : List Nat} (h : Lb B N l) (hB : 0 < B) (q : Nat) : N / B ^ q % B = l.getD q 0 := by rw [← h.val]; exact nval_digit hB q h.rng
/-- The bit at a place of a number whose digits have 64 bits. -/
theorem Lb.bit {N : Nat} {l : List Nat} (h : Lb 18446744073709551616 N l) (i : Nat) : N / 2 ^ i % 2 = l.getD (i / 64) 0 / 2 ^ (i % 64) % 2 := by
  rw [← h.digit (by decide) (i / 64)]
  have e1 : (18446744073709551616 : Nat) ^ (i / 64) = 2 ^ (64 * (i / 64)) := by rw [Nat.pow_mul]
  rw [e1]
  have e2 : 2 ^ i = 2 ^ (64 * (i / 64)) * 2 ^ (i % 64) := by rw [← Nat.pow_add]; congr 1; omega
  rw [e2, ← Nat.div_div_eq_div_mul]
  generalize N / 2 ^ (64 * (i / 64)) = M
  have e3 : (18446744073709551616 : Nat) = 2 ^ (i % 64) * (2 ^ (64 - i % 64 - 1) * 2) := by
    rw [← Nat.pow_succ, ← Nat.pow_add, show i % 64 + (64 - i % 64 - 1).succ = 64 from by omega]
  rw [e3, Nat.mod_mul_right_div_self, Nat.mod_mul_left_mod]
/-- Digits of 64 bits behind the end are nought. -/
theorem Lb.bits {N : Nat} {l : List Nat} {t : Nat} (h : Lb 18446744073709551616 N l) (hl : l ≠ []) (ht : l.getD (l.length - 1) 0 = t) : N ≠ 0 ∧ t ≠ 0 ∧ N.log2 = 64 * (l.length - 1) + t.log2 := by
  obtain ⟨m, x, rfl⟩ := last_split hl
  have hlen : (m ++ [x]).length - 1 = m.length := by simp
  rw [hlen] at ht ⊢
  have hx : x = t := by
    rw [← ht, List.getD, List.getElem?_append_right (Nat.le_refl _)]; simp
  subst hx
  have htop := h.top
  rw [List.getLast?_append] at htop
  have hx0 : x ≠ 0 := by rintro rfl; exact htop rfl
  have hv := h.val
  rw [nval_snoc] at hv
  have hlt : nval 18446744073709551616 m < 18446744073709551616 ^ m.length := nval_lt fun y hy => h.rng y (List.mem_append_left _ hy)
  have e1 : (18446744073709551616 : Nat) ^ m.length = 2 ^ (64 * m.length) := by rw [Nat.pow_mul]
  rw [e1] at hv hlt
  have hp : 0 < 2 ^ (64 * m.length) := Nat.pow_pos (by decide)
  have hge : 2 ^ (64 * m.length) * 1 ≤ 2 ^ (64 * m.length) * x := Nat.mul_le_mul_left _ (Nat.pos_of_ne_zero hx0)
  have hN : N ≠ 0 := by omega
  refine ⟨hN, hx0, ?_⟩
  rw [Nat.log2_eq_iff hN]
  have a1 := Nat.log2_self_le hx0
  have a2 : x < 2 ^ (x.log2 + 1) := Nat.lt_log2_self
  constructor
  · rw [Nat.pow_add]
    have := Nat.mul_le_mul_left (2 ^ (64 * m.length)) a1
    omega
  · rw [Nat.add_assoc, Nat.pow_add]
    have : 2 ^ (64 * m.length) * (x + 1) ≤ 2 ^ (64 * m.length) * 2 ^ (x.log2 + 1) := Nat.mul_le_mul_left _ a2
    rw [Nat.mul_add] at this
    omega
/-- A number's bits from a place on, read one by one from above. -/
theorem bits_step (N k j : Nat) : N / 2 ^ (k + (j + 1)) % 2 ^ (64 - (j + 1)) * 2 + N / 2 ^ (k + j) % 2 = N / 2 ^ (k + j) % (2 ^ (64 - (j + 1)) * 2) := by
  rw [← Nat.add_assoc, Nat.pow_succ, ← Nat.div_div_eq_div_mul]
  generalize N / 2 ^ (k + j) = M
  rw [Nat.mul_comm (2 ^ (64 - (j + 1))) 2, Nat.mod_mul (x := M) (a := 2) (b := 2 ^ (64 - (j + 1)))]
  omega
/-- Is something left below a place? One bit more. -/
theorem low_step (N i : Nat) : N % 2 ^ (i + 1) ≠ 0 ↔ (N % 2 ^ i ≠ 0 ∨ N / 2 ^ i % 2 = 1) := by
  rw [Nat.pow_succ, Nat.mod_mul]
  have hp : 0 < 2 ^ i := Nat.pow_pos (by decide)
  have h2 : N / 2 ^ i % 2 = 0 ∨ N / 2 ^ i % 2 = 1 := by omega
  rcases h2 with h | h
  · rw [h]; simp
  · rw [h]; omega
/-- A division's next digit from above: r is what was left, x the digit. -/
theorem div_next {B d r x Q : Nat} (a : List Nat) {i : Nat} (hd : 0 < d) (hx : a.getD i 0 = x) (hi : i < a.length) (h : nval B (a.drop (i + 1)) = Q * d + r) :
    nval B (a.drop i) = ((r * B + x) / d + B * Q) * d + (r * B + x) % d := by
  rw [List.drop_eq_getElem_cons hi, nval_cons, h]
  have e : a[i] = x := by rw [← hx, List.getD, List.getElem?_eq_getElem hi]; rfl
  have e2 := Nat.div_add_mod (r * B + x) d
  have e3 : ((r * B + x) / d + B * Q) * d = d * ((r * B + x) / d) + B * Q * d := by rw [Nat.add_mul, Nat.mul_comm d]
  have e4 : B * (Q * d + r) = B * Q * d + r * B := by rw [Nat.mul_add, Nat.mul_assoc, Nat.mul_comm B r]
  rw [e, e3, e4]
  omega
theorem nval_drop_set {B : Nat} {L : List Nat} {i x : Nat} (hi : i < L.length) : nval B ((L.set i x).drop i) = x + B * nval B (L.drop (i + 1)) := by
  rw [List.drop_eq_getElem_cons (by simpa using hi), nval_cons]
  congr 1
  · simp
  · congr 2
    rw [List.drop_set_of_lt (by omega)]
end Go.Proofs.YtigbbogfnchgnaaGreatDoor
namespace Go.Proofs.YtigbbogfnchgnaaGreatDoor
open Go.RowKit
set_option linter.unusedVariables false

/-- Digits as cells. -/
def digs (k : IntKind) (l : List Nat) : List Value := l.map fun (x : Nat) => Value.int k (x : Int)
theorem digs_len (k : IntKind) (l : List Nat) : (digs k l).length = l.length := by simp [digs]
theorem digs_app (k : IntKind) (a b : List Nat) : digs k (a ++ b) = digs k a ++ digs k b := by simp [digs]
theorem digs_one (k : IntKind) (x : Nat) : digs k [x] = [Value.int k (x : Int)] := rfl
theorem digs_nil (k : IntKind) : digs k [] = [] := rfl
theorem digs_take (k : IntKind) (l : List Nat) (n : Nat) : digs k (l.take n) = (digs k l).take n := by simp [digs]
theorem digs_set (k : IntKind) (l : List Nat) (i x : Nat) : digs k (l.set i x) = (digs k l).set i (.int k (x : Int)) := by simp [digs]
theorem digs_getD {k : IntKind} {l : List Nat} {i : Nat} (h : i < l.length) : (digs k l).getD i undef = .int k ((l.getD i 0 : Nat) : Int) := by
  simp [digs, List.getD, List.getElem?_eq_getElem h]
theorem digs_one' (k : IntKind) (l : List Nat) : ∀ u ∈ digs k l, u.oneCell' = true := by intro u hu; obtain ⟨z, _, rfl⟩ := List.mem_map.1 hu; rfl
theorem digs_zeros (k : IntKind) (n : Nat) : List.replicate n (Value.int k 0) = digs k (List.replicate n 0) := by simp [digs]
theorem rows_pre {w : World} {B n j : Nat} {A : Option Addr} {xs : List Value} (h : Reads w B 1 A n xs) (hj : j ≤ n) : Reads w B 1 A j (xs.take j) := by
  have hl : xs.length = n := by simpa using h.1
  refine ⟨by simp; omega, fun h0 => ?_⟩
  obtain ⟨ad, rfl, hb, hc⟩ := h.2 (by omega)
  refine ⟨ad, rfl, hb, fun i u hu => hc i u ?_⟩
  rw [List.getElem?_take] at hu
  split at hu
  · exact hu
  · cases hu
/-- A slice that stands for a number. -/
structure IsN (w : World) (Bk : Nat) (k : IntKind) (B : Nat) (A : Option Addr) (c : Nat) (l : List Nat) (N : Nat) : Prop where
  cap : l.length ≤ c
  lb : Lb B N l
  rd : Reads w Bk 1 A l.length (digs k l)
section
variable {w w' : World} {Bk Bk' : Nat} {k : IntKind} {B : Nat} {A : Option Addr} {c : Nat} {l : List Nat} {N : Nat}
theorem IsN.nil : IsN w Bk k B none 0 [] 0 := ⟨Nat.le_refl _, Lb.nil, Reads.none_⟩
theorem IsN.below (h : IsN w w.heap.size k B A c l N) (hb : Below w.heap.size w w') : IsN w' w'.heap.size k B A c l N := ⟨h.cap, h.lb, (h.rd.below hb).more hb.size⟩
theorem IsN.more (h : IsN w Bk k B A c l N) (hb : Bk ≤ Bk') : IsN w Bk' k B A c l N := ⟨h.cap, h.lb, h.rd.more hb⟩
theorem IsN.at_ (h : IsN w Bk k B A c l N) {i : Nat} (hi : i < l.length) : ∃ b off, A = some ⟨b, off, none⟩ ∧ b < Bk ∧ b < w.heap.size ∧ w.cell? ⟨b, off + i, none⟩ = some (.int k ((l.getD i 0 : Nat) : Int)) := by
  obtain ⟨b, off, e, h1, h2, h3⟩ := h.rd.form (by omega)
  exact ⟨b, off, e, h1, h2, by rw [h3 i hi, digs_getD hi]⟩
theorem IsN.dig (h : IsN w Bk k B A c l N) (hB : 0 < B) (i : Nat) : l.getD i 0 < B := by
  rw [List.getD]
  rcases Nat.lt_or_ge i l.length with hi | hi
  · rw [List.getElem?_eq_getElem hi]; exact h.lb.rng _ (List.getElem_mem hi)
  · rw [List.getElem?_eq_none hi]; exact hB
/-- Out of a row of the call's own, its noughts cut off. -/
theorem isN_trim {l : List Nat} {n : Nat} (hr : Reads w Bk 1 A n (digs k l)) (hn : n = l.length) (hc : n ≤ c) (hB : ∀ x ∈ l, x < B) : IsN w Bk k B A c (trimN l) (nval B l) :=
  ⟨by rw [trimN_len]; have := kpN_le l l.length; omega, trimN_lb hB, by
    subst hn
    rw [trimN_len]
    unfold trimN
    rw [digs_take]
    exact rows_pre hr (kpN_le l _)⟩
end
/-- New memory that stands for a number. -/
def NewN (k : IntKind) (B : Nat) (N : Nat) (w : World) (e : Ending) (w' : World) : Prop :=
  ∃ A c l, e = .returned (.slice A l.length c) ∧ IsN w' w'.heap.size k B A c l N ∧ Below w.heap.size w w'
/-- How great numbers here may be. -/
def nexp : Nat := 65536
def nbig : Nat := 2 ^ nexp
theorem len_big {B N : Nat} {l : List Nat} (h : Lb B N l) (hB : 2 ≤ B) (hN : N < nbig) : l.length ≤ 65536 := by
  by_cases hl : l = []
  · subst hl; exact Nat.zero_le _
  · have h1 := h.le hl
    have h2 : 2 ^ (l.length - 1) ≤ B ^ (l.length - 1) := Nat.pow_le_pow_left hB _
    have h3 : 2 ^ (l.length - 1) < 2 ^ nexp := Nat.lt_of_le_of_lt (Nat.le_trans h2 h1) hN
    have h4 := (Nat.pow_lt_pow_iff_right (by decide)).1 h3
    unfold nexp at h4
    omega
end Go.Proofs.YtigbbogfnchgnaaGreatDoor
namespace Go.Proofs.YtigbbogfnchgnaaGreatDoor
open Go.RowKit
set_option linter.unusedVariables false

theorem kp_walk {l : List Nat} {n k : Nat} (h : kpN l n = kpN l k) (hk : 0 < k) : (l.getD (k - 1) 0 = 0 → kpN l n = kpN l (k - 1)) ∧ (l.getD (k - 1) 0 ≠ 0 → kpN l n = k) := by
  obtain ⟨j, rfl⟩ : ∃ j, k = j + 1 := ⟨k - 1, by omega⟩
  rw [Nat.add_sub_cancel]
  exact ⟨fun h0 => by rw [h, kpN_go h0], fun h0 => by rw [h, kpN_stop h0]⟩
set_option maxHeartbeats 400000 in
theorem c_rtrim (A : Option Addr) (c : Nat) (l : List Nat) (w : World) (Bk : Nat) (hr : Reads w Bk 1 A l.length (digs .u32 l)) (hc : l.length ≤ c) (hn : l.length ≤ 140737488351232) :
    Calls Tryz.prog 77 #[.slice A l.length c] w fun e w' => e = .returned (.slice A (trimN l).length c) ∧ w = w' := by
  have HF := Lib.hid (trimN_len l)
  have HR := Lib.hid hr
  generalize hL : l.length = n at *
  have HL := Lib.hid hL
  clear hL hr
  go_enter Tryz.func77, Tryz.ntmps77
  go_wp2
  go_loop [3] (fun v => ∃ k : Nat, k ≤ n ∧ v = .int .i64 k ∧ Hid (kpN l n = kpN l k)) (fun v => (intOf v).toNat)
  case atStart => exact ⟨n, Nat.le_refl _, rfl, rfl⟩
  case round =>
    obtain ⟨k, hk, rfl, HK⟩ := hrel
    have hkc : k ≤ c := by omega
    by_cases h0 : 0 < k
    · obtain ⟨b, off, rfl, hbB, hbw, hcells⟩ := HR.out.form (by omega)
      have hcell := hcells (k - 1) (by omega)
      rw [digs_getD (by have := HL.out; omega)] at hcell
      have HW := Lib.hid (kp_walk HK.out h0)
      clear hcells
      generalize hz : l.getD (k - 1) 0 = z at *
      by_cases h1 : z = 0
      · have hz' : ((z : Int) == 0) = true := by simp [h1]
        have HZ : Hid (kpN l n = kpN l (k - 1)) := HW.out.1 h1
        clear h1 hz HW
        go_wp2
        go_round
        case rel => exact ⟨k - 1, by omega, by go_num, HZ⟩
        case measure => simp [intOf]; omega
      · have hz' : ((z : Int) == 0) = false := by simp [h1]
        have HZ : Hid (kpN l n = k) := HW.out.2 h1
        clear h1 hz HW
        go_wp2
        go_ret
        exact ⟨by rw [HF.out, HZ.out]; rfl, rfl⟩
    · have HZ : Hid (kpN l n = k) := by
        show kpN l n = k
        rw [HK.out]
        obtain rfl : k = 0 := by omega
        rfl
      go_wp2
      go_ret
      exact ⟨by rw [HF.out, HZ.out]; rfl, rfl⟩
/-- -1, 0, 1: below, the same, above. -/
def ncmp (a b : Nat) : Int := if a < b then -1 else if b < a then 1 else 0
theorem ncmp_lt {a b : Nat} (h : a < b) : ncmp a b = -1 := if_pos h
theorem ncmp_gt {a b : Nat} (h : b < a) : ncmp a b = 1 := by unfold ncmp; rw [if_neg (by omega), if_pos h]
theorem ncmp_eq {a b : Nat} (h : a = b) : ncmp a b = 0 := by unfold ncmp; rw [if_neg (by omega), if_neg (by omega)]
set_option maxHeartbeats 800000 in
theorem c_rcmp (A A' : Option Addr) (c c' : Nat) (l m : List Nat) (N M : Nat) (w : World) (Bk : Nat) (h : IsN w Bk .u32 4294967296 A c l N) (h' : IsN w Bk .u32 4294967296 A' c' m M) (hn : l.length ≤ 140737488351232) (hn' : m.length ≤ 140737488351232) :
    Calls Tryz.prog 61 #[.slice A l.length c, .slice A' m.length c'] w fun e w' => e = .returned (.int .i64 (ncmp N M)) ∧ Below w.heap.size w w' := by
  have hr := h.rd
  have hr' := h'.rd
  have HB := Lib.hid h.lb
  have HB' := Lib.hid h'.lb
  by_cases hnn : l.length = m.length
  · have HLL := Lib.hid hnn
    obtain ⟨n, hL⟩ : ∃ n, l.length = n := ⟨_, rfl⟩
    have HL := Lib.hid hL
    rw [← hnn, hL] at hr' ⊢
    rw [hL] at hr hn
    have HR := Lib.hid hr
    have HR' := Lib.hid hr'
    clear h h' hnn hL hn' hr hr'
    go_enter Tryz.func61, Tryz.ntmps61
    go_wp2
    go_loopw [5] (fun i wr => ∃ k d : Nat, k ≤ n ∧ i = .int .i64 ((k : Int) - 1) ∧ Hid (l.drop k = m.drop k) ∧ wr = w.drewN d) (fun i _ => (intOf i + 1).toNat)
    case atStart => exact ⟨n, 0, Nat.le_refl _, rfl, by show _ = _; rw [List.drop_of_length_le (by have := HL.out; omega), List.drop_of_length_le (by have := HL.out; have := HLL.out; omega)], rfl⟩
    case round =>
      obtain ⟨k, d, hk, rfl, HT, rfl⟩ := hrel
      by_cases h0 : 0 < k
      · obtain ⟨j, rfl⟩ : ∃ j, k = j + 1 := ⟨k - 1, by omega⟩
        rw [show (((j + 1 : Nat) : Int) - 1) = (j : Int) from by omega]
        obtain ⟨b, off, rfl, hbB, hbw, hcells⟩ := HR.out.form (by omega)
        obtain ⟨b', off', rfl, hbB', hbw', hcells'⟩ := HR'.out.form (by omega)
        have hcell := hcells j (by omega)
        have hcell' := hcells' j (by omega)
        rw [digs_getD (by have := HL.out; omega)] at hcell
        rw [digs_getD (by have := HL.out; have := HLL.out; omega)] at hcell'
        clear hcells hcells'
        have HG : Hid (l.getD j 0 < m.getD j 0 → N < M) := fun hx => by
          rw [← HB.out.val, ← HB'.out.val]
          exact nval_cmp HLL.out HB.out.rng HB'.out.rng HT.out (by have := HL.out; omega) hx
        have HG' : Hid (m.getD j 0 < l.getD j 0 → M < N) := fun hx => by
          rw [← HB.out.val, ← HB'.out.val]
          exact nval_cmp HLL.out.symm HB'.out.rng HB.out.rng HT.out.symm (by have := HL.out; have := HLL.out; omega) hx
        have HE : Hid (l.getD j 0 = m.getD j 0 → l.drop j = m.drop j) := fun hx => drop_eq_step HLL.out (by have := HL.out; omega) HT.out hx
        generalize l.getD j 0 = x at *
        generalize m.getD j 0 = y at *
        rcases Nat.lt_trichotomy x y with hxy | hxy | hxy
        · have HO : Hid (N < M) := HG.out hxy
          clear HG HG' HE HT
          go_wp2
          go_quiet (fail)
          go_wp2
          go_ret
          exact ⟨by rw [ncmp_lt HO.out]; rfl, below_drewN (below_drewN (Below.refl _ _) _) _⟩
        · have HO : Hid (l.drop j = m.drop j) := HE.out hxy
          have n1 : ¬ (x : Int) < (y : Int) := by omega
          have n2 : ¬ (y : Int) < (x : Int) := by omega
          clear HG HG' HE HT hxy
          go_wp2
          go_quiet (fail)
          go_wp2
          go_quiet (fail)
          go_wp2
          go_roundw
          case rel => exact ⟨j, _, by omega, rfl, HO, rfl⟩
          case measure => simp [intOf]
        · have HO : Hid (M < N) := HG'.out hxy
          have n1 : ¬ (x : Int) < (y : Int) := by omega
          clear HG HG' HE HT
          go_wp2
          go_quiet (fail)
          go_wp2
          go_quiet (fail)
          go_wp2
          go_ret
          exact ⟨by rw [ncmp_gt HO.out]; rfl, below_drewN (below_drewN (below_drewN (Below.refl _ _) _) _) _⟩
      · obtain rfl : k = 0 := by omega
        have HO : Hid (N = M) := by
          have := HT.out
          simp only [List.drop_zero] at this
          show N = M
          rw [← HB.out.val, ← HB'.out.val, this]
        clear HT
        have hneg : ¬ (0 : Int) ≤ ((0 : Nat) : Int) - 1 := by omega
        go_wp2
        go_ret
        exact ⟨by rw [ncmp_eq HO.out]; rfl, below_drewN (Below.refl _ _) _⟩
  · have hne : ((l.length : Int) != (m.length : Int)) = true := by simp; omega
    rcases Nat.lt_or_ge l.length m.length with hx | hx
    · have HO : Hid (N < M) := Lb.shorter (by decide) HB.out HB'.out hx
      clear h h' hnn hr hr'
      generalize l.length = n at *
      generalize m.length = n' at *
      go_enter Tryz.func61, Tryz.ntmps61
      go_wp2
      go_ret
      exact ⟨by rw [ncmp_lt HO.out]; rfl, Below.refl _ _⟩
    · have HO : Hid (M < N) := Lb.shorter (by decide) HB'.out HB.out (by omega)
      clear h h' hnn hr hr'
      generalize l.length = n at *
      generalize m.length = n' at *
      go_enter Tryz.func61, Tryz.ntmps61
      go_wp2
      go_ret
      exact ⟨by rw [ncmp_gt HO.out]; rfl, Below.refl _ _⟩
end Go.Proofs.YtigbbogfnchgnaaGreatDoor
namespace Go.Proofs.YtigbbogfnchgnaaGreatDoor
open Go.RowKit
set_option linter.unusedVariables false

theorem u64_info : (Tryz.prog.info? 73).map (fun i => (i.zero, i.size, i.bytes)) = some (some (.int .u64 0), 1, 8) := by kernel_rfl
theorem u32_info : (Tryz.prog.info? 93).map (fun i => (i.zero, i.size, i.bytes)) = some (some (.int .u32 0), 1, 4) := by kernel_rfl
/-- What holds ahead of a round of a sum: i digits are there, y is carried. -/
structure AddS (B : Nat) (kd : IntKind) (t : TypeId) (w wr : World) (l m : List Nat) (i : Nat) (A0 : Option Addr) (c0 : Nat) (L : List Nat) (y : Nat) : Prop where
  own : wr.ownsRow w.heap.size t 1 (.slice A0 i c0) i (digs kd L)
  len : L.length = i
  rng : ∀ x ∈ L, x < B
  eq : nval B L + y * B ^ i = nval B (l.take i) + nval B (m.take i)
  bel : Below w.heap.size w wr
/-- Behind an append: one digit more, or another row of it. -/
theorem own_next {w wr w2 : World} {t : TypeId} {v : Value} {i : Nat} {xs : List Value} {o : Obj} (ho : (wr.alloc o).ownsRow w.heap.size t 1 v i xs) (hb : Below w.heap.size w wr) (hg : (wr.alloc o).grownBy w2 v.ownBlock) : Below w.heap.size w w2 :=
  below_own (hb.alloc hb.size _) ho hg
theorem rng_snoc {B : Nat} {L : List Nat} {s : Nat} (h : ∀ x ∈ L, x < B) (hs : s < B) : ∀ x ∈ L ++ [s], x < B := by
  intro x hx
  rcases List.mem_append.1 hx with hx | hx
  · exact h x hx
  · rw [List.mem_singleton.1 hx]; exact hs
theorem digs_snoc (k : IntKind) (L : List Nat) (s : Nat) : digs k L ++ [Value.int k (s : Int)] = digs k (L ++ [s]) := by simp [digs]
theorem getD_big {l : List Nat} {i : Nat} (h : l.length ≤ i) : l.getD i 0 = 0 := by rw [List.getD, List.getElem?_eq_none h]; rfl
theorem built64 (x : Int) : Tryz.prog.builtSlice 73 1 [(0, .int .u64 x)] = some #[.int .u64 x] := by kernel_rfl
theorem built32 (x : Int) : Tryz.prog.builtSlice 93 1 [(0, .int .u32 x)] = some #[.int .u32 x] := by kernel_rfl
end Go.Proofs.YtigbbogfnchgnaaGreatDoor
namespace Go.Proofs.YtigbbogfnchgnaaGreatDoor
open Go.RowKit
set_option linter.unusedVariables false

theorem set_take {L : List Nat} {i d : Nat} (h : i < L.length) : (L.set i d).take (i + 1) = L.take i ++ [d] := by
  rw [List.take_succ_eq_append_getElem (by simpa using h), List.getElem_set_self, List.take_set, List.set_eq_of_length_le (by simp; omega)]
theorem blk_made (w : World) (t : TypeId) (k : IntKind) (n : Nat) (i0 : TypeInfo) (hz1 : i0.size = 1) : Blk (w.alloc (.cells (madeCells (Value.cells (.int k 0)) (n * i0.size)) t)) w.heap.size t (digs k (List.replicate n 0)).toArray := by
  have h := Blk.new w t (madeCells (Value.cells (.int k 0)) (n * i0.size))
  have e : madeCells (Value.cells (.int k 0)) (n * i0.size) = (digs k (List.replicate n 0)).toArray := by
    rw [hz1, Nat.mul_one, ← digs_zeros]
    have := toList_madeCells_one (Value.int k 0) n
    show madeCells #[Value.int k 0] n = _
    rw [← this]
  rw [e] at h ⊢
  exact h
theorem blk_cell {w : World} {g : Nat} {t : TypeId} {k : IntKind} {L : List Nat} {i : Nat} (h : Blk w g t (digs k L).toArray) (hi : i < L.length) : w.cell? ⟨g, i, none⟩ = some (.int k ((L.getD i 0 : Nat) : Int)) := by
  rw [h.cell i, List.getElem?_toArray, List.getElem?_eq_getElem (by rw [digs_len]; exact hi)]
  have := digs_getD (k := k) hi
  rw [List.getD, List.getElem?_eq_getElem (by rw [digs_len]; exact hi)] at this
  rw [← this]; rfl
theorem blk_store {w : World} {g : Nat} {t : TypeId} {k : IntKind} {L : List Nat} (h : Blk w g t (digs k L).toArray) (i x : Nat) : Blk (w.setCell ⟨g, i, none⟩ (.int k (x : Int))) g t (digs k (L.set i x)).toArray := by
  have := h.set_ i (.int k (x : Int))
  rw [digs_set]
  simpa using this
theorem blk_reads {w : World} {g : Nat} {t : TypeId} {k : IntKind} {L : List Nat} (h : Blk w g t (digs k L).toArray) : Reads w w.heap.size 1 (some ⟨g, 0, none⟩) L.length (digs k L) :=
  ⟨by rw [digs_len, Nat.mul_one], fun _ => ⟨_, rfl, h.lt, fun j u hu => by
    have e : (⟨g, 0, none⟩ : Addr).add j = ⟨g, j, none⟩ := by
      unfold Addr.add
      split
      · rename_i hj; subst hj; rfl
      · simp
    rw [e, h.cell j, List.getElem?_toArray]; exact hu⟩⟩
/-- What holds ahead of a round of a difference in place: i digits are there, y is borrowed. -/
structure SubS (B : Nat) (kd : IntKind) (t : TypeId) (w wr : World) (g : Nat) (l m : List Nat) (i : Nat) (L : List Nat) (y : Nat) : Prop where
  blk : Blk wr g t (digs kd L).toArray
  len : L.length = l.length
  rng : ∀ x ∈ L, x < B
  eq : nval B (l.take i) + y * B ^ i = nval B (L.take i) + nval B (m.take i)
  bel : Below w.heap.size w wr
theorem rng_set {B : Nat} {L : List Nat} {i s : Nat} (h : ∀ x ∈ L, x < B) (hs : s < B) : ∀ x ∈ L.set i s, x < B := by
  intro x hx
  rcases List.mem_or_eq_of_mem_set hx with hx | hx
  · exact h x hx
  · rw [hx]; exact hs
theorem sub_end {B N M S y K : Nat} (h : N + y * K = S + M) (hS : S < K) (hM : M ≤ N) : S = N - M := by
  rcases Nat.eq_zero_or_pos y with rfl | hy
  · omega
  · have : 1 * K ≤ y * K := Nat.mul_le_mul_right K hy
    omega
theorem sub64_eq {x y c : Nat} (hx : x < 18446744073709551616) (hy : y < 18446744073709551616) (hc : c ≤ 1) :
    x + (if x < y + c then 1 else 0) * 18446744073709551616 = (x + 18446744073709551616 - y - c) % 18446744073709551616 + y + c := by
  split <;> omega
/-- What holds ahead of a round of a difference that is appended to. -/
structure DifS (B : Nat) (kd : IntKind) (t : TypeId) (w wr : World) (l m : List Nat) (i : Nat) (A0 : Option Addr) (c0 : Nat) (L : List Nat) (y : Nat) : Prop where
  own : wr.ownsRow w.heap.size t 1 (.slice A0 i c0) i (digs kd L)
  len : L.length = i
  rng : ∀ x ∈ L, x < B
  eq : nval B (l.take i) + y * B ^ i = nval B L + nval B (m.take i)
  bel : Below w.heap.size w wr
/-- One digit of the document's difference, in words of 64 bits. -/
theorem rsub_digit {x1 x2 y : Nat} (h1 : x1 < 4294967296) (h2 : x2 < 4294967296) (hy : y ≤ 1) : ∃ D1 D2 q y2 : Nat,
    IntKind.u64.wrap ((x1 : Int) - y) = D1 ∧ IntKind.u64.wrap ((D1 : Int) - x2) = D2 ∧ (D2 : Int) % 4294967296 = q ∧ (D2 : Int) / 9223372036854775808 = y2 ∧
    q < 4294967296 ∧ y2 ≤ 1 ∧ x1 + y2 * 4294967296 = q + x2 + y ∧ D1 < 18446744073709551616 ∧ D2 < 18446744073709551616 := by
  have wr : ∀ z : Int, IntKind.u64.wrap z = z % 18446744073709551616 := fun z => rfl
  simp only [wr]
  by_cases c1 : y ≤ x1
  · by_cases c2 : x2 ≤ x1 - y
    · exact ⟨x1 - y, x1 - y - x2, x1 - y - x2, 0, by omega, by omega, by omega, by omega, by omega, by omega, by omega, by omega, by omega⟩
    · exact ⟨x1 - y, x1 - y + 18446744073709551616 - x2, x1 - y + 4294967296 - x2, 1, by omega, by omega, by omega, by omega, by omega, by omega, by omega, by omega, by omega⟩
  · exact ⟨18446744073709551615, 18446744073709551615 - x2, 4294967295 - x2, 1, by omega, by omega, by omega, by omega, by omega, by omega, by omega, by omega, by omega⟩
end Go.Proofs.YtigbbogfnchgnaaGreatDoor
namespace Go.Proofs.YtigbbogfnchgnaaGreatDoor
open Go.RowKit
set_option linter.unusedVariables false
attribute [local go_sem ↓] Go.wp_at_zero Go.wp_at_succ

/-- One digit of a product, by two words and two carries. -/
theorem mul_digits {a b o c hi lo s1 c1 s2 c2 : Nat} (ha : a < 18446744073709551616) (hb : b < 18446744073709551616) (ho : o < 18446744073709551616) (hc : c < 18446744073709551616)
    (h1 : hi = a * b / 18446744073709551616) (h2 : lo = a * b % 18446744073709551616) (h3 : s1 = (lo + o + 0) % 18446744073709551616) (h4 : c1 = (lo + o + 0) / 18446744073709551616)
    (h5 : s2 = (s1 + c + 0) % 18446744073709551616) (h6 : c2 = (s1 + c + 0) / 18446744073709551616) :
    s2 = (o + a * b + c) % 18446744073709551616 ∧ hi + c1 + c2 = (o + a * b + c) / 18446744073709551616 ∧ hi + c1 < 18446744073709551616 ∧ hi + c1 + c2 < 18446744073709551616 ∧ hi < 18446744073709551616 ∧ lo < 18446744073709551616 ∧ c1 ≤ 1 ∧ c2 ≤ 1 ∧ s1 < 18446744073709551616 ∧ s2 < 18446744073709551616 := by
  have hp : a * b ≤ 18446744073709551615 * 18446744073709551615 := Nat.mul_le_mul (by omega) (by omega)
  generalize a * b = P at *
  omega
theorem getD_zeros (n j : Nat) : (List.replicate n 0).getD j 0 = 0 := by
  rw [List.getD]
  rcases Nat.lt_or_ge j n with hj | hj
  · rw [List.getElem?_replicate_of_lt hj]; rfl
  · rw [List.getElem?_eq_none (by simpa using hj)]; rfl
/-- What holds ahead of a row of a product. -/
structure MulO (B : Nat) (kd : IntKind) (t : TypeId) (w wr : World) (g : Nat) (l m : List Nat) (i : Nat) (L : List Nat) : Prop where
  blk : Blk wr g t (digs kd L).toArray
  len : L.length = l.length + m.length
  rng : ∀ x ∈ L, x < B
  eq : nval B L = nval B (l.take i) * nval B m
  zero : ∀ j, i + m.length ≤ j → L.getD j 0 = 0
  bel : Below w.heap.size w wr
/-- What holds within a row: k digits of it are there, y is carried. -/
structure MulI (B : Nat) (kd : IntKind) (t : TypeId) (w wr : World) (g : Nat) (l m : List Nat) (i k : Nat) (L : List Nat) (y : Nat) : Prop where
  blk : Blk wr g t (digs kd L).toArray
  len : L.length = l.length + m.length
  rng : ∀ x ∈ L, x < B
  eq : nval B L + y * B ^ (i + k) = nval B (l.take i) * nval B m + B ^ i * (l.getD i 0 * nval B (m.take k))
  zero : ∀ j, i + m.length ≤ j → L.getD j 0 = 0
  bel : Below w.heap.size w wr
theorem MulO.start {B : Nat} {kd : IntKind} {t : TypeId} {w wr : World} {g : Nat} {l m L : List Nat} {i : Nat} (h : MulO B kd t w wr g l m i L) : MulI B kd t w wr g l m i 0 L 0 :=
  ⟨h.blk, h.len, h.rng, by rw [h.eq]; simp [nval], h.zero, h.bel⟩
theorem getD_set_ne {L : List Nat} {i j x : Nat} (h : j ≠ i) : (L.set i x).getD j 0 = L.getD j 0 := by
  rw [List.getD, List.getD, List.getElem?_set_ne (Ne.symm h)]
theorem MulI.next {B : Nat} {kd : IntKind} {t : TypeId} {w wr : World} {g : Nat} {l m L : List Nat} {i k y : Nat} (h : MulI B kd t w wr g l m i k L y) (hB : 0 < B) (hi : i < l.length) (hk : k < m.length) (hw : w.heap.size ≤ g)
    {q r : Nat} (hq : q = (L.getD (i + k) 0 + l.getD i 0 * m.getD k 0 + y) % B) (hr : r = (L.getD (i + k) 0 + l.getD i 0 * m.getD k 0 + y) / B) :
    MulI B kd t w (wr.setCell ⟨g, i + k, none⟩ (.int kd (q : Int))) g l m i (k + 1) (L.set (i + k) q) r := by
  subst hq; subst hr
  exact ⟨blk_store h.blk _ _, by rw [List.length_set]; exact h.len, rng_set h.rng (Nat.mod_lt _ hB), mul_next (by rw [h.len]; omega) rfl rfl rfl h.eq,
    fun j hj => by rw [getD_set_ne (by omega)]; exact h.zero j hj, h.bel.setCell hw _⟩
theorem MulI.drewN {B : Nat} {kd : IntKind} {t : TypeId} {w wr : World} {g : Nat} {l m L : List Nat} {i k y : Nat} (h : MulI B kd t w wr g l m i k L y) (nq : Nat) : MulI B kd t w (wr.drewN nq) g l m i k L y :=
  ⟨h.blk.drewN nq, h.len, h.rng, h.eq, h.zero, below_drewN h.bel nq⟩
theorem MulI.done {B : Nat} {kd : IntKind} {t : TypeId} {w wr : World} {g : Nat} {l m L : List Nat} {i y : Nat} (h : MulI B kd t w wr g l m i m.length L y) (hi : i < l.length) (hw : w.heap.size ≤ g) (hy : y < B) :
    MulO B kd t w (wr.setCell ⟨g, i + m.length, none⟩ (.int kd (y : Int))) g l m (i + 1) (L.set (i + m.length) y) := by
  have hz := h.zero (i + m.length) (Nat.le_refl _)
  have hs := nval_set B L (i + m.length) y (by rw [h.len]; omega)
  have he := h.eq
  rw [List.take_length] at he
  refine ⟨blk_store h.blk _ _, by rw [List.length_set]; exact h.len, rng_set h.rng hy, ?_, fun j hj => ?_, h.bel.setCell hw _⟩
  · rw [hz] at hs
    rw [nval_take, Nat.add_mul, ← Nat.mul_assoc] at *
    rw [Nat.mul_comm y] at he
    omega
  · rw [getD_set_ne (by omega)]; exact h.zero j (by omega)
set_option maxRecDepth 100000 in
set_option maxHeartbeats 2000000 in
theorem c_rmul (A A' : Option Addr) (c c' : Nat) (l m : List Nat) (N M : Nat) (w : World) (h : IsN w w.heap.size .u32 4294967296 A c l N) (h' : IsN w w.heap.size .u32 4294967296 A' c' m M) (hN : N < nbig) (hM : M < nbig) :
    Calls Tryz.prog 62 #[.slice A l.length c, .slice A' m.length c'] w (NewN .u32 4294967296 (N * M) w) := by
  obtain ⟨i0, hi0, hz0, hz1, hz2⟩ := info_parts u32_info
  have hn := len_big h.lb (by decide) hN
  have hm := len_big h'.lb (by decide) hM
  have HI := Lib.hid h
  have HI' := Lib.hid h'
  clear h h' hN hM
  obtain ⟨n, hL⟩ : ∃ n, l.length = n := ⟨_, rfl⟩
  obtain ⟨n', hL'⟩ : ∃ n', m.length = n' := ⟨_, rfl⟩
  rw [hL] at hn ⊢
  rw [hL'] at hm ⊢
  have HL := Lib.hid hL
  have HL' := Lib.hid hL'
  clear hL hL'
  have hmk : (Instr.makeSlice 97 (.int .i64 ((n : Int) + (n' : Int))) (.int .i64 ((n : Int) + (n' : Int)))).run Tryz.prog w = .ok (.slice (some ⟨w.heap.size, 0, none⟩) (n + n') (n + n')) (w.alloc (.cells (madeCells (Value.cells (.int .u32 0)) ((n + n') * i0.size)) 93)) :=
    run_make_rowN (P := Tryz.prog) 97 93 i0 _ Tryz.underlying97 hi0 hz0 .i64 .i64 (n + n') (n + n') (Nat.le_refl _) (by rw [hz2]; omega) (by omega) w
  have HBK := Lib.hid (blk_made w 93 .u32 (n + n') i0 hz1)
  have HBM : Hid (Below w.heap.size w (w.alloc (.cells (madeCells (Value.cells (.int .u32 0)) ((n + n') * i0.size)) 93))) := (Below.refl w.heap.size w).alloc (Nat.le_refl _) _
  generalize w.alloc (.cells (madeCells (Value.cells (.int .u32 0)) ((n + n') * i0.size)) 93) = wm at *
  go_enter Tryz.func62, Tryz.ntmps62
  go_wp2_with fail
  go_loopw [6] (fun vi wr => ∃ (i : Nat) (L : List Nat), vi = .int .i64 i ∧ i ≤ n ∧ MulO 4294967296 .u32 93 w wr w.heap.size l m i L) (fun vi _ => n - (intOf vi).toNat)
  case atStart => exact ⟨0, _, rfl, Nat.zero_le _, ⟨HBK.out, by rw [List.length_replicate, HL.out, HL'.out], (by intro x hx; rw [(List.mem_replicate.1 hx).2]; decide), by rw [nval_zeros]; simp [nval], fun j _ => getD_zeros _ _, HBM.out⟩⟩
  case round =>
    obtain ⟨i, L, rfl, hi, HO⟩ := hrel
    by_cases hlt : i < n
    · have ha : i < l.length := by have := HL.out; omega
      have HA := Lib.hid ha
      obtain ⟨b1, o1, hA1, _, hb1, hcell1⟩ := HI.out.at_ ha
      subst hA1
      have HC1 := Lib.hid hcell1
      have hc1 : wr.cell? ⟨b1, o1 + i, none⟩ = some (.int .u32 ((l.getD i 0 : Nat) : Int)) := by rw [(bcell HO.bel).1 _ _ hb1, hcell1]
      clear hcell1 ha
      have hd1 := HI.out.dig (by decide) i
      obtain ⟨x1, hx1⟩ : ∃ x1, l.getD i 0 = x1 := ⟨_, rfl⟩
      rw [hx1] at hc1 hd1 HC1
      have HX := Lib.hid hx1
      clear hx1
      go_wp2_with fail
      go_loopw [7, 8] (fun vc vk wr => ∃ (k : Nat) (L : List Nat) (y : Nat), vc = .int .u64 y ∧ vk = .int .i64 k ∧ k ≤ n' ∧ y < 4294967296 ∧ MulI 4294967296 .u32 93 w wr w.heap.size l m i k L y) (fun _ vk _ => n' - (intOf vk).toNat)
      case atStart => exact ⟨0, L, 0, rfl, rfl, Nat.zero_le _, by decide, HO.start⟩
      case round =>
        clear hc1 HO
        obtain ⟨k, L, y, rfl, rfl, hk, hy, HS⟩ := hrel
        by_cases hkt : k < n'
        · have hb : k < m.length := by have := HL'.out; omega
          have HB := Lib.hid hb
          obtain ⟨b2, o2, hA2, _, hb2, hcell2⟩ := HI'.out.at_ hb
          subst hA2
          have hc2 : wr.cell? ⟨b2, o2 + k, none⟩ = some (.int .u32 ((m.getD k 0 : Nat) : Int)) := by rw [(bcell HS.bel).1 _ _ hb2, hcell2]
          clear hcell2 hb
          have hc1 : wr.cell? ⟨b1, o1 + i, none⟩ = some (.int .u32 (x1 : Int)) := by rw [(bcell HS.bel).1 _ _ hb1, HC1.out]
          have hd2 := HI'.out.dig (by decide) k
          have hlL : i + k < L.length := by rw [HS.len]; have := HA.out; have := HB.out; omega
          have hcL := blk_cell HS.blk hlL
          have hfL := HS.blk.frozen (i + k)
          have hd3 : L.getD (i + k) 0 < 4294967296 := by rw [List.getD, List.getElem?_eq_getElem hlL]; exact HS.rng _ (List.getElem_mem hlL)
          clear hlL
          have HE := Lib.hid (fun (q r nq : Nat) => (HS.drewN nq).next (q := q) (r := r) (by decide) HA.out HB.out (Nat.le_refl _))
          rw [HX.out] at HE
          generalize m.getD k 0 = x2 at *
          generalize L.getD (i + k) 0 = x3 at *
          obtain ⟨s, hs⟩ : ∃ s, s = x3 + x1 * x2 + y := ⟨_, rfl⟩
          have HN := Lib.hid (fun nq => HE.out (s % 4294967296) (s / 4294967296) nq (by rw [hs]) (by rw [hs]))
          have hp : x1 * x2 ≤ 4294967295 * 4294967295 := Nat.mul_le_mul (by omega) (by omega)
          obtain ⟨z, hz⟩ : ∃ z : Nat, x1 * x2 = z := ⟨_, rfl⟩
          have hzI : (x1 : Int) * (x2 : Int) = (z : Int) := by rw [← Int.natCast_mul, hz]
          rw [hz] at hs hp
          have hsI : (y : Int) + (x3 : Int) + (z : Int) = (s : Int) := by omega
          have hcar : s / 4294967296 < 4294967296 := by omega
          have hsb : s < 18446744073709551616 := by omega
          have hzb : z < 18446744073709551616 := by omega
          clear hs hz HE hp
          have hq : (s : Int) % 4294967296 = ((s % 4294967296 : Nat) : Int) := by omega
          have hr : (s : Int) / 4294967296 = ((s / 4294967296 : Nat) : Int) := by omega
          have hs1 : s % 4294967296 < 4294967296 := Nat.mod_lt _ (by decide)
          generalize s % 4294967296 = q at *
          generalize s / 4294967296 = y2 at *
          go_wp2
          go_quiet (fail)
          go_wp2
          go_roundw
          case rel => exact ⟨k + 1, _, _, rfl, by go_num, hkt, hcar, HN.out _⟩
          case measure => simp [intOf]; omega
        · have HKK : Hid (k = m.length) := by have := HL'.out; show _ = _; omega
          have hkn : n' = k := by omega
          have hlL : i + k < L.length := by rw [HS.len]; have := HA.out; have := HKK.out; omega
          have hcL := blk_cell HS.blk hlL
          have hfL := HS.blk.frozen (i + k)
          have hz3 : L.getD (i + k) 0 = 0 := HS.zero _ (by have := HKK.out; omega)
          rw [hz3] at hcL
          clear hz3 hlL
          have HD := HS
          rw [HKK.out] at HD
          have HN := Lib.hid (HD.done HA.out (Nat.le_refl _) hy)
          rw [← HKK.out] at HN
          clear HD
          subst hkn
          go_wp2
          go_roundw
          case rel => exact ⟨i + 1, _, by go_num, hlt, HN.out⟩
          case measure => simp [intOf]; omega
    · have HIK : Hid (i = n) := by show _ = _; omega
      have HF : Hid (nval 4294967296 L = N * M) := by
        have h1 := HO.eq
        have h2 := HL.out
        have h3 := HIK.out
        rw [List.take_of_length_le (by omega), HI.out.lb.val, HI'.out.lb.val] at h1
        exact h1
      have hr3 := blk_reads HO.blk
      have hln : L.length = n + n' := by rw [HO.len, HL.out, HL'.out]
      have HT := Lib.hid (isN_trim (c := n + n') hr3 rfl (by omega) HO.rng)
      have hct := c_rtrim (some ⟨w.heap.size, 0, none⟩) (n + n') L wr wr.heap.size hr3 (by omega) (by omega)
      rw [hln] at hct
      have HC := Lib.hid hct
      clear hct hr3 hln
      go_wp2_with ((go_at_call 77; refine (HC.out).mono ?_; rintro e w' ⟨rfl, rfl⟩))
      go_ret
      exact ⟨_, n + n', _, rfl, by rw [← HF.out]; exact HT.out, HO.bel⟩
end Go.Proofs.YtigbbogfnchgnaaGreatDoor
namespace Go.Proofs.YtigbbogfnchgnaaGreatDoor
open Go.RowKit
set_option linter.unusedVariables false

theorem u64_and_one {a : Nat} (ha : a < 18446744073709551616) : bits .and .u64 (a : Int) 1 = ((a % 2 : Nat) : Int) := by
  have := u64_and_nat a 1 ha (by decide)
  rw [Nat.and_one_is_mod] at this
  exact this
/-- The bit at a place. -/
def bitN (N i : Nat) : Nat := N / 2 ^ i % 2
/-- How many bits a number has. -/
def nlen (N : Nat) : Nat := if N = 0 then 0 else N.log2 + 1
theorem nlen_le {x : Nat} (h : x < 18446744073709551616) : nlen x ≤ 64 := by
  unfold nlen
  split
  · omega
  · rename_i h0
    have := log2_lt (k := 64) h0 (by simpa using h)
    omega
theorem u64_shl_or {v b : Nat} (hv : v < 9223372036854775808) (hb : b < 2) : bits .or .u64 ((v : Int) * 2) (b : Int) = ((v * 2 + b : Nat) : Int) := by
  have h := u64_or_nat (v * 2) b (by omega) (by omega)
  have e : v * 2 ||| b = v * 2 + b := by
    have := Nat.shiftLeft_add_eq_or_of_lt (a := v) (show b < 2 ^ 1 from hb)
    rw [Nat.shiftLeft_eq] at this
    exact this.symm
  rw [e] at h
  rw [← h]; simp
end Go.Proofs.YtigbbogfnchgnaaGreatDoor
namespace Go.Proofs.YtigbbogfnchgnaaGreatDoor
open Go.RowKit
set_option linter.unusedVariables false

theorem own_madeN (w : World) (t : TypeId) (k : IntKind) (q c : Nat) (i0 : TypeInfo) (hz1 : i0.size = 1) (hqc : q ≤ c) (hc : c ≤ maxLen) : (w.alloc (.cells (madeCells (Value.cells (.int k 0)) (c * i0.size)) t)).ownsRow w.heap.size t 1 (.slice (some ⟨w.heap.size, 0, none⟩) q c) q (digs k (List.replicate q 0)) := by
  have h := blk_made w t k c i0 hz1
  refine ⟨by simp [digs], .inr ⟨w.heap.size, c, _, rfl, Nat.le_refl _, h, hqc, hc, by simp [digs], ?_⟩⟩
  rw [Nat.mul_one, List.toList_toArray, ← digs_take, List.take_replicate, Nat.min_eq_left hqc]
/-- What holds ahead of a round of a shift: q noughts and i digits are there, y is carried. -/
structure ShlS (B : Nat) (kd : IntKind) (t : TypeId) (w wr : World) (l : List Nat) (q r i : Nat) (A0 : Option Addr) (c0 : Nat) (L : List Nat) (y : Nat) : Prop where
  own : wr.ownsRow w.heap.size t 1 (.slice A0 (q + i) c0) (q + i) (digs kd L)
  len : L.length = q + i
  rng : ∀ x ∈ L, x < B
  eq : nval B L + y * B ^ (q + i) = nval B (l.take i) * 2 ^ r * B ^ q
  bel : Below w.heap.size w wr
theorem shl_parts {x y r : Nat} (hx : x < 18446744073709551616) (hr : r < 64) (hy : y < 2 ^ r) : (x * 2 ^ r + y) / 18446744073709551616 = x / 2 ^ (64 - r) ∧ (x * 2 ^ r + y) / 18446744073709551616 < 2 ^ r ∧
    x * 2 ^ r % 18446744073709551616 ||| y = (x * 2 ^ r + y) % 18446744073709551616 := by
  have hp : 0 < 2 ^ r := Nat.pow_pos (by decide)
  have e : (18446744073709551616 : Nat) = 2 ^ r * 2 ^ (64 - r) := by rw [← Nat.pow_add, show r + (64 - r) = 64 from by omega]
  have h1 : (x * 2 ^ r + y) / 18446744073709551616 = x / 2 ^ (64 - r) := by
    conv => lhs; rw [e, ← Nat.div_div_eq_div_mul]
    rw [Nat.mul_comm x, Nat.mul_add_div hp, Nat.div_eq_of_lt hy, Nat.add_zero]
  refine ⟨h1, ?_, ?_⟩
  · rw [h1, Nat.div_lt_iff_lt_mul (Nat.pow_pos (by decide)), ← e]; exact hx
  · have e2 : x * 2 ^ r % 18446744073709551616 = (x % 2 ^ (64 - r)) * 2 ^ r := by
      rw [e, Nat.mul_comm (2 ^ r) (2 ^ (64 - r)), Nat.mul_mod_mul_right]
    have e3 : (x * 2 ^ r + y) % 18446744073709551616 = (x % 2 ^ (64 - r)) * 2 ^ r + y := by
      rw [e, Nat.mod_mul, Nat.mul_comm x, Nat.mul_add_mod, Nat.mod_eq_of_lt hy, Nat.mul_add_div hp, Nat.div_eq_of_lt hy, Nat.add_zero, Nat.mul_comm (2 ^ r), Nat.add_comm]
    rw [e2, e3]
    have := Nat.shiftLeft_add_eq_or_of_lt hy (x % 2 ^ (64 - r))
    rw [Nat.shiftLeft_eq] at this
    exact this.symm
end Go.Proofs.YtigbbogfnchgnaaGreatDoor
namespace Go.Proofs.YtigbbogfnchgnaaGreatDoor
open Go.RowKit
set_option linter.unusedVariables false

theorem up_parts {x y r : Nat} (hx : x < 4294967296) (hr : r < 32) (hy : y < 2 ^ r) : y ||| x * 2 ^ r = x * 2 ^ r + y ∧ x * 2 ^ r + y < 9223372036854775808 ∧ (x * 2 ^ r + y) / 4294967296 < 2 ^ r ∧ x * 2 ^ r < 9223372036854775808 := by
  have hp : 0 < 2 ^ r := Nat.pow_pos (by decide)
  have hr2 : 2 ^ r ≤ 2147483648 := by
    have : 2 ^ r ≤ 2 ^ 31 := Nat.pow_le_pow_right (by decide) (by omega)
    simpa using this
  have h1 : (x + 1) * 2 ^ r ≤ 4294967296 * 2 ^ r := Nat.mul_le_mul_right _ hx
  rw [Nat.add_mul, Nat.one_mul] at h1
  refine ⟨?_, by omega, ?_, by omega⟩
  · have := Nat.shiftLeft_add_eq_or_of_lt hy x
    rw [Nat.shiftLeft_eq] at this
    rw [Nat.or_comm]; exact this.symm
  · rw [Nat.div_lt_iff_lt_mul (by decide), Nat.mul_comm (2 ^ r)]
    omega
set_option maxRecDepth 100000 in
set_option maxHeartbeats 1000000 in
theorem c_up (A : Option Addr) (c : Nat) (l : List Nat) (k : Nat) (N : Nat) (w : World) (h : IsN w w.heap.size .u32 4294967296 A c l N) (hN : N < nbig) (hk : k ≤ 1000000) :
    Calls Tryz.prog 74 #[.slice A l.length c, .int .i64 k] w (NewN .u32 4294967296 (N * 2 ^ k) w) := by
  obtain ⟨i0, hi0, hz0, hz1, hz2⟩ := info_parts u32_info
  have hl := len_big h.lb (by decide) hN
  have HI := Lib.hid h
  clear h hN
  obtain ⟨n, hL⟩ : ∃ n, l.length = n := ⟨_, rfl⟩
  rw [hL] at hl ⊢
  have HL := Lib.hid hL
  clear hL
  have hq : (k : Int) / 32 = ((k / 32 : Nat) : Int) := by omega
  have hr : (k : Int) % 32 = ((k % 32 : Nat) : Int) := by omega
  have hqk : k / 32 ≤ 1000000 := by omega
  have hrk : k % 32 < 32 := Nat.mod_lt _ (by decide)
  have HK : Hid (k = 32 * (k / 32) + k % 32) := by show _ = _; omega
  obtain ⟨q, hq2⟩ : ∃ q, k / 32 = q := ⟨_, rfl⟩
  obtain ⟨r, hr2⟩ : ∃ r, k % 32 = r := ⟨_, rfl⟩
  rw [hq2] at hq hqk HK
  rw [hr2] at hr hrk HK
  clear hq2 hr2
  have hmk := run_make_rowN (P := Tryz.prog) 97 93 i0 _ Tryz.underlying97 hi0 hz0 .i64 .i64 q q (Nat.le_refl _) (by rw [hz2]; omega) (by omega) w
  have HOM := Lib.hid (own_madeN w 93 .u32 q q i0 hz1 (by omega) (by simp only [maxLen]; omega))
  have HBM : Hid (Below w.heap.size w (w.alloc (.cells (madeCells (Value.cells (.int .u32 0)) (q * i0.size)) 93))) := (Below.refl w.heap.size w).alloc (Nat.le_refl _) _
  generalize w.alloc (.cells (madeCells (Value.cells (.int .u32 0)) (q * i0.size)) 93) = wm at *
  go_enter Tryz.func74, Tryz.ntmps74
  go_wp2_with fail
  go_loopw [5, 6, 7] (fun vo vc vi wr => ∃ (i : Nat) (A0 : Option Addr) (c0 : Nat) (L : List Nat) (y : Nat), vo = .slice A0 (q + i : Nat) c0 ∧ vc = .int .u64 y ∧ vi = .int .i64 i ∧ i ≤ n ∧ y < 4294967296 ∧ Hid (y < 2 ^ r) ∧ ShlS 4294967296 .u32 93 w wr l q r i A0 c0 L y) (fun _ _ vi _ => n - (intOf vi).toNat)
  case atStart => exact ⟨0, _, _, _, 0, rfl, rfl, rfl, Nat.zero_le _, by decide, Nat.pow_pos (by decide), ⟨HOM.out, by rw [List.length_replicate]; rfl, (by intro x hx; rw [(List.mem_replicate.1 hx).2]; decide), by rw [nval_zeros]; simp [nval], HBM.out⟩⟩
  case round =>
    obtain ⟨i, A0, c0, L, y, rfl, rfl, rfl, hi, hyb, hy, HS⟩ := hrel
    by_cases hlt : i < n
    · obtain ⟨b1, o1, hA1, _, hb1, hcell1⟩ := HI.out.at_ (show i < l.length by have := HL.out; omega)
      subst hA1
      have hc1 : wr.cell? ⟨b1, o1 + i, none⟩ = some (.int .u32 ((l.getD i 0 : Nat) : Int)) := by rw [(bcell HS.bel).1 _ _ hb1, hcell1]
      clear hcell1
      have hd := HI.out.dig (by decide) i
      have HE := Lib.hid (fun (s : Nat) (hs : s = l.getD i 0 * 2 ^ r + y) => up_next (B := 4294967296) HS.len rfl hs HS.eq)
      generalize l.getD i 0 = x at *
      obtain ⟨p1, p2, p3, p4⟩ := up_parts hd hrk hy.out
      have hwr : IntKind.u64.wrap ((x : Int) * 2 ^ r) = ((x * 2 ^ r : Nat) : Int) := by
        rw [show IntKind.u64.wrap ((x : Int) * 2 ^ r) = ((x : Int) * 2 ^ r) % 18446744073709551616 from rfl]
        have : (x : Int) * 2 ^ r = ((x * 2 ^ r : Nat) : Int) := by rw [Int.natCast_mul, Int.natCast_pow]; rfl
        rw [this]; omega
      have hdig : bits .or .u64 (y : Int) ((x * 2 ^ r : Nat) : Int) = ((x * 2 ^ r + y : Nat) : Int) := by
        have h := u64_or_nat y (x * 2 ^ r) (by omega) (by omega)
        rw [p1] at h
        exact h
      have HE1 := Lib.hid (HE.out (x * 2 ^ r + y) rfl)
      have HS2 := Lib.hid p3
      have HR := Lib.hid hr
      clear HE p1 p3
      generalize hz : x * 2 ^ r = z at *
      clear hz
      obtain ⟨s, hs⟩ : ∃ s, z + y = s := ⟨_, rfl⟩
      rw [hs] at hdig HE1 HS2 p2
      clear hs
      have hq1 : (s : Int) % 4294967296 = ((s % 4294967296 : Nat) : Int) := by omega
      have hr1 : (s : Int) / 4294967296 = ((s / 4294967296 : Nat) : Int) := by omega
      have hs1 : s % 4294967296 < 4294967296 := Nat.mod_lt _ (by decide)
      have hs2 : s / 4294967296 < 4294967296 := by omega
      generalize s % 4294967296 = q1 at *
      generalize s / 4294967296 = y2 at *
      have HOA := Lib.hid (HS.own.alloc (.cells #[.int .u32 (q1 : Int)] 93))
      have HRA := Lib.hid (reads_one wr 93 (.int .u32 (q1 : Int)))
      go_wp2_with (first
        | (refine wpList_buildSliceTo rfl 97 93 1 _ rfl wr.heap.size rfl (some 31) rfl Tryz.underlying97 #[.int .u32 (q1 : Int)] (by exact built32 _) ?_)
        | (at_builtin; refine wpList_append_any _ rfl (.tmp 28) (.tmp 31) _ rfl w.heap.size 93 i0 _ 1 4 Tryz.underlying97 hi0 hz0 hz1 hz2 rfl (by omega) _ (q + i) (digs .u32 L) rfl HOA.out _ _ 1 1 [.int .u32 (q1 : Int)] rfl HRA.out (by simp [Value.oneCell']) (by simp only [maxLen]; omega) (by omega) (by have := HS.bel.size; simp; omega) ?_; intro v2 w2 hown2 hg2 _; rw [digs_snoc] at hown2; have HB2 := Lib.hid (own_next HOA.out HS.bel hg2); obtain ⟨A2, c2, rfl⟩ := own_slice hown2; have HW2 := Lib.hid hown2; clear hown2 hg2 HOA HRA))
      go_roundw
      case rel => exact ⟨i + 1, A2, c2, L ++ [q1], y2, rfl, rfl, by go_num, by omega, hs2, HS2.out, ⟨HW2.out, by rw [List.length_append, HS.len]; rfl, rng_snoc HS.rng hs1, HE1.out, HB2.out⟩⟩
      case measure => simp [intOf]; omega
    · have HIK : Hid (i = n) := by show _ = _; omega
      have HOA := Lib.hid (HS.own.alloc (.cells #[.int .u32 (y : Int)] 93))
      have HRA := Lib.hid (reads_one wr 93 (.int .u32 (y : Int)))
      have HF : Hid (nval 4294967296 (L ++ [y]) = N * 2 ^ k) := by
        have := HS.eq
        rw [List.take_of_length_le (by have := HL.out; have := HIK.out; omega), HI.out.lb.val, Nat.mul_assoc] at this
        show _ = _
        rw [nval_snoc, HS.len, Nat.mul_comm (4294967296 ^ (q + i)), this, HK.out, Nat.pow_add, Nat.pow_mul, Nat.mul_comm (2 ^ r)]
      go_wp2_with (first
        | (refine wpList_buildSliceTo rfl 97 93 1 _ rfl wr.heap.size rfl (some 38) rfl Tryz.underlying97 #[.int .u32 (y : Int)] (by exact built32 _) ?_)
        | (at_builtin; refine wpList_append_any _ rfl (.tmp 35) (.tmp 38) _ rfl w.heap.size 93 i0 _ 1 4 Tryz.underlying97 hi0 hz0 hz1 hz2 rfl (by omega) _ (q + i) (digs .u32 L) rfl HOA.out _ _ 1 1 [.int .u32 (y : Int)] rfl HRA.out (by simp [Value.oneCell']) (by simp only [maxLen]; omega) (by omega) (by have := HS.bel.size; simp; omega) ?_; intro v2 w2 hown2 hg2 _; rw [digs_snoc] at hown2; have HB2 := Lib.hid (own_next HOA.out HS.bel hg2); obtain ⟨A2, c2, rfl⟩ := own_slice hown2; have HW2 := Lib.hid hown2; clear hown2 hg2 HOA HRA))
      obtain ⟨A3, c3, hv3, hc3, hr3⟩ := own_reads HW2.out
      injection hv3 with hv3 _ hv4
      subst hv3; subst hv4
      have hl3 : (L ++ [y]).length = q + i + 1 := by rw [List.length_append, HS.len]; rfl
      have HT := Lib.hid (isN_trim hr3 hl3.symm hc3 (rng_snoc HS.rng hyb))
      have hct := c_rtrim A2 c2 (L ++ [y]) w2 w2.heap.size (by rw [hl3]; exact hr3) (by omega) (by omega)
      rw [hl3] at hct
      have HC := Lib.hid hct
      clear hct hr3 hl3
      refine (HC.out).mono ?_; rintro e w' ⟨rfl, rfl⟩
      go_wp2
      go_ret
      exact ⟨A2, c2, _, rfl, by rw [← HF.out]; exact HT.out, HB2.out⟩
theorem built32_2 (x y : Int) : Tryz.prog.builtSlice 93 2 [(0, .int .u32 x), (1, .int .u32 y)] = some #[.int .u32 x, .int .u32 y] := by kernel_rfl
theorem c_from (v : Nat) (hv : v < 18446744073709551616) (w : World) :
    Calls Tryz.prog 63 #[.int .u64 v] w (NewN .u32 4294967296 v w) := by
  have hq : (v : Int) % 4294967296 = ((v % 4294967296 : Nat) : Int) := by omega
  have hr : (v : Int) / 4294967296 = ((v / 4294967296 : Nat) : Int) := by omega
  have HV : Hid (nval 4294967296 [v % 4294967296, v / 4294967296] = v) := by show _ = _; simp only [nval]; omega
  have h1 : v % 4294967296 < 4294967296 := Nat.mod_lt _ (by decide)
  have h2 : v / 4294967296 < 4294967296 := by omega
  generalize v % 4294967296 = a at *
  generalize v / 4294967296 = b at *
  have hbk : Blk (w.alloc (.cells #[.int .u32 (a : Int), .int .u32 (b : Int)] 93)) w.heap.size 93 (digs .u32 [a, b]).toArray := Blk.new w _ _
  have HT := Lib.hid (isN_trim (c := 2) (blk_reads hbk) rfl (by simp) (by intro x hx; simp only [List.mem_cons, List.not_mem_nil, or_false] at hx; rcases hx with rfl | rfl <;> assumption))
  have HC := Lib.hid (c_rtrim (some ⟨w.heap.size, 0, none⟩) 2 [a, b] _ _ (blk_reads hbk) (by simp) (by simp))
  have HB := Lib.hid ((Below.refl w.heap.size w).alloc (Nat.le_refl _) (.cells #[.int .u32 (a : Int), .int .u32 (b : Int)] 93))
  clear hbk h1 h2
  go_enter Tryz.func63, Tryz.ntmps63
  go_wp2_with ((go_at_call 77; refine (HC.out).mono ?_; rintro e w' ⟨rfl, rfl⟩))
  go_ret
  exact ⟨_, 2, _, rfl, by rw [← HV.out]; exact HT.out, HB.out⟩
end Go.Proofs.YtigbbogfnchgnaaGreatDoor
namespace Go.Proofs.YtigbbogfnchgnaaGreatDoor
open Go.RowKit
set_option linter.unusedVariables false

/-- What Div64 lays out ahead of its guesses. -/
structure DivS (r lo d s Y U V y1 y0 u1 u0 T R : Nat) : Prop where
  hs : 1 ≤ s ∧ s ≤ 63
  hY : d * 2 ^ s = Y
  hYb : Y < 18446744073709551616
  hy1 : Y / 4294967296 = y1
  hy0 : Y % 4294967296 = y0
  hyl : 2147483648 ≤ y1 ∧ y1 < 4294967296 ∧ y0 < 4294967296
  hR : r * 2 ^ s = R
  hRb : R < 18446744073709551616
  hT : lo / 2 ^ (64 - s) = T
  hTb : T < 18446744073709551616
  hU : R ||| T = U
  hUY : U < Y
  hV : lo * 2 ^ s % 18446744073709551616 = V
  hVb : V < 18446744073709551616
  hu1 : V / 4294967296 = u1
  hu0 : V % 4294967296 = u0
  hul : u1 < 4294967296 ∧ u0 < 4294967296
  hN : (r * 18446744073709551616 + lo) * 2 ^ s = (U * 4294967296 + u1) * 4294967296 + u0
theorem div_setup {r lo d s : Nat} (hr : r < d) (hd : d < 4611686018427387904) (hlo : lo < 18446744073709551616) (hs : s = 64 - nlen d) : ∃ Y U V y1 y0 u1 u0 T R, DivS r lo d s Y U V y1 y0 u1 u0 T R := by
  have hd0 : d ≠ 0 := by omega
  have hn : nlen d = d.log2 + 1 := by unfold nlen; rw [if_neg hd0]
  have hl : d.log2 < 62 := log2_lt hd0 (by simpa using hd)
  have hs1 : 1 ≤ s ∧ s ≤ 63 := by omega
  have p1 := Nat.log2_self_le hd0
  have p2 : d < 2 ^ (d.log2 + 1) := Nat.lt_log2_self
  have hp : 0 < 2 ^ s := Nat.pow_pos (by decide)
  have e64 : (18446744073709551616 : Nat) = 2 ^ s * 2 ^ (64 - s) := by rw [← Nat.pow_add, show s + (64 - s) = 64 from by omega]
  have hYb : d * 2 ^ s < 18446744073709551616 := by
    have : d * 2 ^ s < 2 ^ (d.log2 + 1) * 2 ^ s := (Nat.mul_lt_mul_right hp).2 p2
    rw [← Nat.pow_add, show d.log2 + 1 + s = 64 from by omega] at this
    simpa using this
  have hYl : 9223372036854775808 ≤ d * 2 ^ s := by
    have : 2 ^ d.log2 * 2 ^ s ≤ d * 2 ^ s := Nat.mul_le_mul_right _ p1
    rw [← Nat.pow_add, show d.log2 + s = 63 from by omega] at this
    simpa using this
  have hRb : r * 2 ^ s < d * 2 ^ s := (Nat.mul_lt_mul_right hp).2 hr
  have hT : lo / 2 ^ (64 - s) < 2 ^ s := by
    rw [Nat.div_lt_iff_lt_mul (Nat.pow_pos (by decide)), ← e64]; exact hlo
  have hU : r * 2 ^ s ||| lo / 2 ^ (64 - s) = r * 2 ^ s + lo / 2 ^ (64 - s) := by
    have := Nat.shiftLeft_add_eq_or_of_lt hT r
    rw [Nat.shiftLeft_eq] at this
    exact this.symm
  have hUY : r * 2 ^ s + lo / 2 ^ (64 - s) < d * 2 ^ s := by
    have : (r + 1) * 2 ^ s ≤ d * 2 ^ s := Nat.mul_le_mul_right _ hr
    rw [Nat.add_mul, Nat.one_mul] at this
    omega
  have hTV : lo * 2 ^ s = lo / 2 ^ (64 - s) * 18446744073709551616 + lo * 2 ^ s % 18446744073709551616 := by
    have e1 : lo * 2 ^ s / 18446744073709551616 = lo / 2 ^ (64 - s) := by
      rw [e64, ← Nat.div_div_eq_div_mul, Nat.mul_div_cancel _ hp]
    have := Nat.div_add_mod (lo * 2 ^ s) 18446744073709551616
    rw [e1] at this
    omega
  have hVb : lo * 2 ^ s % 18446744073709551616 < 18446744073709551616 := Nat.mod_lt _ (by decide)
  have hp2 : 2 ^ s ≤ 2 ^ 63 := Nat.pow_le_pow_right (by decide) hs1.2
  have hp3 : (2 : Nat) ^ 63 = 9223372036854775808 := by decide
  refine ⟨_, _, _, _, _, _, _, _, _, hs1, rfl, hYb, rfl, rfl, by omega, rfl, by omega, rfl, by omega, rfl, by rw [hU]; exact hUY, rfl, hVb, rfl, rfl, by omega, ?_⟩
  rw [hU, Nat.add_mul, hTV]
  have e2 : r * 18446744073709551616 * 2 ^ s = r * 2 ^ s * 18446744073709551616 := by rw [Nat.mul_assoc, Nat.mul_comm _ (2 ^ s), ← Nat.mul_assoc]
  rw [e2]
  omega
/-- What the walk is told of numbers below 2^64. -/
theorem wrap_mod (z : Nat) : IntKind.u64.wrap (z : Int) = ((z % 18446744073709551616 : Nat) : Int) := by
  rw [show IntKind.u64.wrap (z : Int) = (z : Int) % 18446744073709551616 from rfl]; omega
theorem wrap_mul (a b : Nat) : IntKind.u64.wrap ((a : Int) * (b : Int)) = ((a * b % 18446744073709551616 : Nat) : Int) := by
  rw [← Int.natCast_mul, wrap_mod]
theorem wrap_pow (a s : Nat) : IntKind.u64.wrap ((a : Int) * 2 ^ s) = ((a * 2 ^ s % 18446744073709551616 : Nat) : Int) := by
  rw [show (a : Int) * 2 ^ s = ((a * 2 ^ s : Nat) : Int) from by rw [Int.natCast_mul, Int.natCast_pow]; rfl, wrap_mod]
theorem wrap_small {z : Nat} (h : z < 18446744073709551616) : IntKind.u64.wrap (z : Int) = (z : Int) := by rw [wrap_mod, Nat.mod_eq_of_lt h]
theorem div_pow (a s : Nat) : (a : Int) / 2 ^ s = ((a / 2 ^ s : Nat) : Int) := by rw [Int.natCast_ediv, Int.natCast_pow]; rfl
theorem u64_mask {a : Nat} (ha : a < 18446744073709551616) : bits .and .u64 (a : Int) 4294967295 = ((a % 4294967296 : Nat) : Int) := by
  have h := u64_and_nat a 4294967295 ha (by decide)
  rw [show a &&& 4294967295 = a % 4294967296 from Nat.and_two_pow_sub_one_eq_mod a 32] at h
  exact h
/-- What is left behind a digit, in words of 64 bits. -/
theorem div_tail (u u1 Y q : Nat) (hY : 0 < Y) (hYb : Y < 18446744073709551616) (hu : u < Y) (h1 : u1 < 4294967296) (hq : q = (u * 4294967296 + u1) / Y) : ∃ W1 W3 r1 : Nat,
    IntKind.u64.wrap ((u : Int) * 4294967296) = (W1 : Int) ∧ W1 + u1 < 18446744073709551616 ∧ IntKind.u64.wrap ((q : Int) * (Y : Int)) = (W3 : Int) ∧ IntKind.u64.wrap ((W1 : Int) + (u1 : Int) - (W3 : Int)) = (r1 : Int) ∧ r1 = (u * 4294967296 + u1) % Y ∧ r1 < Y := by
  obtain ⟨d1, d2⟩ := digit_rest hY hq
  have hm := Nat.mod_lt (u * 4294967296 + u1) hY
  refine ⟨u * 4294967296 % 18446744073709551616, q * Y % 18446744073709551616, (u * 4294967296 + u1) % Y, ?_, by omega, wrap_mul q Y, ?_, rfl, hm⟩
  · have := wrap_mul u 4294967296
    exact this
  · rw [← d1]
    rw [← d1] at hm
    generalize q * Y = P at *
    rw [show ∀ z : Int, IntKind.u64.wrap z = z % 18446744073709551616 from fun _ => rfl]
    omega
end Go.Proofs.YtigbbogfnchgnaaGreatDoor
namespace Go.Proofs.YtigbbogfnchgnaaGreatDoor
open Go.RowKit

theorem fclass_nan {b : Nat} (h : fnan b = true) : fclass b = 1 := by unfold fclass; rw [if_pos h]
theorem fneg_no {b : Nat} (h : fnan b = false) : fneg b = !decide (b < 9223372036854775808) := by unfold fneg; rw [h]; rfl
theorem fneg_nan {b : Nat} (h : fnan b = true) : fneg b = false := by unfold fneg; rw [h]; rfl

/-- The four classes of what is no NaN, each by its tests' outcomes. -/
def Tests (b : Nat) (t0 t1 t2 t3 : Bool) : Prop :=
  decide ((9218868437227405312 : Int) < (b : Int) % 9223372036854775808) = t0 ∧ ((b : Int) % 9223372036854775808 == 9218868437227405312) = t1 ∧ ((b : Int) % 9223372036854775808 == 0) = t2 ∧ decide ((b : Int) % 9223372036854775808 < 4503599627370496) = t3
theorem fclass_cases {b : Nat} (h : fnan b = false) :
    (Tests b false true false false ∧ fclass b = 2) ∨ (Tests b false false true true ∧ fclass b = 3) ∨ (Tests b false false false true ∧ fclass b = 4) ∨ (Tests b false false false false ∧ fclass b = 5) := by
  have hn := fnan_no h
  unfold fclass Tests
  rw [h, if_neg (by decide)]
  have n0 : decide ((9218868437227405312 : Int) < (b : Int) % 9223372036854775808) = false := decide_eq_false (by omega)
  by_cases h1 : b % 9223372036854775808 = 9218868437227405312
  · exact .inl ⟨⟨n0, beq_iff_eq.2 (by omega), beq_eq_false_iff_ne.2 (by omega), decide_eq_false (by omega)⟩, by rw [if_pos h1]⟩
  · rw [if_neg h1]
    have n1 : ((b : Int) % 9223372036854775808 == 9218868437227405312) = false := beq_eq_false_iff_ne.2 (by omega)
    by_cases h2 : b % 9223372036854775808 = 0
    · exact .inr (.inl ⟨⟨n0, n1, beq_iff_eq.2 (by omega), decide_eq_true (by omega)⟩, by rw [if_pos h2]⟩)
    · rw [if_neg h2]
      have n2 : ((b : Int) % 9223372036854775808 == 0) = false := beq_eq_false_iff_ne.2 (by omega)
      by_cases h3 : b % 9223372036854775808 < 4503599627370496
      · exact .inr (.inr (.inl ⟨⟨n0, n1, n2, decide_eq_true (by omega)⟩, by rw [if_pos h3]⟩))
      · exact .inr (.inr (.inr ⟨⟨n0, n1, n2, decide_eq_false (by omega)⟩, by rw [if_neg h3]⟩))
theorem fclass_nan_test {b : Nat} (h : fnan b = true) : decide ((9218868437227405312 : Int) < (b : Int) % 9223372036854775808) = true := by
  have := fnan_yes h
  exact decide_eq_true (by omega)

theorem sgn_ne (b : Nat) (h : b < 18446744073709551616) : (bits .and .u64 (b : Int) 9223372036854775808 != 0) = !decide (b < 9223372036854775808) := by
  rw [and_sign b h]; by_cases k : b < 9223372036854775808 <;> simp [k]
theorem sgn_ne' (b : Nat) (_h : b < 18446744073709551616) : ((b : Int) != (b : Int) % 9223372036854775808) = !decide (b < 9223372036854775808) := by
  by_cases k : b < 9223372036854775808
  · simp [k]; omega
  · simp [k]; omega

set_option maxRecDepth 100000 in
theorem c_Class (b : Nat) (hb : b < 18446744073709551616) (w : World) : Calls Tryz.prog 189 #[.float .f64 b] w fun e w' => e = .returned (.tuple #[.int .i64 (fclass b), .bool (fneg b)]) ∧ w = w' := by
  have hc := call_bits b
  have hq := andNot_sign b hb
  have hs := sgn_ne b hb
  rcases h : fnan b with _ | _
  · have Hn := Lib.hid (fneg_no h)
    obtain ⟨⟨g0, g1, g2, g3⟩, hf⟩ | ⟨⟨g0, g1, g2, g3⟩, hf⟩ | ⟨⟨g0, g1, g2, g3⟩, hf⟩ | ⟨⟨g0, g1, g2, g3⟩, hf⟩ := fclass_cases h
    all_goals
      have Hf := Lib.hid hf
      clear h hf
      go_enter Tryz.func189, Tryz.ntmps189
      go_wp2
      go_ret2
      exact ⟨by rw [Hf.out, Hn.out]; rfl, rfl⟩
  · have Hn := Lib.hid (fneg_nan h)
    have Hf := Lib.hid (fclass_nan h)
    have g1 := fclass_nan_test h
    go_enter Tryz.func189, Tryz.ntmps189
    go_wp2
    go_ret2
    exact ⟨by rw [Hf.out, Hn.out]; rfl, rfl⟩

theorem c_Of (b : Nat) (w : World) : Calls Tryz.prog 89 #[.int .u64 (b : Int)] w fun e w' => e = .returned (.float .f64 (fone b)) ∧ w = w' := by
  have hc := call_frombits b
  have hc2 := call_frombits_nan
  have hq := order_eql b
  rcases h : fnan b with _ | _
  · have Hf := Lib.hid (fone_no h)
    rw [h] at hq
    go_enter Tryz.func89, Tryz.ntmps89
    go_wp2
    go_ret
    exact ⟨by rw [Hf.out]; rfl, rfl⟩
  · have Hf := Lib.hid (fone_yes h)
    rw [h] at hq
    go_enter Tryz.func89, Tryz.ntmps89
    go_wp2
    go_ret
    exact ⟨by rw [Hf.out]; rfl, rfl⟩

theorem fnan_one : fnan 9221120237041090560 = true := by decide +kernel
theorem fone_fone (b : Nat) : fone (fone b) = fone b := by
  rcases h : fnan b with _ | _
  · rw [fone_no h, fone_no h]
  · rw [fone_yes h, fone_yes fnan_one]

end Go.Proofs.YtigbbogfnchgnaaGreatDoor
namespace Go.Proofs.YtigbbogfnchgnaaGreatDoor
open Go.RowKit

/-- A magnitude's whole number. -/
def mman (m : Nat) : Nat := if m < 4503599627370496 then m else m % 4503599627370496 + 4503599627370496
/-- A magnitude's exponent. -/
def mexp (m : Nat) : Int := if m < 4503599627370496 then -1074 else (m / 4503599627370496 : Nat) - 1075
theorem or_top (M : Nat) (h : M < 4503599627370496) : bits .or .u64 (M : Int) 4503599627370496 = ((M + 4503599627370496 : Nat) : Int) := by
  have := u64_or_nat M 4503599627370496 (by omega) (by decide)
  rw [show ((4503599627370496 : Nat) : Int) = 4503599627370496 from rfl] at this
  rw [this, Nat.or_comm, nat_join 52 4503599627370496 M (by decide) (by omega), Nat.add_comm]
theorem and_low (x : Nat) (h : x < 18446744073709551616) : bits .and .u64 (x : Int) 4503599627370495 = ((x % 4503599627370496 : Nat) : Int) := by
  have := u64_and_nat x 4503599627370495 h (by decide)
  rw [show ((4503599627370495 : Nat) : Int) = 4503599627370495 from rfl] at this
  rw [this, show (4503599627370495 : Nat) = 2 ^ 52 - 1 from by decide, Nat.and_two_pow_sub_one_eq_mod]
theorem and_2047 (x : Nat) (h : x < 18446744073709551616) : bits .and .u64 (x : Int) 2047 = ((x % 2048 : Nat) : Int) := by
  have := u64_and_nat x 2047 h (by decide)
  rw [show ((2047 : Nat) : Int) = 2047 from rfl] at this
  rw [this, show (2047 : Nat) = 2 ^ 11 - 1 from by decide, Nat.and_two_pow_sub_one_eq_mod]
theorem mman_lt {m : Nat} (h : m < 9223372036854775808) : mman m < 9007199254740992 := by unfold mman; split <;> omega
theorem mexp_bd {m : Nat} (h : m < 9223372036854775808) : -1074 ≤ mexp m ∧ mexp m ≤ 1000 := by unfold mexp; split <;> omega
theorem ret2 {k l : IntKind} {a b c d : Int} (h : a = b) (h2 : c = d) : Ending.returned (.tuple #[.int k a, .int l c]) = .returned (.tuple #[.int k b, .int l d]) := by rw [h, h2]
theorem c_parts (m : Nat) (hmb : m < 9223372036854775808) (w : World) : Calls Tryz.prog 73 #[.int .u64 (m : Int)] w fun e w' => e = .returned (.tuple #[.int .u64 (mman m), .int .i64 (mexp m)]) ∧ w = w' := by
  have ha := and_low m (by omega)
  have ha2 : bits .and .u64 ((m : Int) / 4503599627370496) 2047 = (m : Int) / 4503599627370496 := by
    have := and_2047 (m / 4503599627370496) (by omega)
    rw [Int.natCast_ediv] at this
    refine this.trans ?_
    omega
  by_cases hs : m < 4503599627370496
  · have H1 : Hid (mman m = m) := if_pos hs
    have H2 : Hid (mexp m = -1074) := if_pos hs
    have ht : ((m : Int) / 4503599627370496 == 0) = true := by simp; omega
    have Hs := Lib.hid hs
    clear hs
    go_enter Tryz.func73, Tryz.ntmps73
    go_wp2
    go_ret2
    exact ⟨by rw [H1.out, H2.out]; exact ret2 (by have := Hs.out; omega) rfl, rfl⟩
  · have H1 : Hid (mman m = m % 4503599627370496 + 4503599627370496) := if_neg hs
    have H2 : Hid (mexp m = (m / 4503599627370496 : Nat) - 1075) := if_neg hs
    have ht : ((m : Int) / 4503599627370496 == 0) = false := by simp; omega
    clear hs
    go_enter Tryz.func73, Tryz.ntmps73
    go_wp2
    go_ret2
    exact ⟨by rw [H1.out, H2.out]; exact ret2 (by simp) (by simp), rfl⟩
/-- The de Bruijn table in its variable. -/
def Tab64 (g : Nat) (w : World) : Prop := ∀ j, j < 64 → w.cell? ⟨g, j, none⟩ = some (.int .u8 ((Lib.deBruijn64tab.getD j 0 : Nat) : Int))
theorem tz_core (x k idx : Nat) (w : World) (hx0 : ((x : Int) == 0) = false)
    (key : IntKind.u64.wrap (bits BinOp.and IntKind.u64 (x : Int) (IntKind.u64.wrap (-(x : Int))) * 285870213051353865) / 288230376151711744 = (idx : Int))
    (hi : idx < 64) (hk : k < 64) (hcell : w.cell? ⟨13, idx, none⟩ = some (.int .u8 k)) :
    Calls Tryz.prog 156 #[.int .u64 x] w fun e w' => e = .returned (.int .i64 k) ∧ w = w' := by
  go_enter Tryz.func156, Tryz.ntmps156
  go_wp2_with (simp only [key])
  go_ret
  exact ⟨rfl, rfl⟩
theorem tz_key (x a : Nat) (hx : x < 18446744073709551616) (hx0 : x ≠ 0) (hlow : x &&& (18446744073709551616 - x) = a) :
    IntKind.u64.wrap (bits BinOp.and IntKind.u64 (x : Int) (IntKind.u64.wrap (-(x : Int))) * 285870213051353865) / 288230376151711744 = ((a * 285870213051353865 % 18446744073709551616 / 288230376151711744 : Nat) : Int) := by
  have e1 : IntKind.u64.wrap (-(x : Int)) = ((18446744073709551616 - x : Nat) : Int) := by rw [IntKind.wrap_u64]; omega
  rw [e1, u64_and_nat x _ hx (by omega), hlow, IntKind.wrap_u64]
  omega
theorem c_tz (x : Nat) (hx : x < 18446744073709551616) (hx0 : x ≠ 0) (w : World) (hT : Tab64 13 w) :
    Calls Tryz.prog 156 #[.int .u64 x] w fun e w' => e = .returned (.int .i64 (Lib.ctz 64 x)) ∧ w = w' := by
  obtain ⟨hlow, hk⟩ := Lib.lowest_bit 64 x hx0 hx
  obtain ⟨hi, htab⟩ := Lib.deBruijn64_at _ hk
  have hcell := hT _ hi
  rw [htab] at hcell
  exact tz_core x _ _ w (by simp; omega) (tz_key x _ hx hx0 hlow) hi hk hcell
theorem mman_pos {m : Nat} (h : m ≠ 0) : mman m ≠ 0 := by unfold mman; split <;> omega
theorem ret4 {k l : IntKind} {a b c d : Int} {x y u v : Bool} (h : a = b) (h2 : c = d) (h3 : x = y) (h4 : u = v) : Ending.returned (.tuple #[.int k a, .int l c, .bool x, .bool u]) = .returned (.tuple #[.int k b, .int l d, .bool y, .bool v]) := by rw [h, h2, h3, h4]
theorem results_tmp4 {fn : Func} {t u v x : Tmp} (h : fn.results = #[.tmp t, .tmp u, .tmp v, .tmp x]) (tmps : Array Value) (P : Program) (w : World) :
    (results fn tmps).run P w = .ok (.tuple #[tmps.getD t undef, tmps.getD u undef, tmps.getD v undef, tmps.getD x undef]) w := by simp [results, h]
/-- What Split says: the odd number and its exponent. -/
def SplitsAs (b : Nat) (e : Ending) : Prop :=
  e = .returned (if 9218868437227405312 ≤ b % 9223372036854775808 then .tuple #[.int .u64 0, .int .i64 0, .bool false, .bool false]
    else if b % 9223372036854775808 = 0 then .tuple #[.int .u64 0, .int .i64 0, .bool (!decide (b < 9223372036854775808)), .bool true]
    else .tuple #[.int .u64 ((mman (b % 9223372036854775808) / 2 ^ Lib.ctz 64 (mman (b % 9223372036854775808)) : Nat) : Int), .int .i64 (mexp (b % 9223372036854775808) + (Lib.ctz 64 (mman (b % 9223372036854775808)) : Nat)), .bool (!decide (b < 9223372036854775808)), .bool true])
end Go.Proofs.YtigbbogfnchgnaaGreatDoor
namespace Go.Proofs.YtigbbogfnchgnaaGreatDoor
open Go.RowKit
set_option linter.unusedVariables false

/-- What holds ahead of a round of a division: the digits from i on are there, r is left. -/
structure DivN (w wr : World) (g : Nat) (t : TypeId) (l : List Nat) (d i : Nat) (L : List Nat) (r : Nat) : Prop where
  blk : Blk wr g t (digs .u64 L).toArray
  len : L.length = l.length
  rng : ∀ x ∈ L, x < 18446744073709551616
  eq : nval 18446744073709551616 (l.drop i) = nval 18446744073709551616 (L.drop i) * d + r
  rd : r < d
  bel : Below w.heap.size w wr
/-- How great the numbers of a quotient may be. -/
def sexp : Nat := 30000
def fexp : Nat := 5000
def nsml : Nat := 2 ^ sexp
theorem nsml_up {N k a : Nat} (hN : N < nsml) (hk : k ≤ fexp) (ha : a ≤ 18446744073709551616) : a * N * 2 ^ k < nbig := by
  have h1 : a * N ≤ 2 ^ 64 * nsml := Nat.mul_le_mul (by simpa using ha) (Nat.le_of_lt hN)
  have h2 : a * N * 2 ^ k ≤ 2 ^ 64 * nsml * 2 ^ fexp := Nat.mul_le_mul h1 (Nat.pow_le_pow_right (by decide) hk)
  have h3 : 2 ^ 64 * nsml * 2 ^ fexp < nbig := by
    unfold nsml nbig
    rw [← Nat.pow_add, ← Nat.pow_add]
    exact Nat.pow_lt_pow_right (by decide) (by unfold sexp nexp fexp; decide)
  omega
theorem nsml_one : 1 < nsml := Nat.one_lt_two_pow (show sexp ≠ 0 by unfold sexp; decide)
theorem word_big {v : Nat} (hv : v < 18446744073709551616) : v < nbig := by
  have := nsml_up (N := 1) (k := 0) (a := v) nsml_one (Nat.zero_le _) (by omega)
  simpa using this
theorem nsml_big {N : Nat} (hN : N < nsml) : N < nbig := by
  have := nsml_up (k := 0) (a := 1) hN (Nat.zero_le _) (by decide)
  simpa using this
theorem nsml_shl {N k : Nat} (hN : N < nsml) (hk : k ≤ fexp) : N * 2 ^ k < nbig := by
  have := nsml_up (a := 1) hN hk (by decide)
  simpa using this
theorem nsml_mul {N a : Nat} (hN : N < nsml) (ha : a < 18446744073709551616) : a * N < nbig := by
  have := nsml_up (k := 0) (a := a) hN (Nat.zero_le _) (by omega)
  simpa using this
set_option maxRecDepth 100000 in
theorem c_against (v : Nat) (e : Int) (A A' : Option Addr) (c c' : Nat) (l m : List Nat) (N D : Nat) (w : World) (h : IsN w w.heap.size .u32 4294967296 A c l N) (h' : IsN w w.heap.size .u32 4294967296 A' c' m D) (hv : v < 18446744073709551616) (he1 : -4000 ≤ e) (he2 : e ≤ 4000) (hN : N < nsml) (hD : D < nsml) :
    Calls Tryz.prog 85 #[.int .u64 (v : Int), .int .i64 e, .slice A l.length c, .slice A' m.length c'] w fun e' w' => e' = .returned (.int .i64 (ncmp (v * D * 2 ^ e.toNat) (N * 2 ^ (-e).toNat))) ∧ Below w.heap.size w w' := by
  have HI := Lib.hid h
  have HI' := Lib.hid h'
  have HN := Lib.hid hN
  have HD := Lib.hid hD
  have hvb : v < nbig := word_big hv
  have HV := Lib.hid hvb
  clear h h' hN hD hvb
  rcases Int.lt_or_le e 0 with hs | hs
  · obtain ⟨k, rfl⟩ : ∃ k : Nat, e = -(k : Int) := ⟨(-e).toNat, by omega⟩
    have hge : ¬ (0 : Int) ≤ -(k : Int) := by omega
    have HF : Hid (ncmp (v * D * 2 ^ (-(k : Int)).toNat) (N * 2 ^ (- -(k : Int)).toNat) = ncmp (v * D) (N * 2 ^ k)) := by
      show _ = _
      rw [show (-(k : Int)).toNat = 0 from by omega, show (- -(k : Int)).toNat = k from by omega, Nat.pow_zero, Nat.mul_one]
    generalize ncmp (v * D * 2 ^ (-(k : Int)).toNat) (N * 2 ^ (- -(k : Int)).toNat) = R at *
    go_enter Tryz.func85, Tryz.ntmps85
    go_wp2_with fail
    refine (c_from v hv _).mono ?_; rintro e1 w1 ⟨A1, c1, l1, rfl, h1, hb1⟩
    have HB1 := Lib.hid hb1
    have H1 := Lib.hid h1
    have H2 := Lib.hid (HI'.out.below hb1)
    clear h1 hb1
    go_wp2_with fail
    refine (c_rmul _ _ _ _ _ _ _ _ _ H1.out H2.out HV.out (nsml_big HD.out)).mono ?_; rintro e2 w2 ⟨A2, c2, l2, rfl, h2, hb2⟩
    have HB2 := Lib.hid (below_step HB1.out hb2)
    have H3 := Lib.hid h2
    have H4 := Lib.hid (HI.out.below (below_step HB1.out hb2))
    clear h2 hb2 H1 H2 HB1
    go_wp2_with fail
    refine (c_up _ _ _ k _ _ H4.out (nsml_big HN.out) (by omega)).mono ?_; rintro e3 w3 ⟨A3, c3, l3, rfl, h3, hb3⟩
    have HB3 := Lib.hid (below_step HB2.out hb3)
    have H5 := Lib.hid h3
    have H6 := Lib.hid (H3.out.below hb3)
    clear h3 hb3 H3 H4 HB2
    have hl3 := len_big H5.out.lb (by decide) (nsml_shl HN.out (show k ≤ fexp by unfold fexp; omega))
    have hl2 := len_big H6.out.lb (by decide) (nsml_mul HD.out hv)
    go_wp2_with fail
    refine (c_rcmp _ _ _ _ _ _ _ _ _ _ H6.out H5.out (by omega) (by omega)).mono ?_; rintro e4 w4 ⟨rfl, hb4⟩
    have HB4 := Lib.hid (below_step HB3.out hb4)
    clear hb4
    go_wp2
    go_ret
    exact ⟨by rw [HF.out]; rfl, HB4.out⟩
  · obtain ⟨k, rfl⟩ : ∃ k : Nat, e = (k : Int) := ⟨e.toNat, by omega⟩
    have HF : Hid (ncmp (v * D * 2 ^ (k : Int).toNat) (N * 2 ^ (-(k : Int)).toNat) = ncmp (v * D * 2 ^ k) N) := by
      show _ = _
      rw [show (-(k : Int)).toNat = 0 from by omega, show (k : Int).toNat = k from by omega, Nat.pow_zero, Nat.mul_one]
    generalize ncmp (v * D * 2 ^ (k : Int).toNat) (N * 2 ^ (-(k : Int)).toNat) = R at *
    go_enter Tryz.func85, Tryz.ntmps85
    go_wp2_with fail
    refine (c_from v hv _).mono ?_; rintro e1 w1 ⟨A1, c1, l1, rfl, h1, hb1⟩
    have HB1 := Lib.hid hb1
    have H1 := Lib.hid h1
    have H2 := Lib.hid (HI'.out.below hb1)
    clear h1 hb1
    go_wp2_with fail
    refine (c_rmul _ _ _ _ _ _ _ _ _ H1.out H2.out HV.out (nsml_big HD.out)).mono ?_; rintro e2 w2 ⟨A2, c2, l2, rfl, h2, hb2⟩
    have HB2 := Lib.hid (below_step HB1.out hb2)
    have H3 := Lib.hid h2
    clear h2 hb2 H1 H2 HB1
    go_wp2_with fail
    refine (c_up _ _ _ k _ _ H3.out (nsml_mul HD.out hv) (by omega)).mono ?_; rintro e3 w3 ⟨A3, c3, l3, rfl, h3, hb3⟩
    have HB3 := Lib.hid (below_step HB2.out hb3)
    have H5 := Lib.hid h3
    have H6 := Lib.hid (HI.out.below HB3.out)
    clear h3 hb3 H3 HB2
    have hl3 := len_big H5.out.lb (by decide) (nsml_up HD.out (show k ≤ fexp by unfold fexp; omega) (show v ≤ _ by omega))
    have hl2 := len_big H6.out.lb (by decide) (nsml_big HN.out)
    go_wp2_with fail
    refine (c_rcmp _ _ _ _ _ _ _ _ _ _ H5.out H6.out (by omega) (by omega)).mono ?_; rintro e4 w4 ⟨rfl, hb4⟩
    have HB4 := Lib.hid (below_step HB3.out hb4)
    clear hb4
    go_wp2
    go_ret
    exact ⟨by rw [HF.out]; rfl, HB4.out⟩
end Go.Proofs.YtigbbogfnchgnaaGreatDoor
namespace Go.Proofs.YtigbbogfnchgnaaGreatDoor
open Go.RowKit
set_option linter.unusedVariables false

theorem ncmp_le (a b : Nat) : ncmp a b ≤ 0 ↔ a ≤ b := by
  rcases Nat.lt_trichotomy a b with h | h | h
  · rw [ncmp_lt h]; omega
  · rw [ncmp_eq h]; omega
  · rw [ncmp_gt h]; omega
theorem ncmp_neg (a b : Nat) : ncmp a b < 0 ↔ a < b := by
  rcases Nat.lt_trichotomy a b with h | h | h
  · rw [ncmp_lt h]; omega
  · rw [ncmp_eq h]; omega
  · rw [ncmp_gt h]; omega
theorem ncmp_zero (a b : Nat) : ncmp a b = 0 ↔ a = b := by
  rcases Nat.lt_trichotomy a b with h | h | h
  · rw [ncmp_lt h]; omega
  · rw [ncmp_eq h]; omega
  · rw [ncmp_gt h]; omega
theorem ncmp_congr {a b c d : Nat} (h1 : a < b ↔ c < d) (h2 : a = b ↔ c = d) : ncmp a b = ncmp c d := by
  rcases Nat.lt_trichotomy a b with h | h | h
  · rw [ncmp_lt h, ncmp_lt (h1.1 h)]
  · rw [ncmp_eq h, ncmp_eq (h2.1 h)]
  · have : d < c := by
      rcases Nat.lt_trichotomy c d with k | k | k
      · have := h1.2 k; omega
      · have := h2.2 k; omega
      · exact k
    rw [ncmp_gt h, ncmp_gt this]
theorem mexp_kx (k : Nat) : mexp k = ((kx k : Nat) : Int) - ((K74 : Nat) : Int) := by
  unfold mexp kx K74
  split <;> omega
theorem mman_psig (k : Nat) : mman k = psig k := by
  unfold mman psig
  split
  · rfl
  · omega
/-- A rung held against a quotient. -/
theorem against_kv (k N D : Nat) : ncmp (mman k * D * 2 ^ (mexp k).toNat) (N * 2 ^ (-mexp k).toNat) = ncmp (kv k * D) (N * 2 ^ K74) := by
  rw [mexp_kx, mman_psig, kv_psig]
  obtain ⟨h1, h2⟩ := held_lt (psig k) N D (kx k) K74
  exact ncmp_congr h1 h2
/-- The middle behind a rung held against a quotient. -/
theorem against_mid (k N D : Nat) : ncmp ((2 * mman k + 1) * D * 2 ^ (mexp k - 1).toNat) (N * 2 ^ (-(mexp k - 1)).toNat) = ncmp ((kv k + kv (k + 1)) * D) (2 * (N * 2 ^ K74)) := by
  rw [mexp_kx, mman_psig, kv_mid]
  obtain ⟨h1, h2⟩ := held_lt (2 * psig k + 1) N D (kx k) (K74 + 1)
  rw [show ((kx k : Nat) : Int) - ((K74 : Nat) : Int) - 1 = ((kx k : Nat) : Int) - ((K74 + 1 : Nat) : Int) from by omega]
  rw [show 2 * (N * 2 ^ K74) = N * 2 ^ (K74 + 1) from by rw [Nat.pow_succ, show N * (2 ^ K74 * 2) = N * 2 ^ K74 * 2 from (Nat.mul_assoc _ _ _).symm, Nat.mul_comm]]
  exact ncmp_congr h1 h2
/-- What holds ahead of a round of the search: the float is from rung a on, and below rung a + b, or that is infinity's. -/
structure NearS (w wr : World) (N D a b : Nat) : Prop where
  lo : kv a * D ≤ N * 2 ^ K74
  hi : a + b = 9218868437227405312 ∨ N * 2 ^ K74 < kv (a + b) * D
  cap : a + b ≤ 9218868437227405312
  pos : 1 ≤ b
  bel : Below w.heap.size w wr
/-- The nearest rung, in memory of one's own. -/
def NearR (N D : Nat) (w : World) (e : Ending) (w' : World) : Prop := ∃ r, e = .returned (.int .u64 ((r : Nat) : Int)) ∧ Near (N * 2 ^ K74) D r ∧ Below w.heap.size w w'
set_option maxRecDepth 100000 in
set_option maxHeartbeats 1000000 in
theorem c_nearest (A A' : Option Addr) (c c' : Nat) (l m : List Nat) (N D : Nat) (w : World) (h : IsN w w.heap.size .u32 4294967296 A c l N) (h' : IsN w w.heap.size .u32 4294967296 A' c' m D) (hN : N < nsml) (hD : D < nsml) (hD0 : 0 < D) :
    Calls Tryz.prog 76 #[.slice A l.length c, .slice A' m.length c'] w (NearR N D w) := by
  have HI := Lib.hid h
  have HI' := Lib.hid h'
  have HN := Lib.hid hN
  have HD := Lib.hid hD
  have HD0 := Lib.hid hD0
  clear h h' hN hD hD0
  obtain ⟨n, hL⟩ : ∃ n, l.length = n := ⟨_, rfl⟩
  obtain ⟨n', hL'⟩ : ∃ n', m.length = n' := ⟨_, rfl⟩
  rw [hL, hL']
  have HL := Lib.hid hL
  have HL' := Lib.hid hL'
  clear hL hL'
  go_enter Tryz.func76, Tryz.ntmps76
  go_wp2_with fail
  go_loopw [5, 6] (fun va vb wr => ∃ a b : Nat, va = .int .u64 a ∧ vb = .int .u64 ((a : Int) + (b : Int)) ∧ a + b ≤ 9218868437227405312 ∧ NearS w wr N D a b) (fun va vb _ => (intOf vb - intOf va).toNat)
  case atStart => exact ⟨0, 9218868437227405312, rfl, rfl, by decide, ⟨by rw [kv_lo (by decide)]; simp, .inl rfl, by decide, by decide, Below.refl _ _⟩⟩
  case round =>
    obtain ⟨a, b, rfl, rfl, hab, HS⟩ := hrel
    have HIw := Lib.hid (HI.out.below HS.bel)
    have HIw' := Lib.hid (HI'.out.below HS.bel)
    have hm1 : (a : Int) + (b : Int) - (a : Int) = (b : Int) := by omega
    by_cases hb : 1 < b
    · have hbI : (1 : Int) < (b : Int) := by omega
      have hq : (b : Int) / 2 = ((b / 2 : Nat) : Int) := by omega
      have hh1 : 1 ≤ b / 2 := by omega
      have hh2 : b / 2 < b := by omega
      obtain ⟨k, hk⟩ : ∃ k, b / 2 = k := ⟨_, rfl⟩
      rw [hk] at hq hh1 hh2
      clear hk
      have hP := c_parts (a + k) (by omega)
      rw [Int.natCast_add] at hP
      have HP := Lib.hid hP
      clear hP
      have hmb := mman_lt (m := a + k) (by omega)
      obtain ⟨hx1, hx2⟩ := mexp_bd (m := a + k) (by omega)
      have hx2' : mexp (a + k) ≤ 4000 := by omega
      have HK := Lib.hid (against_kv (a + k) N D)
      obtain ⟨M, hM⟩ : ∃ M, mman (a + k) = M := ⟨_, rfl⟩
      obtain ⟨E, hE⟩ : ∃ E, mexp (a + k) = E := ⟨_, rfl⟩
      rw [hM] at HP HK hmb
      rw [hE] at HP HK hx1 hx2'
      clear hM hE hx2
      have hag := c_against M E A A' c c' l m N D wr HIw.out HIw'.out (by omega) (by omega) hx2' HN.out HD.out
      rw [HL.out, HL'.out, HK.out] at hag
      have HA := Lib.hid hag
      clear hag
      have HZ := Lib.hid (ncmp_le (kv (a + k) * D) (N * 2 ^ K74))
      have HZ2 : Hid (0 < ncmp (kv (a + k) * D) (N * 2 ^ K74) ↔ N * 2 ^ K74 < kv (a + k) * D) := by
        have := HZ.out
        show _ ↔ _
        omega
      obtain ⟨R, hR⟩ : ∃ R, ncmp (kv (a + k) * D) (N * 2 ^ K74) = R := ⟨_, rfl⟩
      rw [hR] at HA HZ HZ2
      clear hR HK
      by_cases hr : R ≤ 0
      · have HB := Lib.hid (HZ.out.1 hr)
        go_wp2_with fail
        refine (HP.out _).mono ?_; rintro e1 w1 ⟨rfl, rfl⟩
        go_wp2_with fail
        refine HA.out.mono ?_; rintro e2 w2 ⟨rfl, hb2⟩
        have HB2 := Lib.hid (below_step HS.bel hb2)
        clear hb2
        go_wp2
        go_roundw
        case rel => exact ⟨a + k, b - k, by go_num, by go_num, by omega, ⟨HB.out, by rw [show a + k + (b - k) = a + b from by omega]; exact HS.hi, by omega, by omega, HB2.out⟩⟩
        case measure => simp [intOf]; omega
      · have HB := Lib.hid (HZ2.out.1 (by omega))
        go_wp2_with fail
        refine (HP.out _).mono ?_; rintro e1 w1 ⟨rfl, rfl⟩
        go_wp2_with fail
        refine HA.out.mono ?_; rintro e2 w2 ⟨rfl, hb2⟩
        have HB2 := Lib.hid (below_step HS.bel hb2)
        clear hb2
        go_wp2
        go_roundw
        case rel => exact ⟨a, k, rfl, rfl, by omega, ⟨HS.lo, .inr HB.out, by omega, hh1, HB2.out⟩⟩
        case measure => simp [intOf]; omega
    · have hb1 := HS.pos
      obtain rfl : b = 1 := by omega
      have hbI : ¬ (1 : Int) < ((1 : Nat) : Int) := by omega
      have HP := Lib.hid (c_parts a (by omega))
      have hmb := mman_lt (m := a) (by omega)
      obtain ⟨hx1, hx2⟩ := mexp_bd (m := a) (by omega)
      have hx2' : mexp a ≤ 4000 := by omega
      have HK := Lib.hid (against_mid a N D)
      obtain ⟨M, hM⟩ : ∃ M, mman a = M := ⟨_, rfl⟩
      obtain ⟨E, hE⟩ : ∃ E, mexp a = E := ⟨_, rfl⟩
      rw [hM] at HP HK hmb
      rw [hE] at HP HK hx1 hx2'
      clear hM hE hx2
      have hag := c_against (2 * M + 1) (E - 1) A A' c c' l m N D wr HIw.out HIw'.out (by omega) (by omega) (by omega) HN.out HD.out
      rw [HL.out, HL'.out, HK.out, show ((2 * M + 1 : Nat) : Int) = 2 * (M : Int) + 1 from by omega] at hag
      have HA := Lib.hid hag
      clear hag
      have HZ := Lib.hid (ncmp_neg ((kv a + kv (a + 1)) * D) (2 * (N * 2 ^ K74)))
      have HZ2 := Lib.hid (ncmp_zero ((kv a + kv (a + 1)) * D) (2 * (N * 2 ^ K74)))
      obtain ⟨R, hR⟩ : ∃ R, ncmp ((kv a + kv (a + 1)) * D) (2 * (N * 2 ^ K74)) = R := ⟨_, rfl⟩
      rw [hR] at HA HZ HZ2
      clear hR HK
      have HNO := Lib.hid (fun (up : Bool) => near_of (X := N * 2 ^ K74) (up := up) HD0.out HS.lo HS.hi (by omega))
      by_cases hr : R < 0
      · have HF : Hid (Near (N * 2 ^ K74) D (a + 1)) := HNO.out true ⟨fun _ => .inl (HZ.out.1 hr), fun _ => rfl⟩
        go_wp2_with fail
        refine (HP.out _).mono ?_; rintro e1 w1 ⟨rfl, rfl⟩
        go_wp2_with fail
        refine HA.out.mono ?_; rintro e2 w2 ⟨rfl, hb2⟩
        have HB2 := Lib.hid (below_step HS.bel hb2)
        clear hb2
        go_wp2
        go_ret
        exact ⟨a + 1, by simp, HF.out, HB2.out⟩
      · by_cases hz : R = 0
        · have hz' : (R == 0) = true := by simp [hz]
          have hev : a % 2 = 0 ∨ a % 2 = 1 := by omega
          have hmo : (a : Int) % 2 = ((a % 2 : Nat) : Int) := by omega
          have HZ3 := Lib.hid (HZ2.out.1 hz)
          have HZn := Lib.hid hz
          clear hz
          rcases hev with hev | hev
          · have HF : Hid (Near (N * 2 ^ K74) D (a + 0)) := HNO.out false ⟨fun h => (by cases h), fun h => by
              rcases h with h | ⟨_, h⟩
              · exact absurd (HZ.out.2 h) hr
              · omega⟩
            rw [hev] at hmo
            have hmo' : ((a : Int) % 2 == 1) = false := by rw [hmo]; rfl
            clear hmo hev
            go_wp2_with fail
            refine (HP.out _).mono ?_; rintro e1 w1 ⟨rfl, rfl⟩
            go_wp2_with fail
            refine HA.out.mono ?_; rintro e2 w2 ⟨rfl, hb2⟩
            have HB2 := Lib.hid (below_step HS.bel hb2)
            clear hb2
            go_wp2
            go_ret
            exact ⟨a, rfl, HF.out, HB2.out⟩
          · have HF : Hid (Near (N * 2 ^ K74) D (a + 1)) := HNO.out true ⟨fun _ => .inr ⟨HZ3.out, hev⟩, fun _ => rfl⟩
            rw [hev] at hmo
            have hmo' : ((a : Int) % 2 == 1) = true := by rw [hmo]; rfl
            clear hmo hev
            go_wp2_with fail
            refine (HP.out _).mono ?_; rintro e1 w1 ⟨rfl, rfl⟩
            go_wp2_with fail
            refine HA.out.mono ?_; rintro e2 w2 ⟨rfl, hb2⟩
            have HB2 := Lib.hid (below_step HS.bel hb2)
            clear hb2
            go_wp2
            go_ret
            exact ⟨a + 1, by simp, HF.out, HB2.out⟩
        · have hz' : (R == 0) = false := by simp [hz]
          have HF : Hid (Near (N * 2 ^ K74) D (a + 0)) := HNO.out false ⟨fun h => (by cases h), fun h => by
            rcases h with h | ⟨h, _⟩
            · exact absurd (HZ.out.2 h) hr
            · exact absurd (HZ2.out.2 h) hz⟩
          go_wp2_with fail
          refine (HP.out _).mono ?_; rintro e1 w1 ⟨rfl, rfl⟩
          go_wp2_with fail
          refine HA.out.mono ?_; rintro e2 w2 ⟨rfl, hb2⟩
          have HB2 := Lib.hid (below_step HS.bel hb2)
          clear hb2
          go_wp2
          go_ret
          exact ⟨a, rfl, HF.out, HB2.out⟩
end Go.Proofs.YtigbbogfnchgnaaGreatDoor
