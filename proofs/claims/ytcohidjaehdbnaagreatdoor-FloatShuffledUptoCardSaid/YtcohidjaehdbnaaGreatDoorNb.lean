/- Plain words: numbers as rows of digits to a base, the lowest first; sums, differences, products, shifts step by step (no program). Conditions: none. -/
import Derived.WalkKit
namespace Go.Proofs.YtcohidjaehdbnaaGreatDoor
set_option linter.unusedVariables false

/-- The number that digits stand for, the lowest first. -/
def nval (B : Nat) : List Nat → Nat
  | [] => 0
  | x :: l => x + B * nval B l
theorem nval_app (B : Nat) : ∀ (a b : List Nat), nval B (a ++ b) = nval B a + B ^ a.length * nval B b
  | [], b => by simp [nval]
  | x :: a, b => by
    show x + B * nval B (a ++ b) = x + B * nval B a + B ^ (a.length + 1) * nval B b
    rw [nval_app B a b, Nat.mul_add, Nat.pow_succ, ← Nat.mul_assoc, Nat.mul_comm B (B ^ a.length)]
    omega
theorem nval_one (B x : Nat) : nval B [x] = x := by simp [nval]
theorem nval_snoc (B : Nat) (l : List Nat) (x : Nat) : nval B (l ++ [x]) = nval B l + B ^ l.length * x := by rw [nval_app, nval_one]
theorem nval_zeros (B n : Nat) : nval B (List.replicate n 0) = 0 := by
  induction n with
  | zero => rfl
  | succ n ih => rw [List.replicate_succ]; show 0 + B * nval B _ = 0; rw [ih]; simp
theorem nval_lt {B : Nat} : ∀ {l : List Nat}, (∀ x ∈ l, x < B) → nval B l < B ^ l.length
  | [], _ => by simp [nval]
  | x :: l, h => by
    have h1 := nval_lt (l := l) fun y hy => h y (List.mem_cons_of_mem _ hy)
    have h2 := h x List.mem_cons_self
    show x + B * nval B l < B ^ (l.length + 1)
    rw [Nat.pow_succ, Nat.mul_comm (B ^ l.length)]
    have h3 : B * (nval B l + 1) ≤ B * B ^ l.length := Nat.mul_le_mul_left B h1
    rw [Nat.mul_add] at h3
    omega
/-- One more digit of a row; behind its end stand noughts. -/
theorem nval_take (B : Nat) (l : List Nat) (i : Nat) : nval B (l.take (i + 1)) = nval B (l.take i) + B ^ i * l.getD i 0 := by
  rcases Nat.lt_or_ge i l.length with h | h
  · rw [List.take_succ_eq_append_getElem h, nval_snoc, List.length_take, Nat.min_eq_left (by omega), List.getD, List.getElem?_eq_getElem h]; rfl
  · rw [List.take_of_length_le h, List.take_of_length_le (by omega), List.getD, List.getElem?_eq_none h]; simp
theorem nval_set (B : Nat) : ∀ (l : List Nat) (i x : Nat), i < l.length → nval B (l.set i x) + B ^ i * l.getD i 0 = nval B l + B ^ i * x
  | [], i, x, h => by simp at h
  | y :: l, 0, x, h => by
    simp only [List.set_cons_zero, List.getD_cons_zero, Nat.pow_zero, Nat.one_mul, nval]
    omega
  | y :: l, i + 1, x, h => by
    have ih := nval_set B l i x (by simpa using h)
    simp only [List.set_cons_succ, List.getD_cons_succ, nval, Nat.pow_succ]
    have e1 : B ^ i * B * l.getD i 0 = B * (B ^ i * l.getD i 0) := by rw [Nat.mul_comm (B ^ i) B, Nat.mul_assoc]
    have e2 : B ^ i * B * x = B * (B ^ i * x) := by rw [Nat.mul_comm (B ^ i) B, Nat.mul_assoc]
    rw [e1, e2]
    have := congrArg (B * ·) ih
    simp only [Nat.mul_add] at this
    omega
/-- A number's row: digits in their range, no nought on top. -/
structure Lb (B N : Nat) (l : List Nat) : Prop where
  rng : ∀ x ∈ l, x < B
  top : l.getLast? ≠ some 0
  val : nval B l = N
theorem Lb.lt {B N : Nat} {l : List Nat} (h : Lb B N l) : N < B ^ l.length := by rw [← h.val]; exact nval_lt h.rng
theorem Lb.nil {B : Nat} : Lb B 0 [] := ⟨fun x h => (by cases h), by simp, rfl⟩
theorem last_split {l : List Nat} (h : l ≠ []) : ∃ m x, l = m ++ [x] := ⟨l.dropLast, l.getLast h, (List.dropLast_concat_getLast h).symm⟩
theorem Lb.le {B N : Nat} {l : List Nat} (h : Lb B N l) (hl : l ≠ []) : B ^ (l.length - 1) ≤ N := by
  obtain ⟨m, x, rfl⟩ := last_split hl
  have ht := h.top
  rw [List.getLast?_append] at ht
  have hx : 1 ≤ x := Nat.pos_of_ne_zero (by rintro rfl; exact ht rfl)
  rw [← h.val, nval_snoc, List.length_append]
  show B ^ (m.length + 1 - 1) ≤ _
  rw [Nat.add_sub_cancel]
  have := Nat.mul_le_mul_left (B ^ m.length) hx
  omega
theorem Lb.zero {B N : Nat} {l : List Nat} (h : Lb B N l) (hB : 0 < B) : l = [] ↔ N = 0 := by
  constructor
  · rintro rfl; exact h.val.symm
  · rintro rfl
    by_cases hl : l = []
    · exact hl
    · have := h.le hl
      have := Nat.pow_pos (n := l.length - 1) hB
      omega
theorem Lb.shorter {B N M : Nat} {l m : List Nat} (hB : 0 < B) (h : Lb B N l) (k : Lb B M m) (hl : l.length < m.length) : N < M := by
  have h1 := h.lt
  have h2 := k.le (by rintro rfl; simp at hl)
  have h3 : B ^ l.length ≤ B ^ (m.length - 1) := Nat.pow_le_pow_right hB (by omega)
  omega
/-- How many digits stand below a nought's row on top. -/
def kpN (l : List Nat) : Nat → Nat
  | 0 => 0
  | n + 1 => if l.getD n 0 = 0 then kpN l n else n + 1
theorem kpN_le (l : List Nat) : ∀ n, kpN l n ≤ n
  | 0 => Nat.le_refl _
  | n + 1 => by unfold kpN; split; exact Nat.le_succ_of_le (kpN_le l n); exact Nat.le_refl _
theorem kpN_stop {l : List Nat} {n : Nat} (h : l.getD n 0 ≠ 0) : kpN l (n + 1) = n + 1 := if_neg h
theorem kpN_go {l : List Nat} {n : Nat} (h : l.getD n 0 = 0) : kpN l (n + 1) = kpN l n := if_pos h
theorem kpN_val (B : Nat) (l : List Nat) : ∀ n, nval B (l.take (kpN l n)) = nval B (l.take n)
  | 0 => rfl
  | n + 1 => by
    unfold kpN
    split
    · rename_i h
      rw [kpN_val B l n, nval_take, h]; simp
    · rfl
theorem kpN_top (l : List Nat) : ∀ n, n ≤ l.length → (l.take (kpN l n)).getLast? ≠ some 0
  | 0, _ => by simp [kpN]
  | n + 1, hn => by
    unfold kpN
    split
    · exact kpN_top l n (by omega)
    · rename_i h
      rw [List.take_succ_eq_append_getElem (by omega), List.getLast?_append]
      have e : l.getD n 0 = l[n] := by rw [List.getD, List.getElem?_eq_getElem (by omega)]; rfl
      rw [e] at h
      simpa using h
/-- What is left when the noughts on top are cut off. -/
def trimN (l : List Nat) : List Nat := l.take (kpN l l.length)
theorem trimN_lb {B : Nat} {l : List Nat} (h : ∀ x ∈ l, x < B) : Lb B (nval B l) (trimN l) :=
  ⟨fun x hx => h x (List.mem_of_mem_take hx), kpN_top l _ (Nat.le_refl _), by unfold trimN; rw [kpN_val, List.take_of_length_le (Nat.le_refl _)]⟩
theorem trimN_len (l : List Nat) : (trimN l).length = kpN l l.length := by
  have := kpN_le l l.length
  unfold trimN; rw [List.length_take]; omega
/-- A sum's next digit. -/
theorem add_next {B i x y c s : Nat} {L a b : List Nat} (hL : L.length = i) (hx : a.getD i 0 = x) (hy : b.getD i 0 = y) (hs : s = x + y + c) (h : nval B L + c * B ^ i = nval B (a.take i) + nval B (b.take i)) :
    nval B (L ++ [s % B]) + (s / B) * B ^ (i + 1) = nval B (a.take (i + 1)) + nval B (b.take (i + 1)) := by
  rw [nval_snoc, nval_take, nval_take, hx, hy, hL, Nat.pow_succ]
  have e := Nat.div_add_mod s B
  have e2 : B ^ i * (s % B) + s / B * (B ^ i * B) = B ^ i * s := by
    conv => rhs; rw [← e, Nat.mul_add]
    rw [Nat.mul_comm (s / B), Nat.mul_assoc, Nat.add_comm]
  have e3 : B ^ i * s = B ^ i * x + B ^ i * y + c * B ^ i := by rw [hs, Nat.mul_add, Nat.mul_add, Nat.mul_comm c]
  omega
/-- A difference's next digit: d is the digit, c2 what is borrowed. -/
theorem sub_next {B i x y c d c2 : Nat} {L a b : List Nat} (hL : L.length = i) (hx : a.getD i 0 = x) (hy : b.getD i 0 = y) (hs : x + c2 * B = d + y + c) (h : nval B (a.take i) + c * B ^ i = nval B L + nval B (b.take i)) :
    nval B (a.take (i + 1)) + c2 * B ^ (i + 1) = nval B (L ++ [d]) + nval B (b.take (i + 1)) := by
  rw [nval_snoc, nval_take, nval_take, hx, hy, hL, Nat.pow_succ]
  have e := congrArg (B ^ i * ·) hs
  simp only [Nat.mul_add] at e
  have e2 : B ^ i * (c2 * B) = c2 * (B ^ i * B) := by rw [Nat.mul_comm c2 B, ← Nat.mul_assoc, Nat.mul_comm c2]
  have e3 : B ^ i * c = c * B ^ i := Nat.mul_comm _ _
  omega
/-- A shifted row's next digit. -/
theorem up_next {B i q x c s T : Nat} {L a : List Nat} (hL : L.length = q + i) (hx : a.getD i 0 = x) (hs : s = x * T + c) (h : nval B L + c * B ^ (q + i) = nval B (a.take i) * T * B ^ q) :
    nval B (L ++ [s % B]) + (s / B) * B ^ (q + (i + 1)) = nval B (a.take (i + 1)) * T * B ^ q := by
  rw [nval_snoc, nval_take, hx, hL, ← Nat.add_assoc, Nat.pow_succ]
  have e := Nat.div_add_mod s B
  have e2 : B ^ (q + i) * (s % B) + s / B * (B ^ (q + i) * B) = B ^ (q + i) * s := by
    conv => rhs; rw [← e, Nat.mul_add]
    rw [Nat.mul_comm (s / B), Nat.mul_assoc, Nat.add_comm]
  have e3 : B ^ (q + i) * s = B ^ i * x * T * B ^ q + c * B ^ (q + i) := by
    rw [hs, Nat.mul_add, Nat.mul_comm _ c]
    congr 1
    rw [Nat.add_comm q i, Nat.pow_add]
    simp only [Nat.mul_comm, Nat.mul_left_comm, Nat.mul_assoc]
  have e4 : (nval B (a.take i) + B ^ i * x) * T * B ^ q = nval B (a.take i) * T * B ^ q + B ^ i * x * T * B ^ q := by rw [Nat.add_mul, Nat.add_mul]
  omega
/-- A product's next digit within a row: position i + k takes the low part of s, c2 is carried. -/
theorem mul_next {B i k x y o c s : Nat} {L b : List Nat} {P : Nat} (hk : i + k < L.length) (ho : L.getD (i + k) 0 = o) (hy : b.getD k 0 = y) (hs : s = o + x * y + c) (h : nval B L + c * B ^ (i + k) = P + B ^ i * (x * nval B (b.take k))) :
    nval B (L.set (i + k) (s % B)) + (s / B) * B ^ (i + (k + 1)) = P + B ^ i * (x * nval B (b.take (k + 1))) := by
  have h1 := nval_set B L (i + k) (s % B) hk
  rw [ho] at h1
  rw [nval_take, hy, ← Nat.add_assoc, Nat.pow_succ]
  have e := Nat.div_add_mod s B
  have e2 : B ^ (i + k) * (s % B) + s / B * (B ^ (i + k) * B) = B ^ (i + k) * s := by
    conv => rhs; rw [← e, Nat.mul_add]
    rw [Nat.mul_comm (s / B), Nat.mul_assoc, Nat.add_comm]
  have e3 : B ^ (i + k) * s = B ^ (i + k) * o + B ^ (i + k) * (x * y) + c * B ^ (i + k) := by rw [hs, Nat.mul_add, Nat.mul_add, Nat.mul_comm _ c]
  have e4 : B ^ i * (x * (nval B (b.take k) + B ^ k * y)) = B ^ i * (x * nval B (b.take k)) + B ^ (i + k) * (x * y) := by
    rw [Nat.mul_add, Nat.mul_add, Nat.pow_add]
    congr 1
    simp only [Nat.mul_comm, Nat.mul_left_comm, Nat.mul_assoc]
  omega
/-- Two rows of one length, alike above a place. -/
theorem nval_cmp {B : Nat} : ∀ {a b : List Nat} {i : Nat}, a.length = b.length → (∀ x ∈ a, x < B) → (∀ x ∈ b, x < B) → a.drop (i + 1) = b.drop (i + 1) → i < a.length → a.getD i 0 < b.getD i 0 → nval B a < nval B b := by
  intro a b i hl ha hb hd hi hx
  have hta : nval B (a.take i) < B ^ i := by
    have := nval_lt (l := a.take i) fun x h => ha x (List.mem_of_mem_take h)
    rwa [List.length_take, Nat.min_eq_left (by omega)] at this
  have e1 : nval B a = nval B (a.take (i + 1)) + B ^ (i + 1) * nval B (a.drop (i + 1)) := by
    conv => lhs; rw [← List.take_append_drop (i + 1) a, nval_app, List.length_take, Nat.min_eq_left (by omega)]
  have e2 : nval B b = nval B (b.take (i + 1)) + B ^ (i + 1) * nval B (b.drop (i + 1)) := by
    conv => lhs; rw [← List.take_append_drop (i + 1) b, nval_app, List.length_take, Nat.min_eq_left (by omega)]
  rw [e1, e2, hd, nval_take, nval_take]
  have h1 : B ^ i * (a.getD i 0 + 1) ≤ B ^ i * b.getD i 0 := Nat.mul_le_mul_left _ hx
  rw [Nat.mul_add] at h1
  omega
theorem drop_eq_step {a b : List Nat} {i : Nat} (hl : a.length = b.length) (hi : i < a.length) (h : a.drop (i + 1) = b.drop (i + 1)) (hx : a.getD i 0 = b.getD i 0) : a.drop i = b.drop i := by
  have hj : i < b.length := by omega
  rw [List.drop_eq_getElem_cons hi, List.drop_eq_getElem_cons hj, h]
  rw [List.getD, List.getD, List.getElem?_eq_getElem hi, List.getElem?_eq_getElem hj] at hx
  exact congrArg (· :: _) hx
end Go.Proofs.YtcohidjaehdbnaaGreatDoor
