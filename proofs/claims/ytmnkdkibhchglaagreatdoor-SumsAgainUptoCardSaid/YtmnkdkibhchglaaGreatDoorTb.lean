/- Plain words: what a line of a list says (sums.Read): how many digits stand at a place, the worth of digits, the tag, the bits, the name, the entry or the place of its first fault; no walk. Conditions: none. -/
import Derived.Test.YtmnkdkibhchglaaGreatDoorTa
import Derived.Test.YtmnkdkibhchglaaGreatDoorEe
import Derived.Lib.AtoiAllCases
import Derived.Lib.LastIndexLaws
namespace Go.Proofs.YtmnkdkibhchglaaGreatDoor
open Go.RowKit
set_option linter.unusedVariables false

/-- How many of the first are such. -/
def cnt (p : UInt8 → Bool) : List UInt8 → Nat
  | [] => 0
  | c :: l => if p c then cnt p l + 1 else 0
theorem cnt_le (p : UInt8 → Bool) (l : List UInt8) : cnt p l ≤ l.length := by
  induction l with
  | nil => exact Nat.le_refl _
  | cons c l ih => unfold cnt; split <;> simp <;> omega
theorem cnt_step {p : UInt8 → Bool} {l : List UInt8} {n : Nat} {c : UInt8} (hn : n ≤ cnt p l) (hc : l[n]? = some c) : (p c = true → n + 1 ≤ cnt p l) ∧ (p c = false → cnt p l = n) := by
  induction l generalizing n with
  | nil => simp at hc
  | cons d l ih =>
    unfold cnt at hn ⊢
    cases n with
    | zero =>
      simp at hc
      subst hc
      constructor <;> intro h <;> simp [h]
    | succ n =>
      split at hn
      · rename_i hd
        have h2 := ih (n := n) (by omega) (by simpa using hc)
        constructor <;> intro h <;> simp only [hd, if_true]
        · have := h2.1 h; omega
        · have := h2.2 h; omega
      · omega
theorem cnt_end {p : UInt8 → Bool} {l : List UInt8} {n : Nat} (hn : n ≤ cnt p l) (hc : l.length ≤ n) : cnt p l = n := by
  have := cnt_le p l; omega
theorem cnt_in {p : UInt8 → Bool} {l : List UInt8} {k : Nat} (hk : k < cnt p l) : ∃ c, l[k]? = some c ∧ p c = true := by
  induction l generalizing k with
  | nil => simp [cnt] at hk
  | cons d l ih =>
    unfold cnt at hk
    split at hk
    · cases k with
      | zero => exact ⟨d, rfl, by assumption⟩
      | succ k => simpa using ih (k := k) (by omega)
    · omega
theorem cnt_take (p : UInt8 → Bool) (l : List UInt8) : ∀ c ∈ l.take (cnt p l), p c = true := by
  intro c hc
  obtain ⟨k, hk⟩ := List.mem_iff_getElem?.1 hc
  rw [List.getElem?_take] at hk
  split at hk
  · obtain ⟨d, hd, hp⟩ := cnt_in (p := p) (l := l) (k := k) (by assumption)
    rw [hd] at hk
    cases hk
    exact hp
  · cases hk
/-- A digit of base 16; of base ten. -/
abbrev hP (c : UInt8) : Bool := hB c.toNat
abbrev dP (c : UInt8) : Bool := decide (48 ≤ c.toNat) && decide (c.toNat ≤ 57)
/-- How many digits of base 16 (of base ten) stand at a place. -/
def hexN (s : ByteArray) (i : Nat) : Nat := cnt hP (s.data.toList.drop i)
def digN (s : ByteArray) (i : Nat) : Nat := cnt dP (s.data.toList.drop i)
theorem drop_len (s : ByteArray) (i : Nat) : (s.data.toList.drop i).length = s.size - i := by rw [List.length_drop]; rfl
theorem drop_get (s : ByteArray) (i k : Nat) (h : i + k < s.size) : (s.data.toList.drop i)[k]? = some s[i + k] := by
  rw [List.getElem?_drop, List.getElem?_eq_getElem (show i + k < s.data.toList.length from h)]
  rfl
theorem ba_get (s : ByteArray) (i : Nat) (h : i < s.size) : s.data.toList[i]? = some s[i] := by
  rw [List.getElem?_eq_getElem (show i < s.data.toList.length from h)]
  rfl
theorem ba_none (s : ByteArray) (i : Nat) (h : s.size ≤ i) : s.data.toList[i]? = none := List.getElem?_eq_none h
theorem hexN_le (s : ByteArray) (i : Nat) : hexN s i ≤ s.size - i := by have := cnt_le hP (s.data.toList.drop i); rw [drop_len] at this; exact this
theorem digN_le (s : ByteArray) (i : Nat) : digN s i ≤ s.size - i := by have := cnt_le dP (s.data.toList.drop i); rw [drop_len] at this; exact this
theorem hexN_go (s : ByteArray) (i n : Nat) (h : i + n < s.size) (hn : n ≤ hexN s i) (hb : hB s[i + n].toNat = true) : n + 1 ≤ hexN s i := (cnt_step hn (drop_get s i n h)).1 hb
theorem hexN_stop (s : ByteArray) (i n : Nat) (h : i + n < s.size) (hn : n ≤ hexN s i) (hb : hB s[i + n].toNat = false) : hexN s i = n := (cnt_step hn (drop_get s i n h)).2 hb
theorem hexN_end (s : ByteArray) (i n : Nat) (h : s.size ≤ i + n) (hn : n ≤ hexN s i) : hexN s i = n := by have := hexN_le s i; omega
theorem digN_go (s : ByteArray) (i n : Nat) (h : i + n < s.size) (hn : n ≤ digN s i) (hb : dP s[i + n] = true) : n + 1 ≤ digN s i := (cnt_step hn (drop_get s i n h)).1 hb
theorem digN_stop (s : ByteArray) (i n : Nat) (h : i + n < s.size) (hn : n ≤ digN s i) (hb : dP s[i + n] = false) : digN s i = n := (cnt_step hn (drop_get s i n h)).2 hb
theorem digN_end (s : ByteArray) (i n : Nat) (h : s.size ≤ i + n) (hn : n ≤ digN s i) : digN s i = n := by have := digN_le s i; omega
/-- The worth of digits of base ten. -/
def dval (l : List UInt8) : Nat := l.foldl (fun a c => 10 * a + (c.toNat - 48)) 0
theorem dval_snoc (l : List UInt8) (c : UInt8) : dval (l ++ [c]) = 10 * dval l + (c.toNat - 48) := by simp [dval]
theorem dval_from (l : List UInt8) (a : Nat) : a ≤ l.foldl (fun a c => 10 * a + (c.toNat - 48)) a := by
  induction l generalizing a with
  | nil => exact Nat.le_refl _
  | cons c l ih => exact Nat.le_trans (by omega) (ih (10 * a + (c.toNat - 48)))
theorem parse_digits1 (l : List UInt8) (acc V : Nat) (ha : acc < 18446744073709551616) (hd : ∀ c ∈ l, dP c = true) (hV : l.foldl (fun a c => 10 * a + (c.toNat - 48)) acc = V) :
    Lib.parseUint10 acc l = if 18446744073709551616 ≤ V then .range else .ok V := by
  induction l generalizing acc with
  | nil => have e : acc = V := hV; subst e; rw [if_neg (by omega)]; rfl
  | cons c l ih =>
    have hc := hd c List.mem_cons_self
    simp only [dP, Bool.and_eq_true, decide_eq_true_eq] at hc
    have hV2 : l.foldl (fun a c => 10 * a + (c.toNat - 48)) (10 * acc + (c.toNat - 48)) = V := hV
    have hm := dval_from l (10 * acc + (c.toNat - 48))
    rw [hV2] at hm
    unfold Lib.parseUint10
    rw [if_pos hc]
    by_cases h1 : 1844674407370955162 ≤ acc
    · rw [if_pos h1, if_pos (by omega)]
    · rw [if_neg h1]
      by_cases h2 : 18446744073709551616 ≤ acc * 10 + (c.toNat - 48)
      · rw [if_pos h2, if_pos (by omega)]
      · rw [if_neg h2, Nat.mul_comm acc 10]
        exact ih _ (by omega) (fun d hd' => hd d (List.mem_cons_of_mem _ hd')) hV2
theorem parse_digits (l : List UInt8) (acc : Nat) (ha : acc < 18446744073709551616) (hd : ∀ c ∈ l, dP c = true) :
    Lib.parseUint10 acc l = if 18446744073709551616 ≤ l.foldl (fun a c => 10 * a + (c.toNat - 48)) acc then .range else .ok (l.foldl (fun a c => 10 * a + (c.toNat - 48)) acc) := parse_digits1 l acc _ ha hd rfl
theorem atoi_digits (l : List UInt8) (hd : ∀ c ∈ l, dP c = true) :
    Lib.atoiAll l = if l = [] then .syntax else if 9223372036854775808 ≤ dval l then .range else .ok (dval l : Int) := by
  cases l with
  | nil => rfl
  | cons c l =>
    have hc := hd c List.mem_cons_self
    simp only [dP, Bool.and_eq_true, decide_eq_true_eq] at hc
    rw [Lib.atoiAll_plain c l (by omega) (by omega), if_neg (by simp)]
    unfold Lib.parseMag
    rw [if_neg (by simp), parse_digits _ 0 (by decide) hd]
    show Lib.signless (if 18446744073709551616 ≤ dval (c :: l) then .range else .ok (dval (c :: l))) = _
    by_cases h1 : 18446744073709551616 ≤ dval (c :: l)
    · rw [if_pos h1, if_pos (by omega)]; rfl
    · rw [if_neg h1]
      by_cases h2 : 9223372036854775808 ≤ dval (c :: l)
      · rw [if_pos h2]; simp [Lib.signless, h2]
      · rw [if_neg h2]; simp [Lib.signless, h2]
/-- Does a line name a way of hashing at a place, as a tagged one? -/
def wayB (s : ByteArray) (i : Nat) (a : Int) : Bool := (swrd a).isPrefixOf (s.data.toList.drop i) && (s.data.toList[i + (swrd a).length]? == some 32 || s.data.toList[i + (swrd a).length]? == some 45)
/-- Which? -/
def wayAt (s : ByteArray) (i : Nat) : Int := if wayB s i 1 then 1 else if wayB s i 2 then 2 else if wayB s i 3 then 3 else if wayB s i 4 then 4 else 0
theorem wayAt_hit (s : ByteArray) (i : Nat) (a : Int) (h1 : 1 ≤ a) (h4 : a ≤ 4) (hb : ∀ b, 1 ≤ b → b < a → wayB s i b = false) (ha : wayB s i a = true) : wayAt s i = a := by
  unfold wayAt
  obtain rfl | rfl | rfl | rfl : a = 1 ∨ a = 2 ∨ a = 3 ∨ a = 4 := by omega
  · simp [ha]
  · simp [ha, hb 1 (by decide) (by decide)]
  · simp [ha, hb 1 (by decide) (by decide), hb 2 (by decide) (by decide)]
  · simp [ha, hb 1 (by decide) (by decide), hb 2 (by decide) (by decide), hb 3 (by decide) (by decide)]
theorem wayAt_no (s : ByteArray) (i : Nat) (hb : ∀ b, 1 ≤ b → b < 5 → wayB s i b = false) : wayAt s i = 0 := by
  unfold wayAt
  simp [hb 1 (by decide) (by decide), hb 2 (by decide) (by decide), hb 3 (by decide) (by decide), hb 4 (by decide) (by decide)]
/-- How many bytes the digest has: the place behind, and how many; or the fault's place. -/
def bitS (s : ByteArray) (i most : Nat) : Nat ⊕ (Nat × Nat) :=
  if s.data.toList[i]? = some 45 then
    if digN s (i + 1) = 0 ∨ s.data.toList[i + 1]? = some 48 ∨ dval ((s.data.toList.drop (i + 1)).take (digN s (i + 1))) % 8 ≠ 0 ∨ 8 * most < dval ((s.data.toList.drop (i + 1)).take (digN s (i + 1))) then .inl (i + 1)
    else .inr (i + 1 + digN s (i + 1), dval ((s.data.toList.drop (i + 1)).take (digN s (i + 1))) / 8)
  else .inr (i, most)
/-- The name that a text says. -/
def nmS (mk : Bool) (t : ByteArray) : Option (List UInt8) := if mk then (if unE t = 0 then some (unN t) else none) else if fileB t.data.toList then some t.data.toList else none
/-- The bytes of the first 2k digits of base 16. -/
def uhk (l : List UInt8) (k : Nat) : List UInt8 := (List.range k).map fun j => UInt8.ofNat (16 * hV (l.getD (2 * j) 0).toNat + hV (l.getD (2 * j + 1) 0).toNat)
theorem uhk_len (l : List UInt8) (k : Nat) : (uhk l k).length = k := by simp [uhk]
theorem uhk_succ (l : List UInt8) (k : Nat) : uhk l (k + 1) = uhk l k ++ [UInt8.ofNat (16 * hV (l.getD (2 * k) 0).toNat + hV (l.getD (2 * k + 1) 0).toNat)] := by simp [uhk, List.range_succ]
/-- The bytes of digits of base 16. -/
def uhp (l : List UInt8) : List UInt8 := uhk l (l.length / 2)
/-- An untagged line's entry, from its digits on. -/
def bareS (s : ByteArray) (i : Nat) (p : Int) (mk : Bool) : Nat ⊕ Sm :=
  if 2 * smost p < hexN s i then .inl (i + 2 * smost p)
  else if hexN s i = 0 ∨ hexN s i % 2 = 1 then .inl (i + hexN s i)
  else if s.data.toList[i + hexN s i]? ≠ some 32 then .inl (i + hexN s i)
  else if s.data.toList[i + hexN s i + 1]? ≠ some 32 ∧ s.data.toList[i + hexN s i + 1]? ≠ some 42 then .inl (i + hexN s i + 1)
  else match nmS mk (s.extract (i + hexN s i + 2) s.size) with
    | none => .inl (i + hexN s i + 2)
    | some nm => .inr ⟨p, ⟨nm.toArray⟩, uhp ((s.data.toList.drop i).take (hexN s i)), s.data.toList[i + hexN s i + 1]? == some 42⟩
/-- Behind the bits of a tagged line: the brackets, the name, the digits. -/
def tailS (s : ByteArray) (i n : Nat) (a : Int) (mk : Bool) : Nat ⊕ Sm :=
  if s.data.toList[i]? ≠ some 32 then .inl i
  else if s.data.toList[i + 1]? ≠ some 40 then .inl (i + 1)
  else if Lib.lastIndex s.data.toList [41, 32, 61, 32] < (i + 2 : Nat) then .inl s.size
  else match nmS mk (s.extract (i + 2) (Lib.lastIndex s.data.toList [41, 32, 61, 32]).toNat) with
    | none => .inl (i + 2)
    | some nm =>
      if hexN s ((Lib.lastIndex s.data.toList [41, 32, 61, 32]).toNat + 4) ≠ 2 * n ∨ (Lib.lastIndex s.data.toList [41, 32, 61, 32]).toNat + 4 + hexN s ((Lib.lastIndex s.data.toList [41, 32, 61, 32]).toNat + 4) < s.size then .inl ((Lib.lastIndex s.data.toList [41, 32, 61, 32]).toNat + 4 + min (hexN s ((Lib.lastIndex s.data.toList [41, 32, 61, 32]).toNat + 4)) (2 * n))
      else .inr ⟨a, ⟨nm.toArray⟩, uhp ((s.data.toList.drop ((Lib.lastIndex s.data.toList [41, 32, 61, 32]).toNat + 4)).take (hexN s ((Lib.lastIndex s.data.toList [41, 32, 61, 32]).toNat + 4))), false⟩
/-- A tagged line's entry, from behind its word on. -/
def tggS (s : ByteArray) (i : Nat) (a : Int) (mk : Bool) : Nat ⊕ Sm := match bitS s i (smost a) with | .inl j => .inl j | .inr (j, n) => tailS s j n a mk
/-- A line's entry, or the place of its first fault. -/
def lineS (s : ByteArray) (p : Int) : Nat ⊕ Sm :=
  if wayAt s (if hpB s 92 then 1 else 0) ≠ 0 then tggS s ((if hpB s 92 then 1 else 0) + (swrd (wayAt s (if hpB s 92 then 1 else 0))).length) (wayAt s (if hpB s 92 then 1 else 0)) (hpB s 92)
  else bareS s (if hpB s 92 then 1 else 0) p (hpB s 92)
/-- No entry. -/
def smN : Sm := ⟨0, ⟨#[]⟩, [], false⟩
/-- The answer: an entry, a place, an error. -/
def rdA (s : ByteArray) (p : Int) : Sm × Nat × Int := if smost p = 0 then (smN, 0, 1) else if 16384 < s.size then (smN, 0, 2) else match lineS s p with | .inl i => (smN, i, 4) | .inr e => (e, 0, 0)
end Go.Proofs.YtmnkdkibhchglaaGreatDoor
