/- Plain words: names, their escapes, and what stands for them (no program). Conditions: none. -/
import Derived.WalkKit
namespace Go.Proofs.YtmnkdkibhchglaaGreatDoor
set_option linter.unusedVariables false

/-- A byte with its escape. -/
def esc1 (c : UInt8) : List UInt8 := if c = 92 then [92, 92] else if c = 10 then [92, 110] else if c = 13 then [92, 114] else [c]
/-- A text with its escapes. -/
def esc (l : List UInt8) : List UInt8 := l.flatMap esc1
theorem esc_snoc (l : List UInt8) (c : UInt8) : esc (l ++ [c]) = esc l ++ esc1 c := by simp [esc]
theorem esc1_len (c : UInt8) : 1 ≤ (esc1 c).length ∧ (esc1 c).length ≤ 2 := by unfold esc1; (repeat' split) <;> simp
theorem esc_len (l : List UInt8) : l.length ≤ (esc l).length ∧ (esc l).length ≤ 2 * l.length := by
  induction l with
  | nil => simp [esc]
  | cons c l ih =>
    have := esc1_len c
    have e : esc (c :: l) = esc1 c ++ esc l := by simp [esc]
    rw [e, List.length_append, List.length_cons]
    omega
/-- Is it a file's name? -/
def fileB (l : List UInt8) : Bool := decide (1 ≤ l.length) && decide (l.length ≤ 4096) && !(l.contains 0)
/-- The first bytes of a text. -/
abbrev pre (s : ByteArray) (k : Nat) : List UInt8 := s.data.toList.take k
theorem pre_snoc (s : ByteArray) (k : Nat) (h : k < s.size) : pre s (k + 1) = pre s k ++ [s[k]] := by
  unfold pre
  rw [List.take_succ_eq_append_getElem (by simpa using h)]; rfl
theorem pre_all (s : ByteArray) {k : Nat} (h : s.size ≤ k) : pre s k = s.data.toList := List.take_of_length_le (by simpa using h)
theorem pre_len (s : ByteArray) {k : Nat} (h : k ≤ s.size) : (pre s k).length = k := by
  unfold pre; rw [List.length_take]; have : s.data.toList.length = s.size := rfl; omega

/-- What stands for an escaped name: its bytes, or the place of the first fault. -/
def une : List UInt8 → Nat → List UInt8 → List UInt8 ⊕ Nat
  | [], _, acc => .inl acc
  | c :: l, i, acc =>
    if c = 10 ∨ c = 13 then .inr i
    else if c = 92 then
      match l with
      | [] => .inr i
      | d :: m => if d = 92 then une m (i + 2) (acc ++ [92]) else if d = 110 then une m (i + 2) (acc ++ [10]) else if d = 114 then une m (i + 2) (acc ++ [13]) else .inr i
    else une l (i + 1) (acc ++ [c])
theorem une_cons (c : UInt8) (l : List UInt8) (i : Nat) (acc : List UInt8) : une (c :: l) i acc = (if c = 10 ∨ c = 13 then .inr i
    else if c = 92 then
      match l with
      | [] => .inr i
      | d :: m => if d = 92 then une m (i + 2) (acc ++ [92]) else if d = 110 then une m (i + 2) (acc ++ [10]) else if d = 114 then une m (i + 2) (acc ++ [13]) else .inr i
    else une l (i + 1) (acc ++ [c])) := by cases l <;> rw [une.eq_def]
/-- The same, from a place on. -/
def uneAt (s : ByteArray) (i : Nat) (acc : List UInt8) : List UInt8 ⊕ Nat := une (s.data.toList.drop i) i acc
theorem drop_at (s : ByteArray) (i : Nat) (h : i < s.size) : s.data.toList.drop i = s[i] :: s.data.toList.drop (i + 1) := by
  rw [List.drop_eq_getElem_cons (by simpa using h)]; rfl
theorem une_end (s : ByteArray) (i : Nat) (acc : List UInt8) (h : s.size ≤ i) : uneAt s i acc = .inl acc := by
  unfold uneAt
  rw [List.drop_eq_nil_of_le (by simpa using h)]; rfl
theorem une_bad (s : ByteArray) (i : Nat) (acc : List UInt8) (h : i < s.size) (hc : s[i] = 10 ∨ s[i] = 13) : uneAt s i acc = .inr i := by
  unfold uneAt
  rw [drop_at s i h, une_cons, if_pos hc]
theorem une_go (s : ByteArray) (i : Nat) (acc : List UInt8) (h : i < s.size) (hc : ¬ (s[i] = 10 ∨ s[i] = 13)) (h2 : ¬ s[i] = 92) : uneAt s i acc = uneAt s (i + 1) (acc ++ [s[i]]) := by
  unfold uneAt
  rw [drop_at s i h, une_cons, if_neg hc, if_neg h2]
theorem une_last (s : ByteArray) (i : Nat) (acc : List UInt8) (h : i < s.size) (h2 : s[i] = 92) (he : s.size ≤ i + 1) : uneAt s i acc = .inr i := by
  unfold uneAt
  rw [drop_at s i h, List.drop_eq_nil_of_le (by simpa using he), une_cons, if_neg (by rw [h2]; decide), if_pos h2]
theorem une_pair (s : ByteArray) (i : Nat) (acc : List UInt8) (h : i + 1 < s.size) (h2 : s[i] = 92) :
    uneAt s i acc = if s[i + 1] = 92 then uneAt s (i + 2) (acc ++ [92]) else if s[i + 1] = 110 then uneAt s (i + 2) (acc ++ [10]) else if s[i + 1] = 114 then uneAt s (i + 2) (acc ++ [13]) else .inr i := by
  unfold uneAt
  rw [drop_at s i (by omega), drop_at s (i + 1) h, une_cons, if_neg (by rw [h2]; decide), if_pos h2]
/-- The answer: the name, the place of the fault, the error. -/
def unN (s : ByteArray) : List UInt8 := match uneAt s 0 [] with | .inr _ => [] | .inl b => if fileB b then b else []
def unI (s : ByteArray) : Nat := match uneAt s 0 [] with | .inr i => i | .inl _ => 0
def unE (s : ByteArray) : Int := match uneAt s 0 [] with | .inr _ => 4 | .inl b => if fileB b then 0 else 1
end Go.Proofs.YtmnkdkibhchglaaGreatDoor
