/- Plain words for the document's text of a float: powers of ten, what a float is worth in tens, its shortest digits, its text (no program). Conditions: none. -/
import Derived.Test.YtigbbogfnchgnaaGreatDoorM5
import Derived.Lib.ItoaNum
namespace Go.Proofs.YtigbbogfnchgnaaGreatDoor
set_option linter.unusedVariables false

/-- Ten to the n. -/
def tenN (n : Nat) : Nat := 10 ^ n
theorem tenN_zero : tenN 0 = 1 := rfl
theorem tenN_succ (n : Nat) : tenN (n + 1) = tenN n * 10 := by unfold tenN; rw [Nat.pow_succ]
theorem tenN_pos (n : Nat) : 0 < tenN n := Nat.pow_pos (by decide)
theorem tenN_le {a b : Nat} (h : a ≤ b) : tenN a ≤ tenN b := Nat.pow_le_pow_right (by decide) h
theorem tenN_two (n : Nat) : tenN n ≤ 2 ^ (4 * n) := by
  unfold tenN
  rw [Nat.pow_mul]
  exact Nat.pow_le_pow_left (by decide) n
/-- The units of a float in one. -/
def T74 : Nat := 2 ^ K74
theorem T74_pos : 0 < T74 := Nat.pow_pos (by decide)
/-- Is N / D at least 10^x? -/
def geT (N D : Nat) (x : Int) : Prop := D * tenN x.toNat ≤ N * tenN (-x).toNat
theorem geT_down {N D : Nat} {x : Int} (h : geT N D (x + 1)) : geT N D x := by
  unfold geT at h ⊢
  rcases Int.lt_or_le x 0 with hx | hx
  · rw [show (-x).toNat = (-(x + 1)).toNat + 1 from by omega, show x.toNat = 0 from by omega, tenN_succ]
    rw [show (x + 1).toNat = 0 from by omega] at h
    rw [← Nat.mul_assoc]
    omega
  · rw [show (-x).toNat = 0 from by omega, tenN_zero]
    rw [show (x + 1).toNat = x.toNat + 1 from by omega, show (-(x + 1)).toNat = 0 from by omega, tenN_zero, tenN_succ, ← Nat.mul_assoc] at h
    omega
theorem geT_mono {N D : Nat} {x y : Int} (hxy : x ≤ y) (h : geT N D y) : geT N D x := by
  obtain ⟨d, rfl⟩ : ∃ d : Nat, y = x + d := ⟨(y - x).toNat, by omega⟩
  clear hxy
  induction d with
  | zero => simpa using h
  | succ d ih => exact ih (geT_down (by rw [show x + (d : Int) + 1 = x + ((d + 1 : Nat) : Int) from by omega]; exact h))
theorem geT_scale {N D M E : Nat} (hD : 0 < D) (hE : 0 < E) (e : N * E = M * D) (x : Int) : geT N D x ↔ geT M E x := by
  unfold geT
  generalize tenN x.toNat = a
  generalize tenN (-x).toNat = b
  have l1 : D * a ≤ N * b ↔ D * a * E ≤ N * b * E := (Nat.mul_le_mul_right_iff hE).symm
  have l2 : E * a ≤ M * b ↔ E * a * D ≤ M * b * D := (Nat.mul_le_mul_right_iff hD).symm
  have e1 : D * a * E = E * a * D := by ac_rfl
  have e2 : N * b * E = M * b * D := by
    rw [show N * b * E = N * E * b from by ac_rfl, e]; ac_rfl
  rw [l1, l2, e1, e2]
/-- Ten to the x is at most N / D, ten to the x + 1 is above. -/
def IsX (N D : Nat) (x : Int) : Prop := geT N D x ∧ ¬ geT N D (x + 1)
theorem IsX.one {N D : Nat} {x y : Int} (h : IsX N D x) (k : IsX N D y) : x = y := by
  rcases Int.lt_trichotomy x y with hl | hl | hl
  · exact absurd (geT_mono (by omega) k.1) h.2
  · exact hl
  · exact absurd (geT_mono (by omega) h.1) k.2
open Classical in
/-- What the first digit of N / D is worth. -/
noncomputable def xOf (N D : Nat) : Int := if h : ∃ x, IsX N D x then h.choose else 0
theorem xOf_eq {N D : Nat} {x : Int} (h : IsX N D x) : xOf N D = x := by
  have hx : ∃ x, IsX N D x := ⟨x, h⟩
  unfold xOf
  rw [dif_pos hx]
  exact hx.choose_spec.one h
open Classical in
/-- The rung nearest to X / D. -/
noncomputable def nearB (X D : Nat) : Nat := if h : ∃ r, Near X D r then h.choose else 0
theorem nearB_eq {X D r : Nat} (hD : 0 < D) (h : Near X D r) : nearB X D = r := by
  have hx : ∃ r, Near X D r := ⟨r, h⟩
  unfold nearB
  rw [dif_pos hx]
  exact hx.choose_spec.one hD h
/-- The rung of d * 10^e. -/
noncomputable def rdN (d : Nat) (e : Int) : Nat := nearB (d * tenN e.toNat * T74) (tenN (-e).toNat)
/-- Numerator and denominator of a rung's value times 10^(n - 1 - x). -/
def upN (m : Nat) (x : Int) (n : Nat) : Nat := kv m * tenN ((n : Int) - 1 - x).toNat
def dnN (x : Int) (n : Nat) : Nat := T74 * tenN (-((n : Int) - 1 - x)).toNat
/-- The first n digits of a rung's value. -/
def flN (m : Nat) (x : Int) (n : Nat) : Nat := upN m x n / dnN x n
/-- Do they, or the next number, read as the rung? -/
noncomputable def blwN (m : Nat) (x : Int) (n : Nat) : Bool := decide (0 < flN m x n) && decide (rdN (flN m x n) (x - n + 1) = m)
noncomputable def abvN (m : Nat) (x : Int) (n : Nat) : Bool := decide (rdN (flN m x n + 1) (x - n + 1) = m)
/-- Does the middle between them lie below the float, or is it the float and they are odd? -/
def midN (m : Nat) (x : Int) (n : Nat) : Bool := decide ((2 * flN m x n + 1) * dnN x n < 2 * upN m x n) || (decide ((2 * flN m x n + 1) * dnN x n = 2 * upN m x n) && decide (flN m x n % 2 = 1))
noncomputable def candN (m : Nat) (x : Int) (n : Nat) : Nat := if !blwN m x n || (abvN m x n && midN m x n) then flN m x n + 1 else flN m x n
/-- Noughts at the end cut off. -/
def stripD (d : Nat) : Nat := if h : 0 < d ∧ d % 10 = 0 then stripD (d / 10) else d
termination_by d
decreasing_by omega
theorem stripD_go {d : Nat} (h : 0 < d) (h0 : d % 10 = 0) : stripD d = stripD (d / 10) := by rw [stripD, dif_pos ⟨h, h0⟩]
theorem stripD_stop {d : Nat} (h0 : d % 10 ≠ 0) : stripD d = d := by rw [stripD, dif_neg (by omega)]
theorem stripD_le (d : Nat) : stripD d ≤ d := by
  induction d using Nat.strongRecOn with
  | _ d ih =>
    by_cases h : 0 < d ∧ d % 10 = 0
    · rw [stripD_go h.1 h.2]
      have := ih (d / 10) (by omega)
      omega
    · rw [stripD, dif_neg h]; exact Nat.le_refl _
theorem stripD_pos {d : Nat} (h : 0 < d) : 0 < stripD d := by
  induction d using Nat.strongRecOn with
  | _ d ih =>
    by_cases h0 : d % 10 = 0
    · rw [stripD_go h h0]; exact ih (d / 10) (by omega) (by omega)
    · rw [stripD_stop h0]; exact h
/-- How many digits. -/
def lenD (d : Nat) : Nat := (Lib.decDigits d).length
theorem lenD_small {d : Nat} (h : d < 10) : lenD d = 1 := by unfold lenD; rw [Lib.decDigits, dif_pos h]; rfl
theorem lenD_big {d : Nat} (h : 10 ≤ d) : lenD d = lenD (d / 10) + 1 := by unfold lenD; rw [Lib.decDigits, dif_neg (by omega)]; simp
theorem lenD_pos (d : Nat) : 0 < lenD d := by
  by_cases h : d < 10
  · rw [lenD_small h]; decide
  · rw [lenD_big (by omega)]; omega
theorem lenD_le : ∀ (k d : Nat), d < 10 ^ (k + 1) → lenD d ≤ k + 1
  | 0, d, h => by rw [lenD_small (by simpa using h)]; exact Nat.le_refl _
  | k + 1, d, h => by
    by_cases h10 : 10 ≤ d
    · rw [lenD_big h10]
      have := lenD_le k (d / 10) (by rw [Nat.pow_succ] at h; omega)
      omega
    · rw [lenD_small (by omega)]; omega
theorem lenD_20 {d : Nat} (h : d < 18446744073709551616) : lenD d ≤ 20 := lenD_le 19 d (by omega)
/-- The digits and what the first one is worth, from n digits on (f more tries). -/
noncomputable def shGo (m : Nat) (x : Int) : Nat → Nat → Nat × Int
  | 0, _ => (0, 0)
  | f + 1, n => if !blwN m x n && !abvN m x n then shGo m x f (n + 1) else (stripD (candN m x n), x + lenD (candN m x n) - n)
theorem shGo_go {m : Nat} {x : Int} {f n : Nat} (h1 : blwN m x n = false) (h2 : abvN m x n = false) : shGo m x (f + 1) n = shGo m x f (n + 1) := by
  rw [shGo, h1, h2]; rfl
theorem shGo_stop {m : Nat} {x : Int} {f n : Nat} (h : blwN m x n = true ∨ abvN m x n = true) : shGo m x (f + 1) n = (stripD (candN m x n), x + lenD (candN m x n) - n) := by
  rw [shGo, if_neg (by rcases h with h | h <;> simp [h])]
/-- What the first digit of a rung's value is worth. -/
noncomputable def xM (m : Nat) : Int := xOf (kv m) T74
noncomputable def shortM (m : Nat) : Nat × Int := shGo m (xM m) 17 1
/-- The text of digits whose first one is worth 10^x. -/
def numT (d : Nat) (x : Int) : List UInt8 :=
  let s := Lib.decDigits d
  if x < -7 ∨ 20 < x then (if s.length = 1 then s else s.take 1 ++ 46 :: s.drop 1) ++ 101 :: ((if x < 0 then [45] else []) ++ Lib.decDigits x.natAbs)
  else if x < 0 then 48 :: 46 :: (List.replicate (-x - 1).toNat 48 ++ s)
  else if (s.length : Int) ≤ x + 1 then s ++ List.replicate (x + 1 - s.length).toNat 48
  else s.take (x + 1).toNat ++ 46 :: s.drop (x + 1).toNat
/-- A float's text. -/
noncomputable def txtF (b : Nat) : List UInt8 :=
  if 9218868437227405312 < b % 9223372036854775808 then [110, 97, 110]
  else (if b < 9223372036854775808 then [] else [45]) ++
    if b % 9223372036854775808 = 9218868437227405312 then [105, 110, 102]
    else if b % 9223372036854775808 = 0 then [48] else numT (shortM (b % 9223372036854775808)).1 (shortM (b % 9223372036854775808)).2
end Go.Proofs.YtigbbogfnchgnaaGreatDoor
