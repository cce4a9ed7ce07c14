/- Plain words: strconv's shortest digits of a rung, by its table, are the document's (no program). Conditions: none. -/
import Derived.Test.YthoifpapdefheaaGreatDoorXb
import Derived.Test.YthoifpapdefheaaGreatDoorXc
import Derived.Test.YthoifpapdefheaaGreatDoorJd
namespace Go.Proofs.YthoifpapdefheaaGreatDoor
set_option linter.unusedVariables false

/-- A quotient cut down, against an even number. -/
theorem ur_cmp {N D : Nat} (hD : 0 < D) (j : Nat) : (urN N D < 2 * j ↔ N < 2 * j * D) ∧ (urN N D = 2 * j ↔ N = 2 * j * D) := by
  have h1 := Nat.div_add_mod N D
  have h2 := Nat.mod_lt N hD
  obtain ⟨q, hq⟩ : ∃ q, N / D = q := ⟨_, rfl⟩
  obtain ⟨r, hr⟩ : ∃ r, N % D = r := ⟨_, rfl⟩
  unfold urN
  rw [hq, hr]
  rw [hq, hr] at h1
  rw [hr] at h2
  have key : ∀ c, (q < c ↔ N < c * D) := fun c => by
    rw [← hq]; exact Nat.div_lt_iff_lt_mul hD
  have k0 := key (2 * j)
  have k1 := key (2 * j + 1)
  have hor : q ||| 1 = q / 2 * 2 + 1 := by
    have e : q = 2 ^ 1 * (q / 2) + q % 2 := by omega
    rcases Nat.mod_two_eq_zero_or_one q with e0 | e0
    · have := Nat.two_pow_add_eq_or_of_lt (i := 1) (b := 1) (by decide) (q / 2)
      rw [e0, Nat.add_zero] at e
      rw [← e] at this
      omega
    · have t : q = 2 ^ 1 * (q / 2) ||| 1 := by
        rw [← Nat.two_pow_add_eq_or_of_lt (i := 1) (b := 1) (by decide) (q / 2)]; omega
      rw [show q ||| 1 = q from by conv => lhs; rw [t, Nat.or_assoc, Nat.or_self, ← t]]
      omega
  split
  · rename_i hr0
    rw [Nat.or_zero]
    subst hr0
    rw [Nat.add_zero] at h1
    refine ⟨k0, ⟨fun e => by rw [← h1, e, Nat.mul_comm], fun e => ?_⟩⟩
    have : D * q = D * (2 * j) := by rw [h1, e, Nat.mul_comm]
    exact Nat.eq_of_mul_eq_mul_left hD this
  · rename_i hr0
    rw [hor]
    refine ⟨⟨fun e => k0.1 (by omega), fun e => by have := k0.2 e; omega⟩, ⟨fun e => ?_, fun e => ?_⟩⟩
    · omega
    · exfalso
      have e2 : ¬ q < 2 * j := fun h => by have := k0.1 h; omega
      have e3 : q < 2 * j + 1 := k1.2 (by rw [e, Nat.add_mul]; omega)
      have e4 : q = 2 * j := by omega
      rw [e4, Nat.mul_comm] at h1
      omega
theorem urN_congr {N D M E : Nat} (hD : 0 < D) (hE : 0 < E) (e : N * E = M * D) : urN N D = urN M E := by
  have h1 : N / D = M / E := by rw [← Nat.mul_div_mul_right N D hE, e, Nat.mul_comm D E, Nat.mul_div_mul_right M E hD]
  have h2 : N % D * E = M % E * D := by rw [← Nat.mul_mod_mul_right E N D, e, Nat.mul_comm D E, Nat.mul_mod_mul_right D M E]
  have h3 : N % D = 0 ↔ M % E = 0 := by
    constructor
    · intro h; rw [h, Nat.zero_mul] at h2
      exact (Nat.mul_eq_zero.1 h2.symm).resolve_right (by omega)
    · intro h; rw [h, Nat.zero_mul] at h2
      exact (Nat.mul_eq_zero.1 h2).resolve_right (by omega)
  unfold urN
  rw [h1]
  by_cases h : N % D = 0
  · rw [if_pos h, if_pos (h3.1 h)]
  · rw [if_neg h, if_neg (fun k => h (h3.2 k))]
section
variable {A D : Nat} (hD : 0 < D)
include hD
theorem ur4 (c : Nat) : (urN (4 * A) D < 4 * c ↔ A < c * D) ∧ (urN (4 * A) D = 4 * c ↔ A = c * D) := by
  obtain ⟨h1, h2⟩ := ur_cmp (N := 4 * A) hD (2 * c)
  rw [show 2 * (2 * c) = 4 * c from by omega] at h1 h2
  rw [h1, h2, Nat.mul_assoc 4]
  constructor <;> omega
theorem ur_ceil (c : Nat) : (urN (4 * A) D + 3) / 4 ≤ c ↔ A ≤ c * D := by
  obtain ⟨h1, h2⟩ := ur4 (A := A) hD c
  omega
theorem ur_ceil1 (c : Nat) : (urN (4 * A) D + 1 + 3) / 4 ≤ c ↔ A < c * D := by
  obtain ⟨h1, h2⟩ := ur4 (A := A) hD c
  omega
theorem ur_floor (c : Nat) : c ≤ urN (4 * A) D / 4 ↔ c * D ≤ A := by
  obtain ⟨h1, h2⟩ := ur4 (A := A) hD c
  omega
theorem ur_floor1 (hA : 0 < A) (c : Nat) : c ≤ (urN (4 * A) D - 1) / 4 ↔ c * D < A := by
  obtain ⟨h1, h2⟩ := ur4 (A := A) hD c
  obtain ⟨h3, h4⟩ := ur4 (A := A) hD 0
  rw [Nat.zero_mul] at h4
  omega
theorem ur_div : urN (4 * A) D / 4 = A / D := by
  refine Nat.le_antisymm ?_ ?_
  · rw [Nat.le_div_iff_mul_le hD]
    exact (ur_floor hD _).1 (Nat.le_refl _)
  · rw [ur_floor hD]
    exact Nat.div_mul_le_self _ _
theorem ur_round : (urN (4 * A) D + 1 + urN (4 * A) D / 4 % 2) / 4 = if mdG A D 0 then flG A D 0 + 1 else flG A D 0 := by
  have hf : flG A D 0 = A / D := by unfold flG; rw [show tenN 0 = 1 from rfl, Nat.one_mul]
  have hdv := ur_div (A := A) hD
  obtain ⟨f, e⟩ : ∃ f, A / D = f := ⟨_, rfl⟩
  obtain ⟨h1, h2⟩ := ur_cmp (N := 4 * A) hD (2 * f + 1)
  have e2 : 2 * (2 * f + 1) * D = 2 * ((2 * f + 1) * D) := Nat.mul_assoc _ _ _
  have hm : mdG A D 0 = (decide ((2 * f + 1) * D < 2 * A) || (decide ((2 * f + 1) * D = 2 * A) && decide (f % 2 = 1))) := by
    unfold mdG
    rw [hf, e, show tenN 0 = 1 from rfl, Nat.one_mul]
  rw [hm, hf, hdv]
  rw [e] at hdv ⊢
  rw [e2] at h1 h2
  by_cases c1 : (2 * f + 1) * D < 2 * A
  · rw [if_pos (by simp [c1])]
    omega
  · by_cases c2 : (2 * f + 1) * D = 2 * A ∧ f % 2 = 1
    · rw [if_pos (by simp [c2.1, c2.2])]
      omega
    · rw [if_neg (by simp only [Bool.or_eq_true, Bool.and_eq_true, decide_eq_true_eq]; omega)]
      omega
end
/-- 2^(k - 2) * 10^p, above and below the stroke. -/
def w4N (k p : Int) : Nat := 2 ^ (k - 2).toNat * tenN p.toNat
def d4N (k p : Int) : Nat := 2 ^ (2 - k).toNat * tenN (-p).toNat
theorem w4N_pos (k p : Int) : 0 < w4N k p := Nat.mul_pos (Nat.pow_pos (by decide)) (tenN_pos _)
theorem d4N_pos (k p : Int) : 0 < d4N k p := Nat.mul_pos (Nat.pow_pos (by decide)) (tenN_pos _)
/-- The power that strconv takes for an exponent. -/
def p10 (k : Int) : Int := -(k * 78913 / 262144)
def psk (k : Int) : Int := -((k * 631305 - 261663) / 2097152)
/-- Does the power serve? -/
def kChk (k : Int) (δ : Nat) (p : Int) : Bool := decide (-292 ≤ p) && decide (p ≤ 324) && decide (5 ≤ 8 - k - lpI p) && decide (8 - k - lpI p ≤ 11) && decide (d4N k p ≤ (2 + δ) * w4N k p) && decide ((2 + δ) * w4N k p < 10 * d4N k p)
def kAll : Nat → Int → Bool
  | 0, _ => true
  | n + 1, k => kChk k 2 (p10 k) && (kChk k 1 (psk k) || decide (k = -1074)) && kAll n (k + 1)
theorem kAll_at : ∀ {n : Nat} {k : Int} (i : Nat), kAll n k = true → i < n → kChk (k + i) 2 (p10 (k + i)) = true ∧ (kChk (k + i) 1 (psk (k + i)) = true ∨ k + i = -1074)
  | n + 1, k, 0, h, hi => by
    rw [kAll, Bool.and_eq_true, Bool.and_eq_true, Bool.or_eq_true, decide_eq_true_eq] at h
    rw [show k + ((0 : Nat) : Int) = k from by omega]
    exact h.1
  | n + 1, k, i + 1, h, hi => by
    rw [kAll, Bool.and_eq_true] at h
    rw [show k + ((i + 1 : Nat) : Int) = k + 1 + (i : Int) from by omega]
    exact kAll_at i h.2 (by omega)
set_option maxRecDepth 100000 in
theorem kAll_all : kAll 2046 (-1074) = true := by decide +kernel
structure KOk (k : Int) (δ : Nat) (p : Int) : Prop where
  p1 : -292 ≤ p
  p2 : p ≤ 324
  s1 : 5 ≤ 8 - k - lpI p
  s2 : 8 - k - lpI p ≤ 11
  wide : d4N k p ≤ (2 + δ) * w4N k p
  slim : (2 + δ) * w4N k p < 10 * d4N k p
theorem kChk_out {k p : Int} {δ : Nat} (h : kChk k δ p = true) : KOk k δ p := by
  unfold kChk at h
  simp only [Bool.and_eq_true, decide_eq_true_eq] at h
  obtain ⟨⟨⟨⟨⟨h1, h2⟩, h3⟩, h4⟩, h5⟩, h6⟩ := h
  exact ⟨h1, h2, h3, h4, h5, h6⟩
theorem kOk {k : Int} (h1 : -1074 ≤ k) (h2 : k ≤ 971) : KOk k 2 (p10 k) ∧ (k ≠ -1074 → KOk k 1 (psk k)) := by
  obtain ⟨a, b⟩ := kAll_at (k + 1074).toNat kAll_all (by omega)
  rw [show -1074 + ((k + 1074).toNat : Int) = k from by omega] at a b
  exact ⟨kChk_out a, fun hk => kChk_out (b.resolve_right hk)⟩
/-- How far the lower end lies off, in quarters: 1 at a power of two, else 2. -/
def dlM (m : Nat) : Nat := if m % 4503599627370496 = 0 ∧ 9007199254740992 ≤ m then 1 else 2
/-- The power for a rung. -/
def pM (m : Nat) : Int := if dlM m = 1 then psk (mexp m) else p10 (mexp m)
theorem kOkM {m : Nat} (h : m < 9218868437227405312) : KOk (mexp m) (dlM m) (pM m) := by
  have h1 : -1074 ≤ mexp m := (mexp_bd (m := m) (by omega)).1
  have h2 : mexp m ≤ 971 := by unfold mexp; split <;> omega
  obtain ⟨a, b⟩ := kOk h1 h2
  unfold pM
  by_cases hd : m % 4503599627370496 = 0 ∧ 9007199254740992 ≤ m
  · have e : dlM m = 1 := by unfold dlM; rw [if_pos hd]
    rw [if_pos e, e]
    exact b (by unfold mexp; split <;> omega)
  · have e : dlM m = 2 := by unfold dlM; rw [if_neg hd]
    rw [if_neg (by omega), e]
    exact a
theorem kv_man (m : Nat) : kv m = mman m * 2 ^ kx m := by rw [mman_psig, kv_psig]
theorem kx_exp (m : Nat) : ((kx m : Nat) : Int) = mexp m + 1074 := by
  have := mexp_kx m
  have hK : K74 = 1074 := rfl
  omega
theorem dlM_kv {m : Nat} (h0 : 0 < m) : 2 * (kv (m - 1) + kv m) + dlM m * 2 ^ kx m = 4 * (mman m * 2 ^ kx m) ∧ 2 * (kv m + kv (m + 1)) = 4 * (mman m * 2 ^ kx m) + 2 * 2 ^ kx m := by
  have h1 := kv_succ (m - 1)
  rw [show m - 1 + 1 = m from by omega] at h1
  have h2 := kv_succ m
  rw [← kv_man m]
  refine ⟨?_, by omega⟩
  unfold dlM
  split
  · rename_i hd
    have e1 : kx m = kx (m - 1) + 1 := by unfold kx; omega
    rw [e1, Nat.pow_succ]
    omega
  · rename_i hd
    have e1 : kx m = kx (m - 1) := by unfold kx; omega
    rw [e1]
    omega
theorem mman_par (m : Nat) : mman m % 2 = m % 2 := by unfold mman; split <;> omega
theorem mman_one {m : Nat} (h : 0 < m) : 1 ≤ mman m := by unfold mman; split <;> omega
/-- The two grids are one: 2^kx * 10^(p - i) over 4 * 10^(i - p) * T74 is w over D * 10^i. -/
theorem two_grids (m : Nat) (p : Int) (i : Nat) : 2 ^ kx m * tenN (p - i).toNat * (tenN i * d4N (mexp m) p) = w4N (mexp m) p * (4 * (T74 * tenN (i - p).toNat)) := by
  have hk := kx_exp m
  have hK : K74 = 1074 := rfl
  unfold w4N d4N
  have e1 : 2 ^ kx m * 2 ^ (2 - mexp m).toNat = 2 ^ (mexp m - 2).toNat * 4 * T74 := by
    unfold T74
    rw [show (4 : Nat) = 2 ^ 2 from rfl, ← Nat.pow_add, ← Nat.pow_add, ← Nat.pow_add]
    congr 1
    omega
  have e2 : tenN (p - i).toNat * (tenN i * tenN (-p).toNat) = tenN p.toNat * tenN (i - p).toNat := by
    unfold tenN
    rw [← Nat.pow_add, ← Nat.pow_add, ← Nat.pow_add]
    congr 1
    omega
  generalize T74 = t at *
  generalize 2 ^ kx m = a1 at *
  generalize 2 ^ (2 - mexp m).toNat = a2 at *
  generalize 2 ^ (mexp m - 2).toNat = a3 at *
  generalize tenN (p - i).toNat = a4 at *
  generalize tenN i = a5 at *
  generalize tenN (-p).toNat = a6 at *
  generalize tenN p.toNat = a7 at *
  generalize tenN (i - p).toNat = a8 at *
  calc a1 * a4 * (a5 * (a2 * a6)) = (a1 * a2) * (a4 * (a5 * a6)) := by ac_rfl
    _ = (a3 * 4 * t) * (a7 * a8) := by rw [e1, e2]
    _ = _ := by ac_rfl
/-- A comparison carried from one grid to the other. -/
theorem carry {A G w B : Nat} (hG : 0 < G) (hB : 0 < B) (e : A * G = w * B) (X Y Z : Nat) : (X * A < Y * B + Z * A ↔ X * w < Y * G + Z * w) ∧ (X * A = Y * B + Z * A ↔ X * w = Y * G + Z * w) ∧ (Y * B + Z * A < X * A ↔ Y * G + Z * w < X * w) := by
  have e1 : X * A * G = X * w * B := by rw [Nat.mul_assoc, e, Nat.mul_assoc]
  have e2 : (Y * B + Z * A) * G = (Y * G + Z * w) * B := by rw [Nat.add_mul, Nat.add_mul, Nat.mul_assoc Z, e, Nat.mul_assoc Z]; congr 1; ac_rfl
  have l1 : X * A < Y * B + Z * A ↔ X * A * G < (Y * B + Z * A) * G := (Nat.mul_lt_mul_right hG).symm
  have l2 : X * w < Y * G + Z * w ↔ X * w * B < (Y * G + Z * w) * B := (Nat.mul_lt_mul_right hB).symm
  have l3 : Y * B + Z * A < X * A ↔ (Y * B + Z * A) * G < X * A * G := (Nat.mul_lt_mul_right hG).symm
  have l4 : Y * G + Z * w < X * w ↔ (Y * G + Z * w) * B < X * w * B := (Nat.mul_lt_mul_right hB).symm
  rw [e1, e2] at l1 l3
  have k1 := l1.trans l2.symm
  have k3 := l3.trans l4.symm
  exact ⟨k1, by omega, k3⟩
end Go.Proofs.YthoifpapdefheaaGreatDoor
