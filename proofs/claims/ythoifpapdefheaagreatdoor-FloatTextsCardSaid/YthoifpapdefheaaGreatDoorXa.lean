/- Plain words: a number times a rounded power of ten, cut down to 64 bits, keeps whether anything was cut off (strconv's uscale), if no multiple lies too near; that none does, from two neighbouring fractions (no program). Conditions: none. -/
import Derived.WalkKit
namespace Go.Proofs.YthoifpapdefheaaGreatDoor
set_option linter.unusedVariables false

/-- A quotient, rounded down, its lowest bit set if anything is left. -/
def urN (N D : Nat) : Nat := N / D ||| (if N % D = 0 then 0 else 1)
/-- What uscale computes: x times (H * 2^64 - L), over 2^128 * S. -/
def usN (x H L S : Nat) : Nat :=
  if x * H / 18446744073709551616 / S * S ≠ x * H / 18446744073709551616 then x * H / 18446744073709551616 / S ||| 1
  else (x * H / 18446744073709551616 - (if x * H % 18446744073709551616 < x * L / 18446744073709551616 then 1 else 0)) / S |||
    (if 1 < (x * H % 18446744073709551616 + 18446744073709551616 - x * L / 18446744073709551616) % 18446744073709551616 then 1 else 0)
theorem urN_in {N M q : Nat} (h1 : q * M < N) (h2 : N < (q + 1) * M) : urN N M = q ||| 1 := by
  have hd : N / M = q := Nat.div_eq_of_lt_le (Nat.le_of_lt h1) h2
  have hm : N % M ≠ 0 := fun h0 => by
    have := Nat.div_add_mod N M
    rw [hd, h0, Nat.mul_comm] at this
    omega
  unfold urN
  rw [hd, if_neg hm]
theorem urN_on {N M q : Nat} (hM : 0 < M) (h : N = q * M) : urN N M = q := by
  subst h
  unfold urN
  rw [Nat.mul_mod_left, if_pos rfl, Nat.mul_div_cancel _ hM, Nat.or_zero]
theorem us_eq {x H L S N D : Nat} (hx : x < 18446744073709551616) (hL : L < 18446744073709551616) (hS : 0 < S) (hD : 0 < D)
    (h1 : N + x * L * D ≤ x * H * 18446744073709551616 * D) (h2 : x * H * 18446744073709551616 * D < N + x * L * D + x * D)
    (hgap : ∀ k, k * (340282366920938463463374607431768211456 * S) * D ≤ N + 36893488147419103232 * D → N ≤ k * (340282366920938463463374607431768211456 * S) * D + 18446744073709551616 * D → N = k * (340282366920938463463374607431768211456 * S) * D) :
    usN x H L S = urN N (340282366920938463463374607431768211456 * S * D) := by
  have hR : x * L ≤ 18446744073709551615 * 18446744073709551615 := Nat.mul_le_mul (by omega) (by omega)
  unfold usN
  generalize x * H = Q at *
  generalize x * L = R at *
  obtain ⟨h, hh⟩ : ∃ h, Q / 18446744073709551616 = h := ⟨_, rfl⟩
  obtain ⟨m, hm⟩ : ∃ m, Q % 18446744073709551616 = m := ⟨_, rfl⟩
  obtain ⟨m2, hm2⟩ : ∃ m2, R / 18446744073709551616 = m2 := ⟨_, rfl⟩
  rw [hh, hm, hm2]
  have eQ : Q = h * 18446744073709551616 + m := by omega
  have hmB : m < 18446744073709551616 := by omega
  have eR1 : m2 * 18446744073709551616 ≤ R := by omega
  have eR2 : R < m2 * 18446744073709551616 + 18446744073709551616 := by omega
  have hm2B : m2 ≤ 18446744073709551614 := by omega
  obtain ⟨q, hq⟩ : ∃ q, h / S = q := ⟨_, rfl⟩
  obtain ⟨r, hr⟩ : ∃ r, h % S = r := ⟨_, rfl⟩
  have eh : h = S * q + r := by rw [← hq, ← hr]; exact (Nat.div_add_mod h S).symm
  have hrS : r < S := by rw [← hr]; exact Nat.mod_lt _ hS
  -- linear facts: N in units of D
  obtain ⟨a, ha⟩ : ∃ a, N / D = a := ⟨_, rfl⟩
  have na : a * D ≤ N := by rw [← ha]; exact Nat.div_mul_le_self N D
  have nb : N < (a + 1) * D := by rw [← ha]; exact Nat.lt_mul_of_div_lt (Nat.lt_succ_self _) hD
  have l1 : a + R ≤ Q * 18446744073709551616 := by
    have : (a + R) * D ≤ Q * 18446744073709551616 * D := by rw [Nat.add_mul]; omega
    exact Nat.le_of_mul_le_mul_right this hD
  have l2 : Q * 18446744073709551616 < a + 1 + R + x := by
    have : Q * 18446744073709551616 * D < (a + 1 + R + x) * D := by rw [Nat.add_mul, Nat.add_mul _ R]; omega
    exact Nat.lt_of_mul_lt_mul_right this
  have l3 : Q * 18446744073709551616 = a + R + x → a * D < N := fun e => by
    rw [e, Nat.add_mul, Nat.add_mul] at h2
    omega
  have hqS : h / S * S = S * q := by rw [hq, Nat.mul_comm]
  have eT : ∀ k, k * (340282366920938463463374607431768211456 * S * D) = 340282366920938463463374607431768211456 * (S * k) * D := fun k => by ac_rfl
  have eT1 : S * (q + 1) = S * q + S := by rw [Nat.mul_add, Nat.mul_one]
  have lt_of : ∀ b, b < a ∨ (b = a ∧ a * D < N) → b * D < N := fun b hb => by
    rcases hb with hb | ⟨rfl, hb⟩
    · have := Nat.mul_lt_mul_of_pos_right hb hD; omega
    · exact hb
  have lt_to : ∀ b, a < b → N < b * D := fun b hb => Nat.lt_of_lt_of_le nb (Nat.mul_le_mul_right _ hb)
  rw [hqS, hq]
  by_cases h0 : r = 0
  · subst h0
    rw [if_neg (by omega)]
    by_cases hmm : m < m2
    · rw [if_pos hmm]
      have hq1 : 1 ≤ q := by
        rcases Nat.eq_zero_or_pos q with e | e
        · subst e
          rw [Nat.mul_zero] at eh
          omega
        · exact e
      obtain ⟨p, rfl⟩ : ∃ p, q = p + 1 := ⟨q - 1, by omega⟩
      have eS : S * (p + 1) = S * p + S := by rw [Nat.mul_add, Nat.mul_one]
      have hdv : (h - 1) / S = p := by
        have : h - 1 = S * p + (S - 1) := by omega
        rw [this, Nat.mul_add_div hS, Nat.div_eq_of_lt (by omega), Nat.add_zero]
      rw [hdv, if_pos (by rw [Nat.mod_eq_of_lt (by omega)]; omega)]
      refine (urN_in ?_ ?_).symm
      · rw [eT]; exact lt_of _ (.inl (by omega))
      · rw [eT, eS]; exact lt_to _ (by omega)
    · rw [if_neg hmm, Nat.sub_zero, hq]
      by_cases hd : m ≤ m2 + 1
      · have hno : (m + 18446744073709551616 - m2) % 18446744073709551616 = m - m2 := by
          rw [show m + 18446744073709551616 - m2 = m - m2 + 18446744073709551616 from by omega, Nat.add_mod_right, Nat.mod_eq_of_lt (by omega)]
        rw [hno, if_neg (by omega), Nat.or_zero]
        refine (urN_on (Nat.mul_pos (Nat.mul_pos (by decide) hS) hD) ?_).symm
        have e := hgap q ?_ ?_
        · rw [e, Nat.mul_assoc]
        · have : q * (340282366920938463463374607431768211456 * S) ≤ a + 36893488147419103232 := by
            have e' : q * (340282366920938463463374607431768211456 * S) = 340282366920938463463374607431768211456 * (S * q) := by ac_rfl
            omega
          have := Nat.mul_le_mul_right D this
          rw [Nat.add_mul] at this
          omega
        · have : Q * 18446744073709551616 ≤ q * (340282366920938463463374607431768211456 * S) + 18446744073709551616 + R := by
            have e' : q * (340282366920938463463374607431768211456 * S) = 340282366920938463463374607431768211456 * (S * q) := by ac_rfl
            have e1 : Q * 18446744073709551616 = q * (340282366920938463463374607431768211456 * S) + m * 18446744073709551616 := by
              rw [e', eQ, eh, Nat.add_zero, Nat.add_mul, Nat.mul_assoc, Nat.mul_comm 340282366920938463463374607431768211456]
            have e2 : m * 18446744073709551616 ≤ (m2 + 1) * 18446744073709551616 := Nat.mul_le_mul_right _ hd
            have e3 : (m2 + 1) * 18446744073709551616 ≤ R + 18446744073709551616 := by rw [Nat.add_mul, Nat.one_mul]; exact Nat.add_le_add_right eR1 _
            rw [e1]
            exact Nat.le_trans (Nat.add_le_add_left (Nat.le_trans e2 e3) _) (Nat.le_of_eq (by ac_rfl))
          have := Nat.mul_le_mul_right D this
          rw [Nat.add_mul, Nat.add_mul] at this
          omega
      · have hno : (m + 18446744073709551616 - m2) % 18446744073709551616 = m - m2 := by
          rw [show m + 18446744073709551616 - m2 = m - m2 + 18446744073709551616 from by omega, Nat.add_mod_right, Nat.mod_eq_of_lt (by omega)]
        rw [hno, if_pos (by omega)]
        refine (urN_in ?_ ?_).symm
        · rw [eT]; exact lt_of _ (by omega)
        · rw [eT, eT1]; exact lt_to _ (by omega)
  · rw [if_pos (by omega)]
    refine (urN_in ?_ ?_).symm
    · rw [eT]; exact lt_of _ (by omega)
    · rw [eT, eT1]; exact lt_to _ (by omega)
/-- Between two neighbouring fractions no fraction with a small denominator lies. -/
theorem farey {a b c d t k : Nat} (h : b * c = a * d + 1) (ht : t < b + d) : k * b ≤ a * t ∨ c * t ≤ k * d := by
  rcases Nat.lt_or_ge (a * t) (k * b) with h1 | h1
  · rcases Nat.lt_or_ge (k * d) (c * t) with h2 | h2
    · exfalso
      have e1 : a * t + 1 ≤ k * b := h1
      have e2 : k * d + 1 ≤ c * t := h2
      have m1 : d * (a * t + 1) ≤ d * (k * b) := Nat.mul_le_mul_left d e1
      have m2 : b * (k * d + 1) ≤ b * (c * t) := Nat.mul_le_mul_left b e2
      have e3 : b * (c * t) = a * d * t + t := by rw [← Nat.mul_assoc, h, Nat.add_mul, Nat.one_mul]
      have e4 : d * (a * t + 1) = a * d * t + d := by rw [Nat.mul_add, Nat.mul_one]; congr 1; ac_rfl
      have e5 : b * (k * d + 1) = d * (k * b) + b := by rw [Nat.mul_add, Nat.mul_one]; congr 1; ac_rfl
      omega
    · exact .inr h2
  · exact .inl h1
/-- What a certificate says of a quotient U / V: its neighbours, and that both lie farther off than 1 / K. -/
structure Cert (U V a b c d K : Nat) : Prop where
  nb : b * c = a * d + 1
  lo : a * V ≤ b * U
  hi : d * U ≤ c * V
  flo : b * U = a * V ∨ V < (b * U - a * V) * K
  fhi : d * U = c * V ∨ V < (c * V - d * U) * K
  bK : b < K
  dK : d < K
  b0 : 0 < b
  d0 : 0 < d
/-- A multiple of U / V that lies within 1 / K of a whole number is one. -/
theorem Cert.exact {U V a b c d K t k : Nat} (h : Cert U V a b c d K) (hV : 0 < V) (ht0 : 0 < t) (ht : t < b + d) (h1 : t * U * K ≤ k * V * K + V) (h2 : k * V * K ≤ t * U * K + V) : t * U = k * V := by
  rcases farey (k := k) h.nb ht with hk | hk
  · -- k / t is at most a / b
    have e1 : a * t * V ≤ b * (t * U) := by
      have := Nat.mul_le_mul_left t h.lo
      rw [show t * (a * V) = a * t * V from by ac_rfl, show t * (b * U) = b * (t * U) from by ac_rfl] at this
      exact this
    rcases Nat.lt_or_ge (k * b) (a * t) with hs | hs
    · exfalso
      have e2 : (k * b + 1) * V ≤ a * t * V := Nat.mul_le_mul_right V hs
      have e3 : (k * b + 1) * V * K ≤ b * (t * U) * K := Nat.mul_le_mul_right K (Nat.le_trans e2 e1)
      have e4 : b * (t * U * K) ≤ b * (k * V * K + V) := Nat.mul_le_mul_left b h1
      have e5 : b * (t * U) * K = b * (t * U * K) := Nat.mul_assoc _ _ _
      have e6 : (k * b + 1) * V * K = b * (k * V * K) + V * K := by rw [Nat.add_mul, Nat.add_mul, Nat.one_mul]; congr 1; ac_rfl
      have e7 : b * (k * V * K + V) = b * (k * V * K) + V * b := by rw [Nat.mul_add, Nat.mul_comm b V]
      have e8 : V * b < V * K := Nat.mul_lt_mul_of_pos_left h.bK hV
      omega
    · have hkb : k * b = a * t := Nat.le_antisymm hk hs
      -- b divides t
      have hcop : Nat.Coprime b a := by
        have hg : Nat.gcd b a ∣ 1 := by
          have g1 : Nat.gcd b a ∣ b * c := Nat.dvd_trans (Nat.gcd_dvd_left b a) (Nat.dvd_mul_right b c)
          have g2 : Nat.gcd b a ∣ a * d := Nat.dvd_trans (Nat.gcd_dvd_right b a) (Nat.dvd_mul_right a d)
          rw [h.nb] at g1
          exact (Nat.dvd_add_iff_right g2).2 g1
        exact Nat.dvd_one.1 hg
      obtain ⟨j, hj⟩ : b ∣ t := hcop.dvd_of_dvd_mul_left (by rw [← hkb]; exact Nat.dvd_mul_left b k)
      subst hj
      have hkj : k = a * j := by
        have : k * b = a * j * b := by rw [hkb]; ac_rfl
        exact Nat.eq_of_mul_eq_mul_right h.b0 this
      subst hkj
      rcases h.flo with hf | hf
      · rw [show b * j * U = j * (b * U) from by ac_rfl, hf]; ac_rfl
      · exfalso
        have hj0 : 0 < j := by
          rcases Nat.eq_zero_or_pos j with e | e
          · subst e; simp at ht0
          · exact e
        have e9 : (b * U - a * V) * K ≤ j * ((b * U - a * V) * K) := Nat.le_mul_of_pos_left _ hj0
        have e10 : j * ((b * U - a * V) * K) + a * j * V * K = b * j * U * K := by
          obtain ⟨z, hz⟩ : ∃ z, b * U = a * V + z := ⟨b * U - a * V, by have := h.lo; omega⟩
          rw [hz, Nat.add_sub_cancel_left, show b * j * U * K = b * U * (j * K) from by ac_rfl, hz, Nat.add_mul]
          rw [show a * V * (j * K) = a * j * V * K from by ac_rfl, show z * (j * K) = j * (z * K) from by ac_rfl]
          omega
        omega
  · have e1 : d * (t * U) ≤ c * t * V := by
      have := Nat.mul_le_mul_left t h.hi
      rw [show t * (c * V) = c * t * V from by ac_rfl, show t * (d * U) = d * (t * U) from by ac_rfl] at this
      exact this
    rcases Nat.lt_or_ge (c * t) (k * d) with hs | hs
    · exfalso
      have e2 : (c * t + 1) * V ≤ k * d * V := Nat.mul_le_mul_right V hs
      have e2' : c * t * V + V ≤ k * d * V := by rw [Nat.add_mul, Nat.one_mul] at e2; exact e2
      have e3 : (d * (t * U) + V) * K ≤ k * d * V * K := Nat.mul_le_mul_right K (by omega)
      have e4 : d * (k * V * K) ≤ d * (t * U * K + V) := Nat.mul_le_mul_left d h2
      have e5 : k * d * V * K = d * (k * V * K) := by ac_rfl
      have e6 : (d * (t * U) + V) * K = d * (t * U * K) + V * K := by rw [Nat.add_mul, Nat.mul_assoc]
      have e7 : d * (t * U * K + V) = d * (t * U * K) + V * d := by rw [Nat.mul_add, Nat.mul_comm d V]
      have e8 : V * d < V * K := Nat.mul_lt_mul_of_pos_left h.dK hV
      omega
    · have hkd : k * d = c * t := Nat.le_antisymm hs hk
      have hcop : Nat.Coprime d c := by
        have hg : Nat.gcd d c ∣ 1 := by
          have g1 : Nat.gcd d c ∣ a * d := Nat.dvd_trans (Nat.gcd_dvd_left d c) (Nat.dvd_mul_left d a)
          have g2 : Nat.gcd d c ∣ b * c := Nat.dvd_trans (Nat.gcd_dvd_right d c) (Nat.dvd_mul_left c b)
          rw [h.nb] at g2
          exact (Nat.dvd_add_iff_right g1).2 g2
        exact Nat.dvd_one.1 hg
      obtain ⟨j, hj⟩ : d ∣ t := hcop.dvd_of_dvd_mul_left (by rw [← hkd]; exact Nat.dvd_mul_left d k)
      subst hj
      have hkj : k = c * j := by
        have : k * d = c * j * d := by rw [hkd]; ac_rfl
        exact Nat.eq_of_mul_eq_mul_right h.d0 this
      subst hkj
      rcases h.fhi with hf | hf
      · rw [show d * j * U = j * (d * U) from by ac_rfl, hf]; ac_rfl
      · exfalso
        have hj0 : 0 < j := by
          rcases Nat.eq_zero_or_pos j with e | e
          · subst e; simp at ht0
          · exact e
        have e9 : (c * V - d * U) * K ≤ j * ((c * V - d * U) * K) := Nat.le_mul_of_pos_left _ hj0
        have e10 : j * ((c * V - d * U) * K) + d * j * U * K = c * j * V * K := by
          obtain ⟨z, hz⟩ : ∃ z, c * V = d * U + z := ⟨c * V - d * U, by have := h.hi; omega⟩
          rw [hz, Nat.add_sub_cancel_left, show c * j * V * K = c * V * (j * K) from by ac_rfl, hz, Nat.add_mul]
          rw [show d * U * (j * K) = d * j * U * K from by ac_rfl, show z * (j * K) = j * (z * K) from by ac_rfl]
          omega
        omega
end Go.Proofs.YthoifpapdefheaaGreatDoor
