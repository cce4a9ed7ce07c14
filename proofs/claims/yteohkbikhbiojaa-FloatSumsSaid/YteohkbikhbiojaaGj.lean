/- Walks: the nearest float of a quotient, by halves (quernref22's nearest, signed). Conditions: as stated. -/
import Derived.Test.YteohkbikhbiojaaGi
namespace Go.Proofs.Yteohkbikhbiojaa
open Go.RowKit
set_option linter.unusedVariables false

theorem icmp_le (a b : Nat) : icmp a b ≤ 0 ↔ a ≤ b := by
  rcases Nat.lt_trichotomy a b with h | h | h
  · rw [icmp_lt h]; omega
  · rw [icmp_eq h]; omega
  · rw [icmp_gt h]; omega
theorem icmp_neg (a b : Nat) : icmp a b < 0 ↔ a < b := by
  rcases Nat.lt_trichotomy a b with h | h | h
  · rw [icmp_lt h]; omega
  · rw [icmp_eq h]; omega
  · rw [icmp_gt h]; omega
theorem icmp_zero (a b : Nat) : icmp a b = 0 ↔ a = b := by
  rcases Nat.lt_trichotomy a b with h | h | h
  · rw [icmp_lt h]; omega
  · rw [icmp_eq h]; omega
  · rw [icmp_gt h]; omega
theorem icmp_congr {a b c d : Nat} (h1 : a < b ↔ c < d) (h2 : a = b ↔ c = d) : icmp a b = icmp c d := by
  rcases Nat.lt_trichotomy a b with h | h | h
  · rw [icmp_lt h, icmp_lt (h1.1 h)]
  · rw [icmp_eq h, icmp_eq (h2.1 h)]
  · have : d < c := by
      rcases Nat.lt_trichotomy c d with k | k | k
      · have := h1.2 k; omega
      · have := h2.2 k; omega
      · exact k
    rw [icmp_gt h, icmp_gt this]
theorem mexp_kx (k : Nat) : mexp k = ((kx k : Nat) : Int) - ((K74 : Nat) : Int) := by
  unfold mexp kx K74
  split <;> omega
theorem mman_psig (k : Nat) : mman k = psig k := by
  unfold mman psig
  split
  · rfl
  · omega
/-- A rung held against a quotient. -/
theorem against_kv (k N D : Nat) : icmp (mman k * D * 2 ^ (mexp k).toNat) (N * 2 ^ (-mexp k).toNat) = icmp (kv k * D) (N * 2 ^ K74) := by
  rw [mexp_kx, mman_psig, kv_psig]
  obtain ⟨h1, h2⟩ := held_lt (psig k) N D (kx k) K74
  exact icmp_congr h1 h2
/-- The middle behind a rung held against a quotient. -/
theorem against_mid (k N D : Nat) : icmp ((2 * mman k + 1) * D * 2 ^ (mexp k - 1).toNat) (N * 2 ^ (-(mexp k - 1)).toNat) = icmp ((kv k + kv (k + 1)) * D) (2 * (N * 2 ^ K74)) := by
  rw [mexp_kx, mman_psig, kv_mid]
  obtain ⟨h1, h2⟩ := held_lt (2 * psig k + 1) N D (kx k) (K74 + 1)
  rw [show ((kx k : Nat) : Int) - ((K74 : Nat) : Int) - 1 = ((kx k : Nat) : Int) - ((K74 + 1 : Nat) : Int) from by omega]
  rw [show 2 * (N * 2 ^ K74) = N * 2 ^ (K74 + 1) from by rw [Nat.pow_succ, show N * (2 ^ K74 * 2) = N * 2 ^ K74 * 2 from (Nat.mul_assoc _ _ _).symm, Nat.mul_comm]]
  exact icmp_congr h1 h2
/-- What holds ahead of a round of the search: the float is from rung a on, and below rung a + b, or that is infinity's. -/
structure NearS (w wr : World) (N D a b : Nat) : Prop where
  lo : kv a * D ≤ N * 2 ^ K74
  hi : a + b = 9218868437227405312 ∨ N * 2 ^ K74 < kv (a + b) * D
  cap : a + b ≤ 9218868437227405312
  pos : 1 ≤ b
  bel : Below w.heap.size w wr
/-- The nearest rung, in memory of one's own. -/
def NearR (N D : Nat) (w : World) (e : Ending) (w' : World) : Prop := ∃ r, e = .returned (.int .u64 ((r : Nat) : Int)) ∧ Near (N * 2 ^ K74) D r ∧ Below w.heap.size w w'
set_option maxRecDepth 100000 in
set_option maxHeartbeats 1000000 in
theorem c_nearest (A A' : Option Addr) (c c' : Nat) (l m : List Nat) (N D : Nat) (w : World) (h : IsN w w.heap.size .u32 4294967296 A c l N) (h' : IsN w w.heap.size .u32 4294967296 A' c' m D) (hN : N < nsml) (hD : D < nsml) (hD0 : 0 < D) :
    Calls Try.prog 38 #[.slice A l.length c, .slice A' m.length c'] w (NearR N D w) := by
  have HI := Lib.hid h
  have HI' := Lib.hid h'
  have HN := Lib.hid hN
  have HD := Lib.hid hD
  have HD0 := Lib.hid hD0
  clear h h' hN hD hD0
  obtain ⟨n, hL⟩ : ∃ n, l.length = n := ⟨_, rfl⟩
  obtain ⟨n', hL'⟩ : ∃ n', m.length = n' := ⟨_, rfl⟩
  rw [hL, hL']
  have HL := Lib.hid hL
  have HL' := Lib.hid hL'
  clear hL hL'
  go_enter Try.func38, Try.ntmps38
  go_wp2_with fail
  go_loopw [5, 6] (fun va vb wr => ∃ a b : Nat, va = .int .u64 a ∧ vb = .int .u64 ((a : Int) + (b : Int)) ∧ a + b ≤ 9218868437227405312 ∧ NearS w wr N D a b) (fun va vb _ => (intOf vb - intOf va).toNat)
  case atStart => exact ⟨0, 9218868437227405312, rfl, rfl, by decide, ⟨by rw [kv_lo (by decide)]; simp, .inl rfl, by decide, by decide, Below.refl _ _⟩⟩
  case round =>
    obtain ⟨a, b, rfl, rfl, hab, HS⟩ := hrel
    have HIw := Lib.hid (HI.out.below HS.bel)
    have HIw' := Lib.hid (HI'.out.below HS.bel)
    have hm1 : (a : Int) + (b : Int) - (a : Int) = (b : Int) := by omega
    by_cases hb : 1 < b
    · have hbI : (1 : Int) < (b : Int) := by omega
      have hq : (b : Int) / 2 = ((b / 2 : Nat) : Int) := by omega
      have hh1 : 1 ≤ b / 2 := by omega
      have hh2 : b / 2 < b := by omega
      obtain ⟨k, hk⟩ : ∃ k, b / 2 = k := ⟨_, rfl⟩
      rw [hk] at hq hh1 hh2
      clear hk
      have hP := c_parts (a + k) (by omega)
      rw [Int.natCast_add] at hP
      have HP := Lib.hid hP
      clear hP
      have hmb := mman_lt (m := a + k) (by omega)
      obtain ⟨hx1, hx2⟩ := mexp_bd (m := a + k) (by omega)
      have hx2' : mexp (a + k) ≤ 4000 := by omega
      have HK := Lib.hid (against_kv (a + k) N D)
      obtain ⟨M, hM⟩ : ∃ M, mman (a + k) = M := ⟨_, rfl⟩
      obtain ⟨E, hE⟩ : ∃ E, mexp (a + k) = E := ⟨_, rfl⟩
      rw [hM] at HP HK hmb
      rw [hE] at HP HK hx1 hx2'
      clear hM hE hx2
      have hag := c_against M E A A' c c' l m N D wr HIw.out HIw'.out (by omega) (by omega) hx2' HN.out HD.out
      rw [HL.out, HL'.out, HK.out] at hag
      have HA := Lib.hid hag
      clear hag
      have HZ := Lib.hid (icmp_le (kv (a + k) * D) (N * 2 ^ K74))
      have HZ2 : Hid (0 < icmp (kv (a + k) * D) (N * 2 ^ K74) ↔ N * 2 ^ K74 < kv (a + k) * D) := by
        have := HZ.out
        show _ ↔ _
        omega
      obtain ⟨R, hR⟩ : ∃ R, icmp (kv (a + k) * D) (N * 2 ^ K74) = R := ⟨_, rfl⟩
      rw [hR] at HA HZ HZ2
      clear hR HK
      by_cases hr : R ≤ 0
      · have HB := Lib.hid (HZ.out.1 hr)
        go_wp2_with fail
        refine (HP.out _).mono ?_; rintro e1 w1 ⟨rfl, rfl⟩
        go_wp2_with fail
        refine HA.out.mono ?_; rintro e2 w2 ⟨rfl, hb2⟩
        have HB2 := Lib.hid (below_step HS.bel hb2)
        clear hb2
        go_wp2
        go_roundw
        case rel => exact ⟨a + k, b - k, by go_num, by go_num, by omega, ⟨HB.out, by rw [show a + k + (b - k) = a + b from by omega]; exact HS.hi, by omega, by omega, HB2.out⟩⟩
        case measure => simp [intOf]; omega
      · have HB := Lib.hid (HZ2.out.1 (by omega))
        go_wp2_with fail
        refine (HP.out _).mono ?_; rintro e1 w1 ⟨rfl, rfl⟩
        go_wp2_with fail
        refine HA.out.mono ?_; rintro e2 w2 ⟨rfl, hb2⟩
        have HB2 := Lib.hid (below_step HS.bel hb2)
        clear hb2
        go_wp2
        go_roundw
        case rel => exact ⟨a, k, rfl, rfl, by omega, ⟨HS.lo, .inr HB.out, by omega, hh1, HB2.out⟩⟩
        case measure => simp [intOf]; omega
    · have hb1 := HS.pos
      obtain rfl : b = 1 := by omega
      have hbI : ¬ (1 : Int) < ((1 : Nat) : Int) := by omega
      have HP := Lib.hid (c_parts a (by omega))
      have hmb := mman_lt (m := a) (by omega)
      obtain ⟨hx1, hx2⟩ := mexp_bd (m := a) (by omega)
      have hx2' : mexp a ≤ 4000 := by omega
      have HK := Lib.hid (against_mid a N D)
      obtain ⟨M, hM⟩ : ∃ M, mman a = M := ⟨_, rfl⟩
      obtain ⟨E, hE⟩ : ∃ E, mexp a = E := ⟨_, rfl⟩
      rw [hM] at HP HK hmb
      rw [hE] at HP HK hx1 hx2'
      clear hM hE hx2
      have hag := c_against (2 * M + 1) (E - 1) A A' c c' l m N D wr HIw.out HIw'.out (by omega) (by omega) (by omega) HN.out HD.out
      rw [HL.out, HL'.out, HK.out, show ((2 * M + 1 : Nat) : Int) = 2 * (M : Int) + 1 from by omega] at hag
      have HA := Lib.hid hag
      clear hag
      have HZ := Lib.hid (icmp_neg ((kv a + kv (a + 1)) * D) (2 * (N * 2 ^ K74)))
      have HZ2 := Lib.hid (icmp_zero ((kv a + kv (a + 1)) * D) (2 * (N * 2 ^ K74)))
      obtain ⟨R, hR⟩ : ∃ R, icmp ((kv a + kv (a + 1)) * D) (2 * (N * 2 ^ K74)) = R := ⟨_, rfl⟩
      rw [hR] at HA HZ HZ2
      clear hR HK
      have HNO := Lib.hid (fun (up : Bool) => near_of (X := N * 2 ^ K74) (up := up) HD0.out HS.lo HS.hi (by omega))
      by_cases hr : R < 0
      · have HF : Hid (Near (N * 2 ^ K74) D (a + 1)) := HNO.out true ⟨fun _ => .inl (HZ.out.1 hr), fun _ => rfl⟩
        go_wp2_with fail
        refine (HP.out _).mono ?_; rintro e1 w1 ⟨rfl, rfl⟩
        go_wp2_with fail
        refine HA.out.mono ?_; rintro e2 w2 ⟨rfl, hb2⟩
        have HB2 := Lib.hid (below_step HS.bel hb2)
        clear hb2
        go_wp2
        go_ret
        exact ⟨a + 1, by simp, HF.out, HB2.out⟩
      · by_cases hz : R = 0
        · have hz' : (R == 0) = true := by simp [hz]
          have hev : a % 2 = 0 ∨ a % 2 = 1 := by omega
          have hmo : (a : Int) % 2 = ((a % 2 : Nat) : Int) := by omega
          have HZ3 := Lib.hid (HZ2.out.1 hz)
          have HZn := Lib.hid hz
          clear hz
          rcases hev with hev | hev
          · have HF : Hid (Near (N * 2 ^ K74) D (a + 0)) := HNO.out false ⟨fun h => (by cases h), fun h => by
              rcases h with h | ⟨_, h⟩
              · exact absurd (HZ.out.2 h) hr
              · omega⟩
            rw [hev] at hmo
            have hmo' : ((a : Int) % 2 == 1) = false := by rw [hmo]; rfl
            clear hmo hev
            go_wp2_with fail
            refine (HP.out _).mono ?_; rintro e1 w1 ⟨rfl, rfl⟩
            go_wp2_with fail
            refine HA.out.mono ?_; rintro e2 w2 ⟨rfl, hb2⟩
            have HB2 := Lib.hid (below_step HS.bel hb2)
            clear hb2
            go_wp2
            go_ret
            exact ⟨a, rfl, HF.out, HB2.out⟩
          · have HF : Hid (Near (N * 2 ^ K74) D (a + 1)) := HNO.out true ⟨fun _ => .inr ⟨HZ3.out, hev⟩, fun _ => rfl⟩
            rw [hev] at hmo
            have hmo' : ((a : Int) % 2 == 1) = true := by rw [hmo]; rfl
            clear hmo hev
            go_wp2_with fail
            refine (HP.out _).mono ?_; rintro e1 w1 ⟨rfl, rfl⟩
            go_wp2_with fail
            refine HA.out.mono ?_; rintro e2 w2 ⟨rfl, hb2⟩
            have HB2 := Lib.hid (below_step HS.bel hb2)
            clear hb2
            go_wp2
            go_ret
            exact ⟨a + 1, by simp, HF.out, HB2.out⟩
        · have hz' : (R == 0) = false := by simp [hz]
          have HF : Hid (Near (N * 2 ^ K74) D (a + 0)) := HNO.out false ⟨fun h => (by cases h), fun h => by
            rcases h with h | ⟨h, _⟩
            · exact absurd (HZ.out.2 h) hr
            · exact absurd (HZ2.out.2 h) hz⟩
          go_wp2_with fail
          refine (HP.out _).mono ?_; rintro e1 w1 ⟨rfl, rfl⟩
          go_wp2_with fail
          refine HA.out.mono ?_; rintro e2 w2 ⟨rfl, hb2⟩
          have HB2 := Lib.hid (below_step HS.bel hb2)
          clear hb2
          go_wp2
          go_ret
          exact ⟨a, rfl, HF.out, HB2.out⟩
end Go.Proofs.Yteohkbikhbiojaa
