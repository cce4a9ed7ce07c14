/- Walk: a number of two words by one (math/bits.Div64). Conditions: as stated. -/
import Derived.Test.YtcohidjaehdbnaaGreatDoorGg
import Derived.Test.YtcohidjaehdbnaaGreatDoorNv
namespace Go.Proofs.YtcohidjaehdbnaaGreatDoor
open Go.RowKit
set_option linter.unusedVariables false

/-- What Div64 lays out ahead of its guesses. -/
structure DivS (r lo d s Y U V y1 y0 u1 u0 T R : Nat) : Prop where
  hs : 1 ≤ s ∧ s ≤ 63
  hY : d * 2 ^ s = Y
  hYb : Y < 18446744073709551616
  hy1 : Y / 4294967296 = y1
  hy0 : Y % 4294967296 = y0
  hyl : 2147483648 ≤ y1 ∧ y1 < 4294967296 ∧ y0 < 4294967296
  hR : r * 2 ^ s = R
  hRb : R < 18446744073709551616
  hT : lo / 2 ^ (64 - s) = T
  hTb : T < 18446744073709551616
  hU : R ||| T = U
  hUY : U < Y
  hV : lo * 2 ^ s % 18446744073709551616 = V
  hVb : V < 18446744073709551616
  hu1 : V / 4294967296 = u1
  hu0 : V % 4294967296 = u0
  hul : u1 < 4294967296 ∧ u0 < 4294967296
  hN : (r * 18446744073709551616 + lo) * 2 ^ s = (U * 4294967296 + u1) * 4294967296 + u0
theorem div_setup {r lo d s : Nat} (hr : r < d) (hd : d < 4611686018427387904) (hlo : lo < 18446744073709551616) (hs : s = 64 - nlen d) : ∃ Y U V y1 y0 u1 u0 T R, DivS r lo d s Y U V y1 y0 u1 u0 T R := by
  have hd0 : d ≠ 0 := by omega
  have hn : nlen d = d.log2 + 1 := by unfold nlen; rw [if_neg hd0]
  have hl : d.log2 < 62 := log2_lt hd0 (by simpa using hd)
  have hs1 : 1 ≤ s ∧ s ≤ 63 := by omega
  have p1 := Nat.log2_self_le hd0
  have p2 : d < 2 ^ (d.log2 + 1) := Nat.lt_log2_self
  have hp : 0 < 2 ^ s := Nat.pow_pos (by decide)
  have e64 : (18446744073709551616 : Nat) = 2 ^ s * 2 ^ (64 - s) := by rw [← Nat.pow_add, show s + (64 - s) = 64 from by omega]
  have hYb : d * 2 ^ s < 18446744073709551616 := by
    have : d * 2 ^ s < 2 ^ (d.log2 + 1) * 2 ^ s := (Nat.mul_lt_mul_right hp).2 p2
    rw [← Nat.pow_add, show d.log2 + 1 + s = 64 from by omega] at this
    simpa using this
  have hYl : 9223372036854775808 ≤ d * 2 ^ s := by
    have : 2 ^ d.log2 * 2 ^ s ≤ d * 2 ^ s := Nat.mul_le_mul_right _ p1
    rw [← Nat.pow_add, show d.log2 + s = 63 from by omega] at this
    simpa using this
  have hRb : r * 2 ^ s < d * 2 ^ s := (Nat.mul_lt_mul_right hp).2 hr
  have hT : lo / 2 ^ (64 - s) < 2 ^ s := by
    rw [Nat.div_lt_iff_lt_mul (Nat.pow_pos (by decide)), ← e64]; exact hlo
  have hU : r * 2 ^ s ||| lo / 2 ^ (64 - s) = r * 2 ^ s + lo / 2 ^ (64 - s) := by
    have := Nat.shiftLeft_add_eq_or_of_lt hT r
    rw [Nat.shiftLeft_eq] at this
    exact this.symm
  have hUY : r * 2 ^ s + lo / 2 ^ (64 - s) < d * 2 ^ s := by
    have : (r + 1) * 2 ^ s ≤ d * 2 ^ s := Nat.mul_le_mul_right _ hr
    rw [Nat.add_mul, Nat.one_mul] at this
    omega
  have hTV : lo * 2 ^ s = lo / 2 ^ (64 - s) * 18446744073709551616 + lo * 2 ^ s % 18446744073709551616 := by
    have e1 : lo * 2 ^ s / 18446744073709551616 = lo / 2 ^ (64 - s) := by
      rw [e64, ← Nat.div_div_eq_div_mul, Nat.mul_div_cancel _ hp]
    have := Nat.div_add_mod (lo * 2 ^ s) 18446744073709551616
    rw [e1] at this
    omega
  have hVb : lo * 2 ^ s % 18446744073709551616 < 18446744073709551616 := Nat.mod_lt _ (by decide)
  have hp2 : 2 ^ s ≤ 2 ^ 63 := Nat.pow_le_pow_right (by decide) hs1.2
  have hp3 : (2 : Nat) ^ 63 = 9223372036854775808 := by decide
  refine ⟨_, _, _, _, _, _, _, _, _, hs1, rfl, hYb, rfl, rfl, by omega, rfl, by omega, rfl, by omega, rfl, by rw [hU]; exact hUY, rfl, hVb, rfl, rfl, by omega, ?_⟩
  rw [hU, Nat.add_mul, hTV]
  have e2 : r * 18446744073709551616 * 2 ^ s = r * 2 ^ s * 18446744073709551616 := by rw [Nat.mul_assoc, Nat.mul_comm _ (2 ^ s), ← Nat.mul_assoc]
  rw [e2]
  omega
/-- What the walk is told of numbers below 2^64. -/
theorem wrap_mod (z : Nat) : IntKind.u64.wrap (z : Int) = ((z % 18446744073709551616 : Nat) : Int) := by
  rw [show IntKind.u64.wrap (z : Int) = (z : Int) % 18446744073709551616 from rfl]; omega
theorem wrap_mul (a b : Nat) : IntKind.u64.wrap ((a : Int) * (b : Int)) = ((a * b % 18446744073709551616 : Nat) : Int) := by
  rw [← Int.natCast_mul, wrap_mod]
theorem wrap_pow (a s : Nat) : IntKind.u64.wrap ((a : Int) * 2 ^ s) = ((a * 2 ^ s % 18446744073709551616 : Nat) : Int) := by
  rw [show (a : Int) * 2 ^ s = ((a * 2 ^ s : Nat) : Int) from by rw [Int.natCast_mul, Int.natCast_pow]; rfl, wrap_mod]
theorem wrap_small {z : Nat} (h : z < 18446744073709551616) : IntKind.u64.wrap (z : Int) = (z : Int) := by rw [wrap_mod, Nat.mod_eq_of_lt h]
theorem div_pow (a s : Nat) : (a : Int) / 2 ^ s = ((a / 2 ^ s : Nat) : Int) := by rw [Int.natCast_ediv, Int.natCast_pow]; rfl
theorem u64_mask {a : Nat} (ha : a < 18446744073709551616) : bits .and .u64 (a : Int) 4294967295 = ((a % 4294967296 : Nat) : Int) := by
  have h := u64_and_nat a 4294967295 ha (by decide)
  rw [show a &&& 4294967295 = a % 4294967296 from Nat.and_two_pow_sub_one_eq_mod a 32] at h
  exact h
/-- What is left behind a digit, in words of 64 bits. -/
theorem div_tail (u u1 Y q : Nat) (hY : 0 < Y) (hYb : Y < 18446744073709551616) (hu : u < Y) (h1 : u1 < 4294967296) (hq : q = (u * 4294967296 + u1) / Y) : ∃ W1 W3 r1 : Nat,
    IntKind.u64.wrap ((u : Int) * 4294967296) = (W1 : Int) ∧ W1 + u1 < 18446744073709551616 ∧ IntKind.u64.wrap ((q : Int) * (Y : Int)) = (W3 : Int) ∧ IntKind.u64.wrap ((W1 : Int) + (u1 : Int) - (W3 : Int)) = (r1 : Int) ∧ r1 = (u * 4294967296 + u1) % Y ∧ r1 < Y := by
  obtain ⟨d1, d2⟩ := digit_rest hY hq
  have hm := Nat.mod_lt (u * 4294967296 + u1) hY
  refine ⟨u * 4294967296 % 18446744073709551616, q * Y % 18446744073709551616, (u * 4294967296 + u1) % Y, ?_, by omega, wrap_mul q Y, ?_, rfl, hm⟩
  · have := wrap_mul u 4294967296
    exact this
  · rw [← d1]
    rw [← d1] at hm
    generalize q * Y = P at *
    rw [show ∀ z : Int, IntKind.u64.wrap z = z % 18446744073709551616 from fun _ => rfl]
    omega
set_option maxRecDepth 100000 in
set_option maxHeartbeats 2000000 in
theorem c_Div64 (r lo d : Nat) (w : World) (hr : r < d) (hd : d < 4611686018427387904) (hlo : lo < 18446744073709551616) :
    Calls Tryz.prog 42 #[.int .u64 (r : Int), .int .u64 (lo : Int), .int .u64 (d : Int)] w fun e w' => e = .returned (.tuple #[.int .u64 (((r * 18446744073709551616 + lo) / d : Nat) : Int), .int .u64 (((r * 18446744073709551616 + lo) % d : Nat) : Int)]) ∧ ∃ n, w' = w.drewN n := by
  have hd0 : ((d : Int) == 0) = false := by simp; omega
  have hdr : ¬ (d : Int) ≤ (r : Int) := by omega
  by_cases hr0 : r = 0
  · subst hr0
    have HA : Hid ((0 * 18446744073709551616 + lo) / d = lo / d) := by show _ = _; rw [Nat.zero_mul, Nat.zero_add]
    have HB : Hid ((0 * 18446744073709551616 + lo) % d = lo % d) := by show _ = _; rw [Nat.zero_mul, Nat.zero_add]
    have e1 : (lo : Int) / (d : Int) = ((lo / d : Nat) : Int) := rfl
    have e2 : (lo : Int) % (d : Int) = ((lo % d : Nat) : Int) := rfl
    have hL1 : lo / d < 18446744073709551616 := Nat.lt_of_le_of_lt (Nat.div_le_self _ _) hlo
    generalize lo / d = L1 at *
    generalize lo % d = L2 at *
    generalize (0 * 18446744073709551616 + lo) / d = R1 at *
    generalize (0 * 18446744073709551616 + lo) % d = R2 at *
    have hdI : ¬ (d : Int) = 0 := by omega
    go_enter Tryz.func42, Tryz.ntmps42
    go_wp2
    go_quiet (fail)
    go_wp2
    go_ret2
    refine ⟨?_, _, rfl⟩
    rw [HA.out, HB.out]
    simp
    first | exact e2 | exact ⟨wrap_small hL1, e2⟩
  · have hr0' : ((r : Int) == 0) = false := by simp [hr0]
    obtain ⟨Z3, hz3⟩ : ∃ z, (r * 18446744073709551616 + lo) / d = z := ⟨_, rfl⟩
    obtain ⟨Z4, hz4⟩ : ∃ z, (r * 18446744073709551616 + lo) % d = z := ⟨_, rfl⟩
    rw [hz3, hz4]
    have HZ3 := Lib.hid hz3
    have HZ4 := Lib.hid hz4
    clear hz3 hz4
    obtain ⟨s, hs⟩ : ∃ s, s = 64 - nlen d := ⟨_, rfl⟩
    obtain ⟨Y, U, V, y1, y0, u1, u0, T, R, D⟩ := div_setup hr hd hlo hs
    have hnl := nlen_le (x := d) (by omega)
    have HLZ := Lib.hid (c_LZ64 d (by omega))
    rw [bitLen_log (by omega), show (64 : Int) - ((nlen d : Nat) : Int) = (s : Int) from by omega] at HLZ
    have e1 := wrap_pow d s
    rw [D.hY, Nat.mod_eq_of_lt D.hYb] at e1
    have e2 : (Y : Int) / 4294967296 = (y1 : Int) := by have := D.hy1; omega
    have e3 := u64_mask D.hYb
    rw [D.hy0] at e3
    have e4 := wrap_pow r s
    rw [D.hR, Nat.mod_eq_of_lt D.hRb] at e4
    have e5 := div_pow lo (64 - s)
    rw [D.hT] at e5
    have e6 := u64_or_nat R T D.hRb D.hTb
    rw [D.hU] at e6
    have e7 := wrap_pow lo s
    rw [D.hV] at e7
    have e8 : (V : Int) / 4294967296 = (u1 : Int) := by have := D.hu1; omega
    have e9 := u64_mask D.hVb
    rw [D.hu0] at e9
    obtain ⟨b1, b2, b3⟩ := D.hyl
    obtain ⟨b4, b5⟩ := D.hul
    obtain ⟨b6, b7⟩ := D.hs
    have b8 := D.hUY
    have b9 := D.hYb
    have HYY : Hid (y1 * 4294967296 + y0 = Y) := by have := D.hy1; have := D.hy0; show _ = _; omega
    have HN := Lib.hid D.hN
    have HY := Lib.hid D.hY
    clear D hs hnl
    obtain ⟨G, hg⟩ := guess_start (u := U) (y1 := y1) (y0 := y0) (u1 := u1) b1 b2 b3 b4 (by have := HYY.out; omega)
    have HG := Lib.hid G
    have e10 : (U : Int) / (y1 : Int) = ((U / y1 : Nat) : Int) := rfl
    have HGe := Lib.hid G.eq
    have hgl := G.le
    generalize U / y1 = q at *
    generalize U % y1 = rr at *
    have e11 := wrap_mul q y1
    have hqm : q * y1 < 18446744073709551616 := by have := HGe.out; omega
    rw [Nat.mod_eq_of_lt hqm] at e11
    have e12 : (U : Int) - ((q * y1 : Nat) : Int) = (rr : Int) := by have := HGe.out; omega
    generalize q * y1 = qy at *
    clear G HGe
    have hy1z : ((y1 : Int) == 0) = false := by simp; omega
    go_enter Tryz.func42, Tryz.ntmps42
    go_wp2_with ((go_at_call 61; refine (HLZ.out _).mono ?_; rintro e w' ⟨rfl, rfl⟩))
    clear e1 e2 e3 e4 e5 e6 e7 e8 e9 e10 e11 e12 HLZ
    go_loop [15, 16] (fun vq vr => ∃ q rr : Nat, vq = .int .u64 q ∧ vr = .int .u64 rr ∧ rr < 4294967296 ∧ q ≤ 4294967297 ∧ Hid (Guess U y1 y0 u1 q rr)) (fun vq _ => (intOf vq).toNat)
    case atStart => exact ⟨_, _, rfl, rfl, by omega, by assumption, HG.out⟩
    case round =>
      clear HG
      obtain ⟨q, rr, rfl, rfl, hrr, hqq, HG⟩ := hrel
      have HLESS := Lib.hid (guess_less (y0 := y0) HG.out (by omega) (by have := HYY.out; omega) b4)
      have HDONE := Lib.hid (guess_done (y0 := y0) HG.out (by omega))
      have HOUT := Lib.hid (fun (k : Nat) (rk : Nat) (gk : Guess U y1 y0 u1 k rk) => guess_out gk (by omega) b3 (by have := HYY.out; omega))
      by_cases hbig : 4294967296 ≤ q
      · obtain ⟨HG3, hq1⟩ := HLESS.out (.inl hbig)
        have HG3 := Lib.hid HG3
        have hbigI : (4294967296 : Int) ≤ (q : Int) := by omega
        by_cases hov : rr + y1 < 4294967296
        · have hovI : ¬ (4294967296 : Int) ≤ (rr : Int) + (y1 : Int) := by omega
          go_wp2
          go_round
          case rel => exact ⟨q - 1, rr + y1, by go_num, by go_num, hov, by omega, HG3.out⟩
          case measure => simp [intOf]; omega
        · have hovI : (4294967296 : Int) ≤ (rr : Int) + (y1 : Int) := by omega
          have HQP := Lib.hid (HOUT.out _ _ HG3.out (by omega))
          obtain ⟨pq, hp⟩ : ∃ p, q - 1 = p := ⟨_, rfl⟩
          rw [hp] at HQP
          have hpI : (q : Int) - 1 = (pq : Int) := by omega
          have HQ11 := HQP
          clear HLESS HDONE HOUT HG3 HG hbig hp HQP
          have HQ : Hid (pq = (U * 4294967296 + u1) / Y) := by have := HQ11.out; rw [HYY.out] at this; exact this
          have hq1b : pq < 4294967296 := digit_lt b8 b4 HQ.out
          obtain ⟨W1, W3, r1, w1, w2, w3, w4, w5, hr1⟩ := div_tail U u1 Y pq (by omega) b9 b8 b4 HQ.out
          have HR1 := Lib.hid w5
          clear w5
          obtain ⟨G2, hg2⟩ := guess_start (u := r1) (y1 := y1) (y0 := y0) (u1 := u0) b1 b2 b3 b5 (by have := HYY.out; omega)
          have HG2 := Lib.hid G2
          have f10 : (r1 : Int) / (y1 : Int) = ((r1 / y1 : Nat) : Int) := rfl
          have HG2e := Lib.hid G2.eq
          have hg2l := G2.le
          generalize r1 / y1 = q0 at *
          generalize r1 % y1 = rr0 at *
          have f11 := wrap_mul q0 y1
          have hq0m : q0 * y1 < 18446744073709551616 := by have := HG2e.out; omega
          rw [Nat.mod_eq_of_lt hq0m] at f11
          have f12 : (r1 : Int) - ((q0 * y1 : Nat) : Int) = (rr0 : Int) := by have := HG2e.out; omega
          generalize q0 * y1 = qy0 at *
          clear G2 HG2e
          go_wp2_with fail
          clear f10 f11 f12 w1 w3 w4
          go_loop [18, 16] (fun vq vr => ∃ q0 rr : Nat, vq = .int .u64 q0 ∧ vr = .int .u64 rr ∧ rr < 4294967296 ∧ q0 ≤ 4294967297 ∧ Hid (Guess r1 y1 y0 u0 q0 rr)) (fun vq _ => (intOf vq).toNat)
          case atStart => exact ⟨_, _, rfl, rfl, by omega, by assumption, HG2.out⟩
          case round =>
            clear HG2
            obtain ⟨q0, rr, rfl, rfl, hrr, hqq, HG2⟩ := hrel
            have HLESS := Lib.hid (guess_less (y0 := y0) HG2.out (by omega) (by have := HYY.out; omega) b5)
            have HDONE := Lib.hid (guess_done (y0 := y0) HG2.out (by omega))
            have HOUT := Lib.hid (fun (k : Nat) (rk : Nat) (gk : Guess r1 y1 y0 u0 k rk) => guess_out gk (by omega) b3 (by have := HYY.out; omega))
            by_cases hbig : 4294967296 ≤ q0
            · obtain ⟨HG3, hq1⟩ := HLESS.out (.inl hbig)
              have HG3 := Lib.hid HG3
              have hbigI : (4294967296 : Int) ≤ (q0 : Int) := by omega
              by_cases hov : rr + y1 < 4294967296
              · have hovI : ¬ (4294967296 : Int) ≤ (rr : Int) + (y1 : Int) := by omega
                go_wp2
                go_round
                case rel => exact ⟨q0 - 1, rr + y1, by go_num, by go_num, hov, by omega, HG3.out⟩
                case measure => simp [intOf]; omega
              · have hovI : (4294967296 : Int) ≤ (rr : Int) + (y1 : Int) := by omega
                have HQP := Lib.hid (HOUT.out _ _ HG3.out (by omega))
                obtain ⟨pq0, hp⟩ : ∃ p, q0 - 1 = p := ⟨_, rfl⟩
                rw [hp] at HQP
                have hpI : (q0 : Int) - 1 = (pq0 : Int) := by omega
                have HQ00 := HQP
                clear HLESS HDONE HOUT HG3 HG2 hbig hp HQP
                have HQ0 : Hid (pq0 = (r1 * 4294967296 + u0) / Y) := by have := HQ00.out; rw [HYY.out] at this; exact this
                have hq0b : pq0 < 4294967296 := digit_lt hr1 b5 HQ0.out
                obtain ⟨X1, X3, r2, x1, x2, x3, x4, x5, x6⟩ := div_tail r1 u0 Y pq0 (by omega) b9 hr1 b5 HQ0.out
                have HX5 := Lib.hid x5
                have x7 := div_pow r2 s
                have HZ : Hid (Z3 = pq * 4294967296 + pq0 ∧ Z4 = r2 / 2 ^ s) := by
                  have h1 := div_two (N := (r * 18446744073709551616 + lo) * 2 ^ s) (Y := Y) (by omega) HN.out HQ.out HR1.out HQ0.out b5
                  have h2 := div_shift (r * 18446744073709551616 + lo) d s (by omega)
                  rw [HY.out] at h2
                  exact ⟨by rw [← HZ3.out, ← h2.1, h1.1], by rw [← HZ4.out, ← h2.2, h1.2, HX5.out]⟩
                clear x5
                generalize r2 / 2 ^ s = Z2 at *
                go_wp2
                go_ret2
                exact ⟨by rw [HZ.out.1, HZ.out.2]; simp, 0, rfl⟩
            · have hbigI : ¬ (4294967296 : Int) ≤ (q0 : Int) := by omega
              have hA : q0 * y0 < 18446744073709551616 := by
                have : q0 * y0 ≤ 4294967295 * 4294967295 := Nat.mul_le_mul (by omega) (by omega)
                omega
              have eA := wrap_mul q0 y0
              rw [Nat.mod_eq_of_lt hA] at eA
              by_cases ht : 4294967296 * rr + u0 < q0 * y0
              · obtain ⟨HG3, hq1⟩ := HLESS.out (.inr ht)
                have HG3 := Lib.hid HG3
                have htI : (4294967296 : Int) * (rr : Int) + (u0 : Int) < ((q0 * y0 : Nat) : Int) := by omega
                generalize q0 * y0 = A at *
                by_cases hov : rr + y1 < 4294967296
                · have hovI : ¬ (4294967296 : Int) ≤ (rr : Int) + (y1 : Int) := by omega
                  go_wp2
                  go_round
                  case rel => exact ⟨q0 - 1, rr + y1, by go_num, by go_num, hov, by omega, HG3.out⟩
                  case measure => simp [intOf]; omega
                · have hovI : (4294967296 : Int) ≤ (rr : Int) + (y1 : Int) := by omega
                  have HQP := Lib.hid (HOUT.out _ _ HG3.out (by omega))
                  obtain ⟨pq0, hp⟩ : ∃ p, q0 - 1 = p := ⟨_, rfl⟩
                  rw [hp] at HQP
                  have hpI : (q0 : Int) - 1 = (pq0 : Int) := by omega
                  have HQ00 := HQP
                  clear HLESS HDONE HOUT HG3 HG2 hbig hp HQP
                  have HQ0 : Hid (pq0 = (r1 * 4294967296 + u0) / Y) := by have := HQ00.out; rw [HYY.out] at this; exact this
                  have hq0b : pq0 < 4294967296 := digit_lt hr1 b5 HQ0.out
                  obtain ⟨X1, X3, r2, x1, x2, x3, x4, x5, x6⟩ := div_tail r1 u0 Y pq0 (by omega) b9 hr1 b5 HQ0.out
                  have HX5 := Lib.hid x5
                  have x7 := div_pow r2 s
                  have HZ : Hid (Z3 = pq * 4294967296 + pq0 ∧ Z4 = r2 / 2 ^ s) := by
                    have h1 := div_two (N := (r * 18446744073709551616 + lo) * 2 ^ s) (Y := Y) (by omega) HN.out HQ.out HR1.out HQ0.out b5
                    have h2 := div_shift (r * 18446744073709551616 + lo) d s (by omega)
                    rw [HY.out] at h2
                    exact ⟨by rw [← HZ3.out, ← h2.1, h1.1], by rw [← HZ4.out, ← h2.2, h1.2, HX5.out]⟩
                  clear x5
                  generalize r2 / 2 ^ s = Z2 at *
                  go_wp2
                  go_ret2
                  exact ⟨by rw [HZ.out.1, HZ.out.2]; simp, 0, rfl⟩
              · have HQ00 := Lib.hid (HDONE.out (by omega))
                have htI : ¬ (4294967296 : Int) * (rr : Int) + (u0 : Int) < ((q0 * y0 : Nat) : Int) := by omega
                clear HLESS HDONE HOUT HG2 hbig
                generalize q0 * y0 = A at *
                have HQ0 : Hid (q0 = (r1 * 4294967296 + u0) / Y) := by have := HQ00.out; rw [HYY.out] at this; exact this
                have hq0b : q0 < 4294967296 := digit_lt hr1 b5 HQ0.out
                obtain ⟨X1, X3, r2, x1, x2, x3, x4, x5, x6⟩ := div_tail r1 u0 Y q0 (by omega) b9 hr1 b5 HQ0.out
                have HX5 := Lib.hid x5
                have x7 := div_pow r2 s
                have HZ : Hid (Z3 = pq * 4294967296 + q0 ∧ Z4 = r2 / 2 ^ s) := by
                  have h1 := div_two (N := (r * 18446744073709551616 + lo) * 2 ^ s) (Y := Y) (by omega) HN.out HQ.out HR1.out HQ0.out b5
                  have h2 := div_shift (r * 18446744073709551616 + lo) d s (by omega)
                  rw [HY.out] at h2
                  exact ⟨by rw [← HZ3.out, ← h2.1, h1.1], by rw [← HZ4.out, ← h2.2, h1.2, HX5.out]⟩
                clear x5
                generalize r2 / 2 ^ s = Z2 at *
                go_wp2
                go_ret2
                exact ⟨by rw [HZ.out.1, HZ.out.2]; simp, 0, rfl⟩
      · have hbigI : ¬ (4294967296 : Int) ≤ (q : Int) := by omega
        have hA : q * y0 < 18446744073709551616 := by
          have : q * y0 ≤ 4294967295 * 4294967295 := Nat.mul_le_mul (by omega) (by omega)
          omega
        have eA := wrap_mul q y0
        rw [Nat.mod_eq_of_lt hA] at eA
        by_cases ht : 4294967296 * rr + u1 < q * y0
        · obtain ⟨HG3, hq1⟩ := HLESS.out (.inr ht)
          have HG3 := Lib.hid HG3
          have htI : (4294967296 : Int) * (rr : Int) + (u1 : Int) < ((q * y0 : Nat) : Int) := by omega
          generalize q * y0 = A at *
          by_cases hov : rr + y1 < 4294967296
          · have hovI : ¬ (4294967296 : Int) ≤ (rr : Int) + (y1 : Int) := by omega
            go_wp2
            go_round
            case rel => exact ⟨q - 1, rr + y1, by go_num, by go_num, hov, by omega, HG3.out⟩
            case measure => simp [intOf]; omega
          · have hovI : (4294967296 : Int) ≤ (rr : Int) + (y1 : Int) := by omega
            have HQP := Lib.hid (HOUT.out _ _ HG3.out (by omega))
            obtain ⟨pq, hp⟩ : ∃ p, q - 1 = p := ⟨_, rfl⟩
            rw [hp] at HQP
            have hpI : (q : Int) - 1 = (pq : Int) := by omega
            have HQ11 := HQP
            clear HLESS HDONE HOUT HG3 HG hbig hp HQP
            have HQ : Hid (pq = (U * 4294967296 + u1) / Y) := by have := HQ11.out; rw [HYY.out] at this; exact this
            have hq1b : pq < 4294967296 := digit_lt b8 b4 HQ.out
            obtain ⟨W1, W3, r1, w1, w2, w3, w4, w5, hr1⟩ := div_tail U u1 Y pq (by omega) b9 b8 b4 HQ.out
            have HR1 := Lib.hid w5
            clear w5
            obtain ⟨G2, hg2⟩ := guess_start (u := r1) (y1 := y1) (y0 := y0) (u1 := u0) b1 b2 b3 b5 (by have := HYY.out; omega)
            have HG2 := Lib.hid G2
            have f10 : (r1 : Int) / (y1 : Int) = ((r1 / y1 : Nat) : Int) := rfl
            have HG2e := Lib.hid G2.eq
            have hg2l := G2.le
            generalize r1 / y1 = q0 at *
            generalize r1 % y1 = rr0 at *
            have f11 := wrap_mul q0 y1
            have hq0m : q0 * y1 < 18446744073709551616 := by have := HG2e.out; omega
            rw [Nat.mod_eq_of_lt hq0m] at f11
            have f12 : (r1 : Int) - ((q0 * y1 : Nat) : Int) = (rr0 : Int) := by have := HG2e.out; omega
            generalize q0 * y1 = qy0 at *
            clear G2 HG2e
            go_wp2_with fail
            clear f10 f11 f12 w1 w3 w4
            go_loop [18, 16] (fun vq vr => ∃ q0 rr : Nat, vq = .int .u64 q0 ∧ vr = .int .u64 rr ∧ rr < 4294967296 ∧ q0 ≤ 4294967297 ∧ Hid (Guess r1 y1 y0 u0 q0 rr)) (fun vq _ => (intOf vq).toNat)
            case atStart => exact ⟨_, _, rfl, rfl, by omega, by assumption, HG2.out⟩
            case round =>
              clear HG2
              obtain ⟨q0, rr, rfl, rfl, hrr, hqq, HG2⟩ := hrel
              have HLESS := Lib.hid (guess_less (y0 := y0) HG2.out (by omega) (by have := HYY.out; omega) b5)
              have HDONE := Lib.hid (guess_done (y0 := y0) HG2.out (by omega))
              have HOUT := Lib.hid (fun (k : Nat) (rk : Nat) (gk : Guess r1 y1 y0 u0 k rk) => guess_out gk (by omega) b3 (by have := HYY.out; omega))
              by_cases hbig : 4294967296 ≤ q0
              · obtain ⟨HG3, hq1⟩ := HLESS.out (.inl hbig)
                have HG3 := Lib.hid HG3
                have hbigI : (4294967296 : Int) ≤ (q0 : Int) := by omega
                by_cases hov : rr + y1 < 4294967296
                · have hovI : ¬ (4294967296 : Int) ≤ (rr : Int) + (y1 : Int) := by omega
                  go_wp2
                  go_round
                  case rel => exact ⟨q0 - 1, rr + y1, by go_num, by go_num, hov, by omega, HG3.out⟩
                  case measure => simp [intOf]; omega
                · have hovI : (4294967296 : Int) ≤ (rr : Int) + (y1 : Int) := by omega
                  have HQP := Lib.hid (HOUT.out _ _ HG3.out (by omega))
                  obtain ⟨pq0, hp⟩ : ∃ p, q0 - 1 = p := ⟨_, rfl⟩
                  rw [hp] at HQP
                  have hpI : (q0 : Int) - 1 = (pq0 : Int) := by omega
                  have HQ00 := HQP
                  clear HLESS HDONE HOUT HG3 HG2 hbig hp HQP
                  have HQ0 : Hid (pq0 = (r1 * 4294967296 + u0) / Y) := by have := HQ00.out; rw [HYY.out] at this; exact this
                  have hq0b : pq0 < 4294967296 := digit_lt hr1 b5 HQ0.out
                  obtain ⟨X1, X3, r2, x1, x2, x3, x4, x5, x6⟩ := div_tail r1 u0 Y pq0 (by omega) b9 hr1 b5 HQ0.out
                  have HX5 := Lib.hid x5
                  have x7 := div_pow r2 s
                  have HZ : Hid (Z3 = pq * 4294967296 + pq0 ∧ Z4 = r2 / 2 ^ s) := by
                    have h1 := div_two (N := (r * 18446744073709551616 + lo) * 2 ^ s) (Y := Y) (by omega) HN.out HQ.out HR1.out HQ0.out b5
                    have h2 := div_shift (r * 18446744073709551616 + lo) d s (by omega)
                    rw [HY.out] at h2
                    exact ⟨by rw [← HZ3.out, ← h2.1, h1.1], by rw [← HZ4.out, ← h2.2, h1.2, HX5.out]⟩
                  clear x5
                  generalize r2 / 2 ^ s = Z2 at *
                  go_wp2
                  go_ret2
                  exact ⟨by rw [HZ.out.1, HZ.out.2]; simp, 0, rfl⟩
              · have hbigI : ¬ (4294967296 : Int) ≤ (q0 : Int) := by omega
                have hA : q0 * y0 < 18446744073709551616 := by
                  have : q0 * y0 ≤ 4294967295 * 4294967295 := Nat.mul_le_mul (by omega) (by omega)
                  omega
                have eA := wrap_mul q0 y0
                rw [Nat.mod_eq_of_lt hA] at eA
                by_cases ht : 4294967296 * rr + u0 < q0 * y0
                · obtain ⟨HG3, hq1⟩ := HLESS.out (.inr ht)
                  have HG3 := Lib.hid HG3
                  have htI : (4294967296 : Int) * (rr : Int) + (u0 : Int) < ((q0 * y0 : Nat) : Int) := by omega
                  generalize q0 * y0 = A at *
                  by_cases hov : rr + y1 < 4294967296
                  · have hovI : ¬ (4294967296 : Int) ≤ (rr : Int) + (y1 : Int) := by omega
                    go_wp2
                    go_round
                    case rel => exact ⟨q0 - 1, rr + y1, by go_num, by go_num, hov, by omega, HG3.out⟩
                    case measure => simp [intOf]; omega
                  · have hovI : (4294967296 : Int) ≤ (rr : Int) + (y1 : Int) := by omega
                    have HQP := Lib.hid (HOUT.out _ _ HG3.out (by omega))
                    obtain ⟨pq0, hp⟩ : ∃ p, q0 - 1 = p := ⟨_, rfl⟩
                    rw [hp] at HQP
                    have hpI : (q0 : Int) - 1 = (pq0 : Int) := by omega
                    have HQ00 := HQP
                    clear HLESS HDONE HOUT HG3 HG2 hbig hp HQP
                    have HQ0 : Hid (pq0 = (r1 * 4294967296 + u0) / Y) := by have := HQ00.out; rw [HYY.out] at this; exact this
                    have hq0b : pq0 < 4294967296 := digit_lt hr1 b5 HQ0.out
                    obtain ⟨X1, X3, r2, x1, x2, x3, x4, x5, x6⟩ := div_tail r1 u0 Y pq0 (by omega) b9 hr1 b5 HQ0.out
                    have HX5 := Lib.hid x5
                    have x7 := div_pow r2 s
                    have HZ : Hid (Z3 = pq * 4294967296 + pq0 ∧ Z4 = r2 / 2 ^ s) := by
                      have h1 := div_two (N := (r * 18446744073709551616 + lo) * 2 ^ s) (Y := Y) (by omega) HN.out HQ.out HR1.out HQ0.out b5
                      have h2 := div_shift (r * 18446744073709551616 + lo) d s (by omega)
                      rw [HY.out] at h2
                      exact ⟨by rw [← HZ3.out, ← h2.1, h1.1], by rw [← HZ4.out, ← h2.2, h1.2, HX5.out]⟩
                    clear x5
                    generalize r2 / 2 ^ s = Z2 at *
                    go_wp2
                    go_ret2
                    exact ⟨by rw [HZ.out.1, HZ.out.2]; simp, 0, rfl⟩
                · have HQ00 := Lib.hid (HDONE.out (by omega))
                  have htI : ¬ (4294967296 : Int) * (rr : Int) + (u0 : Int) < ((q0 * y0 : Nat) : Int) := by omega
                  clear HLESS HDONE HOUT HG2 hbig
                  generalize q0 * y0 = A at *
                  have HQ0 : Hid (q0 = (r1 * 4294967296 + u0) / Y) := by have := HQ00.out; rw [HYY.out] at this; exact this
                  have hq0b : q0 < 4294967296 := digit_lt hr1 b5 HQ0.out
                  obtain ⟨X1, X3, r2, x1, x2, x3, x4, x5, x6⟩ := div_tail r1 u0 Y q0 (by omega) b9 hr1 b5 HQ0.out
                  have HX5 := Lib.hid x5
                  have x7 := div_pow r2 s
                  have HZ : Hid (Z3 = pq * 4294967296 + q0 ∧ Z4 = r2 / 2 ^ s) := by
                    have h1 := div_two (N := (r * 18446744073709551616 + lo) * 2 ^ s) (Y := Y) (by omega) HN.out HQ.out HR1.out HQ0.out b5
                    have h2 := div_shift (r * 18446744073709551616 + lo) d s (by omega)
                    rw [HY.out] at h2
                    exact ⟨by rw [← HZ3.out, ← h2.1, h1.1], by rw [← HZ4.out, ← h2.2, h1.2, HX5.out]⟩
                  clear x5
                  generalize r2 / 2 ^ s = Z2 at *
                  go_wp2
                  go_ret2
                  exact ⟨by rw [HZ.out.1, HZ.out.2]; simp, 0, rfl⟩
        · have HQ11 := Lib.hid (HDONE.out (by omega))
          have htI : ¬ (4294967296 : Int) * (rr : Int) + (u1 : Int) < ((q * y0 : Nat) : Int) := by omega
          clear HLESS HDONE HOUT HG hbig
          generalize q * y0 = A at *
          have HQ : Hid (q = (U * 4294967296 + u1) / Y) := by have := HQ11.out; rw [HYY.out] at this; exact this
          have hq1b : q < 4294967296 := digit_lt b8 b4 HQ.out
          obtain ⟨W1, W3, r1, w1, w2, w3, w4, w5, hr1⟩ := div_tail U u1 Y q (by omega) b9 b8 b4 HQ.out
          have HR1 := Lib.hid w5
          clear w5
          obtain ⟨G2, hg2⟩ := guess_start (u := r1) (y1 := y1) (y0 := y0) (u1 := u0) b1 b2 b3 b5 (by have := HYY.out; omega)
          have HG2 := Lib.hid G2
          have f10 : (r1 : Int) / (y1 : Int) = ((r1 / y1 : Nat) : Int) := rfl
          have HG2e := Lib.hid G2.eq
          have hg2l := G2.le
          generalize r1 / y1 = q0 at *
          generalize r1 % y1 = rr0 at *
          have f11 := wrap_mul q0 y1
          have hq0m : q0 * y1 < 18446744073709551616 := by have := HG2e.out; omega
          rw [Nat.mod_eq_of_lt hq0m] at f11
          have f12 : (r1 : Int) - ((q0 * y1 : Nat) : Int) = (rr0 : Int) := by have := HG2e.out; omega
          generalize q0 * y1 = qy0 at *
          clear G2 HG2e
          go_wp2_with fail
          clear f10 f11 f12 w1 w3 w4
          go_loop [18, 16] (fun vq vr => ∃ q0 rr : Nat, vq = .int .u64 q0 ∧ vr = .int .u64 rr ∧ rr < 4294967296 ∧ q0 ≤ 4294967297 ∧ Hid (Guess r1 y1 y0 u0 q0 rr)) (fun vq _ => (intOf vq).toNat)
          case atStart => exact ⟨_, _, rfl, rfl, by omega, by assumption, HG2.out⟩
          case round =>
            clear HG2
            obtain ⟨q0, rr, rfl, rfl, hrr, hqq, HG2⟩ := hrel
            have HLESS := Lib.hid (guess_less (y0 := y0) HG2.out (by omega) (by have := HYY.out; omega) b5)
            have HDONE := Lib.hid (guess_done (y0 := y0) HG2.out (by omega))
            have HOUT := Lib.hid (fun (k : Nat) (rk : Nat) (gk : Guess r1 y1 y0 u0 k rk) => guess_out gk (by omega) b3 (by have := HYY.out; omega))
            by_cases hbig : 4294967296 ≤ q0
            · obtain ⟨HG3, hq1⟩ := HLESS.out (.inl hbig)
              have HG3 := Lib.hid HG3
              have hbigI : (4294967296 : Int) ≤ (q0 : Int) := by omega
              by_cases hov : rr + y1 < 4294967296
              · have hovI : ¬ (4294967296 : Int) ≤ (rr : Int) + (y1 : Int) := by omega
                go_wp2
                go_round
                case rel => exact ⟨q0 - 1, rr + y1, by go_num, by go_num, hov, by omega, HG3.out⟩
                case measure => simp [intOf]; omega
              · have hovI : (4294967296 : Int) ≤ (rr : Int) + (y1 : Int) := by omega
                have HQP := Lib.hid (HOUT.out _ _ HG3.out (by omega))
                obtain ⟨pq0, hp⟩ : ∃ p, q0 - 1 = p := ⟨_, rfl⟩
                rw [hp] at HQP
                have hpI : (q0 : Int) - 1 = (pq0 : Int) := by omega
                have HQ00 := HQP
                clear HLESS HDONE HOUT HG3 HG2 hbig hp HQP
                have HQ0 : Hid (pq0 = (r1 * 4294967296 + u0) / Y) := by have := HQ00.out; rw [HYY.out] at this; exact this
                have hq0b : pq0 < 4294967296 := digit_lt hr1 b5 HQ0.out
                obtain ⟨X1, X3, r2, x1, x2, x3, x4, x5, x6⟩ := div_tail r1 u0 Y pq0 (by omega) b9 hr1 b5 HQ0.out
                have HX5 := Lib.hid x5
                have x7 := div_pow r2 s
                have HZ : Hid (Z3 = q * 4294967296 + pq0 ∧ Z4 = r2 / 2 ^ s) := by
                  have h1 := div_two (N := (r * 18446744073709551616 + lo) * 2 ^ s) (Y := Y) (by omega) HN.out HQ.out HR1.out HQ0.out b5
                  have h2 := div_shift (r * 18446744073709551616 + lo) d s (by omega)
                  rw [HY.out] at h2
                  exact ⟨by rw [← HZ3.out, ← h2.1, h1.1], by rw [← HZ4.out, ← h2.2, h1.2, HX5.out]⟩
                clear x5
                generalize r2 / 2 ^ s = Z2 at *
                go_wp2
                go_ret2
                exact ⟨by rw [HZ.out.1, HZ.out.2]; simp, 0, rfl⟩
            · have hbigI : ¬ (4294967296 : Int) ≤ (q0 : Int) := by omega
              have hA : q0 * y0 < 18446744073709551616 := by
                have : q0 * y0 ≤ 4294967295 * 4294967295 := Nat.mul_le_mul (by omega) (by omega)
                omega
              have eA := wrap_mul q0 y0
              rw [Nat.mod_eq_of_lt hA] at eA
              by_cases ht : 4294967296 * rr + u0 < q0 * y0
              · obtain ⟨HG3, hq1⟩ := HLESS.out (.inr ht)
                have HG3 := Lib.hid HG3
                have htI : (4294967296 : Int) * (rr : Int) + (u0 : Int) < ((q0 * y0 : Nat) : Int) := by omega
                generalize q0 * y0 = A at *
                by_cases hov : rr + y1 < 4294967296
                · have hovI : ¬ (4294967296 : Int) ≤ (rr : Int) + (y1 : Int) := by omega
                  go_wp2
                  go_round
                  case rel => exact ⟨q0 - 1, rr + y1, by go_num, by go_num, hov, by omega, HG3.out⟩
                  case measure => simp [intOf]; omega
                · have hovI : (4294967296 : Int) ≤ (rr : Int) + (y1 : Int) := by omega
                  have HQP := Lib.hid (HOUT.out _ _ HG3.out (by omega))
                  obtain ⟨pq0, hp⟩ : ∃ p, q0 - 1 = p := ⟨_, rfl⟩
                  rw [hp] at HQP
                  have hpI : (q0 : Int) - 1 = (pq0 : Int) := by omega
                  have HQ00 := HQP
                  clear HLESS HDONE HOUT HG3 HG2 hbig hp HQP
                  have HQ0 : Hid (pq0 = (r1 * 4294967296 + u0) / Y) := by have := HQ00.out; rw [HYY.out] at this; exact this
                  have hq0b : pq0 < 4294967296 := digit_lt hr1 b5 HQ0.out
                  obtain ⟨X1, X3, r2, x1, x2, x3, x4, x5, x6⟩ := div_tail r1 u0 Y pq0 (by omega) b9 hr1 b5 HQ0.out
                  have HX5 := Lib.hid x5
                  have x7 := div_pow r2 s
                  have HZ : Hid (Z3 = q * 4294967296 + pq0 ∧ Z4 = r2 / 2 ^ s) := by
                    have h1 := div_two (N := (r * 18446744073709551616 + lo) * 2 ^ s) (Y := Y) (by omega) HN.out HQ.out HR1.out HQ0.out b5
                    have h2 := div_shift (r * 18446744073709551616 + lo) d s (by omega)
                    rw [HY.out] at h2
                    exact ⟨by rw [← HZ3.out, ← h2.1, h1.1], by rw [← HZ4.out, ← h2.2, h1.2, HX5.out]⟩
                  clear x5
                  generalize r2 / 2 ^ s = Z2 at *
                  go_wp2
                  go_ret2
                  exact ⟨by rw [HZ.out.1, HZ.out.2]; simp, 0, rfl⟩
              · have HQ00 := Lib.hid (HDONE.out (by omega))
                have htI : ¬ (4294967296 : Int) * (rr : Int) + (u0 : Int) < ((q0 * y0 : Nat) : Int) := by omega
                clear HLESS HDONE HOUT HG2 hbig
                generalize q0 * y0 = A at *
                have HQ0 : Hid (q0 = (r1 * 4294967296 + u0) / Y) := by have := HQ00.out; rw [HYY.out] at this; exact this
                have hq0b : q0 < 4294967296 := digit_lt hr1 b5 HQ0.out
                obtain ⟨X1, X3, r2, x1, x2, x3, x4, x5, x6⟩ := div_tail r1 u0 Y q0 (by omega) b9 hr1 b5 HQ0.out
                have HX5 := Lib.hid x5
                have x7 := div_pow r2 s
                have HZ : Hid (Z3 = q * 4294967296 + q0 ∧ Z4 = r2 / 2 ^ s) := by
                  have h1 := div_two (N := (r * 18446744073709551616 + lo) * 2 ^ s) (Y := Y) (by omega) HN.out HQ.out HR1.out HQ0.out b5
                  have h2 := div_shift (r * 18446744073709551616 + lo) d s (by omega)
                  rw [HY.out] at h2
                  exact ⟨by rw [← HZ3.out, ← h2.1, h1.1], by rw [← HZ4.out, ← h2.2, h1.2, HX5.out]⟩
                clear x5
                generalize r2 / 2 ^ s = Z2 at *
                go_wp2
                go_ret2
                exact ⟨by rw [HZ.out.1, HZ.out.2]; simp, 0, rfl⟩
end Go.Proofs.YtcohidjaehdbnaaGreatDoor
