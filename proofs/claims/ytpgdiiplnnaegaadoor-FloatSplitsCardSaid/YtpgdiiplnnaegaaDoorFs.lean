/- Walks: a finite magnitude taken apart (float.whole, quernref22.parts), trailing noughts, Split. Conditions: as stated. -/
import Derived.Test.YtpgdiiplnnaegaaDoorFw2
import Derived.Lib.TrailingZeros
namespace Go.Proofs.YtpgdiiplnnaegaaDoor
open Go.RowKit

/-- A magnitude's whole number. -/
def mman (m : Nat) : Nat := if m < 4503599627370496 then m else m % 4503599627370496 + 4503599627370496
/-- A magnitude's exponent. -/
def mexp (m : Nat) : Int := if m < 4503599627370496 then -1074 else (m / 4503599627370496 : Nat) - 1075
theorem or_top (M : Nat) (h : M < 4503599627370496) : bits .or .u64 (M : Int) 4503599627370496 = ((M + 4503599627370496 : Nat) : Int) := by
  have := u64_or_nat M 4503599627370496 (by omega) (by decide)
  rw [show ((4503599627370496 : Nat) : Int) = 4503599627370496 from rfl] at this
  rw [this, Nat.or_comm, nat_join 52 4503599627370496 M (by decide) (by omega), Nat.add_comm]
theorem and_low (x : Nat) (h : x < 18446744073709551616) : bits .and .u64 (x : Int) 4503599627370495 = ((x % 4503599627370496 : Nat) : Int) := by
  have := u64_and_nat x 4503599627370495 h (by decide)
  rw [show ((4503599627370495 : Nat) : Int) = 4503599627370495 from rfl] at this
  rw [this, show (4503599627370495 : Nat) = 2 ^ 52 - 1 from by decide, Nat.and_two_pow_sub_one_eq_mod]
theorem and_2047 (x : Nat) (h : x < 18446744073709551616) : bits .and .u64 (x : Int) 2047 = ((x % 2048 : Nat) : Int) := by
  have := u64_and_nat x 2047 h (by decide)
  rw [show ((2047 : Nat) : Int) = 2047 from rfl] at this
  rw [this, show (2047 : Nat) = 2 ^ 11 - 1 from by decide, Nat.and_two_pow_sub_one_eq_mod]
theorem mman_lt {m : Nat} (h : m < 9223372036854775808) : mman m < 9007199254740992 := by unfold mman; split <;> omega
theorem mexp_bd {m : Nat} (h : m < 9223372036854775808) : -1074 ≤ mexp m ∧ mexp m ≤ 1000 := by unfold mexp; split <;> omega
theorem ret2 {k l : IntKind} {a b c d : Int} (h : a = b) (h2 : c = d) : Ending.returned (.tuple #[.int k a, .int l c]) = .returned (.tuple #[.int k b, .int l d]) := by rw [h, h2]
theorem c_whole (b : Nat) (hb : b < 18446744073709551616) (w : World) : Calls Tryd.prog 12 #[.float .f64 b] w fun e w' => e = .returned (.tuple #[.int .u64 (mman (b % 9223372036854775808)), .int .i64 (mexp (b % 9223372036854775808))]) ∧ w = w' := by
  have hc := call_bits b
  have hq := andNot_sign b hb
  obtain ⟨m, hm⟩ : ∃ m, m = b % 9223372036854775808 := ⟨_, rfl⟩
  have hmb : m < 9223372036854775808 := by omega
  rw [← hm] at hq ⊢
  clear hm
  have ha := and_low m (by omega)
  by_cases hs : m < 4503599627370496
  · have H1 : Hid (mman m = m) := if_pos hs
    have H2 : Hid (mexp m = -1074) := if_pos hs
    have ht : ((m : Int) / 4503599627370496 == 0) = true := by simp; omega
    have Hs := Lib.hid hs
    clear hs
    go_enter Tryd.func12, Tryd.ntmps12
    go_wp2
    go_ret2
    exact ⟨by rw [H1.out, H2.out]; exact ret2 (by have := Hs.out; omega) rfl, rfl⟩
  · have H1 : Hid (mman m = m % 4503599627370496 + 4503599627370496) := if_neg hs
    have H2 : Hid (mexp m = (m / 4503599627370496 : Nat) - 1075) := if_neg hs
    have ht : ((m : Int) / 4503599627370496 == 0) = false := by simp; omega
    have ho : bits .or .u64 ((m : Int) % 4503599627370496) 4503599627370496 = (m : Int) % 4503599627370496 + 4503599627370496 := by
      have := or_top (m % 4503599627370496) (by omega)
      simpa using this
    clear hs
    go_enter Tryd.func12, Tryd.ntmps12
    go_wp2
    go_ret2
    exact ⟨by rw [H1.out, H2.out]; exact ret2 (by simp) (by simp), rfl⟩
theorem c_parts (m : Nat) (hmb : m < 9223372036854775808) (w : World) : Calls Tryd.prog 15 #[.int .u64 (m : Int)] w fun e w' => e = .returned (.tuple #[.int .u64 (mman m), .int .i64 (mexp m)]) ∧ w = w' := by
  have ha := and_low m (by omega)
  have ha2 : bits .and .u64 ((m : Int) / 4503599627370496) 2047 = (m : Int) / 4503599627370496 := by
    have := and_2047 (m / 4503599627370496) (by omega)
    rw [Int.natCast_ediv] at this
    refine this.trans ?_
    omega
  by_cases hs : m < 4503599627370496
  · have H1 : Hid (mman m = m) := if_pos hs
    have H2 : Hid (mexp m = -1074) := if_pos hs
    have ht : ((m : Int) / 4503599627370496 == 0) = true := by simp; omega
    have Hs := Lib.hid hs
    clear hs
    go_enter Tryd.func15, Tryd.ntmps15
    go_wp2
    go_ret2
    exact ⟨by rw [H1.out, H2.out]; exact ret2 (by have := Hs.out; omega) rfl, rfl⟩
  · have H1 : Hid (mman m = m % 4503599627370496 + 4503599627370496) := if_neg hs
    have H2 : Hid (mexp m = (m / 4503599627370496 : Nat) - 1075) := if_neg hs
    have ht : ((m : Int) / 4503599627370496 == 0) = false := by simp; omega
    clear hs
    go_enter Tryd.func15, Tryd.ntmps15
    go_wp2
    go_ret2
    exact ⟨by rw [H1.out, H2.out]; exact ret2 (by simp) (by simp), rfl⟩
/-- The de Bruijn table in its variable. -/
def Tab64 (g : Nat) (w : World) : Prop := ∀ j, j < 64 → w.cell? ⟨g, j, none⟩ = some (.int .u8 ((Lib.deBruijn64tab.getD j 0 : Nat) : Int))
theorem tz_core (x k idx : Nat) (w : World) (hx0 : ((x : Int) == 0) = false)
    (key : IntKind.u64.wrap (bits BinOp.and IntKind.u64 (x : Int) (IntKind.u64.wrap (-(x : Int))) * 285870213051353865) / 288230376151711744 = (idx : Int))
    (hi : idx < 64) (hk : k < 64) (hcell : w.cell? ⟨1, idx, none⟩ = some (.int .u8 k)) :
    Calls Tryd.prog 13 #[.int .u64 x] w fun e w' => e = .returned (.int .i64 k) ∧ w = w' := by
  go_enter Tryd.func13, Tryd.ntmps13
  go_wp2_with (simp only [key])
  go_ret
  exact ⟨rfl, rfl⟩
theorem tz_key (x a : Nat) (hx : x < 18446744073709551616) (hx0 : x ≠ 0) (hlow : x &&& (18446744073709551616 - x) = a) :
    IntKind.u64.wrap (bits BinOp.and IntKind.u64 (x : Int) (IntKind.u64.wrap (-(x : Int))) * 285870213051353865) / 288230376151711744 = ((a * 285870213051353865 % 18446744073709551616 / 288230376151711744 : Nat) : Int) := by
  have e1 : IntKind.u64.wrap (-(x : Int)) = ((18446744073709551616 - x : Nat) : Int) := by rw [IntKind.wrap_u64]; omega
  rw [e1, u64_and_nat x _ hx (by omega), hlow, IntKind.wrap_u64]
  omega
theorem c_tz (x : Nat) (hx : x < 18446744073709551616) (hx0 : x ≠ 0) (w : World) (hT : Tab64 1 w) :
    Calls Tryd.prog 13 #[.int .u64 x] w fun e w' => e = .returned (.int .i64 (Lib.ctz 64 x)) ∧ w = w' := by
  obtain ⟨hlow, hk⟩ := Lib.lowest_bit 64 x hx0 hx
  obtain ⟨hi, htab⟩ := Lib.deBruijn64_at _ hk
  have hcell := hT _ hi
  rw [htab] at hcell
  exact tz_core x _ _ w (by simp; omega) (tz_key x _ hx hx0 hlow) hi hk hcell
theorem mman_pos {m : Nat} (h : m ≠ 0) : mman m ≠ 0 := by unfold mman; split <;> omega
theorem ret4 {k l : IntKind} {a b c d : Int} {x y u v : Bool} (h : a = b) (h2 : c = d) (h3 : x = y) (h4 : u = v) : Ending.returned (.tuple #[.int k a, .int l c, .bool x, .bool u]) = .returned (.tuple #[.int k b, .int l d, .bool y, .bool v]) := by rw [h, h2, h3, h4]
theorem results_tmp4 {fn : Func} {t u v x : Tmp} (h : fn.results = #[.tmp t, .tmp u, .tmp v, .tmp x]) (tmps : Array Value) (P : Program) (w : World) :
    (results fn tmps).run P w = .ok (.tuple #[tmps.getD t undef, tmps.getD u undef, tmps.getD v undef, tmps.getD x undef]) w := by simp [results, h]
/-- What Split says: the odd number and its exponent. -/
def SplitsAs (b : Nat) (e : Ending) : Prop :=
  e = .returned (if 9218868437227405312 ≤ b % 9223372036854775808 then .tuple #[.int .u64 0, .int .i64 0, .bool false, .bool false]
    else if b % 9223372036854775808 = 0 then .tuple #[.int .u64 0, .int .i64 0, .bool (!decide (b < 9223372036854775808)), .bool true]
    else .tuple #[.int .u64 ((mman (b % 9223372036854775808) / 2 ^ Lib.ctz 64 (mman (b % 9223372036854775808)) : Nat) : Int), .int .i64 (mexp (b % 9223372036854775808) + (Lib.ctz 64 (mman (b % 9223372036854775808)) : Nat)), .bool (!decide (b < 9223372036854775808)), .bool true])
theorem c_Split (b : Nat) (hb : b < 18446744073709551616) (w : World) (hT : Tab64 1 w) : Calls Tryd.prog 6 #[.float .f64 b] w fun e w' => SplitsAs b e ∧ w = w' := by
  rcases h : fnan b with _ | _
  · have Hn := Lib.hid (fneg_no h)
    obtain ⟨⟨g0, g1, g2, g3⟩, hf⟩ | ⟨⟨g0, g1, g2, g3⟩, hf⟩ | ⟨⟨g0, g1, g2, g3⟩, hf⟩ | ⟨⟨g0, g1, g2, g3⟩, hf⟩ := fclass_cases h
    · have HS : Hid (SplitsAs b (.returned (.tuple #[.int .u64 0, .int .i64 0, .bool false, .bool false]))) := by
        have := beq_iff_eq.1 g1
        show SplitsAs _ _; unfold SplitsAs; rw [if_pos (by omega)]
      clear h g0 g1 g2 g3
      go_enter Tryd.func6, Tryd.ntmps6
      go_wp2_with (go_at_call 11; refine (c_Class b hb _).mono ?_; rintro e w' ⟨rfl, rfl⟩)
      refine bodyPost_ret (results_tmp4 rfl _ _ _) rfl ?_
      exact ⟨HS.out, rfl⟩
    · have HS : Hid (SplitsAs b (.returned (.tuple #[.int .u64 0, .int .i64 0, .bool (fneg b), .bool true]))) := by
        have := beq_iff_eq.1 g2
        show SplitsAs _ _; unfold SplitsAs; rw [if_neg (by omega), if_pos (by omega), Hn.out]
      have hz : ((mman (b % 9223372036854775808) : Int) == 0) = true := by
        have := beq_iff_eq.1 g2
        rw [show b % 9223372036854775808 = 0 from by omega]; rfl
      clear h g0 g1 g2 g3
      go_enter Tryd.func6, Tryd.ntmps6
      go_wp2_with (first | (go_at_call 11; refine (c_Class b hb _).mono ?_; rintro e w' ⟨rfl, rfl⟩) | (go_at_call 12; refine (c_whole b hb _).mono ?_; rintro e w' ⟨rfl, rfl⟩))
      refine bodyPost_ret (results_tmp4 rfl _ _ _) rfl ?_
      exact ⟨HS.out, rfl⟩
    all_goals
      have hm : b % 9223372036854775808 ≠ 0 ∧ b % 9223372036854775808 < 9218868437227405312 := by
        have a0 := of_decide_eq_false g0
        have a1 := beq_eq_false_iff_ne.1 g1
        have a2 := beq_eq_false_iff_ne.1 g2
        omega
      have HS : Hid (SplitsAs b (.returned (.tuple #[.int .u64 ((mman (b % 9223372036854775808) / 2 ^ Lib.ctz 64 (mman (b % 9223372036854775808)) : Nat) : Int), .int .i64 (mexp (b % 9223372036854775808) + (Lib.ctz 64 (mman (b % 9223372036854775808)) : Nat)), .bool (fneg b), .bool true]))) := by
        show SplitsAs _ _; unfold SplitsAs; rw [if_neg (by omega), if_neg hm.1, Hn.out]
      have hw := c_whole b hb
      have hp := mman_pos hm.1
      have hl := mman_lt (m := b % 9223372036854775808) (by omega)
      have he := mexp_bd (m := b % 9223372036854775808) (by omega)
      clear h g0 g1 g2 g3 hm
      generalize mman (b % 9223372036854775808) = M at *
      generalize mexp (b % 9223372036854775808) = E at *
      have hk := (Lib.lowest_bit 64 M hp (by omega)).2
      have ht := c_tz M (by omega) hp
      generalize Lib.ctz 64 M = k at *
      have Hw := Lib.hid hw
      have Ht := Lib.hid ht
      clear hw ht
      have hz : ((M : Int) == 0) = false := by simp; omega
      clear hp
      go_enter Tryd.func6, Tryd.ntmps6
      go_wp2_with (first | (go_at_call 11; refine (c_Class b hb _).mono ?_; rintro e w' ⟨rfl, rfl⟩) | (go_at_call 12; refine (Hw.out _).mono ?_; rintro e w' ⟨rfl, rfl⟩) | (go_at_call 13; refine (Ht.out _ hT).mono ?_; rintro e w' ⟨rfl, rfl⟩))
      refine bodyPost_ret (results_tmp4 rfl _ _ _) rfl ?_
      have hfin := HS.out
      rw [show ((M / 2 ^ k : Nat) : Int) = (M : Int) / 2 ^ k from by simp] at hfin
      exact ⟨hfin, rfl⟩
  · have HS : Hid (SplitsAs b (.returned (.tuple #[.int .u64 0, .int .i64 0, .bool false, .bool false]))) := by
      have := fnan_yes h
      show SplitsAs _ _; unfold SplitsAs; rw [if_pos (by omega)]
    have hf := fclass_nan h
    clear h
    go_enter Tryd.func6, Tryd.ntmps6
    go_wp2_with (go_at_call 11; refine (c_Class b hb _).mono ?_; rintro e w' ⟨rfl, rfl⟩)
    refine bodyPost_ret (results_tmp4 rfl _ _ _) rfl ?_
    exact ⟨HS.out, rfl⟩
theorem c_rSplit (b : Nat) (hb : b < 18446744073709551616) (w : World) : Calls Tryd.prog 7 #[.float .f64 b] w fun e w' => SplitsAs b e ∧ w = w' := by
  have hs := sgn_ne' b hb
  obtain ⟨m, hm⟩ : ∃ m, m = b % 9223372036854775808 := ⟨_, rfl⟩
  have hmb : m < 9223372036854775808 := by omega
  have hbits := c_rbits b hb
  rw [← hm] at hbits
  have hs' : ((b : Int) != (m : Int)) = !decide (b < 9223372036854775808) := by rw [← hs, hm]; simp
  clear hs
  have Hb := Lib.hid hbits
  clear hbits
  by_cases h1 : 9218868437227405312 ≤ m
  · have HS : Hid (SplitsAs b (.returned (.tuple #[.int .u64 0, .int .i64 0, .bool false, .bool false]))) := by
      show SplitsAs _ _; unfold SplitsAs; rw [if_pos (by omega)]
    have ht : decide ((9218868437227405312 : Int) ≤ (m : Int)) = true := decide_eq_true (by omega)
    clear h1 hm
    go_enter Tryd.func7, Tryd.ntmps7
    go_wp2_with (go_at_call 14; refine (Hb.out _).mono ?_; rintro e w' ⟨rfl, rfl⟩)
    refine bodyPost_ret (results_tmp4 rfl _ _ _) rfl ?_
    exact ⟨HS.out, rfl⟩
  · have ht : decide ((9218868437227405312 : Int) ≤ (m : Int)) = false := decide_eq_false (by omega)
    by_cases h2 : m = 0
    · have HS : Hid (SplitsAs b (.returned (.tuple #[.int .u64 0, .int .i64 0, .bool (!decide (b < 9223372036854775808)), .bool true]))) := by
        show SplitsAs _ _; unfold SplitsAs; rw [if_neg (by omega), if_pos (by omega)]
      have ht2 : ((m : Int) == 0) = true := by simp; omega
      clear h1 h2 hm
      go_enter Tryd.func7, Tryd.ntmps7
      go_wp2_with (go_at_call 14; refine (Hb.out _).mono ?_; rintro e w' ⟨rfl, rfl⟩)
      refine bodyPost_ret (results_tmp4 rfl _ _ _) rfl ?_
      exact ⟨HS.out, rfl⟩
    · have ht2 : ((m : Int) == 0) = false := by simp; omega
      have HS : Hid (SplitsAs b (.returned (.tuple #[.int .u64 ((mman m / 2 ^ Lib.ctz 64 (mman m) : Nat) : Int), .int .i64 (mexp m + (Lib.ctz 64 (mman m) : Nat)), .bool (!decide (b < 9223372036854775808)), .bool true]))) := by
        show SplitsAs _ _; unfold SplitsAs; rw [← hm, if_neg (by omega), if_neg h2]
      have hw := c_parts m hmb
      have hp := mman_pos h2
      have hl := mman_lt hmb
      have he := mexp_bd hmb
      clear h1 h2 hm
      generalize mman m = M at *
      generalize mexp m = E at *
      obtain ⟨t, hMt, hk⟩ : ∃ t, M = 2 ^ Lib.ctz 64 M * (2 * t + 1) ∧ Lib.ctz 64 M < 64 := by
        unfold Lib.ctz
        rw [if_neg hp]
        exact Lib.ctzFrom_spec 64 M (by omega) (by omega)
      generalize Lib.ctz 64 M = k at *
      have Hw := Lib.hid hw
      have HM := Lib.hid hMt
      clear hw hMt hp
      go_enter Tryd.func7, Tryd.ntmps7
      go_wp2_with (first | (go_at_call 14; refine (Hb.out _).mono ?_; rintro e w' ⟨rfl, rfl⟩) | (go_at_call 15; refine (Hw.out _).mono ?_; rintro e w' ⟨rfl, rfl⟩))
      go_loop [8, 9] (fun v e => ∃ j V : Nat, j ≤ k ∧ V < 9007199254740992 ∧ Hid (V = 2 ^ (k - j) * (2 * t + 1)) ∧ v = .int .u64 V ∧ e = .int .i64 (E + j)) (fun _ e => k - (intOf e - E).toNat)
      case atStart => exact ⟨0, M, by omega, hl, HM, rfl, by simp⟩
      case round =>
        obtain ⟨j, V, hj, hV, HV, rfl, rfl⟩ := hrel
        by_cases hlt : j < k
        · obtain ⟨U, hU, HU⟩ : ∃ U, V = 2 * U ∧ Hid (U = 2 ^ (k - (j + 1)) * (2 * t + 1)) := by
            refine ⟨2 ^ (k - (j + 1)) * (2 * t + 1), ?_, rfl⟩
            rw [HV.out, show k - j = k - (j + 1) + 1 from by omega, Nat.pow_succ, Nat.mul_comm (2 ^ _) 2, Nat.mul_assoc]
          have h0 : ((V : Int) % 2 == 0) = true := by simp; omega
          have HUV := Lib.hid hU
          clear hU HV
          go_wp2
          go_round
          case rel => exact ⟨j + 1, V / 2, by omega, by omega, by show V / 2 = _; rw [← HU.out, HUV.out]; omega, by go_num, by go_num⟩
          case measure => simp [intOf]; omega
        · have h0 : ((V : Int) % 2 == 0) = false := by
            have : V = 2 * t + 1 := by rw [HV.out, show k - j = 0 from by omega]; omega
            simp; omega
          have hV2 : Hid (V = M / 2 ^ k) := by
            show V = M / 2 ^ k
            rw [HV.out, HM.out, show k - j = 0 from by omega, Nat.mul_div_cancel_left _ (Nat.two_pow_pos _)]
            omega
          obtain rfl : j = k := by omega
          go_wp2
          refine bodyPost_ret (results_tmp4 rfl _ _ _) rfl ?_
          have hfin := HS.out
          rw [← hV2.out] at hfin
          exact ⟨hfin, rfl⟩
theorem l_Splits (b : Nat) (hb : b < 18446744073709551616) (w : World) (hT : Tab64 1 w) : Calls Tryd.prog 3 #[.int .u64 (b : Int)] w fun e w' => e = .returned (.bool true) ∧ w = w' := by
  have k1 := call_frombits b
  have h1 := c_Split b hb w hT
  have h2 := c_rSplit b hb w
  have key : ∀ x y z u, SplitsAs b (.returned (.tuple #[.int .u64 x, .int .i64 y, .bool z, .bool u])) → ∀ v, SplitsAs b (.returned v) → v = .tuple #[.int .u64 x, .int .i64 y, .bool z, .bool u] := by
    intro x y z u h v hv
    unfold SplitsAs at h hv
    injection h with h
    injection hv with hv
    rw [h, hv]
  have shape : ∀ e, SplitsAs b e → ∃ x y z u, e = .returned (.tuple #[.int .u64 x, .int .i64 y, .bool z, .bool u]) := by
    intro e h
    unfold SplitsAs at h
    split at h
    · exact ⟨_, _, _, _, h⟩
    · split at h
      · exact ⟨_, _, _, _, h⟩
      · exact ⟨_, _, _, _, h⟩
  have H1 := Lib.hid h1
  have H2 := Lib.hid h2
  have HK := Lib.hid key
  have HP := Lib.hid shape
  clear h1 h2 key shape
  go_enter Tryd.func3, Tryd.ntmps3
  go_wp2_with fail
  refine H1.out.mono ?_
  rintro e w' ⟨hS, rfl⟩
  obtain ⟨x, y, z, u, rfl⟩ := HP.out _ hS
  have HS := Lib.hid hS
  clear hS
  go_wp2_with fail
  refine H2.out.mono ?_
  rintro e w' ⟨hS2, rfl⟩
  obtain ⟨x2, y2, z2, u2, rfl⟩ := HP.out _ hS2
  have := HK.out _ _ _ _ HS.out _ hS2
  injection this with this
  simp only [Array.mk.injEq, List.cons.injEq, Value.int.injEq, Value.bool.injEq, true_and, and_true] at this
  obtain ⟨rfl, rfl, rfl, rfl⟩ := this
  clear hS2
  go_wp2
  go_ret
  exact ⟨by simp, rfl⟩
end Go.Proofs.YtpgdiiplnnaegaaDoor
