/- Walks: a finite magnitude taken apart (float.whole, quernref22.parts), trailing noughts, Split. Conditions: as stated. -/
import Derived.Test.YtcohidjaehdbnaaGreatDoorFw2
import Derived.Lib.TrailingZeros
namespace Go.Proofs.YtcohidjaehdbnaaGreatDoor
open Go.RowKit

/-- A magnitude's whole number. -/
def mman (m : Nat) : Nat := if m < 4503599627370496 then m else m % 4503599627370496 + 4503599627370496
/-- A magnitude's exponent. -/
def mexp (m : Nat) : Int := if m < 4503599627370496 then -1074 else (m / 4503599627370496 : Nat) - 1075
theorem or_top (M : Nat) (h : M < 4503599627370496) : bits .or .u64 (M : Int) 4503599627370496 = ((M + 4503599627370496 : Nat) : Int) := by
  have := u64_or_nat M 4503599627370496 (by omega) (by decide)
  rw [show ((4503599627370496 : Nat) : Int) = 4503599627370496 from rfl] at this
  rw [this, Nat.or_comm, nat_join 52 4503599627370496 M (by decide) (by omega), Nat.add_comm]
theorem and_low (x : Nat) (h : x < 18446744073709551616) : bits .and .u64 (x : Int) 4503599627370495 = ((x % 4503599627370496 : Nat) : Int) := by
  have := u64_and_nat x 4503599627370495 h (by decide)
  rw [show ((4503599627370495 : Nat) : Int) = 4503599627370495 from rfl] at this
  rw [this, show (4503599627370495 : Nat) = 2 ^ 52 - 1 from by decide, Nat.and_two_pow_sub_one_eq_mod]
theorem and_2047 (x : Nat) (h : x < 18446744073709551616) : bits .and .u64 (x : Int) 2047 = ((x % 2048 : Nat) : Int) := by
  have := u64_and_nat x 2047 h (by decide)
  rw [show ((2047 : Nat) : Int) = 2047 from rfl] at this
  rw [this, show (2047 : Nat) = 2 ^ 11 - 1 from by decide, Nat.and_two_pow_sub_one_eq_mod]
theorem mman_lt {m : Nat} (h : m < 9223372036854775808) : mman m < 9007199254740992 := by unfold mman; split <;> omega
theorem mexp_bd {m : Nat} (h : m < 9223372036854775808) : -1074 ≤ mexp m ∧ mexp m ≤ 1000 := by unfold mexp; split <;> omega
theorem ret2 {k l : IntKind} {a b c d : Int} (h : a = b) (h2 : c = d) : Ending.returned (.tuple #[.int k a, .int l c]) = .returned (.tuple #[.int k b, .int l d]) := by rw [h, h2]
theorem c_whole (b : Nat) (hb : b < 18446744073709551616) (w : World) : Calls Tryz.prog 19 #[.float .f64 b] w fun e w' => e = .returned (.tuple #[.int .u64 (mman (b % 9223372036854775808)), .int .i64 (mexp (b % 9223372036854775808))]) ∧ w = w' := by
  have hc := call_bits b
  have hq := andNot_sign b hb
  obtain ⟨m, hm⟩ : ∃ m, m = b % 9223372036854775808 := ⟨_, rfl⟩
  have hmb : m < 9223372036854775808 := by omega
  rw [← hm] at hq ⊢
  clear hm
  have ha := and_low m (by omega)
  by_cases hs : m < 4503599627370496
  · have H1 : Hid (mman m = m) := if_pos hs
    have H2 : Hid (mexp m = -1074) := if_pos hs
    have ht : ((m : Int) / 4503599627370496 == 0) = true := by simp; omega
    have Hs := Lib.hid hs
    clear hs
    go_enter Tryz.func19, Tryz.ntmps19
    go_wp2
    go_ret2
    exact ⟨by rw [H1.out, H2.out]; exact ret2 (by have := Hs.out; omega) rfl, rfl⟩
  · have H1 : Hid (mman m = m % 4503599627370496 + 4503599627370496) := if_neg hs
    have H2 : Hid (mexp m = (m / 4503599627370496 : Nat) - 1075) := if_neg hs
    have ht : ((m : Int) / 4503599627370496 == 0) = false := by simp; omega
    have ho : bits .or .u64 ((m : Int) % 4503599627370496) 4503599627370496 = (m : Int) % 4503599627370496 + 4503599627370496 := by
      have := or_top (m % 4503599627370496) (by omega)
      simpa using this
    clear hs
    go_enter Tryz.func19, Tryz.ntmps19
    go_wp2
    go_ret2
    exact ⟨by rw [H1.out, H2.out]; exact ret2 (by simp) (by simp), rfl⟩
/-- The de Bruijn table in its variable. -/
def Tab64 (g : Nat) (w : World) : Prop := ∀ j, j < 64 → w.cell? ⟨g, j, none⟩ = some (.int .u8 ((Lib.deBruijn64tab.getD j 0 : Nat) : Int))
theorem tz_core (x k idx : Nat) (w : World) (hx0 : ((x : Int) == 0) = false)
    (key : IntKind.u64.wrap (bits BinOp.and IntKind.u64 (x : Int) (IntKind.u64.wrap (-(x : Int))) * 285870213051353865) / 288230376151711744 = (idx : Int))
    (hi : idx < 64) (hk : k < 64) (hcell : w.cell? ⟨13, idx, none⟩ = some (.int .u8 k)) :
    Calls Tryz.prog 142 #[.int .u64 x] w fun e w' => e = .returned (.int .i64 k) ∧ w = w' := by
  go_enter Tryz.func142, Tryz.ntmps142
  go_wp2_with (simp only [key])
  go_ret
  exact ⟨rfl, rfl⟩
theorem tz_key (x a : Nat) (hx : x < 18446744073709551616) (hx0 : x ≠ 0) (hlow : x &&& (18446744073709551616 - x) = a) :
    IntKind.u64.wrap (bits BinOp.and IntKind.u64 (x : Int) (IntKind.u64.wrap (-(x : Int))) * 285870213051353865) / 288230376151711744 = ((a * 285870213051353865 % 18446744073709551616 / 288230376151711744 : Nat) : Int) := by
  have e1 : IntKind.u64.wrap (-(x : Int)) = ((18446744073709551616 - x : Nat) : Int) := by rw [IntKind.wrap_u64]; omega
  rw [e1, u64_and_nat x _ hx (by omega), hlow, IntKind.wrap_u64]
  omega
theorem c_tz (x : Nat) (hx : x < 18446744073709551616) (hx0 : x ≠ 0) (w : World) (hT : Tab64 13 w) :
    Calls Tryz.prog 142 #[.int .u64 x] w fun e w' => e = .returned (.int .i64 (Lib.ctz 64 x)) ∧ w = w' := by
  obtain ⟨hlow, hk⟩ := Lib.lowest_bit 64 x hx0 hx
  obtain ⟨hi, htab⟩ := Lib.deBruijn64_at _ hk
  have hcell := hT _ hi
  rw [htab] at hcell
  exact tz_core x _ _ w (by simp; omega) (tz_key x _ hx hx0 hlow) hi hk hcell
theorem mman_pos {m : Nat} (h : m ≠ 0) : mman m ≠ 0 := by unfold mman; split <;> omega
theorem ret4 {k l : IntKind} {a b c d : Int} {x y u v : Bool} (h : a = b) (h2 : c = d) (h3 : x = y) (h4 : u = v) : Ending.returned (.tuple #[.int k a, .int l c, .bool x, .bool u]) = .returned (.tuple #[.int k b, .int l d, .bool y, .bool v]) := by rw [h, h2, h3, h4]
theorem results_tmp4 {fn : Func} {t u v x : Tmp} (h : fn.results = #[.tmp t, .tmp u, .tmp v, .tmp x]) (tmps : Array Value) (P : Program) (w : World) :
    (results fn tmps).run P w = .ok (.tuple #[tmps.getD t undef, tmps.getD u undef, tmps.getD v undef, tmps.getD x undef]) w := by simp [results, h]
/-- What Split says: the odd number and its exponent. -/
def SplitsAs (b : Nat) (e : Ending) : Prop :=
  e = .returned (if 9218868437227405312 ≤ b % 9223372036854775808 then .tuple #[.int .u64 0, .int .i64 0, .bool false, .bool false]
    else if b % 9223372036854775808 = 0 then .tuple #[.int .u64 0, .int .i64 0, .bool (!decide (b < 9223372036854775808)), .bool true]
    else .tuple #[.int .u64 ((mman (b % 9223372036854775808) / 2 ^ Lib.ctz 64 (mman (b % 9223372036854775808)) : Nat) : Int), .int .i64 (mexp (b % 9223372036854775808) + (Lib.ctz 64 (mman (b % 9223372036854775808)) : Nat)), .bool (!decide (b < 9223372036854775808)), .bool true])
end Go.Proofs.YtcohidjaehdbnaaGreatDoor
