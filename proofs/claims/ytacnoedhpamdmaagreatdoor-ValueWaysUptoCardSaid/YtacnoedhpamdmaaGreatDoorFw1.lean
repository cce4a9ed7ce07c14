/- Walks: what the small functions on one float return (float and quernref22: One, Of, Is, bits, Order, Key, Compare, Class, Same, form). Conditions: none. -/
import Derived.Test.YtacnoedhpamdmaaGreatDoorRows
import Derived.Test.YtacnoedhpamdmaaGreatDoorPlain
import Derived.WalkKit
import Derived.WalkSpells
import Derived.WalkLawsBesides
import Derived.Lib.Hide
namespace Go.Proofs.YtacnoedhpamdmaaGreatDoor
open Go.RowKit

theorem call_bits (b : Nat) (w : World) : (callFunc 73 #[.float .f64 b]).run Tryz.prog w = .ok (.value (.int .u64 (b : Int))) w := by kernel_rfl
theorem call_frombits (b : Nat) (w : World) : (callFunc 93 #[.int .u64 (b : Int)]).run Tryz.prog w = .ok (.value (.float .f64 b)) w := by kernel_rfl
theorem call_frombits_nan (w : World) : (callFunc 93 #[.int .u64 9221120237041090560]).run Tryz.prog w = .ok (.value (.float .f64 9221120237041090560)) w := by kernel_rfl

theorem fone_yes {b : Nat} (h : fnan b = true) : fone b = 9221120237041090560 := by unfold fone; rw [if_pos h]
theorem fone_no {b : Nat} (h : fnan b = false) : fone b = b := by unfold fone; rw [if_neg (by rw [h]; decide)]

theorem c_One (b : Nat) (w : World) : Calls Tryz.prog 74 #[.float .f64 b] w fun e w' => e = .returned (.int .u64 (fone b)) ∧ w = w' := by
  have hq := order_neq b
  have hc := call_bits b
  rcases h : fnan b with _ | _
  · have Hf := Lib.hid (fone_no h)
    rw [h] at hq
    go_enter Tryz.func74, Tryz.ntmps74
    go_wp2
    go_ret
    exact ⟨by rw [Hf.out]; rfl, rfl⟩
  · have Hf := Lib.hid (fone_yes h)
    rw [h] at hq
    go_enter Tryz.func74, Tryz.ntmps74
    go_wp2
    go_ret
    exact ⟨by rw [Hf.out]; rfl, rfl⟩
theorem c_One_yes {b : Nat} (h : fnan b = true) (w : World) : Calls Tryz.prog 74 #[.float .f64 b] w fun e w' => e = .returned (.int .u64 9221120237041090560) ∧ w = w' :=
  (c_One b w).mono fun _ _ x => by rw [fone_yes h] at x; exact x
theorem c_One_no {b : Nat} (h : fnan b = false) (w : World) : Calls Tryz.prog 74 #[.float .f64 b] w fun e w' => e = .returned (.int .u64 b) ∧ w = w' :=
  (c_One b w).mono fun _ _ x => by rw [fone_no h] at x; exact x

theorem c_Is (b : Nat) (w : World) : Calls Tryz.prog 72 #[.float .f64 b] w fun e w' => e = .returned (.bool (fnan b)) ∧ w = w' := by
  have hq := order_neq b
  go_enter Tryz.func72, Tryz.ntmps72
  go_wp2
  go_ret
  exact ⟨rfl, rfl⟩
theorem c_Is_yes {b : Nat} (h : fnan b = true) (w : World) : Calls Tryz.prog 72 #[.float .f64 b] w fun e w' => e = .returned (.bool true) ∧ w = w' :=
  (c_Is b w).mono fun _ _ x => by rw [h] at x; exact x
theorem c_Is_no {b : Nat} (h : fnan b = false) (w : World) : Calls Tryz.prog 72 #[.float .f64 b] w fun e w' => e = .returned (.bool false) ∧ w = w' :=
  (c_Is b w).mono fun _ _ x => by rw [h] at x; exact x

theorem c_rbits (b : Nat) (hb : b < 18446744073709551616) (w : World) : Calls Tryz.prog 110 #[.float .f64 b] w fun e w' => e = .returned (.tuple #[.int .u64 b, .int .u64 ((b % 9223372036854775808 : Nat) : Int)]) ∧ w = w' := by
  have hq := andNot_sign b hb
  have hc := call_bits b
  go_enter Tryz.func110, Tryz.ntmps110
  go_wp2
  go_ret2
  exact ⟨rfl, rfl⟩

theorem c_rOne (b : Nat) (w : World) : Calls Tryz.prog 42 #[.float .f64 b] w fun e w' => e = .returned (.int .u64 (fone b)) ∧ w = w' := by
  have hc := call_bits b
  rcases h : fnan b with _ | _
  · have Hf := Lib.hid (fone_no h)
    go_enter Tryz.func42, Tryz.ntmps42
    go_wp2_with (go_at_call 72; refine (c_Is_no h _).mono ?_; rintro e w' ⟨rfl, rfl⟩)
    go_ret
    exact ⟨by rw [Hf.out]; rfl, rfl⟩
  · have Hf := Lib.hid (fone_yes h)
    go_enter Tryz.func42, Tryz.ntmps42
    go_wp2_with (go_at_call 72; refine (c_Is_yes h _).mono ?_; rintro e w' ⟨rfl, rfl⟩)
    go_ret
    exact ⟨by rw [Hf.out]; rfl, rfl⟩

theorem c_Order (b : Nat) (hb : b < 18446744073709551616) (w : World) : Calls Tryz.prog 114 #[.float .f64 b] w fun e w' => e = .returned (.int .u64 (fkey b)) ∧ w = w' := by
  rcases h : fnan b with _ | _
  · have hn := fnan_no h
    have hne : ((b : Int) == 9221120237041090560) = false := by simp; omega
    by_cases hs : b < 9223372036854775808
    · have Hf : Hid (fkey b = 9218868437227405313 + b) := by unfold fkey; rw [h, if_neg (by decide), if_pos hs]; trivial
      have ha := and_sign b hb
      rw [if_pos hs] at ha
      go_enter Tryz.func114, Tryz.ntmps114
      go_wp2_with (go_at_call 74; refine (c_One_no h _).mono ?_; rintro e w' ⟨rfl, rfl⟩)
      go_ret
      exact ⟨by rw [Hf.out]; rfl, rfl⟩
    · have Hf : Hid (fkey b = 18442240474082181120 - b) := by unfold fkey; rw [h, if_neg (by decide), if_neg hs]; trivial
      have ha := and_sign b hb
      rw [if_neg hs] at ha
      have h2 : (b : Int) ≤ 18442240474082181120 := by omega
      go_enter Tryz.func114, Tryz.ntmps114
      go_wp2_with (go_at_call 74; refine (c_One_no h _).mono ?_; rintro e w' ⟨rfl, rfl⟩)
      go_ret
      exact ⟨by rw [Hf.out]; go_num, rfl⟩
  · have Hf : Hid (fkey b = 18437736874454810626) := by unfold fkey; rw [h, if_pos rfl]; trivial
    go_enter Tryz.func114, Tryz.ntmps114
    go_wp2_with (go_at_call 74; refine (c_One_yes h _).mono ?_; rintro e w' ⟨rfl, rfl⟩)
    go_ret
    exact ⟨by rw [Hf.out]; rfl, rfl⟩

theorem c_Key (b : Nat) (hb : b < 18446744073709551616) (w : World) : Calls Tryz.prog 116 #[.float .f64 b] w fun e w' => e = .returned (.int .u64 (fkey b)) ∧ w = w' := by
  rcases h : fnan b with _ | _
  · have hn := fnan_no h
    by_cases hs : b < 9223372036854775808
    · have Hf : Hid (fkey b = 9218868437227405313 + b) := by unfold fkey; rw [h, if_neg (by decide), if_pos hs]; trivial
      have hne : ((b : Int) != ((b % 9223372036854775808 : Nat) : Int)) = false := by simp; omega
      have hm : ((b % 9223372036854775808 : Nat) : Int) ≤ 9218868437227405312 := by omega
      have hm2 : Hid (b % 9223372036854775808 = b) := by show b % 9223372036854775808 = b; omega
      go_enter Tryz.func116, Tryz.ntmps116
      go_wp2_with (first | (go_at_call 72; refine (c_Is_no h _).mono ?_; rintro e w' ⟨rfl, rfl⟩) | (go_at_call 110; refine (c_rbits b hb _).mono ?_; rintro e w' ⟨rfl, rfl⟩))
      go_ret
      exact ⟨by rw [Hf.out]; go_num, rfl⟩
    · have Hf : Hid (fkey b = 18442240474082181120 - b) := by unfold fkey; rw [h, if_neg (by decide), if_neg hs]; trivial
      have hne : ((b : Int) != ((b % 9223372036854775808 : Nat) : Int)) = true := by simp; omega
      have hm : ((b % 9223372036854775808 : Nat) : Int) ≤ 9218868437227405312 := by omega
      go_enter Tryz.func116, Tryz.ntmps116
      go_wp2_with (first | (go_at_call 72; refine (c_Is_no h _).mono ?_; rintro e w' ⟨rfl, rfl⟩) | (go_at_call 110; refine (c_rbits b hb _).mono ?_; rintro e w' ⟨rfl, rfl⟩))
      go_ret
      exact ⟨by rw [Hf.out]; go_num, rfl⟩
  · have Hf : Hid (fkey b = 18437736874454810626) := by unfold fkey; rw [h, if_pos rfl]; trivial
    go_enter Tryz.func116, Tryz.ntmps116
    go_wp2_with (first | (go_at_call 72; refine (c_Is_yes h _).mono ?_; rintro e w' ⟨rfl, rfl⟩) | (go_at_call 110; refine (c_rbits b hb _).mono ?_; rintro e w' ⟨rfl, rfl⟩))
    go_ret
    exact ⟨by rw [Hf.out]; rfl, rfl⟩

theorem c_Compare (a b : Nat) (ha : a < 18446744073709551616) (hb : b < 18446744073709551616) (w : World) : Calls Tryz.prog 87 #[.float .f64 a, .float .f64 b] w fun e w' => e = .returned (.int .i64 (fcmp a b)) ∧ w = w' := by
  have Hf : Hid (fcmp a b = if fkey a < fkey b then -1 else if fkey b < fkey a then 1 else 0) := rfl
  by_cases h1 : fkey a < fkey b
  · go_enter Tryz.func87, Tryz.ntmps87
    go_wp2_with fail
    refine (c_Order a ha _).mono ?_; rintro e w' ⟨rfl, rfl⟩
    go_wp2_with fail
    refine (c_Order b hb _).mono ?_; rintro e w' ⟨rfl, rfl⟩
    go_wp2
    go_ret
    exact ⟨by rw [Hf.out, if_pos h1]; rfl, rfl⟩
  · by_cases h2 : fkey b < fkey a
    · go_enter Tryz.func87, Tryz.ntmps87
      go_wp2_with fail
      refine (c_Order a ha _).mono ?_; rintro e w' ⟨rfl, rfl⟩
      go_wp2_with fail
      refine (c_Order b hb _).mono ?_; rintro e w' ⟨rfl, rfl⟩
      go_wp2
      go_ret
      exact ⟨by rw [Hf.out, if_neg (by omega), if_pos (by omega)]; rfl, rfl⟩
    · go_enter Tryz.func87, Tryz.ntmps87
      go_wp2_with fail
      refine (c_Order a ha _).mono ?_; rintro e w' ⟨rfl, rfl⟩
      go_wp2_with fail
      refine (c_Order b hb _).mono ?_; rintro e w' ⟨rfl, rfl⟩
      go_wp2
      go_ret
      exact ⟨by rw [Hf.out, if_neg (by omega), if_neg (by omega)]; rfl, rfl⟩

theorem c_rOrder (a b : Nat) (ha : a < 18446744073709551616) (hb : b < 18446744073709551616) (w : World) : Calls Tryz.prog 90 #[.float .f64 a, .float .f64 b] w fun e w' => e = .returned (.int .i64 (fcmp a b)) ∧ w = w' := by
  have Hf : Hid (fcmp a b = if fkey a < fkey b then -1 else if fkey b < fkey a then 1 else 0) := rfl
  by_cases h1 : fkey a < fkey b
  · go_enter Tryz.func90, Tryz.ntmps90
    go_wp2_with fail
    refine (c_Key a ha _).mono ?_; rintro e w' ⟨rfl, rfl⟩
    go_wp2_with fail
    refine (c_Key b hb _).mono ?_; rintro e w' ⟨rfl, rfl⟩
    go_wp2
    go_ret
    exact ⟨by rw [Hf.out, if_pos h1]; rfl, rfl⟩
  · by_cases h2 : fkey b < fkey a
    · go_enter Tryz.func90, Tryz.ntmps90
      go_wp2_with fail
      refine (c_Key a ha _).mono ?_; rintro e w' ⟨rfl, rfl⟩
      go_wp2_with fail
      refine (c_Key b hb _).mono ?_; rintro e w' ⟨rfl, rfl⟩
      go_wp2
      go_ret
      exact ⟨by rw [Hf.out, if_neg (by omega), if_pos (by omega)]; rfl, rfl⟩
    · go_enter Tryz.func90, Tryz.ntmps90
      go_wp2_with fail
      refine (c_Key a ha _).mono ?_; rintro e w' ⟨rfl, rfl⟩
      go_wp2_with fail
      refine (c_Key b hb _).mono ?_; rintro e w' ⟨rfl, rfl⟩
      go_wp2
      go_ret
      exact ⟨by rw [Hf.out, if_neg (by omega), if_neg (by omega)]; rfl, rfl⟩

end Go.Proofs.YtacnoedhpamdmaaGreatDoor
