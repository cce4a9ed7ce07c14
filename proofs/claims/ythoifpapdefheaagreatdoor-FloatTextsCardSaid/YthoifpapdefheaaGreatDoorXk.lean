/- Walk: the scaled product of a float's print at any input (strconv: uscale). Conditions: the three cells of the scale. -/
import Derived.Test.YthoifpapdefheaaGreatDoorXg
import Derived.Deep.DrawnRows
import Derived.Deep.RegionLaw
namespace Go.Proofs.YthoifpapdefheaaGreatDoor
open Go.RowKit
set_option linter.unusedVariables false

theorem and63 (s : Nat) (h : s ≤ 63) : bits BinOp.and .i64 (s : Int) 63 = (s : Int) := by
  have key : ∀ t : Fin 64, bits BinOp.and .i64 ((t.val : Nat) : Int) 63 = ((t.val : Nat) : Int) := by decide +kernel
  exact key ⟨s, by omega⟩
/-- A product's two words. -/
def MulR (x H hi mid : Nat) : Prop := ∀ W : World, Calls Tryz.prog 57 #[.int .u64 (x : Int), .int .u64 (H : Int)] W fun e w' => e = .returned (.tuple #[.int .u64 (hi : Int), .int .u64 (mid : Int)]) ∧ W = w'
theorem mulR (x H : Nat) (hx : x < 18446744073709551616) (hH : H < 18446744073709551616) : MulR x H (x * H / 18446744073709551616) (x * H % 18446744073709551616) := fun W =>
  (Any.bits_Mul64 lays264 x H hx hH W).mono fun _ _ h => ⟨h.1, h.2.symm⟩
set_option maxRecDepth 100000 in
set_option maxHeartbeats 1000000 in
theorem c_usA (x H s g hi mid q t : Nat) (HM : Hid (MulR x H hi mid)) (w : World)
    (h0 : w.cell? ⟨g, 0, none⟩ = some (.int .u64 (H : Int))) (h2 : w.cell? ⟨g, 2, none⟩ = some (.int .i64 (s : Int)))
    (hb1 : bits BinOp.and .i64 (s : Int) 63 = (s : Int)) (hs2 : (s : Int) ≤ 64) (hs3 : (0 : Int) ≤ (s : Int)) (hq : (hi : Int) / 2 ^ s = (q : Int)) (hm : IntKind.u64.wrap ((q : Int) * 2 ^ s) = (t : Int))
    (t1 : ((t : Int) != (hi : Int)) = true) (r : Nat) (ho : bits BinOp.or .u64 (q : Int) 1 = (r : Int)) :
    Calls Tryz.prog 98 #[.int .u64 (x : Int), .pointer (some ⟨g, 0, none⟩)] w fun e w' => e = .returned (.int .u64 (r : Int)) ∧ w = w' := by
  go_enter Tryz.func98, Tryz.ntmps98
  go_wp2_with fail
  refine (HM.out _).mono ?_; rintro e w1 ⟨rfl, rfl⟩
  go_wp2_with fail
  go_ret
  exact ⟨rfl, rfl⟩
set_option maxRecDepth 100000 in
set_option maxHeartbeats 1000000 in
theorem c_usB (x H L s g hi mid m2 lo2 q t : Nat) (HM : Hid (MulR x H hi mid)) (HM2 : Hid (MulR x L m2 lo2)) (w : World)
    (h0 : w.cell? ⟨g, 0, none⟩ = some (.int .u64 (H : Int))) (h1 : w.cell? ⟨g, 1, none⟩ = some (.int .u64 (L : Int))) (h2 : w.cell? ⟨g, 2, none⟩ = some (.int .i64 (s : Int)))
    (hb1 : bits BinOp.and .i64 (s : Int) 63 = (s : Int)) (hs2 : (s : Int) ≤ 64) (hs3 : (0 : Int) ≤ (s : Int)) (hq : (hi : Int) / 2 ^ s = (q : Int)) (hm : IntKind.u64.wrap ((q : Int) * 2 ^ s) = (t : Int))
    (t1 : ((t : Int) != (hi : Int)) = false) (b1 : Bool) (hB1 : decide (mid < m2) = b1) (c1 hi2 q2 df c2 r : Nat) (hc1 : (if b1 then (1 : Int) else 0) = (c1 : Int)) (hw1 : IntKind.u64.wrap ((hi : Int) - (c1 : Int)) = (hi2 : Int))
    (hq2 : (hi2 : Int) / 2 ^ s = (q2 : Int)) (hwd : IntKind.u64.wrap ((mid : Int) - (m2 : Int)) = (df : Int)) (hc2 : (if decide ((1 : Int) < (df : Int)) then (1 : Int) else 0) = (c2 : Int)) (ho : bits BinOp.or .u64 (q2 : Int) (c2 : Int) = (r : Int)) :
    Calls Tryz.prog 98 #[.int .u64 (x : Int), .pointer (some ⟨g, 0, none⟩)] w fun e w' => e = .returned (.int .u64 (r : Int)) ∧ ∃ k, w' = w.drewN k := by
  have HB1 : Hid (∀ W : World, Calls Tryz.prog 117 #[.bool b1] W fun e w' => e = .returned (.int .u64 (c1 : Int)) ∧ W = w') := fun W => (c_bool2 b1 W).mono fun _ _ h => ⟨by rw [h.1, hc1], h.2⟩
  have HB2 : Hid (∀ W : World, Calls Tryz.prog 117 #[.bool (decide ((1 : Int) < (df : Int)))] W fun e w' => e = .returned (.int .u64 (c2 : Int)) ∧ W = w') := fun W => (c_bool2 (decide ((1 : Int) < (df : Int))) W).mono fun _ _ h => ⟨by rw [h.1, hc2], h.2⟩
  clear hc1 hc2
  go_enter Tryz.func98, Tryz.ntmps98
  go_wp2_with fail
  refine (HM.out _).mono ?_; rintro e w1 ⟨rfl, rfl⟩
  go_wp2_with fail
  refine (HM2.out _).mono ?_; rintro e w1 ⟨rfl, rfl⟩
  go_wp2_with fail
  refine (HB1.out _).mono ?_; rintro e w1 ⟨rfl, rfl⟩
  go_wp2_with fail
  go_region_with (first
    | (go_at_call 117; (with_reducible refine (HB2.out _).mono ?_); rintro e w3 ⟨rfl, rfl⟩))
  all_goals
    go_wp2_with fail
    go_ret
    exact ⟨rfl, 1, rfl⟩
theorem div_pow_cast (a s : Nat) : (a : Int) / 2 ^ s = ((a / 2 ^ s : Nat) : Int) := by
  rw [Int.natCast_ediv, Int.natCast_pow]; rfl
theorem no_borrow {x H L : Nat} (hx : x < 18446744073709551616) (hH0 : 0 < H) (hL : L < 18446744073709551616) (h0 : x * H / 18446744073709551616 = 0) : ¬ x * H % 18446744073709551616 < x * L / 18446744073709551616 := by
  have h1 : x * H < 18446744073709551616 := (Nat.div_eq_zero_iff_lt (by decide)).1 h0
  rw [Nat.mod_eq_of_lt h1]
  have h2 : x ≤ x * H := Nat.le_mul_of_pos_right _ hH0
  have h3 : x * L / 18446744073709551616 ≤ x := by
    refine Nat.div_le_of_le_mul ?_
    rw [Nat.mul_comm]
    exact Nat.mul_le_mul_right _ (by omega)
  omega
theorem c_uscaleI (x H L s g : Nat) (hx : x < 18446744073709551616) (hH : H < 18446744073709551616) (hH0 : 0 < H) (hL : L < 18446744073709551616) (hs : s ≤ 63) (w : World)
    (h0 : w.cell? ⟨g, 0, none⟩ = some (.int .u64 (H : Int))) (h1 : w.cell? ⟨g, 1, none⟩ = some (.int .u64 (L : Int))) (h2 : w.cell? ⟨g, 2, none⟩ = some (.int .i64 (s : Int))) :
    Calls Tryz.prog 98 #[.int .u64 (x : Int), .pointer (some ⟨g, 0, none⟩)] w fun e w' => e = .returned (.int .u64 ((usN x H L (2 ^ s) : Nat) : Int)) ∧ ∃ k, w' = w.drewN k := by
  have HM := Lib.hid (mulR x H hx hH)
  have HM2 := Lib.hid (mulR x L hx hL)
  have hb1 := and63 s hs
  have hnb := no_borrow (x := x) (H := H) (L := L) hx hH0 hL
  have hhi : x * H / 18446744073709551616 < 18446744073709551616 := Nat.div_lt_of_lt_mul (Nat.mul_lt_mul'' hx hH)
  have hmid : x * H % 18446744073709551616 < 18446744073709551616 := Nat.mod_lt _ (by decide)
  have hm2 : x * L / 18446744073709551616 < 18446744073709551616 := Nat.div_lt_of_lt_mul (Nat.mul_lt_mul'' hx hL)
  unfold usN
  generalize x * H / 18446744073709551616 = hi at *
  generalize x * H % 18446744073709551616 = mid at *
  generalize x * L / 18446744073709551616 = m2 at *
  generalize x * L % 18446744073709551616 = lo2 at *
  have hle : hi / 2 ^ s * 2 ^ s ≤ hi := Nat.div_mul_le_self _ _
  have hql : hi / 2 ^ s < 18446744073709551616 := Nat.lt_of_le_of_lt (Nat.div_le_self _ _) hhi
  have hm : IntKind.u64.wrap (((hi / 2 ^ s : Nat) : Int) * 2 ^ s) = ((hi / 2 ^ s * 2 ^ s : Nat) : Int) := by
    rw [show ((hi / 2 ^ s : Nat) : Int) * 2 ^ s = ((hi / 2 ^ s * 2 ^ s : Nat) : Int) from by rw [Int.natCast_mul, Int.natCast_pow]; rfl]
    rw [IntKind.wrap_u64]
    generalize hi / 2 ^ s * 2 ^ s = t at *
    omega
  by_cases hc : hi / 2 ^ s * 2 ^ s ≠ hi
  · rw [if_pos hc]
    refine (c_usA x H s g hi mid (hi / 2 ^ s) (hi / 2 ^ s * 2 ^ s) HM w h0 h2 hb1 (by omega) (by omega) (div_pow_cast hi s) hm (by rw [bne_iff_ne]; exact fun e => hc (Int.ofNat.inj e)) _ (u64_or_nat _ 1 hql (by decide))).mono ?_
    rintro e w' ⟨rfl, rfl⟩
    exact ⟨rfl, 0, rfl⟩
  · rw [if_neg hc]
    have hc' : hi / 2 ^ s * 2 ^ s = hi := Decidable.not_not.1 hc
    refine c_usB x H L s g hi mid m2 lo2 (hi / 2 ^ s) (hi / 2 ^ s * 2 ^ s) HM HM2 w h0 h1 h2 hb1 (by omega) (by omega) (div_pow_cast hi s) hm (by rw [hc']; simp) (decide (mid < m2)) rfl
      (if mid < m2 then 1 else 0) (hi - if mid < m2 then 1 else 0) ((hi - if mid < m2 then 1 else 0) / 2 ^ s) ((mid + 18446744073709551616 - m2) % 18446744073709551616)
      (if 1 < (mid + 18446744073709551616 - m2) % 18446744073709551616 then 1 else 0) _ ?_ ?_ (div_pow_cast _ s) ?_ ?_ ?_
    · by_cases h : mid < m2 <;> simp [h]
    · rw [IntKind.wrap_u64]
      by_cases h : mid < m2
      · simp only [h, if_true]
        have : hi ≠ 0 := fun e => hnb e h
        omega
      · simp only [h, if_false]; omega
    · rw [IntKind.wrap_u64]; omega
    · generalize (mid + 18446744073709551616 - m2) % 18446744073709551616 = df
      by_cases h : 1 < df
      · have : (1 : Int) < (df : Int) := by omega
        simp [h, this]
      · have : ¬ (1 : Int) < (df : Int) := by omega
        simp [h, this]
    · refine u64_or_nat _ _ ?_ ?_
      · exact Nat.lt_of_le_of_lt (Nat.le_trans (Nat.div_le_self _ _) (Nat.sub_le _ _)) hhi
      · split <;> decide
end Go.Proofs.YthoifpapdefheaaGreatDoor
