/- Walk: who stands so far up in a list of floats (float.Part, quernref22.Part), for lists of at most 2^20. Conditions: as stated. -/
import Derived.Test.YtpgdiiplnnaegaaFl
namespace Go.Proofs.Ytpgdiiplnnaegaa
open Go.RowKit
set_option linter.unusedVariables false
attribute [local go_sem ↓] Go.wp_at_zero Go.wp_at_succ
attribute [local go_sem] run_store_float

/-- The arguments that are refused. -/
def PBad (n : Nat) (num den : Int) : Prop := den < 1 ∨ num < 0 ∨ den < num ∨ n = 0 ∨ 1048576 < den
/-- The place that is asked for. -/
def pidx (n : Nat) (num den : Int) : Nat := (Int.tdiv (num * ((n : Int) - 1)) den).toNat
/-- What a Part answers. -/
def PartOf (n : Nat) (xs : List Nat) (num den : Int) (x : Nat) (er : Int) : Prop :=
  (PBad n num den ∧ x = 0 ∧ er = 1) ∨ (¬ PBad n num den ∧ er = 0 ∧ ∃ zs : List Nat, zs.Perm (xs.map fone) ∧ Up fkey zs 0 n ∧ x = zs.getD (pidx n num den) 0)
theorem pidx_facts {n : Nat} {num den : Int} (hn : n ≤ 1048576) (h : ¬ PBad n num den) :
    (0 ≤ num * ((n : Int) - 1) ∧ num * ((n : Int) - 1) ≤ 1099511627776) ∧ Int.tdiv (num * ((n : Int) - 1)) den = (pidx n num den : Int) ∧ pidx n num den < n := by
  unfold PBad at h
  have h1 : 1 ≤ den := by omega
  have h2 : 0 ≤ num := by omega
  have h3 : num ≤ den := by omega
  have h4 : 0 < n := by omega
  have h5 : den ≤ 1048576 := by omega
  have a1 : 0 ≤ num * ((n : Int) - 1) := Int.mul_nonneg h2 (by omega)
  have a2 : num * ((n : Int) - 1) ≤ 1048576 * 1048576 := Int.mul_le_mul (by omega) (by omega) (by omega) (by omega)
  have a3 : num * ((n : Int) - 1) ≤ den * ((n : Int) - 1) := Int.mul_le_mul_of_nonneg_right h3 (by omega)
  have a4 : 0 ≤ Int.tdiv (num * ((n : Int) - 1)) den := Int.tdiv_nonneg a1 (by omega)
  have a5 : Int.tdiv (num * ((n : Int) - 1)) den ≤ (n : Int) - 1 := by
    rw [Int.tdiv_eq_ediv_of_nonneg a1]
    exact Int.ediv_le_of_le_mul (by omega) (by rw [Int.mul_comm ((n : Int) - 1) den]; exact a3)
  unfold pidx
  exact ⟨⟨a1, by omega⟩, by omega, by omega⟩
theorem up_fone {ys : List Nat} {n : Nat} (h : Up fkey ys 0 n) (hl : n ≤ ys.length) : Up fkey (ys.map fone) 0 n := fun i j h1 h2 h3 => by
  have hg : ∀ i, i < n → (ys.map fone).getD i 0 = fone (ys.getD i 0) := fun i hi => by
    simp [List.getD, List.getElem?_eq_getElem (show i < ys.length by omega)]
  rw [hg i (by omega), hg j h3, fkey_fone, fkey_fone]
  exact h i j h1 h2 h3
theorem below_of_drew {w w' : World} (h : Below w.drew.heap.size w.drew w') : Below w.heap.size w w' := ⟨h.os, h.tape, h.output, h.size, h.block⟩
set_option maxRecDepth 100000 in
set_option maxHeartbeats 4000000 in
theorem c_fPart (A : Option Addr) (n c : Nat) (xs : List Nat) (num den : Int) (w : World) (h : Reads w w.heap.size 1 A n (f64s xs)) (hx : Bit xs) (hn : n ≤ 1048576) (b1 : -9223372036854775808 ≤ num ∧ num ≤ 9223372036854775807) (b2 : -9223372036854775808 ≤ den ∧ den ≤ 9223372036854775807) :
    Calls Try.prog 26 #[.slice A n c, .int .i64 num, .int .i64 den] w fun e w' => ∃ (x : Nat) (er : Int), e = .returned (.tuple #[.float .f64 x, .int .i64 er]) ∧ Below w.heap.size w w' ∧ PartOf n xs num den x er := by
  have HRD := Lib.hid h
  have HXB := Lib.hid hx
  have HXL : Hid (xs.length = n) := Lib.hid (by simpa using h.1)
  clear h hx
  by_cases hbad : PBad n num den
  · have HP : Hid (PartOf n xs num den 0 1) := .inl ⟨hbad, rfl, rfl⟩
    have hbad' : den < 1 ∨ (¬ den < 1 ∧ 1048576 < den) ∨ (¬ den < 1 ∧ ¬ 1048576 < den ∧ num < 0) ∨ (¬ den < 1 ∧ ¬ 1048576 < den ∧ ¬ num < 0 ∧ den < num) ∨ (¬ den < 1 ∧ ¬ 1048576 < den ∧ ¬ num < 0 ∧ ¬ den < num ∧ n = 0) := by unfold PBad at hbad; omega
    clear hbad
    rcases hbad' with h1 | ⟨h1, h2⟩ | ⟨h1, h2, h3⟩ | ⟨h1, h2, h3, h4⟩ | ⟨h1, h2, h3, h4, rfl⟩
    all_goals
      go_enter Try.func26, Try.ntmps26
      go_wp2
      go_ret2
      exact ⟨0, 1, rfl, Below.refl _ _, HP.out⟩
  · obtain ⟨⟨q1, q2⟩, q3, q4⟩ := pidx_facts hn hbad
    have HPB := Lib.hid hbad
    have h1 : ¬ den < 1 := fun h => hbad (.inl h)
    have h2 : ¬ 1048576 < den := fun h => hbad (.inr (.inr (.inr (.inr h))))
    have h3 : ¬ num < 0 := fun h => hbad (.inr (.inl h))
    have h4 : ¬ den < num := fun h => hbad (.inr (.inr (.inl h)))
    have h5 : ¬ n = 0 := fun h => hbad (.inr (.inr (.inr (.inl h))))
    have h6 : ((n : Int) == 0) = false := by simp; omega
    have h7 : (den == 0) = false := by simp; omega
    have h8 : ¬ den = 0 := by omega
    have e1 : IntKind.i64.wrap (num * ((n : Int) - 1)) = num * ((n : Int) - 1) := IntWalk.i64_in _ (by omega)
    obtain ⟨k, hk⟩ : ∃ k, k = pidx n num den := ⟨_, rfl⟩
    rw [← hk] at q3 q4
    have HK := Lib.hid hk
    have e2 : IntKind.i64.wrap (Int.tdiv (num * ((n : Int) - 1)) den) = (k : Int) := by rw [q3]; exact IntWalk.i64_in _ (by omega)
    clear hbad hk
    have HC := Lib.hid (c_fSorted A n c xs w.drew HRD.out.drew HXB.out (by omega))
    have f1 : (k : Int) < (n : Int) := by omega
    have f2 : IntKind.i64.wrap (k : Int) = (k : Int) := IntWalk.i64_in _ (by omega)
    have f3 : (0 : Int) ≤ (k : Int) := by omega
    have f4 : IntKind.i64.wrap ((n : Int) - 1) = (n : Int) - 1 := IntWalk.i64_in _ (by omega)
    go_enter Try.func26, Try.ntmps26
    go_wp2_with fail
    go_region_with (go_at_call 23; first | ((with_reducible refine HC.out.mono ?_); rintro e w1 ⟨v, ys, rfl, ⟨hO, hb⟩, hp, hu⟩; obtain ⟨g, cap, rfl, hg, hgl⟩ := own_form hO (by omega); have hc1 := Frow.cell hO q4; have HB := Lib.hid (below_of_drew hb); have HY : Hid ((ys.map fone).Perm (xs.map fone) ∧ Up fkey (ys.map fone) 0 n) := ⟨hp.map fone, up_fone hu (by have := hp.length_eq; have := HXL.out; omega)⟩; clear hO hb hp hu hg hgl HC; generalize ys.map fone = zs at *; generalize hz : zs.getD k 0 = z at *; have HZ := Lib.hid hz; clear hz))
    go_wp2_with fail
    go_ret2
    exact ⟨z, 0, rfl, HB.out, .inr ⟨HPB.out, rfl, zs, HY.out.1, HY.out.2, by rw [← HK.out]; exact HZ.out.symm⟩⟩
set_option maxRecDepth 100000 in
set_option maxHeartbeats 4000000 in
theorem c_rPart (A : Option Addr) (n c : Nat) (xs : List Nat) (num den : Int) (w : World) (h : Reads w w.heap.size 1 A n (f64s xs)) (hx : Bit xs) (hn : n ≤ 1048576) (b1 : -9223372036854775808 ≤ num ∧ num ≤ 9223372036854775807) (b2 : -9223372036854775808 ≤ den ∧ den ≤ 9223372036854775807) :
    Calls Try.prog 27 #[.slice A n c, .int .i64 num, .int .i64 den] w fun e w' => ∃ (x : Nat) (er : Int), e = .returned (.tuple #[.float .f64 x, .int .i64 er]) ∧ Below w.heap.size w w' ∧ PartOf n xs num den x er := by
  have HRD := Lib.hid h
  have HXB := Lib.hid hx
  have HXL : Hid (xs.length = n) := Lib.hid (by simpa using h.1)
  clear h hx
  by_cases hbad : PBad n num den
  · have HP : Hid (PartOf n xs num den 0 1) := .inl ⟨hbad, rfl, rfl⟩
    have hbad' : den < 1 ∨ (¬ den < 1 ∧ num < 0) ∨ (¬ den < 1 ∧ ¬ num < 0 ∧ den < num) ∨ (¬ den < 1 ∧ ¬ num < 0 ∧ ¬ den < num ∧ n = 0) ∨ (¬ den < 1 ∧ ¬ num < 0 ∧ ¬ den < num ∧ 0 < n ∧ 1048576 < den) := by unfold PBad at hbad; omega
    clear hbad
    rcases hbad' with h1 | ⟨h1, h2⟩ | ⟨h1, h2, h3⟩ | ⟨h1, h2, h3, rfl⟩ | ⟨h1, h2, h3, h4, h5⟩
    rotate_left 4
    · have h6 : ((n : Int) == 0) = false := by simp; omega
      go_enter Try.func27, Try.ntmps27
      go_wp2
      go_ret2
      exact ⟨0, 1, rfl, Below.refl _ _, HP.out⟩
    all_goals
      go_enter Try.func27, Try.ntmps27
      go_wp2
      go_ret2
      exact ⟨0, 1, rfl, Below.refl _ _, HP.out⟩
  · obtain ⟨⟨q1, q2⟩, q3, q4⟩ := pidx_facts hn hbad
    have HPB := Lib.hid hbad
    have h1 : ¬ den < 1 := fun h => hbad (.inl h)
    have h2 : ¬ 1048576 < den := fun h => hbad (.inr (.inr (.inr (.inr h))))
    have h3 : ¬ num < 0 := fun h => hbad (.inr (.inl h))
    have h4 : ¬ den < num := fun h => hbad (.inr (.inr (.inl h)))
    have h5 : ¬ n = 0 := fun h => hbad (.inr (.inr (.inr (.inl h))))
    have h6 : ((n : Int) == 0) = false := by simp; omega
    have h7 : (den == 0) = false := by simp; omega
    have h8 : ¬ den = 0 := by omega
    have e1 : IntKind.i64.wrap (num * ((n : Int) - 1)) = num * ((n : Int) - 1) := IntWalk.i64_in _ (by omega)
    obtain ⟨k, hk⟩ : ∃ k, k = pidx n num den := ⟨_, rfl⟩
    rw [← hk] at q3 q4
    have HK := Lib.hid hk
    have e2 : IntKind.i64.wrap (Int.tdiv (num * ((n : Int) - 1)) den) = (k : Int) := by rw [q3]; exact IntWalk.i64_in _ (by omega)
    clear hbad hk
    have HC := Lib.hid (c_rSorted A n c xs w.drew HRD.out.drew HXB.out (by omega))
    have f1 : (k : Int) < (n : Int) := by omega
    have f2 : IntKind.i64.wrap (k : Int) = (k : Int) := IntWalk.i64_in _ (by omega)
    have f3 : (0 : Int) ≤ (k : Int) := by omega
    have f4 : IntKind.i64.wrap ((n : Int) - 1) = (n : Int) - 1 := IntWalk.i64_in _ (by omega)
    go_enter Try.func27, Try.ntmps27
    go_wp2_with fail
    go_region_with (go_at_call 24; first | ((with_reducible refine HC.out.mono ?_); rintro e w1 ⟨v, zs, rfl, ⟨hO, hb⟩, hp, hu⟩; obtain ⟨g, cap, rfl, hg, hgl⟩ := own_form hO (by omega); have hc1 := Frow.cell hO q4; have HB := Lib.hid (below_of_drew hb); have HY : Hid (zs.Perm (xs.map fone) ∧ Up fkey zs 0 n) := ⟨hp, hu⟩; clear hO hb hp hu hg hgl HC; generalize hz : zs.getD k 0 = z at *; have HZ := Lib.hid hz; clear hz))
    go_wp2_with fail
    go_ret2
    exact ⟨z, 0, rfl, HB.out, .inr ⟨HPB.out, rfl, zs, HY.out.1, HY.out.2, by rw [← HK.out]; exact HZ.out.symm⟩⟩
end Go.Proofs.Ytpgdiiplnnaegaa
