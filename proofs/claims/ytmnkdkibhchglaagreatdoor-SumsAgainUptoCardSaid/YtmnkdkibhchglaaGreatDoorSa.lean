/- Words for an entry of a list, walks: a way of hashing by its number, may an entry be (sums.of, sums.right; quernref26.Most, right, word). Conditions: lengths within the reach. -/
import Derived.Test.YtmnkdkibhchglaaGreatDoorHz
import Derived.Test.YtmnkdkibhchglaaGreatDoorEd
namespace Go.Proofs.YtmnkdkibhchglaaGreatDoor
open Go.RowKit
set_option linter.unusedVariables false
attribute [local go_sem ↓] Go.wp_at_zero Go.wp_at_succ

/-- The most bytes of a way of hashing. -/
def smost (a : Int) : Nat := if a = 1 ∨ a = 3 then 64 else if a = 2 ∨ a = 4 then 32 else 0
/-- Its word. -/
def swrd (a : Int) : List UInt8 := if a = 1 then [66, 76, 65, 75, 69, 50, 98] else if a = 2 then [66, 76, 65, 75, 69, 50, 115] else if a = 3 then [66, 76, 65, 75, 69, 50, 98, 112] else if a = 4 then [66, 76, 65, 75, 69, 50, 115, 112] else []
/-- Its kind. -/
def skind (a : Int) : Int := if a = 1 ∨ a = 3 then 1 else if a = 2 ∨ a = 4 then 2 else 0
theorem algo_cases (a : Int) : a = 1 ∨ a = 2 ∨ a = 3 ∨ a = 4 ∨ ((a == 1) = false ∧ (a == 2) = false ∧ (a == 3) = false ∧ (a == 4) = false ∧ smost a = 0 ∧ swrd a = [] ∧ skind a = 0) := by
  by_cases h1 : a = 1
  · exact .inl h1
  by_cases h2 : a = 2
  · exact .inr (.inl h2)
  by_cases h3 : a = 3
  · exact .inr (.inr (.inl h3))
  by_cases h4 : a = 4
  · exact .inr (.inr (.inr (.inl h4)))
  · exact .inr (.inr (.inr (.inr ⟨by simpa using h1, by simpa using h2, by simpa using h3, by simpa using h4, by simp [smost, h1, h2, h3, h4], by simp [swrd, h1, h2, h3, h4], by simp [skind, h1, h2, h3, h4]⟩)))
/-- A way of hashing. -/
abbrev wayV (a : Int) : Value := .agg #[bstr (swrd a), .int .i64 (smost a : Nat), .int .i64 (skind a), .bool (decide (a = 3 ∨ a = 4))]
theorem c_of (a : Int) (w : World) : Calls Tryz.prog 10 #[.int .i64 a] w fun e w' => e = .returned (wayV a) ∧ Below w.heap.size w w' := by
  rcases algo_cases a with rfl | rfl | rfl | rfl | ⟨t1, t2, t3, t4, e1, e2, e3⟩
  iterate 4
    · go_enter Tryz.func10, Tryz.ntmps10
      go_wp2
      exact bodyPost_ret (v := wayV _) (by simp [results, Tryz.results10, go_sem]; exact ⟨rfl, rfl, rfl⟩) rfl ⟨rfl, (Below.refl _ _).alloc (Nat.le_refl _) _⟩
  · have e4 : decide (a = 3 ∨ a = 4) = false := by
      rw [decide_eq_false_iff_not]
      rintro (h | h)
      · rw [h] at t3; cases t3
      · rw [h] at t4; cases t4
    have HV : Hid (wayV a = .agg #[.string ⟨#[]⟩, .int .i64 0, .int .i64 0, .bool false]) := by show _ = _; simp only [wayV, e1, e2, e3, e4]; rfl
    clear e1 e2 e3 e4
    go_enter Tryz.func10, Tryz.ntmps10
    go_wp2
    exact bodyPost_ret (v := .agg #[.string ⟨#[]⟩, .int .i64 0, .int .i64 0, .bool false]) (by simp [results, Tryz.results10, go_sem]) rfl ⟨by rw [HV.out], (Below.refl _ _).alloc (Nat.le_refl _) _⟩
theorem c_rMost (a : Int) (w : World) : Calls Tryz.prog 13 #[.int .i64 a] w fun e w' => e = .returned (.int .i64 (smost a : Nat)) ∧ w = w' := by
  rcases algo_cases a with rfl | rfl | rfl | rfl | ⟨t1, t2, t3, t4, e1, e2, e3⟩
  iterate 4
    · go_enter Tryz.func13, Tryz.ntmps13
      go_wp2
      go_ret
      exact ⟨rfl, rfl⟩
  · rw [e1]
    clear e1 e2 e3
    go_enter Tryz.func13, Tryz.ntmps13
    go_wp2
    go_ret
    exact ⟨rfl, rfl⟩
theorem c_rword (a : Int) (h : 0 < smost a) (w : World) : Calls Tryz.prog 29 #[.int .i64 a] w fun e w' => e = .returned (bstr (swrd a)) ∧ w = w' := by
  rcases algo_cases a with rfl | rfl | rfl | rfl | ⟨t1, t2, t3, t4, e1, e2, e3⟩
  iterate 4
    · go_enter Tryz.func29, Tryz.ntmps29
      go_wp2
      go_ret
      exact ⟨rfl, rfl⟩
  · omega
end Go.Proofs.YtmnkdkibhchglaaGreatDoor
