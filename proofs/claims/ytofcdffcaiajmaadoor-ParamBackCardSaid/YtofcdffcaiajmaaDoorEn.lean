/- Walks: a block's bytes out of parameters (param.value, Encode). Conditions: as stated. -/
import Derived.Test.YtofcdffcaiajmaaDoorNm3
import Derived.Test.YtofcdffcaiajmaaDoorPut
import Derived.Deep.RegionHeld3
namespace Go.Proofs.YtofcdffcaiajmaaDoor
open Go.RowKit
set_option linter.unusedVariables false

/-- What a field says. -/
def fv (p : Pm) (i : Nat) : Int := if i = 0 then p.d else if i = 1 then p.key else if i = 2 then p.fo else if i = 3 then p.de else if i = 4 then p.leaf else if i = 5 then p.off else if i = 6 then p.xof else if i = 7 then p.nd else p.inn
/-- Numbers within their kinds. -/
structure PmOk (p : Pm) : Prop where
  leaf : 0 ≤ p.leaf ∧ p.leaf < 4294967296
  off : 0 ≤ p.off ∧ p.off < 18446744073709551616
  xof : 0 ≤ p.xof ∧ p.xof < 4294967296
theorem chk_ok {k : Int} {p : Pm} (h : chkP k p = 0) : (k = 1 ∨ k = 2) ∧ (1 ≤ p.d ∧ p.d ≤ 64) ∧ (0 ≤ p.key ∧ p.key ≤ 64) ∧ (0 ≤ p.fo ∧ p.fo ≤ 255) ∧ (0 ≤ p.de ∧ p.de ≤ 255) ∧ (0 ≤ p.nd ∧ p.nd ≤ 255) ∧ (0 ≤ p.inn ∧ p.inn ≤ 64) ∧ (p.s.length : Int) ≤ kmost k / 4 ∧ (p.t.length : Int) ≤ kmost k / 4 := by
  unfold chkP chkOf chk at h
  have hx : ∀ (c : Prop) [Decidable c] (a b : Int), a ≠ 0 → (if c then a else b) = 0 → ¬c ∧ b = 0 := by
    intro c _ a b ha h
    by_cases hc : c
    · rw [if_pos hc] at h; exact absurd h ha
    · rw [if_neg hc] at h; exact ⟨hc, h⟩
  obtain ⟨h1, h⟩ := hx _ _ _ (by decide) h
  obtain ⟨h2, h⟩ := hx _ _ _ (by decide) h
  obtain ⟨h3, h⟩ := hx _ _ _ (by decide) h
  obtain ⟨h4, h⟩ := hx _ _ _ (by decide) h
  obtain ⟨h5, h⟩ := hx _ _ _ (by decide) h
  obtain ⟨_, h⟩ := hx _ _ _ (by decide) h
  obtain ⟨_, h⟩ := hx _ _ _ (by decide) h
  obtain ⟨h8, h⟩ := hx _ _ _ (by decide) h
  obtain ⟨h9, h⟩ := hx _ _ _ (by decide) h
  obtain ⟨h10, h⟩ := hx _ _ _ (by decide) h
  obtain ⟨h11, h⟩ := hx _ _ _ (by decide) h
  have hk : kmost k ≤ 64 := by unfold kmost; split <;> (try split) <;> omega
  have hd : 0 ≤ p.de := by
    split at h5 <;> omega
  refine ⟨by omega, by omega, by omega, by omega, by omega, by omega, by omega, by omega, by omega⟩
theorem fv_bd {k : Int} {p : Pm} (h : chkP k p = 0) (ho : PmOk p) (i : Nat) : 0 ≤ fv p i ∧ fv p i < 18446744073709551616 := by
  have h1 := chk_ok h
  have h2 := ho.leaf
  have h3 := ho.off
  have h4 := ho.xof
  unfold fv
  grind
set_option maxRecDepth 100000 in
set_option maxHeartbeats 1000000 in
theorem c_value (k : Int) (p : Pm) (sa : Option Addr) (sc : Nat) (ta : Option Addr) (tc : Nat) (i : Nat) (hi : i < 9) (h : chkP k p = 0) (ho : PmOk p) (w : World) :
    Calls Tryd.prog 17 #[pvS p sa sc ta tc, .int .i64 ((i : Int) + 1)] w fun e w' => e = .returned (.int .u64 (fv p i)) ∧ Below w.heap.size w w' := by
  obtain ⟨_, ⟨a1, a2⟩, ⟨b1, b2⟩, ⟨c1, c2⟩, ⟨d1, d2⟩, ⟨e1, e2⟩, ⟨f1, f2⟩, _⟩ := chk_ok h
  obtain ⟨g1, g2⟩ := ho.leaf
  obtain ⟨h1, h2⟩ := ho.xof
  obtain ⟨l1, l2⟩ := ho.off
  have hc : i = 0 ∨ i = 1 ∨ i = 2 ∨ i = 3 ∨ i = 4 ∨ i = 5 ∨ i = 6 ∨ i = 7 ∨ i = 8 := by omega
  clear h ho hi
  rcases hc with rfl | rfl | rfl | rfl | rfl | rfl | rfl | rfl | rfl
  all_goals
    simp only [fv, Nat.reduceEqDiff, ↓reduceIte, pvS, pv]
    go_enter Tryd.func17, Tryd.ntmps17
    go_wp2
    go_ret
    exact ⟨rfl, (Below.refl _ _).alloc (Nat.le_refl _) _⟩
end Go.Proofs.YtofcdffcaiajmaaDoor
