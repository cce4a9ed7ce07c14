/- Walks: sizes of a kind, the law ParamSizes. Conditions: none. -/
import Derived.Test.YtbpbokcglicggaaPa
import Derived.Test.YtbpbokcglicggaaFld
namespace Go.Proofs.Ytbpbokcglicggaa
open Go.RowKit
set_option linter.unusedVariables false

/-- The error of a kind. -/
def kerr (k : Int) : Int := if k = 1 ∨ k = 2 then 0 else 1
theorem k_cases (k : Int) : (k = 1 ∧ kmost k = 64 ∧ kerr k = 0) ∨ (k = 2 ∧ kmost k = 32 ∧ kerr k = 0) ∨ ((k == 1) = false ∧ (k == 2) = false ∧ kmost k = 0 ∧ kerr k = 1) := by
  unfold kmost kerr
  by_cases h1 : k = 1
  · subst h1; exact .inl ⟨rfl, rfl, rfl⟩
  · by_cases h2 : k = 2
    · subst h2; exact .inr (.inl ⟨rfl, rfl, rfl⟩)
    · exact .inr (.inr ⟨by simpa using h1, by simpa using h2, by simp [h1, h2], by simp [h1, h2]⟩)
theorem c_Size (k : Int) (w : World) : Calls Try.prog 12 #[.int .i64 k] w fun e w' => e = .returned (.tuple #[.int .i64 (kmost k), .int .i64 (kerr k)]) ∧ w = w' := by
  rcases k_cases k with ⟨rfl, h1, h2⟩ | ⟨rfl, h1, h2⟩ | ⟨g1, g2, h1, h2⟩
  all_goals
    rw [h1, h2]
    clear h1 h2
    go_enter Try.func12, Try.ntmps12
    go_wp2
    go_ret2
    exact ⟨rfl, rfl⟩
theorem c_Most (k : Int) (w : World) : Calls Try.prog 13 #[.int .i64 k] w fun e w' => e = .returned (.tuple #[.int .i64 (kmost k), .int .i64 (kerr k)]) ∧ w = w' := by
  rcases k_cases k with ⟨rfl, h1, h2⟩ | ⟨rfl, h1, h2⟩ | ⟨g1, g2, h1, h2⟩
  all_goals
    rw [h1, h2]
    clear h1 h2
    go_enter Try.func13, Try.ntmps13
    go_wp2
    go_ret2
    exact ⟨rfl, rfl⟩
theorem c_rMost (k : Int) (w : World) : Calls Try.prog 14 #[.int .i64 k] w fun e w' => e = .returned (.int .i64 (kmost k)) ∧ w = w' := by
  rcases k_cases k with ⟨rfl, h1, h2⟩ | ⟨rfl, h1, h2⟩ | ⟨g1, g2, h1, h2⟩
  all_goals
    rw [h1]
    clear h1 h2
    go_enter Try.func14, Try.ntmps14
    go_wp2
    go_ret
    exact ⟨rfl, rfl⟩
theorem c_rSize (k : Int) (w : World) : Calls Try.prog 15 #[.int .i64 k] w fun e w' => e = .returned (.int .i64 (kmost k)) ∧ w = w' := by
  rcases k_cases k with ⟨rfl, h1, h2⟩ | ⟨rfl, h1, h2⟩ | ⟨g1, g2, h1, h2⟩
  all_goals
    rw [h1]
    clear h1 h2
    go_enter Try.func15, Try.ntmps15
    go_wp2
    go_ret
    exact ⟨rfl, rfl⟩
set_option maxRecDepth 100000 in
set_option maxHeartbeats 1000000 in
theorem l_ParamSizes (W : World) (k : Int) (wk : (Lit.int .i64 k).wf = true) (d : Int) (wd : (Lit.int .i64 d).wf = true) (key : Int) (wkey : (Lit.int .i64 key).wf = true) :
    Calls Try.prog 3 #[.int .i64 k, .int .i64 d, .int .i64 key] W fun e W' => e = .returned (.bool true) ∧ Below W.heap.size W W' := by
  have hP := c_Plain k d key
  have hQ := c_rPlain k d key
  have hlen : ((if chkP k (plainP d key) = 0 then plainP d key else Pm.zero).s.length ≤ 140737488351232) ∧ ((if chkP k (plainP d key) = 0 then plainP d key else Pm.zero).t.length ≤ 140737488351232) := by split <;> exact ⟨by simp [plainP, Pm.zero], by simp [plainP, Pm.zero]⟩
  generalize (if chkP k (plainP d key) = 0 then plainP d key else Pm.zero) = p at *
  generalize chkP k (plainP d key) = E at *
  have HP := Lib.hid hP
  have HQ := Lib.hid hQ
  have HE : Hid ((kmost k = 0 ∧ kerr k = 1) ∨ (kmost k ≠ 0 ∧ kerr k = 0)) := by
    rcases k_cases k with ⟨rfl, h1, h2⟩ | ⟨rfl, h1, h2⟩ | ⟨g1, g2, h1, h2⟩
    · exact .inr ⟨by rw [h1]; decide, h2⟩
    · exact .inr ⟨by rw [h1]; decide, h2⟩
    · exact .inl ⟨h1, h2⟩
  have h1 := c_Size k
  have h2 := c_Most k
  have h3 := c_rMost k
  have h4 := c_rSize k
  generalize kmost k = m at *
  generalize kerr k = r at *
  have H1 := Lib.hid h1
  have H2 := Lib.hid h2
  have H3 := Lib.hid h3
  have H4 := Lib.hid h4
  clear hP hQ h1 h2 h3 h4 wk wd wkey
  obtain ⟨x, hx⟩ : ∃ x, (m == 0) = x ∧ ((x = true ∧ r = 1) ∨ (x = false ∧ r = 0)) := by
    rcases HE.out with ⟨h, h'⟩ | ⟨h, h'⟩
    · exact ⟨true, by simp [h], .inl ⟨rfl, h'⟩⟩
    · exact ⟨false, by simp [h], .inr ⟨rfl, h'⟩⟩
  clear HE
  obtain ⟨hm, hx⟩ := hx
  rcases hx with ⟨rfl, rfl⟩ | ⟨rfl, rfl⟩
  all_goals
    go_enter Try.func3, Try.ntmps3
    go_wp2_with (first | (go_at_call 12; refine (H1.out _).mono ?_; rintro e w' ⟨rfl, rfl⟩) | (go_at_call 13; refine (H2.out _).mono ?_; rintro e w' ⟨rfl, rfl⟩) | (go_at_call 14; refine (H3.out _).mono ?_; rintro e w' ⟨rfl, rfl⟩) | (go_at_call 15; refine (H4.out _).mono ?_; rintro e w' ⟨rfl, rfl⟩))
    refine (HP.out _).mono ?_
    rintro e w1 ⟨sa, sc, ta, tc, rfl, o1, o2, hb1⟩
    simp only [pvS, pv]
    have hr := (own_rd o1 o2 hlen.1 hlen.2).step ((Below.refl _ w1).alloc (Nat.le_refl _) (.cells (pvC p sa sc ta tc) 31))
    have HB1 := Lib.hid (hb1.alloc hb1.size (.cells (pvC p sa sc ta tc) 31))
    clear hb1 o1 o2
    go_wp2_with fail
    refine (HQ.out _).mono ?_
    rintro e w2 ⟨sa2, sc2, ta2, tc2, rfl, o1, o2, hb2⟩
    simp only [pvS, pv]
    obtain ⟨hcl, hfl⟩ := bcell hb2
    have hz := hb2.size
    simp only [World.size_alloc] at hcl hfl hz
    have hr2 := hr.step (hb2.alloc hb2.size (.cells (pvC p sa2 sc2 ta2 tc2) 31))
    have hr3 := (own_rd o1 o2 hlen.1 hlen.2).step ((Below.refl _ w2).alloc (Nat.le_refl _) (.cells (pvC p sa2 sc2 ta2 tc2) 31))
    have HB2 := Lib.hid (below_step HB1.out (hb2.alloc hb2.size (.cells (pvC p sa2 sc2 ta2 tc2) 31)))
    have hz2 : w1.heap.size < w2.heap.size := by omega
    clear hb2 o1 o2 hr
    go_wp2_with fail
    refine (c_lalike p p sa sa2 ta ta2 sc sc2 tc tc2 _ hr2 hr3).mono ?_
    rintro e w3 ⟨rfl, hb3⟩
    rw [decide_eq_true rfl]
    clear hcl hfl
    go_wp2_with fail
    go_ret
    exact ⟨rfl, below_step HB2.out hb3⟩
end Go.Proofs.Ytbpbokcglicggaa
