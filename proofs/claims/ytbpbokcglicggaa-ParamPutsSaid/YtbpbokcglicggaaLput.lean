/- Walk: the law ParamPuts. Conditions: none. -/
import Derived.Test.YtbpbokcglicggaaAlv
import Derived.Test.YtbpbokcglicggaaPlp
import Derived.Test.YtbpbokcglicggaaLfld
namespace Go.Proofs.Ytbpbokcglicggaa
open Go.RowKit
set_option linter.unusedVariables false

/-- What holds where both calls succeed. -/
theorem puts_plain {k f o : Int} {n : Nat} {xs : List Int} {V : Int} (hl : xs.length = n) (h0 : 0 ≤ V) (h1 : V < 18446744073709551616) (hg : gerr k o n = 0) (hp : perr k f n V = 0) :
    (1 ≤ o ∧ o ≤ 9) ∧ (1 ≤ f ∧ f ≤ 9) ∧ (pans k f n xs V).length = n ∧ gerr k f n = 0 ∧ gval k f n (pans k f n xs V) = V ∧ (¬(o = f ∨ o + f = 13 ∧ (o = 6 ∨ o = 7)) → gval k o n (pans k f n xs V) = gval k o n xs) := by
  have hz : szerr k n = 0 := by
    rcases gerr_cases k o n with ⟨a, b⟩ | ⟨a, b, c⟩ | ⟨a, b, c⟩
    · rw [hg] at b; exact absurd b.symm a
    · exact a
    · exact a
  have ho : 1 ≤ o ∧ o ≤ 9 := by
    rcases gerr_cases k o n with ⟨a, b⟩ | ⟨a, b, c⟩ | ⟨a, b, c⟩
    · exact absurd hz a
    · rw [hg] at c; cases c
    · exact b
  have hgf : gerr k f n = 0 := by
    unfold perr at hp
    by_cases h : gerr k f n = 0
    · exact h
    · rw [if_pos h] at hp; exact absurd hp h
  have hf : 1 ≤ f ∧ f ≤ 9 := by
    rcases gerr_cases k f n with ⟨a, b⟩ | ⟨a, b, c⟩ | ⟨a, b, c⟩
    · exact absurd hz a
    · rw [hgf] at c; cases c
    · exact b
  have hsm : ¬(fszN k (f - 1).toNat < 8 ∧ V / 2 ^ (8 * fszN k (f - 1).toNat) ≠ 0) := by
    unfold perr at hp
    rw [if_neg (by simpa using hgf)] at hp
    intro hc
    rw [if_pos hc] at hp
    cases hp
  have hpa : pans k f n xs V = pput k f xs V := if_pos hp
  have hk := szerr_k hz
  have b1 := fatN_bd hk (i := (f - 1).toNat) (by omega) hz
  have b2 := fatN_bd hk (i := (o - 1).toNat) (by omega) hz
  have b3 := (fszN_bd k (f - 1).toNat).2
  refine ⟨ho, hf, by rw [hpa]; unfold pput; rw [layL_length, hl], hgf, ?_, fun hno => ?_⟩
  · rw [hpa]
    unfold gval
    rw [if_pos ⟨hz, hf⟩]
    unfold pput
    exact put_get (by omega) h0 (small_of h0 h1 hsm b3)
  · rw [hpa]
    unfold gval
    rw [if_pos ⟨hz, ho⟩, if_pos ⟨hz, ho⟩]
    unfold pput
    rw [seg_far _ _ _ _ _ _ (by omega) (by omega) (fields_apart k hk _ _ (by omega) (by omega) (by omega) (by omega))]
set_option maxRecDepth 100000 in
set_option maxHeartbeats 2000000 in
theorem l_ParamPuts (W : World) (k : Int) (wk : (Lit.int .i64 k).wf = true) (A : Option Addr) (n c : Nat) (xs : List Int) (hr : RdInts W .u8 1 A n c xs) (f : Int) (wf : (Lit.int .i64 f).wf = true) (o : Int) (wo : (Lit.int .i64 o).wf = true) (v : Int) (wv : (Lit.int .u64 v).wf = true) :
    Calls Try.prog 9 #[.agg #[.int .i64 k, .slice A n c, .int .i64 f, .int .i64 o, .int .u64 v]] W fun e W' => e = .returned (.bool true) ∧ Below W.heap.size W W' := by
  obtain ⟨i0, hi0, hz0, hz1, hz2⟩ := info_parts u8_info
  obtain ⟨hc, hcm, hwf, hrd⟩ := hr
  have hx := u8_wf hwf
  have hv := bounds_u64 wv
  have hn : n ≤ 140737488351232 := by omega
  have hxl : xs.length = n := by simpa using hrd.1
  have hpl := fun a b => puts_plain (k := k) (f := f) (o := o) hxl hv.1 (by omega) a b
  have hlen := pans_len k f n xs v
  have HPX : Hid (∀ z ∈ pans k f n xs v, 0 ≤ z ∧ z < 256) := by
    show ∀ z ∈ pans k f n xs v, 0 ≤ z ∧ z < 256
    unfold pans; split
    · exact layL_bd hx _ _ _
    · simp
  have HPL := Lib.hid hpl
  have HXL := Lib.hid hxl
  clear hwf wk wf wo wv hpl hxl
  go_enter Try.func9, Try.ntmps9
  go_wp2_with fail
  go_quiet (fail)
  have hb1 := below_drewN ((Below.refl W.heap.size W).alloc (Nat.le_refl _) (.cells #[.int .i64 k, .slice A n c, .int .i64 f, .int .i64 o, .int .u64 v] 49)) nq
  have hr1 := hrd.step hb1
  generalize (World.alloc W (.cells #[.int .i64 k, .slice A n c, .int .i64 f, .int .i64 o, .int .u64 v] 49)).drewN nq = w0 at *
  have HB0 := Lib.hid hb1
  clear hb1
  go_wp2_with fail
  refine (c_alive _).mono ?_
  rintro e w1 ⟨rfl, hb1⟩
  have hr1 := hr1.step hb1
  have HB1 := Lib.hid (below_step HB0.out hb1)
  clear hb1
  go_wp2_with (at_builtin; refine wpList_append_any _ rfl (.tmp 27) (.tmp 28) _ rfl w1.heap.size 5 i0 _ 1 1 Try.underlying29 hi0 hz0 hz1 hz2 rfl (by omega) (.slice none 0 0) 0 [] rfl ⟨by simp, .inl ⟨rfl, rfl⟩⟩ w1.heap.size _ n c (u8s xs) rfl hr1 (u8s_one _) (by simp only [maxLen]; omega) (by omega) (Nat.le_refl _) ?_; intro v1 w2 hown1 hg1 _; rw [Nat.zero_add, List.nil_append] at hown1; obtain ⟨A1, c1, rfl, hc1, ho1⟩ := own_reads hown1; have hb2 := below_of_grown hg1; have HB2 := Lib.hid (below_step HB1.out hb2); clear hb2 hg1 hown1)
  refine (c_Get k o A1 n c1 xs _ ho1 (by omega) hx).mono ?_
  rintro e w4 ⟨rfl, hb4⟩
  have ho4 := ho1.step hb4
  have HB4 := Lib.hid (below_step HB2.out hb4)
  clear hb4
  go_wp2_with fail
  refine (c_Put k f A1 n c1 xs _ v ho4 (by omega) hx hv.1 (by omega)).mono ?_
  rintro e w5 ⟨v5, rfl, hO5, hb5⟩
  obtain ⟨A5, c5, rfl, hc5, hs5⟩ := own_reads hO5
  have HB5 := Lib.hid (below_step HB4.out hb5)
  clear hb5 hO5
  by_cases hg : gerr k o n = 0
  · by_cases hp : perr k f n v = 0
    · obtain ⟨hor, hfr, hzl, hgf, hgv, hfar⟩ := HPL.out hg hp
      rw [hg, hp]
      have hG1 := fun w h => c_Get k f A5 (pans k f n xs v).length c5 (pans k f n xs v) w h (by omega) HPX.out
      have hG2 := fun w h => c_Get k o A5 (pans k f n xs v).length c5 (pans k f n xs v) w h (by omega) HPX.out
      rw [hzl] at hG1 hG2
      rw [hgv, hgf] at hG1
      rw [hg] at hG2
      rw [hzl] at hs5 ⊢
      generalize gval k o n (pans k f n xs v) = GO at *
      generalize gval k o n xs = GX at *
      generalize pans k f n xs v = zs at *
      have HG1 := Lib.hid hG1
      have HG2 := Lib.hid hG2
      have HFAR := Lib.hid hfar
      obtain ⟨o1, o2⟩ := hor
      obtain ⟨f1, f2⟩ := hfr
      clear hG1 hG2 hgv hgf hg hp hzl hfar hlen
      by_cases hov : o = f ∨ o + f = 13 ∧ (o = 6 ∨ o = 7)
      · have hcs : ((o == f) = true) ∨ ((o == f) = false ∧ (o + f == 13) = true ∧ ((o == 6) = true ∨ (o == 6) = false ∧ (o == 7) = true)) := by
          by_cases he : o = f
          · exact .inl (by simpa using he)
          · refine .inr ⟨by simpa using he, by simp; omega, ?_⟩
            by_cases h6 : o = 6
            · exact .inl (by simpa using h6)
            · exact .inr ⟨by simpa using h6, by simp; omega⟩
        clear hov
        rcases hcs with t1 | ⟨t1, t2, t3 | ⟨t3, t4⟩⟩
        all_goals
          go_wp2_with fail
          refine (HG1.out _ hs5).mono ?_
          rintro e w6 ⟨rfl, hb6⟩
          go_wp2_with fail
          go_ret
          exact ⟨rfl, below_step HB5.out hb6⟩
      · have heq := HFAR.out hov
        have hcs : (o == f) = false ∧ (((o + f == 13) = false) ∨ ((o + f == 13) = true ∧ (o == 6) = false ∧ (o == 7) = false)) := by
          refine ⟨by simp; omega, ?_⟩
          by_cases h13 : o + f = 13
          · exact .inr ⟨by simpa using h13, by simp; omega, by simp; omega⟩
          · exact .inl (by simpa using h13)
        subst heq
        clear hov
        rcases hcs with ⟨t1, t2 | ⟨t2, t3, t4⟩⟩
        all_goals
          go_wp2_with fail
          refine (HG1.out _ hs5).mono ?_
          rintro e w6 ⟨rfl, hb6⟩
          have hs6 := hs5.step hb6
          have HB6 := Lib.hid (below_step HB5.out hb6)
          clear hb6
          go_wp2_with fail
          refine (HG2.out _ hs6).mono ?_
          rintro e w7 ⟨rfl, hb7⟩
          go_wp2_with fail
          go_ret
          exact ⟨rfl, below_step HB6.out hb7⟩
    · have hne : (perr k f n v != 0) = true := by simpa using hp
      rw [hg]
      generalize perr k f n v = E at *
      clear hp hg
      go_wp2_with fail
      go_ret
      exact ⟨rfl, HB5.out⟩
  · have hne : (gerr k o n != 0) = true := by simpa using hg
    generalize gerr k o n = E at *
    clear hg
    go_wp2_with fail
    go_ret
    exact ⟨rfl, HB5.out⟩
end Go.Proofs.Ytbpbokcglicggaa
