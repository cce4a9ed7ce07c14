/- Walk: the law ParamFields. Conditions: none. -/
import Derived.Test.YtbpbokcglicggaaPut
namespace Go.Proofs.Ytbpbokcglicggaa
open Go.RowKit
set_option linter.unusedVariables false

theorem u8_wf {xs : List Int} (h : ∀ z ∈ xs, (Lit.int .u8 z).wf = true) : ∀ z ∈ xs, 0 ≤ z ∧ z < 256 := fun z hz => by have := bounds_u8 (h z hz); omega
set_option maxRecDepth 100000 in
set_option maxHeartbeats 1000000 in
theorem l_ParamFields (W : World) (k : Int) (wk : (Lit.int .i64 k).wf = true) (A : Option Addr) (n c : Nat) (xs : List Int) (hr : RdInts W .u8 1 A n c xs) (f : Int) (wf : (Lit.int .i64 f).wf = true) (o : Int) (wo : (Lit.int .i64 o).wf = true) (v : Int) (wv : (Lit.int .u64 v).wf = true) :
    Calls Try.prog 5 #[.agg #[.int .i64 k, .slice A n c, .int .i64 f, .int .i64 o, .int .u64 v]] W fun e W' => e = .returned (.bool true) ∧ Below W.heap.size W W' := by
  obtain ⟨i0, hi0, hz0, hz1, hz2⟩ := info_parts u8_info
  obtain ⟨hc, hcm, hwf, hrd⟩ := hr
  have hx := u8_wf hwf
  have hv := bounds_u64 wv
  have hn : n ≤ 140737488351232 := by omega
  clear hwf wk wf wo wv
  go_enter Try.func5, Try.ntmps5
  go_wp2
  go_quiet (fail)
  have hb1 := below_drewN ((Below.refl W.heap.size W).alloc (Nat.le_refl _) (.cells #[.int .i64 k, .slice A n c, .int .i64 f, .int .i64 o, .int .u64 v] 49)) nq
  have hr1 := hrd.step hb1
  generalize (World.alloc W (.cells #[.int .i64 k, .slice A n c, .int .i64 f, .int .i64 o, .int .u64 v] 49)).drewN nq = w1 at *
  have HB1 := Lib.hid hb1
  clear hb1
  go_wp2_with (first | (at_builtin; refine wpList_append_any _ rfl (.tmp 23) (.tmp 24) _ rfl w1.heap.size 5 i0 _ 1 1 Try.underlying29 hi0 hz0 hz1 hz2 rfl (by omega) (.slice none 0 0) 0 [] rfl ⟨by simp, .inl ⟨rfl, rfl⟩⟩ w1.heap.size _ n c (u8s xs) rfl hr1 (u8s_one _) (by simp only [maxLen]; omega) (by omega) (Nat.le_refl _) ?_; intro v1 w2 hown1 hg1 _; rw [Nat.zero_add, List.nil_append] at hown1; obtain ⟨A1, c1, rfl, hc1, ho1⟩ := own_reads hown1; have hb2 := below_of_grown hg1; have hr2 := hr1.step hb2; have HB2 := Lib.hid (below_step HB1.out hb2); clear hb2 hg1 hown1) | (at_builtin; refine wpList_append_any _ rfl (.tmp 26) (.tmp 27) _ rfl w2.heap.size 5 i0 _ 1 1 Try.underlying29 hi0 hz0 hz1 hz2 rfl (by omega) (.slice none 0 0) 0 [] rfl ⟨by simp, .inl ⟨rfl, rfl⟩⟩ w2.heap.size _ n c (u8s xs) rfl hr2 (u8s_one _) (by simp only [maxLen]; omega) (by omega) (Nat.le_refl _) ?_; intro v2 w3 hown2 hg2 _; rw [Nat.zero_add, List.nil_append] at hown2; obtain ⟨A2, c2, rfl, hc2, ho2⟩ := own_reads hown2; have hb3 := below_of_grown hg2; have hr3 := hr2.step hb3; have ho13 := ho1.step hb3; have HB3 := Lib.hid (below_step HB2.out hb3); clear hb3 hg2 hown2))
  refine (c_Get k f A1 n c1 xs _ ho13 (by omega) hx).mono ?_
  rintro e w4 ⟨rfl, hb4⟩
  have hr4 := hr3.step hb4
  have ho24 := ho2.step hb4
  have HB4 := Lib.hid (below_step HB3.out hb4)
  clear hb4
  go_wp2_with fail
  refine (c_rGet k f A n c xs _ _ hr4 (by omega) hx).mono ?_
  rintro e w5 ⟨rfl, rfl⟩
  go_wp2_with fail
  refine (c_Put k f A2 n c2 xs _ v ho24 (by omega) hx hv.1 (by omega)).mono ?_
  rintro e w5 ⟨v5, rfl, hO5, hb5⟩
  obtain ⟨A5, c5, rfl, hc5, hs5⟩ := own_reads hO5
  have hr5 := hr4.step hb5
  have HB5 := Lib.hid (below_step HB4.out hb5)
  clear hb5 hO5
  go_wp2_with fail
  refine (c_rPut k f A n c xs _ v hr5 (by omega) hx hv.1 (by omega)).mono ?_
  rintro e w6 ⟨v6, rfl, hO6, hb6⟩
  obtain ⟨A6, c6, rfl, hc6, hs6⟩ := own_reads hO6
  have hs56 := hs5.step hb6
  have HB6 := Lib.hid (below_step HB5.out hb6)
  have hlen := pans_len k f n xs v
  have hxl : xs.length = n := by simpa using hrd.1
  have hlen2 : (pans k f n xs v).length ≤ 140737488351232 := by omega
  clear hlen hxl
  clear hb6 hO6
  generalize pans k f n xs v = ys at *
  go_wp2_with fail
  refine (c_same _ _ _ _ _ _ ys ys _ w6.heap.size hs56 hs6 hlen2).mono ?_
  rintro e w7 ⟨rfl, hb7⟩
  rw [decide_eq_true rfl]
  go_wp2
  go_ret
  exact ⟨rfl, below_step HB6.out hb7⟩
end Go.Proofs.Ytbpbokcglicggaa
