/- Walk of a line's reader: the whole line (reader.read). Conditions: lengths within the reach; the library's two errors as laid. -/
import Derived.Test.YtmnkdkibhchglaaGreatDoorTm
import Derived.WalkMore
import Derived.ScopeJumps
namespace Go.Proofs.YtmnkdkibhchglaaGreatDoor
open Go.RowKit
set_option linter.unusedVariables false
attribute [local go_sem ↓] Go.wp_at_zero Go.wp_at_succ

theorem wayAt_spec {s : ByteArray} {i : Nat} (h : wayAt s i ≠ 0) : 1 ≤ wayAt s i ∧ wayAt s i ≤ 4 ∧ wayB s i (wayAt s i) = true := by
  unfold wayAt at h ⊢
  by_cases h1 : wayB s i 1 = true
  · simp [h1]
  by_cases h2 : wayB s i 2 = true
  · simp [h1, h2]
  by_cases h3 : wayB s i 3 = true
  · simp [h1, h2, h3]
  by_cases h4 : wayB s i 4 = true
  · simp [h1, h2, h3, h4]
  · simp [h1, h2, h3, h4] at h
theorem wayB_lt {s : ByteArray} {i : Nat} {a : Int} (h : wayB s i a = true) : i + (swrd a).length < s.size ∧ (s.data.toList[i + (swrd a).length]? = some 32 ∨ s.data.toList[i + (swrd a).length]? = some 45) := by
  unfold wayB at h
  simp only [Bool.and_eq_true, Bool.or_eq_true, beq_iff_eq] at h
  refine ⟨?_, h.2⟩
  rcases Nat.lt_or_ge (i + (swrd a).length) s.size with h1 | h1
  · exact h1
  · rw [ba_none s _ h1] at h
    rcases h.2 with h2 | h2 <;> cases h2
theorem okB_two {s : ByteArray} {i : Nat} : okB s ⟨#[32, 42]⟩ i = (decide (s.data.toList[i]? = some 32) || decide (s.data.toList[i]? = some 42)) := by
  unfold okB
  cases s.data.toList[i]? with
  | none => rfl
  | some c =>
    show [(32 : UInt8), 42].contains c = _
    by_cases h : c = 32 <;> by_cases h' : c = 42 <;> simp [h, h']
theorem Tail.base {w w1 w' : World} {b : Nat} {s : ByteArray} {mk : Bool} {x : Value} {r : Nat ⊕ Sm} (h : Tail w1 w' b s mk x r) (hz : w.heap.size ≤ w1.heap.size) : Tail w w' b s mk x r := by
  cases r with
  | inl j => exact FltE.base h hz
  | inr e =>
    obtain ⟨h1, j, A, c, h2, h3⟩ := h
    exact ⟨h1, j, A, c, h2, own_base h3 hz⟩
section
variable {s : ByteArray} {i N M : Nat} {p : Int} {mk : Bool} {nm : List UInt8}
theorem bare_1 (hN : hexN s i = N) (hM : smost p = M) (h : 2 * M < N) : bareS s i p mk = .inl (i + 2 * M) := by unfold bareS; rw [hN, hM, if_pos h]
theorem bare_2 (hN : hexN s i = N) (hM : smost p = M) (h : ¬ 2 * M < N) (h2 : N = 0 ∨ N % 2 = 1) : bareS s i p mk = .inl (i + N) := by unfold bareS; rw [hN, hM, if_neg h, if_pos h2]
theorem bare_3 (hN : hexN s i = N) (hM : smost p = M) (h : ¬ 2 * M < N) (h2 : ¬ (N = 0 ∨ N % 2 = 1)) (h3 : okB s ⟨#[32]⟩ (i + N) = false) : bareS s i p mk = .inl (i + N) := by
  unfold bareS; rw [hN, hM, if_neg h, if_neg h2, if_pos (okB_not h3)]
theorem bare_4 (hN : hexN s i = N) (hM : smost p = M) (h : ¬ 2 * M < N) (h2 : ¬ (N = 0 ∨ N % 2 = 1)) (h3 : okB s ⟨#[32]⟩ (i + N) = true) (h4 : okB s ⟨#[32, 42]⟩ (i + N + 1) = false) : bareS s i p mk = .inl (i + N + 1) := by
  rw [okB_two, Bool.or_eq_false_iff, decide_eq_false_iff_not, decide_eq_false_iff_not] at h4
  unfold bareS; rw [hN, hM, if_neg h, if_neg h2, if_neg (by rw [okB_get h3]; simp), if_pos h4]
theorem bare_5 (hN : hexN s i = N) (hM : smost p = M) (h : ¬ 2 * M < N) (h2 : ¬ (N = 0 ∨ N % 2 = 1)) (h3 : okB s ⟨#[32]⟩ (i + N) = true) (h4 : okB s ⟨#[32, 42]⟩ (i + N + 1) = true) (h5 : nmS mk (s.extract (i + N + 2) s.size) = none) : bareS s i p mk = .inl (i + N + 2) := by
  rw [okB_two, Bool.or_eq_true, decide_eq_true_eq, decide_eq_true_eq] at h4
  unfold bareS; rw [hN, hM, if_neg h, if_neg h2, if_neg (by rw [okB_get h3]; simp), if_neg (by intro hh; rcases h4 with k | k; exact hh.1 k; exact hh.2 k), h5]
theorem bare_6 (hN : hexN s i = N) (hM : smost p = M) (h : ¬ 2 * M < N) (h2 : ¬ (N = 0 ∨ N % 2 = 1)) (h3 : okB s ⟨#[32]⟩ (i + N) = true) (h4 : okB s ⟨#[32, 42]⟩ (i + N + 1) = true) (h5 : nmS mk (s.extract (i + N + 2) s.size) = some nm) :
    bareS s i p mk = .inr ⟨p, ⟨nm.toArray⟩, uhp ((s.data.toList.drop i).take N), s.data.toList[i + N + 1]? == some 42⟩ := by
  rw [okB_two, Bool.or_eq_true, decide_eq_true_eq, decide_eq_true_eq] at h4
  unfold bareS; rw [hN, hM, if_neg h, if_neg h2, if_neg (by rw [okB_get h3]; simp), if_neg (by intro hh; rcases h4 with k | k; exact hh.1 k; exact hh.2 k), h5]
end
set_option maxRecDepth 100000 in
set_option maxHeartbeats 16000000 in
theorem c_read (s : ByteArray) (b : Nat) (p : Int) (w : World) (hB : Blk w b 69 (rdC s 0 false 0 ⟨#[]⟩ none 0 0 false)) (hs : s.size ≤ 1000000) (he : Errs w) (hb6 : 6 < b) :
    Calls Tryz.prog 24 #[.pointer (some ⟨b, 0, none⟩), .int .i64 p] w fun e w' => ∃ x, e = .returned x ∧ w.grownBy w' (some b) ∧ Tail w w' b s (hpB s 92) x (lineS s p) := by
  have HK := Lib.hid hB
  have hbl := hB.lt
  have HER := Lib.hid he
  have c0 : w.cell? ⟨b, 0, none⟩ = some (.string s) := hB.cell 0
  have c1 := hB.cell 1
  have c2 := hB.cell 2
  have f1 := hB.frozen 1
  have f2 := hB.frozen 2
  have hpos : hpB s 92 = true → 0 < s.size := fun h => by
    rcases Nat.eq_zero_or_pos s.size with h0 | h0
    · rw [hpB_nil h0] at h; cases h
    · exact h0
  have HP : Hid (∀ W, Calls Tryz.prog 40 #[.string s, .string ⟨#[92]⟩] W fun e w' => e = .returned (.bool (hpB s 92)) ∧ W = w') := fun W => c_hp s 92 (by omega) W
  have HL : Hid (lineS s p = if wayAt s (if hpB s 92 then 1 else 0) ≠ 0 then tggS s ((if hpB s 92 then 1 else 0) + (swrd (wayAt s (if hpB s 92 then 1 else 0))).length) (wayAt s (if hpB s 92 then 1 else 0)) (hpB s 92) else bareS s (if hpB s 92 then 1 else 0) p (hpB s 92)) := rfl
  generalize lineS s p = R at *
  generalize hmk : hpB s 92 = mk at *
  clear hmk hB he
  go_enter Tryz.func24, Tryz.ntmps24
  obtain ⟨i0, hi0⟩ : ∃ i0 : Nat, (if mk = true then 1 else 0) = i0 := ⟨_, rfl⟩
  rw [hi0] at HL
  have his : i0 ≤ s.size := by
    rw [← hi0]
    split
    · rename_i h; exact hpos h
    · exact Nat.zero_le _
  go_wp2_with fail
  refine wp_scope_jumps 0 (fun a' w' => ∃ (u9 u10 u11 u12 u13 u14 u15 u16 u17 u18 u19 u20 u21 u22 u23 u24 u25 u26 u27 u28 u29 u30 u31 u32 u33 u34 u35 : Value), a' = { tmps := List.toArray (Value.pointer (some ⟨b, 0, none⟩) :: Value.int .i64 p :: undef :: undef :: Value.nilIface :: undef :: undef :: undef :: undef :: u9 :: u10 :: u11 :: u12 :: u13 :: u14 :: u15 :: u16 :: u17 :: u18 :: u19 :: u20 :: u21 :: u22 :: u23 :: u24 :: u25 :: u26 :: u27 :: u28 :: u29 :: u30 :: u31 :: u32 :: u33 :: u34 :: u35 :: undef :: undef :: undef :: undef :: undef :: undef :: undef :: undef :: undef :: undef :: undef :: undef :: undef :: undef :: undef :: undef :: undef :: undef :: undef :: undef :: undef :: undef :: undef :: undef :: undef :: undef :: undef :: undef :: undef :: undef :: undef :: undef :: undef :: undef :: undef :: undef :: undef :: undef :: undef :: undef :: undef :: undef :: undef :: undef :: undef :: undef :: undef :: undef :: undef :: undef :: undef :: undef :: undef :: undef :: undef :: undef :: undef :: undef :: undef :: undef :: undef :: undef :: undef :: undef :: undef :: undef :: undef :: undef :: undef :: undef :: undef :: undef :: undef :: undef :: undef :: undef :: undef :: undef :: undef :: undef :: undef :: undef :: []), defers := [] } ∧ wayAt s i0 = 0 ∧ w.grownBy w' (some b) ∧ Blk w' b 69 (rdC s i0 mk 0 ⟨#[]⟩ none 0 0 false)) (fun _ _ => 0) rfl ?_ ?_
  · have HTG := Lib.hid (fun W hB hs => c_tag s i0 b mk 0 ⟨#[]⟩ none 0 0 false W hB hs his)
    have HWS := Lib.hid (wayAt_spec (s := s) (i := i0))
    generalize hwy : wayAt s i0 = wy at *
    have HWY := Lib.hid hwy
    clear hwy
    cases mk with
    | true =>
      obtain rfl : i0 = 1 := by rw [← hi0]; rfl
      have HK3 : Hid (Blk ((w.setCell ⟨b, 2, none⟩ (.bool true)).setCell ⟨b, 1, none⟩ (.int .i64 1)) b 69 (rdC s 1 true 0 ⟨#[]⟩ none 0 0 false)) := (HK.out.set_ 2 _).set_ 1 _
      have HG3 : Hid (w.grownBy ((w.setCell ⟨b, 2, none⟩ (.bool true)).setCell ⟨b, 1, none⟩ (.int .i64 1)) (some b)) := only_setCell (g := b) (only_setCell (g := b) (World.grownBy.refl w _) (.inl rfl) _) (.inl rfl) _
      have d1 : (w.setCell ⟨b, 2, none⟩ (.bool true)).cell? ⟨b, 1, none⟩ = some (.int .i64 0) := (HK.out.set_ 2 _).cell 1
      have e1 : (w.setCell ⟨b, 2, none⟩ (.bool true)).frozen? ⟨b, 1, none⟩ = false := (HK.out.set_ 2 _).frozen 1
      go_wp2_with (go_at_call 40; refine (HP.out _).mono ?_; rintro e w7 ⟨rfl, rfl⟩)
      clear d1 e1 c0 c1 c2 f1 f2 HK HP
      have HTT := Lib.hid (HTG.out ((w.setCell ⟨b, 2, none⟩ (.bool true)).setCell ⟨b, 1, none⟩ (.int .i64 1)) HK3.out hs)
      generalize ((w.setCell ⟨b, 2, none⟩ (.bool true)).setCell ⟨b, 1, none⟩ (.int .i64 1)) = w3 at *
      go_wp2_with fail
      refine HTT.out.mono ?_
      rintro e w4 ⟨rfl, hb4⟩
      have HK4 := Lib.hid (HK3.out.below hb4 HK3.out.lt)
      have HG4 : Hid (w.grownBy w4 (some b)) := Lib.grownBy_below HG3.out hb4
      have HK5 : Hid (Blk (w4.setCell ⟨b, 3, none⟩ (.int .i64 wy)) b 69 (rdC s 1 true wy ⟨#[]⟩ none 0 0 false)) := HK4.out.set_ 3 _
      have HG5 : Hid (w.grownBy (w4.setCell ⟨b, 3, none⟩ (.int .i64 wy)) (some b)) := only_setCell HG4.out (.inl rfl) _
      have k3 := HK4.out.frozen 3
      have l3 := HK4.out.cell 3
      clear hb4 HTT HTG HK3 HG3 HK4 HG4
      by_cases h0 : wy = 0
      · subst h0
        go_wp2_with fail
        go_step3
        exact ⟨rfl, _, _, _, _, _, _, _, _, _, _, _, _, _, _, _, _, _, _, _, _, _, _, _, _, _, _, _, rfl, rfl, HG5.out, HK5.out⟩
      · have t0 : (wy == 0) = false := by simpa using h0
        have hsp := HWS.out h0
        have hlt := (wayB_lt hsp.2.2).1
        rw [if_pos h0] at HL
        have HTD := Lib.hid (c_tagged s 1 b true wy 0 0 _ HK5.out hs (by omega) (HER.out.grown HG5.out (fun _ h => by injection h with h; omega)) hb6)
        clear h0 hsp HWS hlt HK5 HWY
        go_wp2_with fail
        refine HTD.out.mono ?_
        rintro e w6 ⟨x, rfl, hg6, ht6⟩
        have HG6 : Hid (w.grownBy w6 (some b)) := only_trans HG5.out hg6
        have HF : Hid (Tail w w6 b s true x R) := by
          show Tail _ _ _ _ _ _ _
          rw [HL.out]
          exact ht6.base HG5.out.size
        clear hg6 ht6 HTD
        go_wp2_with fail
        simp only [Exit.jump]
        go_ret
        exact ⟨_, rfl, HG6.out, HF.out⟩
    | false =>
      obtain rfl : i0 = 0 := by rw [← hi0]; rfl
      have HK3 := HK
      have HG3 : Hid (w.grownBy w (some b)) := World.grownBy.refl w _
      go_wp2_with (go_at_call 40; refine (HP.out _).mono ?_; rintro e w7 ⟨rfl, rfl⟩)
      clear c0 c1 c2 f1 f2 HK HP
      have HTT := Lib.hid (HTG.out w HK3.out hs)
      go_wp2_with fail
      refine HTT.out.mono ?_
      rintro e w4 ⟨rfl, hb4⟩
      have HK4 := Lib.hid (HK3.out.below hb4 HK3.out.lt)
      have HG4 : Hid (w.grownBy w4 (some b)) := Lib.grownBy_below HG3.out hb4
      have HK5 : Hid (Blk (w4.setCell ⟨b, 3, none⟩ (.int .i64 wy)) b 69 (rdC s 0 false wy ⟨#[]⟩ none 0 0 false)) := HK4.out.set_ 3 _
      have HG5 : Hid (w.grownBy (w4.setCell ⟨b, 3, none⟩ (.int .i64 wy)) (some b)) := only_setCell HG4.out (.inl rfl) _
      have k3 := HK4.out.frozen 3
      have l3 := HK4.out.cell 3
      clear hb4 HTT HTG HK3 HG3 HK4 HG4
      by_cases h0 : wy = 0
      · subst h0
        go_wp2_with fail
        go_step3
        exact ⟨rfl, _, _, _, _, _, _, _, _, _, _, _, _, _, _, _, _, _, _, _, _, _, _, _, _, _, _, _, rfl, rfl, HG5.out, HK5.out⟩
      · have t0 : (wy == 0) = false := by simpa using h0
        have hsp := HWS.out h0
        have hlt := (wayB_lt hsp.2.2).1
        rw [if_pos h0] at HL
        have HTD := Lib.hid (c_tagged s 0 b false wy 0 0 _ HK5.out hs (by omega) (HER.out.grown HG5.out (fun _ h => by injection h with h; omega)) hb6)
        clear h0 hsp HWS hlt HK5 HWY
        go_wp2_with fail
        refine HTD.out.mono ?_
        rintro e w6 ⟨x, rfl, hg6, ht6⟩
        have HG6 : Hid (w.grownBy w6 (some b)) := only_trans HG5.out hg6
        have HF : Hid (Tail w w6 b s false x R) := by
          show Tail _ _ _ _ _ _ _
          rw [HL.out]
          exact ht6.base HG5.out.size
        clear hg6 ht6 HTD
        go_wp2_with fail
        simp only [Exit.jump]
        go_ret
        exact ⟨_, rfl, HG6.out, HF.out⟩
  · rintro a' w1 ⟨u9, u10, u11, u12, u13, u14, u15, u16, u17, u18, u19, u20, u21, u22, u23, u24, u25, u26, u27, u28, u29, u30, u31, u32, u33, u34, u35, rfl, hw0, hg1, hK1⟩
    have HR0 : Hid (R = bareS s i0 p mk) := by show _ = _; rw [HL.out, if_neg (by rw [hw0]; simp)]
    have HK2 : Hid (Blk (w1.setCell ⟨b, 3, none⟩ (.int .i64 p)) b 69 (rdC s i0 mk p ⟨#[]⟩ none 0 0 false)) := hK1.set_ 3 _
    have HG2 : Hid (w.grownBy (w1.setCell ⟨b, 3, none⟩ (.int .i64 p)) (some b)) := only_setCell (g := b) hg1 (.inl rfl) _
    have l3 := hK1.cell 3
    have m3 := hK1.frozen 3
    clear HL hw0 c0 c1 c2 f1 f2 HK HP hpos hK1 hg1 hi0
    have HDG := Lib.hid (c_digits s i0 b mk p ⟨#[]⟩ none 0 0 false _ HK2.out hs his)
    have HO := Lib.hid (fun W => c_of p W)
    unfold wayV at HO
    have hNs := hexN_le s i0
    have hM64 : smost p ≤ 64 := by unfold smost; split; omega; split <;> omega
    have HB1 := Lib.hid (fun h => HR0.out.trans (bare_1 (p := p) (mk := mk) rfl rfl h))
    have HB2 := Lib.hid (fun h h2 => HR0.out.trans (bare_2 (p := p) (mk := mk) rfl rfl h h2))
    have HB3 := Lib.hid (fun h h2 h3 => HR0.out.trans (bare_3 (p := p) (mk := mk) rfl rfl h h2 h3))
    have HB4 := Lib.hid (fun h h2 h3 h4 => HR0.out.trans (bare_4 (p := p) (mk := mk) rfl rfl h h2 h3 h4))
    have HB5 := Lib.hid (fun h h2 h3 h4 h5 => HR0.out.trans (bare_5 (p := p) (mk := mk) rfl rfl h h2 h3 h4 h5))
    have HB6 := Lib.hid (fun nm h h2 h3 h4 h5 => HR0.out.trans (bare_6 (p := p) (mk := mk) (nm := nm) rfl rfl h h2 h3 h4 h5))
    have HDI := Lib.hid (fun m hi hm he W hB => c_digest s i0 b m mk p ⟨#[]⟩ none 0 0 false W hB hs hi hm he)
    clear HR0
    generalize hexN s i0 = N at *
    generalize smost p = M at *
    generalize swrd p = l at *
    generalize skind p = K at *
    generalize decide (p = 3 ∨ p = 4) = dl at *
    have hfl := fun W => fld_most (bstr l) (.int .i64 K) (.bool dl) (M : Int) W
    generalize hw2 : w1.setCell ⟨b, 3, none⟩ (.int .i64 p) = w2 at *
    go_wp2_with fail
    clear l3 m3 hw2
    refine HDG.out.mono ?_
    rintro e w3 ⟨rfl, kd, rfl⟩
    have HK3 : Hid (Blk (w2.drewN kd) b 69 (rdC s i0 mk p ⟨#[]⟩ none 0 0 false)) := HK2.out.drewN kd
    have HG3 : Hid (w.grownBy (w2.drewN kd) (some b)) := only_drewN HG2.out kd
    clear HK2 HG2 HDG
    generalize w2.drewN kd = w3 at *
    go_wp2_with fail
    refine (HO.out _).mono ?_
    rintro e w4 ⟨rfl, hb4⟩
    have HK4 := Lib.hid (HK3.out.below hb4 HK3.out.lt)
    have HG4 : Hid (w.grownBy w4 (some b)) := Lib.grownBy_below HG3.out hb4
    have hz4 : w.heap.size ≤ w4.heap.size := HG4.out.size
    have k1 : w4.cell? ⟨b, 1, none⟩ = some (.int .i64 (i0 : Int)) := HK4.out.cell 1
    clear hb4 HK3 HG3 HO
    by_cases h1 : 2 * M < N
    · have t1 : 2 * (M : Int) < (N : Int) := by omega
      have HR := Lib.hid (HB1.out h1)
      have HBD := Lib.hid (fun W => c_bad b (i0 + 2 * M) W)
      clear HB1 HB2 HB3 HB4 HB5 HB6 HDI
      go_wp2_with fail
      refine (HBD.out _).mono ?_
      rintro e w9 ⟨x, rfl, hx, hb9⟩
      have HX : Hid (FltE w9 w.heap.size x (i0 + 2 * M)) := hx.base hz4
      have HG9 : Hid (w.grownBy w9 (some b)) := Lib.grownBy_below HG4.out hb9
      clear hx hb9
      go_wp2_with fail
      simp only [Exit.jump]
      go_ret
      exact ⟨_, rfl, HG9.out, by rw [HR.out]; exact HX.out⟩
    have t1 : ¬ 2 * (M : Int) < (N : Int) := by omega
    by_cases h20 : N = 0
    · subst h20
      have HR := Lib.hid (HB2.out h1 (.inl rfl))
      have HBD := Lib.hid (fun W => c_bad b i0 W)
      clear HB1 HB2 HB3 HB4 HB5 HB6 HDI
      go_wp2_with fail
      refine (HBD.out _).mono ?_
      rintro e w9 ⟨x, rfl, hx, hb9⟩
      have HX : Hid (FltE w9 w.heap.size x i0) := hx.base hz4
      have HG9 : Hid (w.grownBy w9 (some b)) := Lib.grownBy_below HG4.out hb9
      clear hx hb9
      go_wp2_with fail
      simp only [Exit.jump]
      go_ret
      exact ⟨_, rfl, HG9.out, by rw [HR.out]; exact HX.out⟩
    have t2 : ((N : Int) == 0) = false := by simpa using h20
    by_cases h21 : N % 2 = 1
    · have t3 : ((N : Int) % 2 == 1) = true := by simp; omega
      have HR := Lib.hid (HB2.out h1 (.inr h21))
      have HBD := Lib.hid (fun W => c_bad b (i0 + N) W)
      clear HB1 HB2 HB3 HB4 HB5 HB6 HDI
      go_wp2_with fail
      refine (HBD.out _).mono ?_
      rintro e w9 ⟨x, rfl, hx, hb9⟩
      have HX : Hid (FltE w9 w.heap.size x (i0 + N)) := hx.base hz4
      have HG9 : Hid (w.grownBy w9 (some b)) := Lib.grownBy_below HG4.out hb9
      clear hx hb9
      go_wp2_with fail
      simp only [Exit.jump]
      go_ret
      exact ⟨_, rfl, HG9.out, by rw [HR.out]; exact HX.out⟩
    have t3 : ((N : Int) % 2 == 1) = false := by simp; omega
    have h2 : ¬ (N = 0 ∨ N % 2 = 1) := fun h => h.elim h20 h21
    have HB3' := Lib.hid (HB3.out h1 h2)
    have HB4' := Lib.hid (HB4.out h1 h2)
    have HB5' := Lib.hid (HB5.out h1 h2)
    have HB6' := Lib.hid (fun nm => HB6.out nm h1 h2)
    have HD := Lib.hid (HDI.out N (by omega) (Nat.le_refl _) (by omega) w4 HK4.out)
    clear HB1 HB2 HB3 HB4 HB5 HB6 HDI HK4 k1
    generalize uhp (List.take N (List.drop i0 s.data.toList)) = U at *
    go_wp2_with fail
    refine HD.out.mono ?_
    rintro e w5 ⟨rfl, hg5, A, c, hK5, hO5⟩
    have HG5 : Hid (w.grownBy w5 (some b)) := only_trans HG4.out hg5
    have hz5 : w.heap.size ≤ w5.heap.size := HG5.out.size
    have HO5 := Lib.hid (own_base hO5 hz4)
    have his5 : i0 + N ≤ s.size := by omega
    have HM := Lib.hid (c_must s ⟨#[32]⟩ (i0 + N) b mk p ⟨#[]⟩ A U.length c false w5 hK5 hs his5)
    clear hg5 hK5 hO5 HD HG4 hz4 h1 h2 h20 h21
    go_wp2_with fail
    refine HM.out.mono ?_
    rintro e w6 ⟨x6, rfl, hg6, hcase⟩
    have HG6 : Hid (w.grownBy w6 (some b)) := only_trans HG5.out hg6
    have HO6 := Lib.hid (own_far HO5.out hg6 hbl)
    have hz6 : w.heap.size ≤ w6.heap.size := HG6.out.size
    clear HM hg6 HO5
    rcases hcase with ⟨hok, rfl, hK6⟩ | ⟨hok, hflt⟩
    case inr =>
      have HR := Lib.hid (HB3'.out hok)
      have HF : Hid (FltE w6 w.heap.size x6 (i0 + N)) := hflt.base hz5
      clear hflt hok
      obtain ⟨F, rfl, hF1, hF2⟩ := HF.out
      clear hF1 hF2
      go_wp2_with fail
      simp only [Exit.jump]
      go_ret
      exact ⟨_, rfl, HG6.out, by rw [HR.out]; exact HF.out⟩
    have hjs1 := okB_lt hok
    have HB4 := Lib.hid (HB4'.out hok)
    have HB5 := Lib.hid (HB5'.out hok)
    have HB6 := Lib.hid (fun nm => HB6'.out nm hok)
    have HM := Lib.hid (c_must s ⟨#[32, 42]⟩ (i0 + N + 1) b mk p ⟨#[]⟩ A U.length c false w6 hK6 hs hjs1)
    clear hok hK6 hz5 HG5 HB3' HB4' HB5' HB6'
    go_wp2_with fail
    refine HM.out.mono ?_
    rintro e w7 ⟨x7, rfl, hg7, hcase⟩
    have HG7 : Hid (w.grownBy w7 (some b)) := only_trans HG6.out hg7
    have HO7 := Lib.hid (own_far HO6.out hg7 hbl)
    have hz7 : w.heap.size ≤ w7.heap.size := HG7.out.size
    clear HM hg7 HO6
    rcases hcase with ⟨hok, rfl, hK7⟩ | ⟨hok, hflt⟩
    case inr =>
      have HR := Lib.hid (HB4.out hok)
      have HF : Hid (FltE w7 w.heap.size x7 (i0 + N + 1)) := hflt.base hz6
      clear hflt hok
      obtain ⟨F, rfl, hF1, hF2⟩ := HF.out
      clear hF1 hF2
      go_wp2_with fail
      simp only [Exit.jump]
      go_ret
      exact ⟨_, rfl, HG7.out, by rw [HR.out]; exact HF.out⟩
    have hjs2 := okB_lt hok
    have HB5' := Lib.hid (HB5.out hok)
    have HB6' := Lib.hid (fun nm => HB6.out nm hok)
    have hgs := ba_get s (i0 + N + 1) hjs2
    rw [hgs] at HB6'
    have b42 := u8_beq s[i0 + N + 1] 42 42 rfl
    have HSB : Hid ((some s[i0 + N + 1] == some 42) = ((s[i0 + N + 1].toNat : Int) == 42)) := by
      show _ = _
      rw [b42]
      by_cases h : s[i0 + N + 1] = 42 <;> simp [h]
    rw [HSB.out] at HB6'
    clear HB4 HB5 HB6 hok hz6 HG6 b42 hgs HSB
    have q0 : w7.cell? ⟨b, 0, none⟩ = some (.string s) := hK7.cell 0
    have q1 : w7.cell? ⟨b, 1, none⟩ = some (.int .i64 ((i0 + N + 2 : Nat) : Int)) := hK7.cell 1
    have q6 := hK7.cell 6
    have p6 := hK7.frozen 6
    have HK7 : Hid (Blk w7 b 69 (rdC s (i0 + N + 2) mk p ⟨#[]⟩ A U.length c false)) := hK7
    clear hK7
    generalize hP : i0 + N + 1 = P at *
    have e2 : i0 + N + 2 = P + 1 := by omega
    rw [e2] at HB5' HB6' q1 HK7
    clear hP e2 hjs1 his5
    have gA : (0 : Int) ≤ (P : Int) := by omega
    have gB : (P : Int) < (s.size : Int) := by omega
    have gW : IntKind.i64.wrap ((P : Int) + 1 - 1) = (P : Int) := by rw [IntKind.wrap_i64]; omega
    have q1' : w7.cell? ⟨b, 1, none⟩ = some (.int .i64 ((P : Int) + 1)) := q1
    generalize hbv : ((s[P].toNat : Int) == 42) = bv at *
    clear q1
    go_wp2_with fail
    go_region
    generalize hw8 : (w7.setCell ⟨b, 6, none⟩ (.bool bv)).drew = w8 at *
    have HK8 : Hid (Blk w8 b 69 (rdC s (P + 1) mk p ⟨#[]⟩ A U.length c bv)) := by rw [← hw8]; exact (HK7.out.set_ 6 _).drew
    have HG8 : Hid (w.grownBy w8 (some b)) := by rw [← hw8]; exact only_drew (only_setCell (g := b) HG7.out (.inl rfl) _)
    have HO8 : Hid (w8.ownsRow w.heap.size 5 1 (.slice A U.length c) U.length (bys U)) := by rw [← hw8]; exact (own_far HO7.out (grown_setCell w7 b 6 _) hbl).drew
    have hz8 : w.heap.size ≤ w8.heap.size := HG8.out.size
    clear hw8 HK7 HG7 HO7 q0 q1' q6 p6 hbv
    have HNM := Lib.hid (fun W (hB : Blk W b 69 (rdC s (P + 1) mk p ⟨#[]⟩ A U.length c bv)) => c_name s (s.extract (P + 1) s.size) (P + 1) b (P + 1) mk p ⟨#[]⟩ A U.length c bv W hB (by rw [ByteArray.size_extract]; omega))
    have c0 : w8.cell? ⟨b, 0, none⟩ = some (.string s) := HK8.out.cell 0
    have c1 : w8.cell? ⟨b, 1, none⟩ = some (.int .i64 ((P + 1 : Nat) : Int)) := HK8.out.cell 1
    have gC : (0 : Int) ≤ (P : Int) + 1 := by omega
    have gD : (P : Int) + 1 ≤ (s.size : Int) := by omega
    go_wp2_with fail
    go_region_held3 (fun V => V.cell? ⟨b, 0, none⟩ = some (.string s) ∧ V.cell? ⟨b, 1, none⟩ = some (.int .i64 ((P + 1 : Nat) : Int))) (first | go_keep | (refine ⟨?_, ?_⟩ <;> assumption)) ((go_at_call 47; refine (HNM.out w8.drew HK8.out.drew).mono ?_; rintro x w9 ⟨x9, rfl, hg9, ⟨nm9, hk9⟩, hcase9⟩; have d0 : w9.cell? ⟨b, 0, none⟩ = some (.string s) := hk9.cell 0; have d1 : w9.cell? ⟨b, 1, none⟩ = some (.int .i64 ((P + 1 : Nat) : Int)) := hk9.cell 1))
    rename _ ∧ _ => hh
    clear hh c0 c1 d0 d1
    have hg9' : w8.grownBy w9 (some b) := ⟨hg9.os, hg9.tape, hg9.output, hg9.size, hg9.block⟩
    have HG9 : Hid (w.grownBy w9 (some b)) := only_trans HG8.out hg9'
    have HO9 := Lib.hid (own_far HO8.out hg9' hbl)
    clear hg9 hg9' HK8 HNM hk9 HO8 HG8
    have HF : Hid (Tail w w9 b s mk x9 R) := by
      show Tail _ _ _ _ _ _ _
      rcases hcase9 with ⟨y, hy, rfl, hK9⟩ | ⟨hno, hflt⟩
      · rw [HB6'.out y hy]
        exact Tail.ok ⟨p, ⟨y.toArray⟩, U, bv⟩ hK9 HO9.out
      · rw [HB5'.out hno]
        exact hflt.base hz8
    clear hcase9 HO9 HB5' HB6'
    go_wp2_with fail
    simp only [Exit.jump]
    go_ret
    exact ⟨_, rfl, HG9.out, HF.out⟩
end Go.Proofs.YtmnkdkibhchglaaGreatDoor
