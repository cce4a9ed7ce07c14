/- Walk of the reference: a line read (quernref26.Read). Conditions: lengths within the reach. -/
import Derived.Test.YtmnkdkibhchglaaGreatDoorTq
namespace Go.Proofs.YtmnkdkibhchglaaGreatDoor
open Go.RowKit
set_option linter.unusedVariables false
attribute [local go_sem ↓] Go.wp_at_zero Go.wp_at_succ

theorem hpB_beg (s : ByteArray) : begB s 0 [92] = hpB s 92 := by
  unfold begB hpB
  rw [List.drop_zero]
  cases s.data.toList with
  | nil => rfl
  | cons c l => simp [List.isPrefixOf]; rw [Bool.beq_comm]
theorem own_keepR {w w' : World} {B n : Nat} {v : Value} {xs : List Value} {row : Option Nat} (h : w.ownsRow B 5 1 v n xs) (hg : w.grownBy w' row) (hr : ∀ g, row = some g → g < B) : w'.ownsRow B 5 1 v n xs := by
  cases row with
  | none => exact h.kept hg (by
      cases hv : v.ownBlock with
      | none => exact .inl rfl
      | some k => exact .inr (by simp))
  | some g => exact own_far h hg (hr g rfl)
set_option maxRecDepth 100000 in
set_option maxHeartbeats 16000000 in
theorem c_rRead (s : ByteArray) (p : Int) (w : World) (hs0 : s.size ≤ 140737488351232) :
    Calls Tryz.prog 15 #[.string s, .int .i64 p] w (OutS w (rdA s p).1 (rdA s p).2.1 (rdA s p).2.2) := by
  have HMO : Hid (∀ W, Calls Tryz.prog 13 #[.int .i64 p] W fun x w' => x = .returned (.int .i64 (smost p : Nat)) ∧ W = w') := fun W => c_rMost p W
  have hM64 : smost p ≤ 64 := by unfold smost; split; omega; split <;> omega
  have hRA : rdA s p = if smost p = 0 then (smN, 0, (1 : Int)) else if 16384 < s.size then (smN, 0, (2 : Int)) else match lineS s p with | .inl i => (smN, i, (4 : Int)) | .inr e => (e, 0, (0 : Int)) := rfl
  have HB0 := Lib.hid (Blk.new w 33 smZ)
  have HBL := Lib.hid ((Below.refl w.heap.size w).alloc (Nat.le_refl _) (.cells smZ 33))
  have HFI0 : Hid (∀ (i : Nat) (er : Int) w', Below w.heap.size w w' → OutS w smN i er (.returned (.tuple #[.agg smZ, .int .i64 (i : Int), .int .i64 er])) w') := fun i er w' hb => OutS.none_ hb
  by_cases h0 : smost p = 0
  · rw [if_pos h0] at hRA
    rw [hRA]
    rw [h0] at HMO
    clear hRA h0 hM64
    go_enter Tryz.func15, Tryz.ntmps15
    go_wp2_with (first | (go_at_call 13; refine (HMO.out _).mono ?_; rintro e w7 ⟨rfl, rfl⟩) | (refine wpList_storeB rfl 33 (.tmp 4) (.tmp 16) rfl rfl w.heap.size smZ rfl rfl HB0.out (by kernel_rfl) rfl rfl ?_; intro w3 hB3 hg3 hz3))
    exact bodyPost_ret (results_cell_tmp2B (p := 4) (u := 5) (v := 6) rfl _ hB3 _ rfl Tryz.underlying33 rfl (by kernel_rfl)) rfl (HFI0.out 0 1 _ (HBL.out.grown hg3 HBL.out.size (fun _ h => by injection h with h; omega)))
  rw [if_neg h0] at hRA
  have m0 : ((smost p : Int) == 0) = false := by simpa using h0
  by_cases h1 : 16384 < s.size
  · rw [if_pos h1] at hRA
    rw [hRA]
    have t1 : (16384 : Int) < (s.size : Int) := by omega
    clear hRA h0 hM64
    generalize smost p = M at *
    go_enter Tryz.func15, Tryz.ntmps15
    go_wp2_with (first | (go_at_call 13; refine (HMO.out _).mono ?_; rintro e w7 ⟨rfl, rfl⟩) | (refine wpList_storeB rfl 33 (.tmp 4) (.tmp 20) rfl rfl w.heap.size smZ rfl rfl HB0.out (by kernel_rfl) rfl rfl ?_; intro w3 hB3 hg3 hz3))
    exact bodyPost_ret (results_cell_tmp2B (p := 4) (u := 5) (v := 6) rfl _ hB3 _ rfl Tryz.underlying33 rfl (by kernel_rfl)) rfl (HFI0.out 0 2 _ (HBL.out.grown hg3 HBL.out.size (fun _ h => by injection h with h; omega)))
  rw [if_neg h1] at hRA
  have t1 : ¬ (16384 : Int) < (s.size : Int) := by omega
  have hs : s.size ≤ 1000000 := by omega
  have HL : Hid (lineS s p = if wayAt s (if hpB s 92 then 1 else 0) ≠ 0 then tggS s ((if hpB s 92 then 1 else 0) + (swrd (wayAt s (if hpB s 92 then 1 else 0))).length) (wayAt s (if hpB s 92 then 1 else 0)) (hpB s 92) else bareS s (if hpB s 92 then 1 else 0) p (hpB s 92)) := rfl
  have hpos : hpB s 92 = true → 0 < s.size := fun h => by
    rcases Nat.eq_zero_or_pos s.size with h0 | h0
    · rw [hpB_nil h0] at h; cases h
    · exact h0
  have HBG : Hid (∀ W, Calls Tryz.prog 26 #[.string s, .int .i64 0, .string ⟨#[92]⟩] W fun e w' => e = .returned (.bool (hpB s 92)) ∧ W = w') := fun W => by
    have := c_begins s ⟨#[92]⟩ 0 hs (by show 1 ≤ _; omega) (Nat.zero_le _) W
    rw [show begB s 0 (⟨#[92]⟩ : ByteArray).data.toList = hpB s 92 from hpB_beg s] at this
    exact this.mono fun _ _ ⟨h1, h2⟩ => ⟨h1, h2.symm⟩
  obtain ⟨mk, hmk⟩ : ∃ mk, hpB s 92 = mk := ⟨_, rfl⟩
  obtain ⟨i0, hi0⟩ : ∃ i0 : Nat, (if mk = true then 1 else 0) = i0 := ⟨_, rfl⟩
  rw [hmk] at HL HBG hpos
  rw [hi0] at HL
  have his : i0 ≤ s.size := by
    rw [← hi0]
    split
    · rename_i h; exact hpos h
    · exact Nat.zero_le _
  have HI0 := Lib.hid hi0
  clear hmk h0 h1 hpos hi0
  generalize rdA s p = RA at *
  generalize lineS s p = R at *
  have HFIN : Hid (∀ (i : Nat) w', R = .inl i → Below w.heap.size w w' → OutS w RA.1 RA.2.1 RA.2.2 (.returned (.tuple #[.agg smZ, .int .i64 (i : Int), .int .i64 4])) w') := fun i w' h hb => by
    subst h
    rw [hRA]
    exact HFI0.out i 4 w' hb
  have HOUT : Hid (∀ (e : Sm) (D : Option Addr) (c : Nat) w', R = .inr e → w'.ownsRow w.heap.size 5 1 (.slice D e.dg.length c) e.dg.length (bys e.dg) → Below w.heap.size w w' → OutS w RA.1 RA.2.1 RA.2.2 (.returned (.tuple #[smV e D e.dg.length c, .int .i64 0, .int .i64 0])) w') := fun e D c w' h h1 h2 => by
    subst h
    rw [hRA]
    exact ⟨D, c, rfl, h1, h2⟩
  have HRA := Lib.hid hRA
  have HOUTG : Hid (∀ (e : Sm) (i : Nat) (er : Int) (D : Option Addr) (c : Nat) w', RA = (e, i, er) → w'.ownsRow w.heap.size 5 1 (.slice D e.dg.length c) e.dg.length (bys e.dg) → Below w.heap.size w w' → OutS w RA.1 RA.2.1 RA.2.2 (.returned (.tuple #[smV e D e.dg.length c, .int .i64 (i : Int), .int .i64 er])) w') := fun e i er D c w' h h1 h2 => by
    subst h
    exact ⟨D, c, rfl, h1, h2⟩
  clear hRA HFI0
  have HTG : Hid (∀ W, Calls Tryz.prog 27 #[.string s, .int .i64 (i0 : Int)] W fun e w' => e = .returned (.int .i64 (wayAt s i0)) ∧ W = w') := fun W => (c_rtag s i0 hs his W).mono fun _ _ ⟨h1, h2⟩ => ⟨h1, h2.symm⟩
  have HTD := Lib.hid (fun (a : Int) (h1 : 1 ≤ a) (h4 : a ≤ 4) (i : Nat) (hi : i < s.size) W => c_rtagged s i a mk hs h1 h4 hi W)
  have HWD := Lib.hid (fun (a : Int) (h1 : 1 ≤ a) (h4 : a ≤ 4) W => c_rword a (smost_pos h1 h4) W)
  have HWS := Lib.hid (wayAt_spec (s := s) (i := i0))
  have hNs := hexN_le s i0
  have HB1 := Lib.hid (fun h => bare_1 (s := s) (i := i0) (p := p) (mk := mk) rfl rfl h)
  have HB2 := Lib.hid (fun h h2 => bare_2 (s := s) (i := i0) (p := p) (mk := mk) rfl rfl h h2)
  have HB3 := Lib.hid (fun h h2 h3 => bare_3 (s := s) (i := i0) (p := p) (mk := mk) rfl rfl h h2 h3)
  have HB4 := Lib.hid (fun h h2 h3 h4 => bare_4 (s := s) (i := i0) (p := p) (mk := mk) rfl rfl h h2 h3 h4)
  have HB5 := Lib.hid (fun h h2 h3 h4 h5 => bare_5 (s := s) (i := i0) (p := p) (mk := mk) rfl rfl h h2 h3 h4 h5)
  have HB6 := Lib.hid (fun nm h h2 h3 h4 h5 => bare_6 (s := s) (i := i0) (p := p) (mk := mk) (nm := nm) rfl rfl h h2 h3 h4 h5)
  have HHX : Hid (∀ W, Calls Tryz.prog 30 #[.string s, .int .i64 (i0 : Int)] W fun e w' => e = .returned (.int .i64 (hexN s i0 : Nat)) ∧ W = w') := fun W => (c_hexes s i0 hs his W).mono fun _ _ ⟨h1, h2⟩ => ⟨h1, h2.symm⟩
  have HBY := Lib.hid (fun (m : Nat) (hi : i0 + m ≤ s.size) (hm : m ≤ hexN s i0) (he : m % 2 = 0) W => c_bytes (s.extract i0 (i0 + m)) (by rw [ByteArray.size_extract]; omega) (by rw [ByteArray.size_extract]; omega) (ext_hex (s := s) (i := i0) (n := m) hi hm) W)
  generalize wayAt s i0 = wy at *
  go_enter Tryz.func15, Tryz.ntmps15
  go_upto_if 23 with (first | (go_at_call 13; refine (HMO.out _).mono ?_; rintro e w7 ⟨rfl, rfl⟩) | (go_at_call 26; refine (HBG.out _).mono ?_; rintro e w7 ⟨rfl, rfl⟩))
  generalize hw2 : w.alloc (.cells #[.int .i64 0, .string ⟨#[]⟩, .slice none 0 0, .bool false] 33) = w2 at *
  clear hw2
  go_cut [7] (fun v7 wx => v7 = .int .i64 (i0 : Int) ∧ w2 = wx)
  case first =>
    have hi0 := HI0.out
    cases mk with
    | true =>
      obtain rfl : i0 = 1 := by rw [← hi0]; rfl
      go_wp2_with fail
      go_meet
      exact ⟨rfl, rfl⟩
    | false =>
      obtain rfl : i0 = 0 := by rw [← hi0]; rfl
      go_wp2_with fail
      go_meet
      exact ⟨rfl, rfl⟩
  case rest =>
    obtain ⟨rfl, rfl⟩ := hcut
    by_cases hw0 : wy = 0
    · subst hw0
      have hR : R = bareS s i0 p mk := by rw [HL.out, if_neg (by simp)]
      have HR0 := Lib.hid hR
      clear HTD HWD HL HWS hR
      generalize hN : hexN s i0 = N at *
      have HN := Lib.hid hN
      clear hN
      generalize hM : smost p = M at *
      clear hM
      by_cases h1 : 2 * M < N
      · have t1 : 2 * (M : Int) < (N : Int) := by omega
        have HR : Hid (R = .inl (i0 + 2 * M)) := HR0.out.trans (HB1.out h1)
        clear HB1 HB2 HB3 HB4 HB5 HB6 HBY HR0
        go_wp2_with (first | (go_at_call 27; refine (HTG.out _).mono ?_; rintro e w7 ⟨rfl, rfl⟩) | (go_at_call 30; refine (HHX.out _).mono ?_; rintro e w7 ⟨rfl, rfl⟩) | (go_at_call 13; refine (HMO.out _).mono ?_; rintro e w7 ⟨rfl, rfl⟩) | (refine wpList_storeB rfl 33 (.tmp 4) (.tmp 50) rfl rfl w.heap.size smZ rfl rfl HB0.out (by kernel_rfl) rfl rfl ?_; intro w3 hB3 hg3 hz3))
        exact bodyPost_ret (results_cell_tmp2B (p := 4) (u := 5) (v := 6) rfl _ hB3 _ rfl Tryz.underlying33 rfl (by kernel_rfl)) rfl (HFIN.out (i0 + 2 * M) _ HR.out (HBL.out.grown hg3 HBL.out.size (fun _ h => by injection h with h; omega)))
      have t1 : ¬ 2 * (M : Int) < (N : Int) := by omega
      by_cases h20 : N = 0
      · subst h20
        have HR : Hid (R = .inl i0) := HR0.out.trans (HB2.out h1 (.inl rfl))
        clear HB1 HB2 HB3 HB4 HB5 HB6 HBY HR0
        go_wp2_with (first | (go_at_call 27; refine (HTG.out _).mono ?_; rintro e w7 ⟨rfl, rfl⟩) | (go_at_call 30; refine (HHX.out _).mono ?_; rintro e w7 ⟨rfl, rfl⟩) | (go_at_call 13; refine (HMO.out _).mono ?_; rintro e w7 ⟨rfl, rfl⟩) | (refine wpList_storeB rfl 33 (.tmp 4) (.tmp 64) rfl rfl w.heap.size smZ rfl rfl HB0.out (by kernel_rfl) rfl rfl ?_; intro w3 hB3 hg3 hz3))
        exact bodyPost_ret (results_cell_tmp2B (p := 4) (u := 5) (v := 6) rfl _ hB3 _ rfl Tryz.underlying33 rfl (by kernel_rfl)) rfl (HFIN.out i0 _ HR.out (HBL.out.grown hg3 HBL.out.size (fun _ h => by injection h with h; omega)))
      have t2 : ((N : Int) == 0) = false := by simpa using h20
      by_cases h21 : N % 2 = 1
      · have t3 : ((N : Int) % 2 == 1) = true := by simp; omega
        have HR : Hid (R = .inl (i0 + N)) := HR0.out.trans (HB2.out h1 (.inr h21))
        clear HB1 HB2 HB3 HB4 HB5 HB6 HBY HR0
        go_wp2_with (first | (go_at_call 27; refine (HTG.out _).mono ?_; rintro e w7 ⟨rfl, rfl⟩) | (go_at_call 30; refine (HHX.out _).mono ?_; rintro e w7 ⟨rfl, rfl⟩) | (go_at_call 13; refine (HMO.out _).mono ?_; rintro e w7 ⟨rfl, rfl⟩) | (refine wpList_storeB rfl 33 (.tmp 4) (.tmp 64) rfl rfl w.heap.size smZ rfl rfl HB0.out (by kernel_rfl) rfl rfl ?_; intro w3 hB3 hg3 hz3))
        exact bodyPost_ret (results_cell_tmp2B (p := 4) (u := 5) (v := 6) rfl _ hB3 _ rfl Tryz.underlying33 rfl (by kernel_rfl)) rfl (HFIN.out (i0 + N) _ HR.out (HBL.out.grown hg3 HBL.out.size (fun _ h => by injection h with h; omega)))
      have t3 : ((N : Int) % 2 == 1) = false := by simp; omega
      have h2 : ¬ (N = 0 ∨ N % 2 = 1) := fun h => h.elim h20 h21
      have HB3 := Lib.hid (fun h3 => HR0.out.trans (HB3.out h1 h2 h3))
      have HB4 := Lib.hid (fun h3 h4 => HR0.out.trans (HB4.out h1 h2 h3 h4))
      have HB5 := Lib.hid (fun h3 h4 h5 => HR0.out.trans (HB5.out h1 h2 h3 h4 h5))
      have HB6 := Lib.hid (fun nm h3 h4 h5 => HR0.out.trans (HB6.out nm h1 h2 h3 h4 h5))
      have hBY := HBY.out N (by omega) (Nat.le_refl _) (by omega)
      rw [ext_list] at hBY
      have HY := Lib.hid hBY
      clear HB1 HB2 HBY hBY HR0 h1 h2 h20 h21
      generalize uhp (List.take N (List.drop i0 s.data.toList)) = U at *
      have g1 : (0 : Int) ≤ (i0 : Int) := by omega
      have g2 : (i0 : Int) ≤ (i0 : Int) + (N : Int) := by omega
      have g3 : (i0 : Int) + (N : Int) ≤ (s.size : Int) := by omega
      go_wp2_with (first | (go_at_call 27; refine (HTG.out _).mono ?_; rintro e w7 ⟨rfl, rfl⟩) | (go_at_call 30; refine (HHX.out _).mono ?_; rintro e w7 ⟨rfl, rfl⟩) | (go_at_call 13; refine (HMO.out _).mono ?_; rintro e w7 ⟨rfl, rfl⟩))
      have hw23 : w.heap.size < w2.heap.size := HB0.out.lt
      refine (HY.out w2).mono ?_
      rintro ev w3 ⟨A, c, rfl, ho, hb⟩
      have HO3 := Lib.hid ho
      have HB0 := Lib.hid (HB0.out.below hb HB0.out.lt)
      have HBL := Lib.hid (below_step HBL.out hb)
      have hw3 : w.heap.size < w3.heap.size := HB0.out.lt
      clear ho hb
      have HE4 := Lib.hid (Blk.new w3 33 #[.int .i64 p, .string ⟨#[]⟩, .slice A U.length c, .bool false])
      have HX4 := Lib.hid ((Below.refl w3.heap.size w3).alloc (Nat.le_refl _) (.cells #[.int .i64 p, .string ⟨#[]⟩, .slice A U.length c, .bool false] 33))
      have HB03 := HB0
      have HBL3 := HBL
      have HB0 := Lib.hid (HB0.out.alloc (.cells #[.int .i64 p, .string ⟨#[]⟩, .slice A U.length c, .bool false] 33))
      have HBL := Lib.hid (HBL.out.alloc HBL.out.size (.cells #[.int .i64 p, .string ⟨#[]⟩, .slice A U.length c, .bool false] 33))
      by_cases hlt : i0 + N < s.size
      case neg =>
        have t4 : (s.size : Int) ≤ (i0 : Int) + (N : Int) := by omega
        have HR := Lib.hid (HB3.out (okB_out (by omega)))
        clear HB3 HB4 HB5 HB6
        go_wp2_with (first | (go_at_call 27; refine (HTG.out _).mono ?_; rintro e w7 ⟨rfl, rfl⟩) | (go_at_call 30; refine (HHX.out _).mono ?_; rintro e w7 ⟨rfl, rfl⟩) | (go_at_call 13; refine (HMO.out _).mono ?_; rintro e w7 ⟨rfl, rfl⟩) | (refine wpList_storeB rfl 33 (.tmp 4) (.tmp 90) rfl rfl w.heap.size smZ rfl rfl HB0.out (by kernel_rfl) rfl rfl ?_; intro w3 hB3 hg3 hz3))
        exact bodyPost_ret (results_cell_tmp2B (p := 4) (u := 5) (v := 6) rfl _ hB3 _ rfl Tryz.underlying33 rfl (by kernel_rfl)) rfl (HFIN.out (i0 + N) _ HR.out (HBL.out.grown hg3 HBL.out.size (fun _ h => by injection h with h; omega)))
      have t4 : ¬ (s.size : Int) ≤ (i0 : Int) + (N : Int) := by omega
      have b32 := u8_beq s[i0 + N] 32 32 rfl
      by_cases h32 : s[i0 + N] = 32
      case neg =>
        rw [decide_eq_false h32] at b32
        have c32 : ((s[i0 + N].toNat : Int) != 32) = true := by show (!_) = _; rw [b32]; rfl
        have HR := Lib.hid (HB3.out (by rw [okB_some, ba_get s _ hlt, decide_eq_false_iff_not]; intro h; exact h32 (Option.some.inj h)))
        clear HB3 HB4 HB5 HB6 h32
        go_wp2_with (first | (go_at_call 27; refine (HTG.out _).mono ?_; rintro e w7 ⟨rfl, rfl⟩) | (go_at_call 30; refine (HHX.out _).mono ?_; rintro e w7 ⟨rfl, rfl⟩) | (go_at_call 13; refine (HMO.out _).mono ?_; rintro e w7 ⟨rfl, rfl⟩) | (refine wpList_storeB rfl 33 (.tmp 4) (.tmp 90) rfl rfl w.heap.size smZ rfl rfl HB0.out (by kernel_rfl) rfl rfl ?_; intro w3 hB3 hg3 hz3))
        exact bodyPost_ret (results_cell_tmp2B (p := 4) (u := 5) (v := 6) rfl _ hB3 _ rfl Tryz.underlying33 rfl (by kernel_rfl)) rfl (HFIN.out (i0 + N) _ HR.out (HBL.out.grown hg3 HBL.out.size (fun _ h => by injection h with h; omega)))
      rw [decide_eq_true h32] at b32
      have c32 : ((s[i0 + N].toNat : Int) != 32) = false := by show (!_) = _; rw [b32]; rfl
      have hok : okB s ⟨#[32]⟩ (i0 + N) = true := by rw [okB_some, ba_get s _ hlt, decide_eq_true_eq, h32]
      have HB4 := Lib.hid (HB4.out hok)
      have HB5 := Lib.hid (HB5.out hok)
      have HB6 := Lib.hid (fun nm => HB6.out nm hok)
      clear HB3 hok h32
      by_cases hlt2 : i0 + N + 1 < s.size
      case neg =>
        have t5 : (s.size : Int) ≤ (i0 : Int) + (N : Int) + 1 := by omega
        have HR := Lib.hid (HB4.out (okB_out (by omega)))
        clear HB4 HB5 HB6
        go_wp2_with (first | (go_at_call 27; refine (HTG.out _).mono ?_; rintro e w7 ⟨rfl, rfl⟩) | (go_at_call 30; refine (HHX.out _).mono ?_; rintro e w7 ⟨rfl, rfl⟩) | (go_at_call 13; refine (HMO.out _).mono ?_; rintro e w7 ⟨rfl, rfl⟩) | (refine wpList_storeB rfl 33 (.tmp 4) (.tmp 110) rfl rfl w.heap.size smZ rfl rfl HB0.out (by kernel_rfl) rfl rfl ?_; intro w3 hB3 hg3 hz3))
        exact bodyPost_ret (results_cell_tmp2B (p := 4) (u := 5) (v := 6) rfl _ hB3 _ rfl Tryz.underlying33 rfl (by kernel_rfl)) rfl (HFIN.out (i0 + N + 1) _ HR.out (HBL.out.grown hg3 HBL.out.size (fun _ h => by injection h with h; omega)))
      have t5 : ¬ (s.size : Int) ≤ (i0 : Int) + (N : Int) + 1 := by omega
      have d32 := u8_beq s[i0 + N + 1] 32 32 rfl
      have d42 := u8_beq s[i0 + N + 1] 42 42 rfl
      have hgs := ba_get s (i0 + N + 1) hlt2
      by_cases h5 : s[i0 + N + 1] = 32 ∨ s[i0 + N + 1] = 42
      case neg =>
        rw [decide_eq_false (fun h => h5 (.inl h))] at d32
        rw [decide_eq_false (fun h => h5 (.inr h))] at d42
        have n32 : ((s[i0 + N + 1].toNat : Int) != 32) = true := by show (!_) = _; rw [d32]; rfl
        have n42 : ((s[i0 + N + 1].toNat : Int) != 42) = true := by show (!_) = _; rw [d42]; rfl
        have HR := Lib.hid (HB4.out (by
          rw [okB_two, hgs, Bool.or_eq_false_iff, decide_eq_false_iff_not, decide_eq_false_iff_not]
          exact ⟨fun h => h5 (.inl (Option.some.inj h)), fun h => h5 (.inr (Option.some.inj h))⟩))
        clear HB4 HB5 HB6 h5 hgs
        go_wp2_with (first | (go_at_call 27; refine (HTG.out _).mono ?_; rintro e w7 ⟨rfl, rfl⟩) | (go_at_call 30; refine (HHX.out _).mono ?_; rintro e w7 ⟨rfl, rfl⟩) | (go_at_call 13; refine (HMO.out _).mono ?_; rintro e w7 ⟨rfl, rfl⟩) | (refine wpList_storeB rfl 33 (.tmp 4) (.tmp 110) rfl rfl w.heap.size smZ rfl rfl HB0.out (by kernel_rfl) rfl rfl ?_; intro w3 hB3 hg3 hz3))
        exact bodyPost_ret (results_cell_tmp2B (p := 4) (u := 5) (v := 6) rfl _ hB3 _ rfl Tryz.underlying33 rfl (by kernel_rfl)) rfl (HFIN.out (i0 + N + 1) _ HR.out (HBL.out.grown hg3 HBL.out.size (fun _ h => by injection h with h; omega)))
      have hok2 : okB s ⟨#[32, 42]⟩ (i0 + N + 1) = true := by
        rw [okB_two, hgs, Bool.or_eq_true, decide_eq_true_eq, decide_eq_true_eq]
        rcases h5 with h | h
        · exact .inl (by rw [h])
        · exact .inr (by rw [h])
      have HB5 := Lib.hid (HB5.out hok2)
      have HB6 := Lib.hid (fun nm => HB6.out nm hok2)
      obtain ⟨bv, hbv⟩ : ∃ bv, decide (s[i0 + N + 1] = 42) = bv := ⟨_, rfl⟩
      have hst : (s.data.toList[i0 + N + 1]? == some 42) = bv := by
        rw [hgs, ← hbv]
        by_cases h : s[i0 + N + 1] = 42 <;> simp [h]
      rw [hst] at HB6
      rw [hbv] at d42
      have hnn : bv = false → ((s[i0 + N + 1].toNat : Int) != 32) = false := fun h => by
        show (!_) = _
        rw [d32]
        rcases h5 with h' | h'
        · rw [decide_eq_true h']; rfl
        · rw [h, h', decide_eq_true rfl] at hbv; cases hbv
      have HNN := Lib.hid hnn
      clear HB4 hok2 h5 hgs hst hbv hnn d32
      cases bv with
      | false =>
        have n32 := HNN.out rfl
        clear HNN
        have m3 := HE4.out.cell 3
        have n3 := HE4.out.frozen 3
        go_wp2_with (first | (go_at_call 27; refine (HTG.out _).mono ?_; rintro e w7 ⟨rfl, rfl⟩) | (go_at_call 30; refine (HHX.out _).mono ?_; rintro e w7 ⟨rfl, rfl⟩) | (go_at_call 13; refine (HMO.out _).mono ?_; rintro e w7 ⟨rfl, rfl⟩))
        clear m3 n3
        have HE5 := Lib.hid (Blk.new w3 33 #[.int .i64 p, .string ⟨#[]⟩, .slice A U.length c, .bool false])
        have HB0 := Lib.hid (HB03.out.alloc (.cells #[.int .i64 p, .string ⟨#[]⟩, .slice A U.length c, .bool false] 33))
        have HBL := Lib.hid (HBL3.out.alloc HBL3.out.size (.cells #[.int .i64 p, .string ⟨#[]⟩, .slice A U.length c, .bool false] 33))
        have HX5 := Lib.hid ((Below.refl w3.heap.size w3).alloc (Nat.le_refl _) (.cells #[.int .i64 p, .string ⟨#[]⟩, .slice A U.length c, .bool false] 33))
        clear HE4 HX4 HB03 HBL3
        generalize w3.alloc (.cells #[.int .i64 p, .string ⟨#[]⟩, .slice A U.length c, .bool false] 33) = w5 at *
        refine (c_rname (s.extract (i0 + N + 2) s.size) mk (by rw [ByteArray.size_extract]; omega) w5).mono ?_
        rintro e w6 ⟨⟨x, rfl, hx⟩, hb6⟩
        have HE6 := Lib.hid (HE5.out.below hb6 HE5.out.lt)
        have HB0 := Lib.hid (HB0.out.below hb6 HB0.out.lt)
        have HBL := Lib.hid (below_step HBL.out hb6)
        have HX6 := Lib.hid (below_step HX5.out hb6)
        have HE7 : Hid (Blk (w6.setCell ⟨w3.heap.size, 1, none⟩ (bstr x)) w3.heap.size 33 #[.int .i64 p, bstr x, .slice A U.length c, .bool false]) := HE6.out.set_ 1 _
        have m1 := HE6.out.cell 1
        have n1 := HE6.out.frozen 1
        have HB0 := Lib.hid (HB0.out.far (p := ⟨w3.heap.size, 1, none⟩) (by show w.heap.size ≠ w3.heap.size; omega) (bstr x))
        have HBL := Lib.hid (HBL.out.setCell (p := ⟨w3.heap.size, 1, none⟩) (by show w.heap.size ≤ w3.heap.size; omega) (bstr x))
        have HX7 := Lib.hid (HX6.out.setCell (p := ⟨w3.heap.size, 1, none⟩) (Nat.le_refl _) (bstr x))
        clear hb6 HE5 HE6 HX5 HX6
        cases hnm : nmS mk (s.extract (i0 + N + 2) s.size) with
        | none =>
          have HR := Lib.hid (HB5.out hnm)
          clear HB5 HB6 hx hnm HE7 HX7
          go_wp2_with (first | (go_at_call 27; refine (HTG.out _).mono ?_; rintro e w7 ⟨rfl, rfl⟩) | (go_at_call 30; refine (HHX.out _).mono ?_; rintro e w7 ⟨rfl, rfl⟩) | (go_at_call 13; refine (HMO.out _).mono ?_; rintro e w7 ⟨rfl, rfl⟩) | (refine wpList_storeB rfl 33 (.tmp 4) (.tmp 130) rfl rfl w.heap.size smZ rfl rfl HB0.out (by kernel_rfl) rfl rfl ?_; intro w3 hB3 hg3 hz3))
          exact bodyPost_ret (results_cell_tmp2B (p := 4) (u := 5) (v := 6) rfl _ hB3 _ rfl Tryz.underlying33 rfl (by kernel_rfl)) rfl (HFIN.out (i0 + N + 2) _ HR.out (HBL.out.grown hg3 HBL.out.size (fun _ h => by injection h with h; omega)))
        | some y =>
          obtain rfl : x = y := hx y hnm
          have HR := Lib.hid (HB6.out x hnm)
          clear HB5 HB6 hx hnm
          go_wp2_with (first | (refine wpList_load_row rfl 33 (.tmp 11) rfl w3.heap.size rfl 33 _ (0, 0) _ HE7.out Tryz.underlying33 rfl (by kernel_rfl) ?_) | (refine wpList_storeB rfl 33 (.tmp 4) (.tmp 132) rfl rfl w.heap.size #[.int .i64 p, bstr x, .slice A U.length c, .bool false] rfl rfl HB0.out (by kernel_rfl) rfl rfl ?_; intro w8 hB8 hg8 hz8))
          exact bodyPost_ret (results_cell_tmp2B (p := 4) (u := 5) (v := 6) rfl _ hB8 _ rfl Tryz.underlying33 rfl (by kernel_rfl)) rfl (HOUT.out ⟨p, ⟨x.toArray⟩, U, false⟩ A c _ HR.out (own_base (own_far (own_keepR HO3.out (only_of_below HX7.out none) (by simp)) hg8 hw23) (by omega)) (HBL.out.grown hg8 HBL.out.size (fun _ h => by injection h with h; omega)))
      | true =>
        have n32 : ((s[i0 + N + 1].toNat : Int) != 32) = true := by
          have := eq_of_beq d42
          rw [this]; rfl
        have n42 : ((s[i0 + N + 1].toNat : Int) != 42) = false := by show (!_) = _; rw [d42]; rfl
        clear HNN
        have m3 := HE4.out.cell 3
        have n3 := HE4.out.frozen 3
        go_wp2_with (first | (go_at_call 27; refine (HTG.out _).mono ?_; rintro e w7 ⟨rfl, rfl⟩) | (go_at_call 30; refine (HHX.out _).mono ?_; rintro e w7 ⟨rfl, rfl⟩) | (go_at_call 13; refine (HMO.out _).mono ?_; rintro e w7 ⟨rfl, rfl⟩))
        clear m3 n3
        have HE5 := Lib.hid (Blk.new w3 33 #[.int .i64 p, .string ⟨#[]⟩, .slice A U.length c, .bool true])
        have HB0 := Lib.hid (HB03.out.alloc (.cells #[.int .i64 p, .string ⟨#[]⟩, .slice A U.length c, .bool true] 33))
        have HBL := Lib.hid (HBL3.out.alloc HBL3.out.size (.cells #[.int .i64 p, .string ⟨#[]⟩, .slice A U.length c, .bool true] 33))
        have HX5 := Lib.hid ((Below.refl w3.heap.size w3).alloc (Nat.le_refl _) (.cells #[.int .i64 p, .string ⟨#[]⟩, .slice A U.length c, .bool true] 33))
        clear HE4 HX4 HB03 HBL3
        generalize w3.alloc (.cells #[.int .i64 p, .string ⟨#[]⟩, .slice A U.length c, .bool true] 33) = w5 at *
        refine (c_rname (s.extract (i0 + N + 2) s.size) mk (by rw [ByteArray.size_extract]; omega) w5).mono ?_
        rintro e w6 ⟨⟨x, rfl, hx⟩, hb6⟩
        have HE6 := Lib.hid (HE5.out.below hb6 HE5.out.lt)
        have HB0 := Lib.hid (HB0.out.below hb6 HB0.out.lt)
        have HBL := Lib.hid (below_step HBL.out hb6)
        have HX6 := Lib.hid (below_step HX5.out hb6)
        have HE7 : Hid (Blk (w6.setCell ⟨w3.heap.size, 1, none⟩ (bstr x)) w3.heap.size 33 #[.int .i64 p, bstr x, .slice A U.length c, .bool true]) := HE6.out.set_ 1 _
        have m1 := HE6.out.cell 1
        have n1 := HE6.out.frozen 1
        have HB0 := Lib.hid (HB0.out.far (p := ⟨w3.heap.size, 1, none⟩) (by show w.heap.size ≠ w3.heap.size; omega) (bstr x))
        have HBL := Lib.hid (HBL.out.setCell (p := ⟨w3.heap.size, 1, none⟩) (by show w.heap.size ≤ w3.heap.size; omega) (bstr x))
        have HX7 := Lib.hid (HX6.out.setCell (p := ⟨w3.heap.size, 1, none⟩) (Nat.le_refl _) (bstr x))
        clear hb6 HE5 HE6 HX5 HX6
        cases hnm : nmS mk (s.extract (i0 + N + 2) s.size) with
        | none =>
          have HR := Lib.hid (HB5.out hnm)
          clear HB5 HB6 hx hnm HE7 HX7
          go_wp2_with (first | (go_at_call 27; refine (HTG.out _).mono ?_; rintro e w7 ⟨rfl, rfl⟩) | (go_at_call 30; refine (HHX.out _).mono ?_; rintro e w7 ⟨rfl, rfl⟩) | (go_at_call 13; refine (HMO.out _).mono ?_; rintro e w7 ⟨rfl, rfl⟩) | (refine wpList_storeB rfl 33 (.tmp 4) (.tmp 130) rfl rfl w.heap.size smZ rfl rfl HB0.out (by kernel_rfl) rfl rfl ?_; intro w3 hB3 hg3 hz3))
          exact bodyPost_ret (results_cell_tmp2B (p := 4) (u := 5) (v := 6) rfl _ hB3 _ rfl Tryz.underlying33 rfl (by kernel_rfl)) rfl (HFIN.out (i0 + N + 2) _ HR.out (HBL.out.grown hg3 HBL.out.size (fun _ h => by injection h with h; omega)))
        | some y =>
          obtain rfl : x = y := hx y hnm
          have HR := Lib.hid (HB6.out x hnm)
          clear HB5 HB6 hx hnm
          go_wp2_with (first | (refine wpList_load_row rfl 33 (.tmp 11) rfl w3.heap.size rfl 33 _ (0, 0) _ HE7.out Tryz.underlying33 rfl (by kernel_rfl) ?_) | (refine wpList_storeB rfl 33 (.tmp 4) (.tmp 132) rfl rfl w.heap.size #[.int .i64 p, bstr x, .slice A U.length c, .bool true] rfl rfl HB0.out (by kernel_rfl) rfl rfl ?_; intro w8 hB8 hg8 hz8))
          exact bodyPost_ret (results_cell_tmp2B (p := 4) (u := 5) (v := 6) rfl _ hB8 _ rfl Tryz.underlying33 rfl (by kernel_rfl)) rfl (HOUT.out ⟨p, ⟨x.toArray⟩, U, true⟩ A c _ HR.out (own_base (own_far (own_keepR HO3.out (only_of_below HX7.out none) (by simp)) hg8 hw23) (by omega)) (HBL.out.grown hg8 HBL.out.size (fun _ h => by injection h with h; omega)))
    · have t0 : (wy != 0) = true := by simpa using hw0
      obtain ⟨q1, q4, qb⟩ := HWS.out hw0
      obtain ⟨hlt, _⟩ := wayB_lt qb
      rw [if_pos hw0] at HL
      have HWD := Lib.hid (HWD.out wy q1 q4)
      have HTD := Lib.hid (HTD.out wy q1 q4 _ hlt)
      rw [← HL.out] at HTD
      have hln : (⟨(swrd wy).toArray⟩ : ByteArray).size = (swrd wy).length := rfl
      clear HB1 HB2 HB3 HB4 HB5 HB6 HHX HBY HL hw0 qb HWS
      generalize swrd wy = l at *
      go_wp2_with (first | (go_at_call 27; refine (HTG.out _).mono ?_; rintro e w7 ⟨rfl, rfl⟩) | (go_at_call 29; refine (HWD.out _).mono ?_; rintro e w7 ⟨rfl, rfl⟩))
      have e7 : (i0 : Int) + (l.length : Int) = ((i0 + l.length : Nat) : Int) := rfl
      rw [e7]
      clear e7
      refine (HTD.out w2).mono ?_
      rintro ev w3 hr
      clear HTD HFIN HOUT
      cases R with
      | inl j =>
        obtain ⟨D, c, rfl, ho, hb⟩ := hr
        have HB3 := Lib.hid (HB0.out.below hb HB0.out.lt)
        have HBL3 := Lib.hid (below_step HBL.out hb)
        have hw2 := HB0.out.lt
        clear hb
        go_wp2_with (refine wpList_storeB rfl 33 (.tmp 4) (.tmp 38) rfl rfl w.heap.size (smC smN D smN.dg.length c) rfl rfl HB3.out (by kernel_rfl) rfl rfl ?_; intro w4 hB4 hg4 hz4)
        exact bodyPost_ret (results_cell_tmp2B (p := 4) (u := 5) (v := 6) rfl _ hB4 _ rfl Tryz.underlying33 rfl (by kernel_rfl)) rfl (HOUTG.out smN j 4 D c _ HRA.out (own_base (own_far ho hg4 hw2) (Nat.le_of_lt hw2)) (HBL3.out.grown hg4 HBL3.out.size (fun _ h => by injection h with h; omega)))
      | inr e =>
        obtain ⟨D, c, rfl, ho, hb⟩ := hr
        have HB3 := Lib.hid (HB0.out.below hb HB0.out.lt)
        have HBL3 := Lib.hid (below_step HBL.out hb)
        have hw2 := HB0.out.lt
        clear hb
        go_wp2_with (refine wpList_storeB rfl 33 (.tmp 4) (.tmp 38) rfl rfl w.heap.size (smC e D e.dg.length c) rfl rfl HB3.out (by kernel_rfl) rfl rfl ?_; intro w4 hB4 hg4 hz4)
        exact bodyPost_ret (results_cell_tmp2B (p := 4) (u := 5) (v := 6) rfl _ hB4 _ rfl Tryz.underlying33 rfl (by kernel_rfl)) rfl (HOUTG.out e 0 0 D c _ HRA.out (own_base (own_far ho hg4 hw2) (Nat.le_of_lt hw2)) (HBL3.out.grown hg4 HBL3.out.size (fun _ h => by injection h with h; omega)))
end Go.Proofs.YtmnkdkibhchglaaGreatDoor
