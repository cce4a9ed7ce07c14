/- Walks: a block's eight words (quernref02.Words); both on any parameters. Conditions: as stated. -/
import Derived.Test.YtbpbokcglicggaaWd
namespace Go.Proofs.Ytbpbokcglicggaa
open Go.RowKit
set_option linter.unusedVariables false

set_option maxRecDepth 100000 in
set_option maxHeartbeats 2000000 in
theorem c_rWords_ok (k : Int) (p : Pm) (sa : Option Addr) (sc : Nat) (ta : Option Addr) (tc : Nat) (w : World) (h : RdP w p sa sc ta tc) (ho : PmOk p) (hs : ∀ z ∈ p.s, 0 ≤ z ∧ z < 256) (ht : ∀ z ∈ p.t, 0 ≤ z ∧ z < 256) (h0 : chkP k p = 0) :
    Calls Try.prog 36 #[.int .i64 k, pvS p sa sc ta tc] w fun e w' => ∃ A c, e = .returned (.tuple #[.slice A 8 c, .int .i64 0]) ∧ w'.ownsRow w.heap.size 28 1 (.slice A 8 c) 8 (u64s (wdL (encB k p) (ksz k / 8) 8)) ∧ Below w.heap.size w w' := by
  obtain ⟨i0, hi0, hz0, hz1, hz2⟩ := info_parts u64_info
  have hb0 := (Below.refl w.heap.size w).alloc (Nat.le_refl _) (.cells (pvC p sa sc ta tc) 31)
  have hE := c_rEncode_ok k p sa sc ta tc _ (h.step hb0) ho h0
  have hl := encB_len h0
  have hx := encB_bd (k := k) hs ht
  have hk := (chk_ok h0).1
  generalize encB k p = zs at *
  have HE := Lib.hid hE
  have HBL := Lib.hid hb0
  have HX := Lib.hid hx
  clear hE hb0 h h0 hs ht ho hx
  rcases hk with rfl | rfl
  · have hk1 : ksz 1 = 64 := rfl
    have hk2 : ksz 1 / 8 = 8 := rfl
    have hS := c_rSize 1
    rw [show kmost 1 = 64 from rfl] at hS
    have HS := Lib.hid hS
    rw [hk2]
    have HE2 := HE.out
    rw [hk1] at HE2 hl
    have HE := Lib.hid HE2
    clear HE2 hk1 hk2 hS
    simp only [pvS, pv]
    go_enter Try.func36, Try.ntmps36
    go_wp2_with fail
    refine HE.out.mono ?_
    rintro e w1 ⟨A, c, rfl, hown, hb1⟩
    obtain ⟨g, cap, hv, hg1, hg2⟩ := own_form hown (by decide)
    injection hv with hv _ hv2
    subst hv; subst hv2
    have hL := below_step HBL.out hb1
    simp only [World.size_alloc] at hg1
    have hown' := own_base (base' := w.heap.size) hown (by simp)
    clear hb1 hown
    have hl' := Lib.hid hl
    clear hl
    have hsz1 := hL.size
    go_wp2_with (go_at_call 15; refine (HS.out _).mono ?_; rintro e w' ⟨rfl, rfl⟩)
    go_loopw [8, 10] (fun l iv wr => ∃ i : Nat, i ≤ 8 ∧ iv = .int .i64 i ∧ wr.ownsRow w1.heap.size 28 1 l i (u64s (wdL zs 8 i)) ∧ wr.ownsRow w.heap.size 5 1 (.slice (some ⟨g, 0, none⟩) 64 c) 64 (u8s zs) ∧ Below w.heap.size w wr ∧ w1.heap.size ≤ wr.heap.size) (fun _ i _ => 8 - (intOf i).toNat)
    case atStart => exact ⟨0, by omega, rfl, World.ownsRow_nil _ _ _ _, hown', hL, Nat.le_refl _⟩
    case round =>
      obtain ⟨i, hi, rfl, hw, ho, hbel, hzr⟩ := hrel
      by_cases hlt : i < 8
      · have hR := Reads.of_own ho
        have hG := fun B h => c_read (some ⟨g, 0, none⟩) 64 c zs wr B h (by omega) HX.out (i * 8) 8 (by omega) (by omega)
        have HWX : Hid (wdL zs 8 (i + 1) = wdL zs 8 i ++ [le ((zs.drop (i * 8)).take 8)]) := by show wdL zs 8 (i + 1) = _; rw [Nat.mul_comm i]; rfl
        rw [show (((i * 8 : Nat)) : Int) = (i : Int) * 8 from by simp] at hG
        generalize le ((zs.drop (i * 8)).take 8) = x at *
        have HG := Lib.hid hG
        have HO := Lib.hid ho
        have HBel := Lib.hid hbel
        clear hG ho hbel
        go_wp2_with (first | (go_at_call 53; refine (HG.out _ hR).mono ?_; rintro e w' ⟨rfl, rfl⟩) | (at_builtin; refine wpList_append_any _ rfl (.tmp 27) (.tmp 34) _ rfl w1.heap.size 28 i0 _ 1 8 Try.underlying65 hi0 hz0 hz1 hz2 rfl (by omega) _ i _ rfl (hw.alloc _) _ _ 1 1 [.int .u64 x] rfl (reads_one _ _ _) (by intro u hu; rw [List.mem_singleton.1 hu]; rfl) (by simp only [maxLen]; omega) (by omega) (by simp; omega) ?_; intro v1 w2 hown2 hg2' _; have ho2 := (HO.out.alloc (.cells #[.int .u64 x] 28)).kept hg2' (.inr (fun e => (by have := ((hw.alloc (.cells #[.int .u64 x] 28)).lt g e.symm).1; omega))); have hb2 := below_own (HBel.out.alloc (by omega) (.cells #[.int .u64 x] 28)) ((own_base hw hsz1).alloc _) hg2'; have hz2 := hg2'.size; clear hg2'))
        simp only [World.size_alloc] at hz2
        go_roundw
        case rel => exact ⟨i + 1, by omega, by go_num, by rw [HWX.out]; simpa [u64s] using hown2, ho2, hb2, by omega⟩
        case measure => simp [intOf]; omega
      · obtain rfl : i = 8 := by omega
        obtain ⟨A9, c9, rfl⟩ := own_slice hw
        go_wp2_with fail
        go_ret2
        exact ⟨A9, c9, rfl, own_base hw hsz1, hbel⟩
  · have hk1 : ksz 2 = 32 := rfl
    have hk2 : ksz 2 / 8 = 4 := rfl
    have hS := c_rSize 2
    rw [show kmost 2 = 32 from rfl] at hS
    have HS := Lib.hid hS
    rw [hk2]
    have HE2 := HE.out
    rw [hk1] at HE2 hl
    have HE := Lib.hid HE2
    clear HE2 hk1 hk2 hS
    simp only [pvS, pv]
    go_enter Try.func36, Try.ntmps36
    go_wp2_with fail
    refine HE.out.mono ?_
    rintro e w1 ⟨A, c, rfl, hown, hb1⟩
    obtain ⟨g, cap, hv, hg1, hg2⟩ := own_form hown (by decide)
    injection hv with hv _ hv2
    subst hv; subst hv2
    have hL := below_step HBL.out hb1
    simp only [World.size_alloc] at hg1
    have hown' := own_base (base' := w.heap.size) hown (by simp)
    clear hb1 hown
    have hl' := Lib.hid hl
    clear hl
    have hsz1 := hL.size
    go_wp2_with (go_at_call 15; refine (HS.out _).mono ?_; rintro e w' ⟨rfl, rfl⟩)
    go_loopw [8, 10] (fun l iv wr => ∃ i : Nat, i ≤ 8 ∧ iv = .int .i64 i ∧ wr.ownsRow w1.heap.size 28 1 l i (u64s (wdL zs 4 i)) ∧ wr.ownsRow w.heap.size 5 1 (.slice (some ⟨g, 0, none⟩) 32 c) 32 (u8s zs) ∧ Below w.heap.size w wr ∧ w1.heap.size ≤ wr.heap.size) (fun _ i _ => 8 - (intOf i).toNat)
    case atStart => exact ⟨0, by omega, rfl, World.ownsRow_nil _ _ _ _, hown', hL, Nat.le_refl _⟩
    case round =>
      obtain ⟨i, hi, rfl, hw, ho, hbel, hzr⟩ := hrel
      by_cases hlt : i < 8
      · have hR := Reads.of_own ho
        have hG := fun B h => c_read (some ⟨g, 0, none⟩) 32 c zs wr B h (by omega) HX.out (i * 4) 4 (by omega) (by omega)
        have HWX : Hid (wdL zs 4 (i + 1) = wdL zs 4 i ++ [le ((zs.drop (i * 4)).take 4)]) := by show wdL zs 4 (i + 1) = _; rw [Nat.mul_comm i]; rfl
        rw [show (((i * 4 : Nat)) : Int) = (i : Int) * 4 from by simp] at hG
        generalize le ((zs.drop (i * 4)).take 4) = x at *
        have HG := Lib.hid hG
        have HO := Lib.hid ho
        have HBel := Lib.hid hbel
        clear hG ho hbel
        go_wp2_with (first | (go_at_call 53; refine (HG.out _ hR).mono ?_; rintro e w' ⟨rfl, rfl⟩) | (at_builtin; refine wpList_append_any _ rfl (.tmp 27) (.tmp 34) _ rfl w1.heap.size 28 i0 _ 1 8 Try.underlying65 hi0 hz0 hz1 hz2 rfl (by omega) _ i _ rfl (hw.alloc _) _ _ 1 1 [.int .u64 x] rfl (reads_one _ _ _) (by intro u hu; rw [List.mem_singleton.1 hu]; rfl) (by simp only [maxLen]; omega) (by omega) (by simp; omega) ?_; intro v1 w2 hown2 hg2' _; have ho2 := (HO.out.alloc (.cells #[.int .u64 x] 28)).kept hg2' (.inr (fun e => (by have := ((hw.alloc (.cells #[.int .u64 x] 28)).lt g e.symm).1; omega))); have hb2 := below_own (HBel.out.alloc (by omega) (.cells #[.int .u64 x] 28)) ((own_base hw hsz1).alloc _) hg2'; have hz2 := hg2'.size; clear hg2'))
        simp only [World.size_alloc] at hz2
        go_roundw
        case rel => exact ⟨i + 1, by omega, by go_num, by rw [HWX.out]; simpa [u64s] using hown2, ho2, hb2, by omega⟩
        case measure => simp [intOf]; omega
      · obtain rfl : i = 8 := by omega
        obtain ⟨A9, c9, rfl⟩ := own_slice hw
        go_wp2_with fail
        go_ret2
        exact ⟨A9, c9, rfl, own_base hw hsz1, hbel⟩
set_option maxRecDepth 100000 in
theorem c_Words (k : Int) (p : Pm) (sa : Option Addr) (sc : Nat) (ta : Option Addr) (tc : Nat) (w : World) (h : RdP w p sa sc ta tc) (ho : PmOk p) (hs : ∀ z ∈ p.s, 0 ≤ z ∧ z < 256) (ht : ∀ z ∈ p.t, 0 ≤ z ∧ z < 256) :
    Calls Try.prog 35 #[.int .i64 k, pvS p sa sc ta tc] w (WdGives w k p) := by
  by_cases h0 : chkP k p = 0
  · refine (c_Words_ok k p sa sc ta tc w h ho hs ht h0).mono ?_
    rintro e w' ⟨A, c, rfl, h1, h2⟩
    have he : wrdA k p = wdL (encB k p) (ksz k / 8) 8 := if_pos h0
    have hl : (wrdA k p).length = 8 := by rw [he, wdL_len]
    refine ⟨A, c, ?_, ?_, h2⟩
    · rw [hl, h0]
    · rw [hl, he]; exact h1
  · have hb0 := (Below.refl w.heap.size w).alloc (Nat.le_refl _) (.cells (pvC p sa sc ta tc) 31)
    have hE := c_Encode k p sa sc ta tc _ (h.step hb0) ho
    have he : wrdA k p = [] := if_neg h0
    have hea : encA k p = [] := if_neg h0
    have HG : Hid (∀ w', Below w.heap.size w w' → WdGives w k p (.returned (.tuple #[.slice none 0 0, .int .i64 (chkP k p)])) w') := fun w' hb => ⟨none, 0, by rw [he]; rfl, by rw [he]; exact World.ownsRow_nil _ _ _ _, hb⟩
    have hne : (chkP k p != 0) = true := by simpa using h0
    have hE2 : Calls Try.prog 33 #[.int .i64 k, pvS p sa sc ta tc] (w.alloc (.cells (pvC p sa sc ta tc) 31)) fun e w' => (∃ A c, e = .returned (.tuple #[.slice A 0 c, .int .i64 (chkP k p)])) ∧ Below (w.alloc (.cells (pvC p sa sc ta tc) 31)).heap.size (w.alloc (.cells (pvC p sa sc ta tc) 31)) w' := hE.mono fun e w' ⟨A, c, h1, h2, h3⟩ => ⟨⟨A, c, by rw [hea] at h1; exact h1⟩, h3⟩
    generalize chkP k p = E at *
    have HE := Lib.hid hE2
    have HB0 := Lib.hid hb0
    clear hE hE2 h0 he hea hb0
    simp only [pvS, pv]
    go_enter Try.func35, Try.ntmps35
    go_wp2_with fail
    refine HE.out.mono ?_
    rintro e w1 ⟨⟨A, c, rfl⟩, hb1⟩
    have HB1 := Lib.hid (below_step HB0.out hb1)
    clear hb1
    go_wp2_with fail
    go_ret2
    exact HG.out _ HB1.out
set_option maxRecDepth 100000 in
theorem c_rWords (k : Int) (p : Pm) (sa : Option Addr) (sc : Nat) (ta : Option Addr) (tc : Nat) (w : World) (h : RdP w p sa sc ta tc) (ho : PmOk p) (hs : ∀ z ∈ p.s, 0 ≤ z ∧ z < 256) (ht : ∀ z ∈ p.t, 0 ≤ z ∧ z < 256) :
    Calls Try.prog 36 #[.int .i64 k, pvS p sa sc ta tc] w (WdGives w k p) := by
  by_cases h0 : chkP k p = 0
  · refine (c_rWords_ok k p sa sc ta tc w h ho hs ht h0).mono ?_
    rintro e w' ⟨A, c, rfl, h1, h2⟩
    have he : wrdA k p = wdL (encB k p) (ksz k / 8) 8 := if_pos h0
    have hl : (wrdA k p).length = 8 := by rw [he, wdL_len]
    refine ⟨A, c, ?_, ?_, h2⟩
    · rw [hl, h0]
    · rw [hl, he]; exact h1
  · have hb0 := (Below.refl w.heap.size w).alloc (Nat.le_refl _) (.cells (pvC p sa sc ta tc) 31)
    have hE := c_rEncode k p sa sc ta tc _ (h.step hb0) ho
    have he : wrdA k p = [] := if_neg h0
    have hea : encA k p = [] := if_neg h0
    have HG : Hid (∀ w', Below w.heap.size w w' → WdGives w k p (.returned (.tuple #[.slice none 0 0, .int .i64 (chkP k p)])) w') := fun w' hb => ⟨none, 0, by rw [he]; rfl, by rw [he]; exact World.ownsRow_nil _ _ _ _, hb⟩
    have hne : (chkP k p != 0) = true := by simpa using h0
    have hE2 : Calls Try.prog 34 #[.int .i64 k, pvS p sa sc ta tc] (w.alloc (.cells (pvC p sa sc ta tc) 31)) fun e w' => (∃ A c, e = .returned (.tuple #[.slice A 0 c, .int .i64 (chkP k p)])) ∧ Below (w.alloc (.cells (pvC p sa sc ta tc) 31)).heap.size (w.alloc (.cells (pvC p sa sc ta tc) 31)) w' := hE.mono fun e w' ⟨A, c, h1, h2, h3⟩ => ⟨⟨A, c, by rw [hea] at h1; exact h1⟩, h3⟩
    generalize chkP k p = E at *
    have HE := Lib.hid hE2
    have HB0 := Lib.hid hb0
    clear hE hE2 h0 he hea hb0
    simp only [pvS, pv]
    go_enter Try.func36, Try.ntmps36
    go_wp2_with fail
    refine HE.out.mono ?_
    rintro e w1 ⟨⟨A, c, rfl⟩, hb1⟩
    have HB1 := Lib.hid (below_step HB0.out hb1)
    clear hb1
    go_wp2_with fail
    go_ret2
    exact HG.out _ HB1.out
end Go.Proofs.Ytbpbokcglicggaa
