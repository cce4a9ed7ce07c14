/- Walks: the parameters of the other form with the same block (param.Twin, quernref02.Twin). Conditions: as stated. -/
import Derived.Test.YtbpbokcglicggaaDecA
import Derived.Test.YtbpbokcglicggaaTwP
import Derived.Test.YtbpbokcglicggaaWd2
namespace Go.Proofs.Ytbpbokcglicggaa
open Go.RowKit
set_option linter.unusedVariables false

def twOk (k : Int) (p : Pm) : Bool := decide (chkP k p = 0 ∧ decE k (encB k p) (p.xof == 0) = 0)
def twA (k : Int) (p : Pm) : Pm := if chkP k p = 0 ∧ decE k (encB k p) (p.xof == 0) = 0 then decA k (encB k p) (p.xof == 0) else Pm.zero
/-- What both Twins hand back. -/
def TwGives (w : World) (k : Int) (p : Pm) (e : Ending) (w' : World) : Prop :=
  ∃ sa sc ta tc, e = .returned (.tuple #[pvS (twA k p) sa sc ta tc, .bool (twOk k p), .int .i64 (chkP k p)]) ∧ w'.ownsRow w.heap.size 5 1 (.slice sa (twA k p).s.length sc) (twA k p).s.length (u8s (twA k p).s) ∧ w'.ownsRow w.heap.size 5 1 (.slice ta (twA k p).t.length tc) (twA k p).t.length (u8s (twA k p).t) ∧ Below w.heap.size w w'
theorem tw_nil {w w' : World} {k : Int} {p : Pm} (h : ¬(chkP k p = 0 ∧ decE k (encB k p) (p.xof == 0) = 0)) (hb : Below w.heap.size w w') : TwGives w k p (.returned (.tuple #[pv 0 0 0 0 0 0 0 0 0 (.slice none 0 0) (.slice none 0 0), .bool false, .int .i64 (chkP k p)])) w' := by
  have h1 : twA k p = Pm.zero := if_neg h
  have h2 : twOk k p = false := decide_eq_false h
  unfold TwGives
  rw [h1, h2]
  exact ⟨none, 0, none, 0, rfl, by simpa [Pm.zero] using World.ownsRow_nil w' w.heap.size 5 1, by simpa [Pm.zero] using World.ownsRow_nil w' w.heap.size 5 1, hb⟩
theorem twA_len {k : Int} {p : Pm} : (twA k p).s.length ≤ 64 ∧ (twA k p).t.length ≤ 64 := by
  unfold twA
  split
  · rename_i h
    have h1 := decA_len (k := k) (xs := encB k p) (ext := (p.xof == 0))
    have h2 := encB_len h.1
    have h3 := (ksz_bd k).1
    omega
  · simp [Pm.zero]
set_option maxRecDepth 100000 in
set_option maxHeartbeats 1000000 in
theorem c_Twin (k : Int) (p : Pm) (sa : Option Addr) (sc : Nat) (ta : Option Addr) (tc : Nat) (w : World) (h : RdP w p sa sc ta tc) (ho : PmOk p) (hs : ∀ z ∈ p.s, 0 ≤ z ∧ z < 256) (ht : ∀ z ∈ p.t, 0 ≤ z ∧ z < 256) :
    Calls Try.prog 38 #[.int .i64 k, pvS p sa sc ta tc] w (TwGives w k p) := by
  have hb0 := ((Below.refl w.heap.size w).alloc (Nat.le_refl _) (.cells (pvC p sa sc ta tc) 31)).alloc (by simp) (.cells pz 31)
  have hB0 := (Blk.new w 31 (pvC p sa sc ta tc)).alloc (.cells pz 31)
  have hB1 := Blk.new (w.alloc (.cells (pvC p sa sc ta tc) 31)) 31 pz
  simp only [World.size_alloc] at hB1
  have h2 := h.step hb0
  have HB0 := Lib.hid hB0
  have HB1 := Lib.hid hB1
  have HBL := Lib.hid hb0
  have HN : Hid (∀ w', ¬(chkP k p = 0 ∧ decE k (encB k p) (p.xof == 0) = 0) → Below w.heap.size w w' → TwGives w k p (.returned (.tuple #[pv 0 0 0 0 0 0 0 0 0 (.slice none 0 0) (.slice none 0 0), .bool false, .int .i64 (chkP k p)])) w') := fun w' h1 h2 => tw_nil h1 h2
  clear hB0 hB1 hb0
  by_cases h0 : chkP k p = 0
  · have hE := fun w h => c_Encode_ok k p sa sc ta tc w h ho h0
    have hlen := encB_len h0
    have hxb := encB_bd (k := k) hs ht
    have hkb := (ksz_bd k).1
    have hl2 := decA_len (k := k) (xs := encB k p) (ext := (p.xof == 0))
    have hD : ∀ A c w, ksz k ≤ c → Reads w w.heap.size 1 A (ksz k) (u8s (encB k p)) → Calls Try.prog 31 #[.int .i64 k, .slice A (ksz k) c, .bool (p.xof == 0)] w (GivesP w (decA k (encB k p) (p.xof == 0)) (decE k (encB k p) (p.xof == 0))) := fun A c w h1 h2 => by
      have := c_Decode k A c (encB k p) (p.xof == 0) w (by omega) (by omega) (by rw [hlen]; exact h2) hxb
      rw [hlen] at this
      exact this
    have HY : Hid (decE k (encB k p) (p.xof == 0) = 0 → ∀ sa sc ta tc w', w'.ownsRow w.heap.size 5 1 (.slice sa (decA k (encB k p) (p.xof == 0)).s.length sc) (decA k (encB k p) (p.xof == 0)).s.length (u8s (decA k (encB k p) (p.xof == 0)).s) → w'.ownsRow w.heap.size 5 1 (.slice ta (decA k (encB k p) (p.xof == 0)).t.length tc) (decA k (encB k p) (p.xof == 0)).t.length (u8s (decA k (encB k p) (p.xof == 0)).t) → Below w.heap.size w w' → TwGives w k p (.returned (.tuple #[pvS (decA k (encB k p) (p.xof == 0)) sa sc ta tc, .bool true, .int .i64 0])) w') := fun hz sa sc ta tc w' o1 o2 hb => by
      have e1 : twA k p = decA k (encB k p) (p.xof == 0) := if_pos ⟨h0, hz⟩
      have e2 : twOk k p = true := decide_eq_true ⟨h0, hz⟩
      unfold TwGives
      rw [e1, e2, h0]
      exact ⟨sa, sc, ta, tc, rfl, o1, o2, hb⟩
    have HN0 : Hid (∀ w', decE k (encB k p) (p.xof == 0) ≠ 0 → Below w.heap.size w w' → TwGives w k p (.returned (.tuple #[pv 0 0 0 0 0 0 0 0 0 (.slice none 0 0) (.slice none 0 0), .bool false, .int .i64 0])) w') := fun w' h1 h2 => by
      have := HN.out w' (fun h => h1 h.2) h2
      rw [h0] at this
      exact this
    clear HN h0 hlen hxb hs ht h
    generalize hX : (p.xof == 0) = X at *
    generalize decA k (encB k p) X = q at *
    generalize decE k (encB k p) X = E at *
    generalize encB k p = xs at *
    generalize ksz k = N at *
    have HE := Lib.hid hE
    have HD := Lib.hid hD
    clear hE hD
    simp only [pvS, pv]
    go_enter Try.func38, Try.ntmps38
    go_wp2_with fail
    refine (HE.out _ h2).mono ?_
    rintro e w1 ⟨A1, c1, rfl, o1, hb1⟩
    obtain ⟨A1', c1', e1, hc1, hr1⟩ := own_reads o1
    injection e1 with e1 _ e2
    subst e1; subst e2
    have K0 := HB0.out.below hb1 (by simp; omega)
    have K1 := Lib.hid (HB1.out.below hb1 (by simp))
    have HL := Lib.hid (HBL.out.trans (hb1.mono (B' := w.heap.size) (by simp; omega)))
    have hz1 := hb1.size
    simp only [World.size_alloc] at hz1
    have f6 := K0.cell 6
    clear hb1 h2 o1 K0
    go_wp2_with fail
    refine (HD.out _ _ _ hc1 hr1).mono ?_
    rintro e w2 ⟨sa2, sc2, ta2, tc2, rfl, o1, o2, hb2⟩
    have J1 := (K1.out.below hb2 (by omega)).alloc (.cells (pvC q sa2 sc2 ta2 tc2) 31)
    have hb3 := (HL.out.trans (hb2.mono (by omega))).alloc (Nat.le_trans HL.out.size hb2.size) (.cells (pvC q sa2 sc2 ta2 tc2) 31)
    have K9 := Blk.new w2 31 (pvC q sa2 sc2 ta2 tc2)
    have hz2 := hb2.size
    have o1' := o1.alloc (.cells (pvC q sa2 sc2 ta2 tc2) 31)
    have o2' := o2.alloc (.cells (pvC q sa2 sc2 ta2 tc2) 31)
    simp only [pvS, pv]
    have HJ1 := Lib.hid J1
    have HB3 := Lib.hid hb3
    have HK9 := Lib.hid K9
    clear J1 hb3 K9 hb2 o1 o2 f6 hX
    by_cases hE0 : E = 0
    · have HYY := Lib.hid (HY.out hE0)
      subst hE0
      go_wp2_with (first | (refine wpList_load_row rfl 31 (.tmp 9) rfl w2.heap.size rfl 31 _ (0, 0) _ HK9.out Try.underlying31 rfl (by kernel_rfl) ?_) | (refine wpList_storeB rfl 31 (.tmp 4) (.tmp 32) rfl rfl (w.heap.size + 1) _ rfl rfl HJ1.out (by kernel_rfl) rfl rfl ?_; intro w4 hB4 hg4 hz4))
      exact bodyPost_ret (results_cell_tmp2B (p := 4) (u := 5) (v := 6) rfl _ hB4 _ rfl Try.underlying31 rfl (by kernel_rfl)) rfl (HYY.out sa2 sc2 ta2 tc2 _ (own_base (own_far o1' hg4 (by omega)) (by omega)) (own_base (own_far o2' hg4 (by omega)) (by omega)) (HB3.out.grown hg4 HB3.out.size (fun _ h => by injection h with h; omega)))
    · have HNN := Lib.hid (fun w' => HN0.out w' hE0)
      have hE1 : (E != 0) = true := by simpa using hE0
      clear hE0
      go_wp2_with (first | (refine wpList_storeB rfl 31 (.tmp 4) (.tmp 31) rfl rfl (w.heap.size + 1) _ rfl rfl HJ1.out (by kernel_rfl) rfl rfl ?_; intro w4 hB4 hg4 hz4))
      exact bodyPost_ret (results_cell_tmp2B (p := 4) (u := 5) (v := 6) rfl _ hB4 _ rfl Try.underlying31 rfl (by kernel_rfl)) rfl (HNN.out _ (HB3.out.grown hg4 HB3.out.size (fun _ h => by injection h with h; omega)))
  · have hE := fun w h => c_Encode k p sa sc ta tc w h ho
    have HNN := Lib.hid (fun w' => HN.out w' (fun h => h0 h.1))
    have hne : (chkP k p != 0) = true := by simpa using h0
    have hA : encA k p = [] := if_neg h0
    unfold EncGives at hE
    rw [hA] at hE
    generalize chkP k p = E at *
    have HE := Lib.hid hE
    clear hE h0 HN hA
    simp only [pvS, pv]
    go_enter Try.func38, Try.ntmps38
    go_wp2_with fail
    refine (HE.out _ h2).mono ?_
    rintro e w1 ⟨A1, c1, rfl, o1, hb1⟩
    have K1 := Lib.hid (HB1.out.below hb1 (by simp))
    have HL := Lib.hid (HBL.out.trans (hb1.mono (B' := w.heap.size) (by simp; omega)))
    clear hb1 h2 o1
    go_wp2_with (first | (refine wpList_storeB rfl 31 (.tmp 4) (.tmp 18) rfl rfl (w.heap.size + 1) _ rfl rfl K1.out (by kernel_rfl) rfl rfl ?_; intro w4 hB4 hg4 hz4))
    exact bodyPost_ret (results_cell_tmp2B (p := 4) (u := 5) (v := 6) rfl _ hB4 _ rfl Try.underlying31 rfl (by kernel_rfl)) rfl (HNN.out _ (HL.out.grown hg4 HL.out.size (fun _ h => by injection h with h; omega)))
set_option maxRecDepth 100000 in
set_option maxHeartbeats 1000000 in
theorem c_rTwin (k : Int) (p : Pm) (sa : Option Addr) (sc : Nat) (ta : Option Addr) (tc : Nat) (w : World) (h : RdP w p sa sc ta tc) (ho : PmOk p) (hs : ∀ z ∈ p.s, 0 ≤ z ∧ z < 256) (ht : ∀ z ∈ p.t, 0 ≤ z ∧ z < 256) :
    Calls Try.prog 39 #[.int .i64 k, pvS p sa sc ta tc] w (TwGives w k p) := by
  have hb0 := ((Below.refl w.heap.size w).alloc (Nat.le_refl _) (.cells (pvC p sa sc ta tc) 31)).alloc (by simp) (.cells pz 31)
  have hB0 := (Blk.new w 31 (pvC p sa sc ta tc)).alloc (.cells pz 31)
  have hB1 := Blk.new (w.alloc (.cells (pvC p sa sc ta tc) 31)) 31 pz
  simp only [World.size_alloc] at hB1
  have h2 := h.step hb0
  have HB0 := Lib.hid hB0
  have HB1 := Lib.hid hB1
  have HBL := Lib.hid hb0
  have HN : Hid (∀ w', ¬(chkP k p = 0 ∧ decE k (encB k p) (p.xof == 0) = 0) → Below w.heap.size w w' → TwGives w k p (.returned (.tuple #[pv 0 0 0 0 0 0 0 0 0 (.slice none 0 0) (.slice none 0 0), .bool false, .int .i64 (chkP k p)])) w') := fun w' h1 h2 => tw_nil h1 h2
  clear hB0 hB1 hb0
  by_cases h0 : chkP k p = 0
  · have hE := fun w h => c_rEncode_ok k p sa sc ta tc w h ho h0
    have hlen := encB_len h0
    have hxb := encB_bd (k := k) hs ht
    have hkb := (ksz_bd k).1
    have hl2 := decA_len (k := k) (xs := encB k p) (ext := (p.xof == 0))
    have hD : ∀ A c w, ksz k ≤ c → Reads w w.heap.size 1 A (ksz k) (u8s (encB k p)) → Calls Try.prog 32 #[.int .i64 k, .slice A (ksz k) c, .bool (p.xof == 0)] w (GivesP w (decA k (encB k p) (p.xof == 0)) (decE k (encB k p) (p.xof == 0))) := fun A c w h1 h2 => by
      have := c_rDecode k A c (encB k p) (p.xof == 0) w (by omega) (by omega) (by rw [hlen]; exact h2) hxb
      rw [hlen] at this
      exact this
    have HY : Hid (decE k (encB k p) (p.xof == 0) = 0 → ∀ sa sc ta tc w', w'.ownsRow w.heap.size 5 1 (.slice sa (decA k (encB k p) (p.xof == 0)).s.length sc) (decA k (encB k p) (p.xof == 0)).s.length (u8s (decA k (encB k p) (p.xof == 0)).s) → w'.ownsRow w.heap.size 5 1 (.slice ta (decA k (encB k p) (p.xof == 0)).t.length tc) (decA k (encB k p) (p.xof == 0)).t.length (u8s (decA k (encB k p) (p.xof == 0)).t) → Below w.heap.size w w' → TwGives w k p (.returned (.tuple #[pvS (decA k (encB k p) (p.xof == 0)) sa sc ta tc, .bool true, .int .i64 0])) w') := fun hz sa sc ta tc w' o1 o2 hb => by
      have e1 : twA k p = decA k (encB k p) (p.xof == 0) := if_pos ⟨h0, hz⟩
      have e2 : twOk k p = true := decide_eq_true ⟨h0, hz⟩
      unfold TwGives
      rw [e1, e2, h0]
      exact ⟨sa, sc, ta, tc, rfl, o1, o2, hb⟩
    have HN0 : Hid (∀ w', decE k (encB k p) (p.xof == 0) ≠ 0 → Below w.heap.size w w' → TwGives w k p (.returned (.tuple #[pv 0 0 0 0 0 0 0 0 0 (.slice none 0 0) (.slice none 0 0), .bool false, .int .i64 0])) w') := fun w' h1 h2 => by
      have := HN.out w' (fun h => h1 h.2) h2
      rw [h0] at this
      exact this
    clear HN h0 hlen hxb hs ht h
    generalize hX : (p.xof == 0) = X at *
    generalize decA k (encB k p) X = q at *
    generalize decE k (encB k p) X = E at *
    generalize encB k p = xs at *
    generalize ksz k = N at *
    have HE := Lib.hid hE
    have HD := Lib.hid hD
    clear hE hD
    simp only [pvS, pv]
    go_enter Try.func39, Try.ntmps39
    go_wp2_with fail
    refine (HE.out _ h2).mono ?_
    rintro e w1 ⟨A1, c1, rfl, o1, hb1⟩
    obtain ⟨A1', c1', e1, hc1, hr1⟩ := own_reads o1
    injection e1 with e1 _ e2
    subst e1; subst e2
    have K0 := HB0.out.below hb1 (by simp; omega)
    have K1 := Lib.hid (HB1.out.below hb1 (by simp))
    have HL := Lib.hid (HBL.out.trans (hb1.mono (B' := w.heap.size) (by simp; omega)))
    have hz1 := hb1.size
    simp only [World.size_alloc] at hz1
    have f6 := K0.cell 6
    clear hb1 h2 o1 K0
    go_wp2_with fail
    refine (HD.out _ _ _ hc1 hr1).mono ?_
    rintro e w2 ⟨sa2, sc2, ta2, tc2, rfl, o1, o2, hb2⟩
    have J1 := (K1.out.below hb2 (by omega)).alloc (.cells (pvC q sa2 sc2 ta2 tc2) 31)
    have hb3 := (HL.out.trans (hb2.mono (by omega))).alloc (Nat.le_trans HL.out.size hb2.size) (.cells (pvC q sa2 sc2 ta2 tc2) 31)
    have K9 := Blk.new w2 31 (pvC q sa2 sc2 ta2 tc2)
    have hz2 := hb2.size
    have o1' := o1.alloc (.cells (pvC q sa2 sc2 ta2 tc2) 31)
    have o2' := o2.alloc (.cells (pvC q sa2 sc2 ta2 tc2) 31)
    simp only [pvS, pv]
    have HJ1 := Lib.hid J1
    have HB3 := Lib.hid hb3
    have HK9 := Lib.hid K9
    clear J1 hb3 K9 hb2 o1 o2 f6 hX
    by_cases hE0 : E = 0
    · have HYY := Lib.hid (HY.out hE0)
      subst hE0
      go_wp2_with (first | (refine wpList_load_row rfl 31 (.tmp 9) rfl w2.heap.size rfl 31 _ (0, 0) _ HK9.out Try.underlying31 rfl (by kernel_rfl) ?_) | (refine wpList_storeB rfl 31 (.tmp 4) (.tmp 32) rfl rfl (w.heap.size + 1) _ rfl rfl HJ1.out (by kernel_rfl) rfl rfl ?_; intro w4 hB4 hg4 hz4))
      exact bodyPost_ret (results_cell_tmp2B (p := 4) (u := 5) (v := 6) rfl _ hB4 _ rfl Try.underlying31 rfl (by kernel_rfl)) rfl (HYY.out sa2 sc2 ta2 tc2 _ (own_base (own_far o1' hg4 (by omega)) (by omega)) (own_base (own_far o2' hg4 (by omega)) (by omega)) (HB3.out.grown hg4 HB3.out.size (fun _ h => by injection h with h; omega)))
    · have HNN := Lib.hid (fun w' => HN0.out w' hE0)
      have hE1 : (E != 0) = true := by simpa using hE0
      clear hE0
      go_wp2_with (first | (refine wpList_storeB rfl 31 (.tmp 4) (.tmp 31) rfl rfl (w.heap.size + 1) _ rfl rfl HJ1.out (by kernel_rfl) rfl rfl ?_; intro w4 hB4 hg4 hz4))
      exact bodyPost_ret (results_cell_tmp2B (p := 4) (u := 5) (v := 6) rfl _ hB4 _ rfl Try.underlying31 rfl (by kernel_rfl)) rfl (HNN.out _ (HB3.out.grown hg4 HB3.out.size (fun _ h => by injection h with h; omega)))
  · have hE := fun w h => c_rEncode k p sa sc ta tc w h ho
    have HNN := Lib.hid (fun w' => HN.out w' (fun h => h0 h.1))
    have hne : (chkP k p != 0) = true := by simpa using h0
    have hA : encA k p = [] := if_neg h0
    unfold EncGives at hE
    rw [hA] at hE
    generalize chkP k p = E at *
    have HE := Lib.hid hE
    clear hE h0 HN hA
    simp only [pvS, pv]
    go_enter Try.func39, Try.ntmps39
    go_wp2_with fail
    refine (HE.out _ h2).mono ?_
    rintro e w1 ⟨A1, c1, rfl, o1, hb1⟩
    have K1 := Lib.hid (HB1.out.below hb1 (by simp))
    have HL := Lib.hid (HBL.out.trans (hb1.mono (B' := w.heap.size) (by simp; omega)))
    clear hb1 h2 o1
    go_wp2_with (first | (refine wpList_storeB rfl 31 (.tmp 4) (.tmp 18) rfl rfl (w.heap.size + 1) _ rfl rfl K1.out (by kernel_rfl) rfl rfl ?_; intro w4 hB4 hg4 hz4))
    exact bodyPost_ret (results_cell_tmp2B (p := 4) (u := 5) (v := 6) rfl _ hB4 _ rfl Try.underlying31 rfl (by kernel_rfl)) rfl (HNN.out _ (HL.out.grown hg4 HL.out.size (fun _ h => by injection h with h; omega)))
end Go.Proofs.Ytbpbokcglicggaa
