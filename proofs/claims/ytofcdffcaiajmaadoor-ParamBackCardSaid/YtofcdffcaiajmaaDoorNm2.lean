/- Walks: parameters made normal (param.normal, Normal; quernref02.Normal). Conditions: as stated. -/
import Derived.Test.YtofcdffcaiajmaaDoorNm
import Derived.Test.YtofcdffcaiajmaaDoorTrm
namespace Go.Proofs.YtofcdffcaiajmaaDoor
open Go.RowKit
set_option linter.unusedVariables false

set_option maxRecDepth 100000 in
set_option maxHeartbeats 2000000 in
theorem c_normal (p : Pm) (sa : Option Addr) (sc : Nat) (ta : Option Addr) (tc : Nat) (w : World) (h : RdP w p sa sc ta tc) :
    Calls Tryd.prog 20 #[pvS p sa sc ta tc] w (GivesQ w p.norm) := by
  have hb0 := ((Below.refl w.heap.size w).alloc (Nat.le_refl _) (.cells (pvC p sa sc ta tc) 26)).alloc (by simp) (.cells pz 26)
  have hB0 := (Blk.new w 26 (pvC p sa sc ta tc)).alloc (.cells pz 26)
  have hB1 := Blk.new (w.alloc (.cells (pvC p sa sc ta tc) 26)) 26 pz
  have hs := h.rs.step hb0
  have ht := h.rt.step hb0
  have hcs := h.cs
  have hct := h.ct
  have bs := h.bs
  have bt := h.bt
  clear h
  simp only [World.size_alloc] at hB1
  simp only [pvS, pv]
  obtain ⟨n, hn⟩ : ∃ n, p.s.length = n := ⟨_, rfl⟩
  obtain ⟨m, hm⟩ : ∃ n, p.t.length = n := ⟨_, rfl⟩
  have HG : Hid (∀ sa sc ta tc w', w'.ownsRow w.heap.size 5 1 (.slice sa (p.s.take (keep p.s n)).length sc) (p.s.take (keep p.s n)).length (u8s (p.s.take (keep p.s n))) → w'.ownsRow w.heap.size 5 1 (.slice ta (p.t.take (keep p.t m)).length tc) (p.t.take (keep p.t m)).length (u8s (p.t.take (keep p.t m))) → Below w.heap.size w w' → GivesQ w p.norm (.returned (pv p.d p.key p.fo p.de p.leaf p.off p.xof p.nd p.inn (.slice sa (p.s.take (keep p.s n)).length sc) (.slice ta (p.t.take (keep p.t m)).length tc))) w') := by
    subst hn; subst hm
    exact fun sa sc ta tc w' a b c => ⟨sa, sc, ta, tc, rfl, a, b, c⟩
  simp only [pvC, hn, hm] at hs ht hB0 hB1 hb0
  rw [hn] at bs hcs ⊢
  rw [hm] at bt hct ⊢
  have hcS : ∀ w, Reads w w.heap.size 1 sa n (u8s p.s) → Calls Tryd.prog 28 #[.slice sa n sc] w (OwnBytes w (p.s.take (keep p.s n))) := fun w h => c_trimmed sa n sc p.s w h hcs (by omega)
  have hcT : ∀ w, Reads w w.heap.size 1 ta m (u8s p.t) → Calls Tryd.prog 28 #[.slice ta m tc] w (OwnBytes w (p.t.take (keep p.t m))) := fun w h => c_trimmed ta m tc p.t w h hct (by omega)
  generalize p.s.take (keep p.s n) = X at *
  generalize p.t.take (keep p.t m) = Y at *
  have HCS := Lib.hid hcS
  have HCT := Lib.hid hcT
  clear hcS hcT
  have HB0 := Lib.hid hB0
  have HB1 := Lib.hid hB1
  have HBL := Lib.hid hb0
  clear hn hm hB0 hB1 hb0
  go_enter Tryd.func20, Tryd.ntmps20
  go_wp2
  go_region_with (go_at_call 28; first | ((with_reducible refine (HCS.out _ hs.drew).mono ?_); intro e w1 hO; obtain ⟨As, cs, rfl, os', hb1⟩ := ownB_slice hO; have os := own_base (base' := w.heap.size + 2) os' (by simp); have ht1 := ht.drew.step hb1; have K0 := Lib.hid (HB0.out.drew.below hb1 (by simp; omega)); have K1 := Lib.hid (HB1.out.drew.below hb1 (by simp)); have HL := Lib.hid (HBL.out.drew.trans (hb1.mono (by simp; omega))); have f9 := K0.out.cell 9; have f10 := K0.out.cell 10; have hz1 := hb1.size; simp at hz1; clear hO os' hb1) | ((with_reducible refine (HCT.out _ ht.drew).mono ?_); intro e w1 hO; obtain ⟨At, ct, rfl, ot', hb1⟩ := ownB_slice hO; have ot := own_base (base' := w.heap.size + 2) ot' (by simp); have hs1 := hs.drew.step hb1; have K0 := Lib.hid (HB0.out.drew.below hb1 (by simp; omega)); have K1 := Lib.hid (HB1.out.drew.below hb1 (by simp)); have HL := Lib.hid (HBL.out.drew.trans (hb1.mono (by simp; omega))); have f9 := K0.out.cell 9; have f10 := K0.out.cell 10; have hz1 := hb1.size; simp at hz1; clear hO ot' hb1) | ((with_reducible refine (HCT.out _ ht1).mono ?_); intro e w2 hO; obtain ⟨At, ct, rfl, ot', hb2⟩ := ownB_slice hO; have ot := own_base (base' := w.heap.size + 2) ot' (by omega); have os2 := own_below os hb2; have ot2 := ot; have J0 := Lib.hid (K0.out.below hb2 (by omega)); have J1 := Lib.hid (K1.out.below hb2 (by omega)); have HM := Lib.hid (HL.out.trans (hb2.mono (by omega))); clear f9 f10; have f9 := J0.out.cell 9; have f10 := J0.out.cell 10; have g9 := J0.out.frozen 9; have g10 := J0.out.frozen 10; have hz2 := hb2.size; clear hO ot' os hb2) | ((with_reducible refine (HCS.out _ hs1).mono ?_); intro e w2 hO; obtain ⟨As, cs, rfl, os', hb2⟩ := ownB_slice hO; have os := own_base (base' := w.heap.size + 2) os' (by omega); have ot2 := own_below ot hb2; have os2 := os; have J0 := Lib.hid (K0.out.below hb2 (by omega)); have J1 := Lib.hid (K1.out.below hb2 (by omega)); have HM := Lib.hid (HL.out.trans (hb2.mono (by omega))); clear f9 f10; have f9 := J0.out.cell 9; have f10 := J0.out.cell 10; have g9 := J0.out.frozen 9; have g10 := J0.out.frozen 10; have hz2 := hb2.size; clear hO os' ot hb2))
  all_goals
    have q1 := own_far (own_far os2 (grown_setCell w2 w.heap.size 9 (.slice As X.length cs)) (by omega)) (grown_setCell _ w.heap.size 10 (.slice At Y.length ct)) (by omega)
    have q2 := own_far (own_far ot2 (grown_setCell w2 w.heap.size 9 (.slice As X.length cs)) (by omega)) (grown_setCell _ w.heap.size 10 (.slice At Y.length ct)) (by omega)
    go_wp2_with (first | (refine wpList_load_row rfl 26 (.tmp 1) rfl w.heap.size rfl 26 _ (0, 0) _ ((J0.out.set_ 9 (.slice As X.length cs)).set_ 10 (.slice At Y.length ct)) Tryd.underlying26 rfl (by kernel_rfl) ?_) | (refine wpList_storeB rfl 26 (.tmp 2) (.tmp 11) rfl rfl (w.heap.size + 1) _ rfl rfl ((J1.out.far (p := ⟨w.heap.size, 9, none⟩) (by simp) (.slice As X.length cs)).far (p := ⟨w.heap.size, 10, none⟩) (by simp) (.slice At Y.length ct)) (by kernel_rfl) rfl rfl ?_; intro w4 hB4 hg4 hz4))
    refine bodyPost_ret (results_cellB (p := 2) rfl _ hB4 _ rfl Tryd.underlying26 rfl (by kernel_rfl)) rfl (HG.out As cs At ct _ (own_base (own_far q1 hg4 (by omega)) (by omega)) (own_base (own_far q2 hg4 (by omega)) (by omega)) ?_)
    exact ((HM.out.setCell (p := ⟨w.heap.size, 9, none⟩) (Nat.le_refl _) _).setCell (p := ⟨w.heap.size, 10, none⟩) (Nat.le_refl _) _).grown hg4 (by simp; omega) (fun _ h => by injection h with h; omega)
end Go.Proofs.YtofcdffcaiajmaaDoor
