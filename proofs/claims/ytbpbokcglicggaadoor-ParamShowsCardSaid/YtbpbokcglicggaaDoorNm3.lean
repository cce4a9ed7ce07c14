/- Walks: normal parameters after a check (param.Normal; quernref02.Normal). Conditions: as stated. -/
import Derived.Test.YtbpbokcglicggaaDoorNm2
namespace Go.Proofs.YtbpbokcglicggaaDoor
open Go.RowKit
set_option linter.unusedVariables false

def nrm (k : Int) (p : Pm) : Pm := if chkP k p = 0 then p.norm else Pm.zero
theorem nrm_len (k : Int) (p : Pm) : (nrm k p).s.length ≤ p.s.length ∧ (nrm k p).t.length ≤ p.t.length := by
  unfold nrm; split
  · exact ⟨trim_le _, trim_le _⟩
  · simp [Pm.zero]
set_option maxRecDepth 100000 in
set_option maxHeartbeats 1000000 in
theorem c_rNormal (k : Int) (p : Pm) (sa : Option Addr) (sc : Nat) (ta : Option Addr) (tc : Nat) (w : World) (h : RdP w p sa sc ta tc) :
    Calls Tryd.prog 21 #[.int .i64 k, pvS p sa sc ta tc] w (GivesP w (nrm k p) (chkP k p)) := by
  have hb0 := ((Below.refl w.heap.size w).alloc (Nat.le_refl _) (.cells (pvC p sa sc ta tc) 26)).alloc (by simp) (.cells pz 26)
  have hB0 := (Blk.new w 26 (pvC p sa sc ta tc)).alloc (.cells pz 26)
  have hB1 := Blk.new (w.alloc (.cells (pvC p sa sc ta tc) 26)) 26 pz
  simp only [World.size_alloc] at hB1
  have h2 := h.step hb0
  have HRT := Lib.hid h.rt
  have hC := c_rCheckP k p sa sc ta tc
  have hcS : ∀ w, Reads w w.heap.size 1 sa p.s.length (u8s p.s) → Calls Tryd.prog 38 #[.slice sa p.s.length sc] w (OwnBytes w (trim p.s)) := fun w h' => c_rtrimmed sa _ sc p.s w h' h.cs h.bs
  have hcT : ∀ w, Reads w w.heap.size 1 ta p.t.length (u8s p.t) → Calls Tryd.prog 38 #[.slice ta p.t.length tc] w (OwnBytes w (trim p.t)) := fun w h' => c_rtrimmed ta _ tc p.t w h' h.ct h.bt
  have hsel : nrm k p = if chkP k p = 0 then p.norm else Pm.zero := rfl
  have hn1 : p.norm = { p with s := trim p.s, t := trim p.t } := rfl
  rw [hn1] at hsel
  generalize nrm k p = q at *
  generalize chkP k p = E at *
  generalize trim p.s = X at *
  generalize trim p.t = Y at *
  have HC := Lib.hid hC
  have HCS := Lib.hid hcS
  have HCT := Lib.hid hcT
  have HB0 := Lib.hid hB0
  have HB1 := Lib.hid hB1
  have HBL := Lib.hid hb0
  clear hC hcS hcT hB0 hB1 hb0 h hn1
  by_cases h0 : E = 0
  · subst h0
    rw [if_pos rfl] at hsel
    subst hsel
    simp only [pvS, pv]
    go_enter Tryd.func21, Tryd.ntmps21
    go_wp2_with fail
    refine (HC.out _).mono ?_
    rintro e w1 ⟨rfl, hb1⟩
    have K0 := Lib.hid (HB0.out.below hb1 (by simp; omega))
    have K1 := Lib.hid (HB1.out.below hb1 (by simp))
    have h3 := h2.step hb1
    have HL := Lib.hid (HBL.out.trans (hb1.mono (B' := w.heap.size) (by simp; omega)))
    have hz1 := hb1.size
    simp only [World.size_alloc] at hz1
    clear hb1 h2
    have f9 := K0.out.cell 9
    go_wp2_with fail
    refine (HCS.out _ h3.rs).mono ?_
    intro e w2 hO
    obtain ⟨A2, c2, rfl, o2, hb2⟩ := ownB_slice hO
    clear f9
    have J0 := Lib.hid (K0.out.below hb2 (by omega))
    have J1 := Lib.hid (K1.out.below hb2 (by omega))
    have HM := Lib.hid (HL.out.trans (hb2.mono (by omega)))
    have hz2 := hb2.size
    have ht2 := h3.rt.step hb2
    clear hb2 hO
    have f9 := J0.out.cell 9
    have g9 := J0.out.frozen 9
    have f10 := J0.out.cell 10
    go_wp2_with fail
    have ht3 : Reads (w2.setCell ⟨w.heap.size, 9, none⟩ (.slice A2 X.length c2)) (w2.setCell ⟨w.heap.size, 9, none⟩ (.slice A2 X.length c2)).heap.size 1 ta p.t.length (u8s p.t) := ((HRT.out.below HM.out).setCell (p := ⟨w.heap.size, 9, none⟩) (Nat.le_refl _) _).more (by simp; omega)
    refine (HCT.out _ ht3).mono ?_
    intro e w3 hO
    obtain ⟨A3, c3, rfl, o3, hb3⟩ := ownB_slice hO
    clear f9 g9 f10 hO
    have q2 := own_below (own_far o2 (grown_setCell w2 w.heap.size 9 (.slice A2 X.length c2)) (by omega)) hb3
    have I0 := Lib.hid ((J0.out.set_ 9 (.slice A2 X.length c2)).below hb3 (by simp; omega))
    have I1 := Lib.hid ((J1.out.far (p := ⟨w.heap.size, 9, none⟩) (by simp) (.slice A2 X.length c2)).below hb3 (by simp; omega))
    have HN := Lib.hid ((HM.out.setCell (p := ⟨w.heap.size, 9, none⟩) (Nat.le_refl _) (.slice A2 X.length c2)).trans (hb3.mono (by simp; omega)))
    have hz3 := hb3.size
    simp only [World.size_setCell] at hz3 o3
    clear hb3
    have f10 := I0.out.cell 10
    have g10 := I0.out.frozen 10
    go_wp2_with (first | (refine wpList_load_row rfl 26 (.tmp 3) rfl w.heap.size rfl 26 _ (0, 0) _ (I0.out.set_ 10 (.slice A3 Y.length c3)) Tryd.underlying26 rfl (by kernel_rfl) ?_) | (refine wpList_storeB rfl 26 (.tmp 4) (.tmp 22) rfl rfl (w.heap.size + 1) _ rfl rfl (I1.out.far (p := ⟨w.heap.size, 10, none⟩) (by simp) (.slice A3 Y.length c3)) (by kernel_rfl) rfl rfl ?_; intro w4 hB4 hg4 hz4))
    refine bodyPost_ret (results_cell_tmpB (p := 4) (u := 5) rfl _ hB4 _ rfl Tryd.underlying26 rfl (by kernel_rfl)) rfl ⟨A2, c2, A3, c3, rfl, own_base (own_far (own_far q2 (grown_setCell w3 w.heap.size 10 (.slice A3 Y.length c3)) (by omega)) hg4 (by omega)) (by omega), own_base (own_far (own_far o3 (grown_setCell w3 w.heap.size 10 (.slice A3 Y.length c3)) (by omega)) hg4 (by omega)) (by omega), ?_⟩
    exact (HN.out.setCell (p := ⟨w.heap.size, 10, none⟩) (Nat.le_refl _) _).grown hg4 (by simp; omega) (fun _ h => by injection h with h; omega)
  · rw [if_neg h0] at hsel
    subst hsel
    have hne : (E != 0) = true := by simpa using h0
    clear h0
    simp only [pvS, pv]
    go_enter Tryd.func21, Tryd.ntmps21
    go_wp2_with fail
    refine (HC.out _).mono ?_
    rintro e w1 ⟨rfl, hb1⟩
    have K1 := Lib.hid (HB1.out.below hb1 (by simp))
    have HL := Lib.hid (HBL.out.trans (hb1.mono (B' := w.heap.size) (by simp; omega)))
    have hz1 := hb1.size
    simp only [World.size_alloc] at hz1
    clear hb1 h2
    go_wp2_with (first | (refine wpList_storeB rfl 26 (.tmp 4) (.tmp 12) rfl rfl (w.heap.size + 1) _ rfl rfl K1.out (by kernel_rfl) rfl rfl ?_; intro w4 hB4 hg4 hz4))
    exact bodyPost_ret (results_cell_tmpB (p := 4) (u := 5) rfl _ hB4 _ rfl Tryd.underlying26 rfl (by kernel_rfl)) rfl (gives_nil (p := Pm.zero) rfl rfl (HL.out.grown hg4 (by omega) (fun _ h => by injection h with h; omega)))
end Go.Proofs.YtbpbokcglicggaaDoor
