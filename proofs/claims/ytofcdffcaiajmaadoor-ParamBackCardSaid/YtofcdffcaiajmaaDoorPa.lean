/- Walks: quernref02.Alike and quernlaw02.alike: parameters held against parameters. Conditions: the slices read as the lists named. -/
import Derived.Test.YtofcdffcaiajmaaDoorPp
namespace Go.Proofs.YtofcdffcaiajmaaDoor
open Go.RowKit
set_option linter.unusedVariables false

theorem ret_bool {a b : Bool} (h : a = b) : Ending.returned (.bool a) = .returned (.bool b) := by rw [h]
set_option maxRecDepth 100000 in
set_option maxHeartbeats 4000000 in
theorem c_rAlike (p q : Pm) (sa1 sa2 ta1 ta2 : Option Addr) (sc1 sc2 tc1 tc2 : Nat) (w : World) (h1 : RdP w p sa1 sc1 ta1 tc1) (h2 : RdP w q sa2 sc2 ta2 tc2) :
    Calls Tryd.prog 27 #[pvS p sa1 sc1 ta1 tc1, pvS q sa2 sc2 ta2 tc2] w fun e w' => e = .returned (.bool (decide (p = q))) ∧ Below w.heap.size w w' := by
  obtain ⟨C, hC⟩ : ∃ C, decide (p = q) = C := ⟨_, rfl⟩
  rw [hC]
  have Hc := Lib.hid hC
  clear hC
  obtain ⟨d1, key1, fo1, de1, leaf1, off1, xof1, nd1, inn1, xs1, ys1⟩ := p
  obtain ⟨d2, key2, fo2, de2, leaf2, off2, xof2, nd2, inn2, xs2, ys2⟩ := q
  have r1 := h1.rs
  have r2 := h1.rt
  have r3 := h2.rs
  have r4 := h2.rt
  have b1 := h1.bs
  have b2 := h1.bt
  clear h1 h2
  simp only [pvS, pv] at r1 r2 r3 r4 b1 b2 ⊢
  obtain ⟨n1, hn1⟩ : ∃ n, xs1.length = n := ⟨_, rfl⟩
  obtain ⟨n2, hn2⟩ : ∃ n, xs2.length = n := ⟨_, rfl⟩
  obtain ⟨m1, hm1⟩ : ∃ n, ys1.length = n := ⟨_, rfl⟩
  obtain ⟨m2, hm2⟩ : ∃ n, ys2.length = n := ⟨_, rfl⟩
  rw [hn1] at r1 b1 ⊢
  rw [hm1] at r2 b2 ⊢
  rw [hn2] at r3 ⊢
  rw [hm2] at r4 ⊢
  clear hn1 hn2 hm1 hm2
  go_enter Tryd.func27, Tryd.ntmps27
  go_wp2_with fail
  · refine (c_ralike _ _ _ _ _ _ xs1 xs2 _ w.heap.size ((r1.alloc (Nat.le_refl _) _).alloc (by simp) _) ((r3.alloc (Nat.le_refl _) _).alloc (by simp) _) b1).mono ?_
    rintro e w1 ⟨rfl, hb1⟩
    obtain ⟨hcl, hfl⟩ := bcell hb1
    have hz := hb1.size
    simp only [World.size_alloc] at hcl hfl hz
    have HB0 := Lib.hid ((((Below.refl _ w).alloc (Nat.le_refl _) _).alloc (by simp) _).trans (hb1.mono (B' := w.heap.size) (by simp; omega)))
    have k1 := (((r2.alloc (Nat.le_refl _) _).alloc (by simp) _).keep (fun p hp => hb1.cell (by simp; omega)))
    have k2 := (((r4.alloc (Nat.le_refl _) _).alloc (by simp) _).keep (fun p hp => hb1.cell (by simp; omega)))
    clear hb1
    rcases hd : decide (xs1 = xs2) with _ | _
    · go_wp2_with fail
      go_ret
      exact ⟨ret_bool (by rw [← Hc.out]; grind), HB0.out⟩
    · go_wp2_with fail
      refine (c_ralike _ _ _ _ _ _ ys1 ys2 _ w.heap.size k1 k2 b2).mono ?_
      rintro e w2 ⟨rfl, hb2⟩
      clear hcl hfl
      go_wp2_with fail
      go_ret
      exact ⟨ret_bool (by rw [← Hc.out]; grind), HB0.out.trans (hb2.mono (by omega))⟩
  all_goals
    go_ret
    exact ⟨ret_bool (by rw [← Hc.out]; clear Hc; grind), ((Below.refl _ _).alloc (Nat.le_refl _) _).alloc (by simp) _⟩
theorem c_lalike (p q : Pm) (sa1 sa2 ta1 ta2 : Option Addr) (sc1 sc2 tc1 tc2 : Nat) (w : World) (h1 : RdP w p sa1 sc1 ta1 tc1) (h2 : RdP w q sa2 sc2 ta2 tc2) :
    Calls Tryd.prog 12 #[pvS p sa1 sc1 ta1 tc1, pvS q sa2 sc2 ta2 tc2] w fun e w' => e = .returned (.bool (decide (p = q))) ∧ Below w.heap.size w w' := by
  have hA := c_rAlike p q sa1 sa2 ta1 ta2 sc1 sc2 tc1 tc2
  generalize decide (p = q) = C at *
  have HA := Lib.hid hA
  clear hA
  simp only [pvS, pv] at HA ⊢
  go_enter Tryd.func12, Tryd.ntmps12
  go_wp2_with fail
  refine (HA.out _ (h1.step (((Below.refl _ w).alloc (Nat.le_refl _) _).alloc (by simp) _)) (h2.step (((Below.refl _ w).alloc (Nat.le_refl _) _).alloc (by simp) _))).mono ?_
  rintro e w1 ⟨rfl, hb1⟩
  go_wp2_with fail
  go_ret
  exact ⟨rfl, (((Below.refl _ _).alloc (Nat.le_refl _) _).alloc (by simp) _).trans (hb1.mono (by simp; omega))⟩
end Go.Proofs.YtofcdffcaiajmaaDoor
