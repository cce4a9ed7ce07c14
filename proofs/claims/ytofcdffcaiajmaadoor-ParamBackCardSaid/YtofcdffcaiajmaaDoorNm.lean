/- Walks: parameters copied, made normal (quernlaw02.copied; quernref02.trimmed, Normal; param.normal, Normal). Conditions: as stated. -/
import Derived.Test.YtofcdffcaiajmaaDoorPp
import Derived.Test.YtofcdffcaiajmaaDoorMem2
namespace Go.Proofs.YtofcdffcaiajmaaDoor
open Go.RowKit
set_option linter.unusedVariables false

/-- What a call hands back: parameters in new memory. -/
def GivesQ (w : World) (p : Pm) (e : Ending) (w' : World) : Prop :=
  ∃ sa sc ta tc, e = .returned (pvS p sa sc ta tc) ∧ w'.ownsRow w.heap.size 5 1 (.slice sa p.s.length sc) p.s.length (u8s p.s) ∧ w'.ownsRow w.heap.size 5 1 (.slice ta p.t.length tc) p.t.length (u8s p.t) ∧ Below w.heap.size w w'
/-- Without the noughts at the end. -/
def trim (xs : List Int) : List Int := xs.take (keep xs xs.length)
def Pm.norm (p : Pm) : Pm := { p with s := trim p.s, t := trim p.t }
theorem trim_le (xs : List Int) : (trim xs).length ≤ xs.length := by unfold trim; simp; omega
theorem c_trimmedR (A : Option Addr) (c : Nat) (xs : List Int) (w : World) (hr : Reads w w.heap.size 1 A xs.length (u8s xs)) (hc : xs.length ≤ c) (hn : xs.length ≤ 140737488351232) :
    Calls Tryd.prog 28 #[.slice A xs.length c] w (OwnBytes w (trim xs)) :=
  c_trimmed A xs.length c xs w hr hc (by omega)
theorem ownB_slice {w w' : World} {xs : List Int} {e : Ending} (h : OwnBytes w xs e w') : ∃ A c, e = .returned (.slice A xs.length c) ∧ w'.ownsRow w.heap.size 5 1 (.slice A xs.length c) xs.length (u8s xs) ∧ Below w.heap.size w w' := by
  obtain ⟨v, rfl, ho, hb⟩ := h
  obtain ⟨A, c, rfl, _, _⟩ := own_reads ho
  exact ⟨A, c, rfl, ho, hb⟩
abbrev pz : Array Value := #[.int .i64 0, .int .i64 0, .int .i64 0, .int .i64 0, .int .u32 0, .int .u64 0, .int .u32 0, .int .i64 0, .int .i64 0, .slice none 0 0, .slice none 0 0]
set_option maxRecDepth 100000 in
set_option maxHeartbeats 1000000 in
theorem c_copied (p : Pm) (sa : Option Addr) (sc : Nat) (ta : Option Addr) (tc : Nat) (w : World) (h : RdP w p sa sc ta tc) :
    Calls Tryd.prog 6 #[pvS p sa sc ta tc] w (GivesQ w p) := by
  obtain ⟨i0, hi0, hz0, hz1, hz2⟩ := info_parts u8_info
  have hb0 := ((Below.refl w.heap.size w).alloc (Nat.le_refl _) (.cells (pvC p sa sc ta tc) 26)).alloc (by simp) (.cells pz 26)
  have hs := ((h.rs.alloc (Nat.le_refl _) (.cells (pvC p sa sc ta tc) 26)).alloc (by simp) (.cells pz 26))
  have ht := ((h.rt.alloc (Nat.le_refl _) (.cells (pvC p sa sc ta tc) 26)).alloc (by simp) (.cells pz 26))
  have hB0 := (Blk.new w 26 (pvC p sa sc ta tc)).alloc (.cells pz 26)
  have hB1 := Blk.new (w.alloc (.cells (pvC p sa sc ta tc) 26)) 26 pz
  have hsz : ((w.alloc (.cells (pvC p sa sc ta tc) 26)).alloc (.cells pz 26)).heap.size = w.heap.size + 2 := by simp
  have bs := h.bs
  have bt := h.bt
  clear h
  simp only [World.size_alloc] at hB1
  simp only [pvS, pv]
  obtain ⟨n, hn⟩ : ∃ n, p.s.length = n := ⟨_, rfl⟩
  obtain ⟨m, hm⟩ : ∃ n, p.t.length = n := ⟨_, rfl⟩
  have HG : Hid (∀ sa sc ta tc w', w'.ownsRow w.heap.size 5 1 (.slice sa n sc) n (u8s p.s) → w'.ownsRow w.heap.size 5 1 (.slice ta m tc) m (u8s p.t) → Below w.heap.size w w' → GivesQ w p (.returned (pv p.d p.key p.fo p.de p.leaf p.off p.xof p.nd p.inn (.slice sa n sc) (.slice ta m tc))) w') := by
    subst hn; subst hm
    exact fun sa sc ta tc w' a b c => ⟨sa, sc, ta, tc, rfl, a, b, c⟩
  simp only [pvC, hn, hm] at hs ht hB0 hB1 hsz hb0
  rw [hn] at bs ⊢
  rw [hm] at bt ⊢
  have HSZ := Lib.hid hsz
  have HB0 := Lib.hid hB0
  have HB1 := Lib.hid hB1
  have HBL := Lib.hid hb0
  clear hn hm hsz hB0 hB1 hb0
  go_enter Tryd.func6, Tryd.ntmps6
  go_wp2_with (first | (at_builtin; refine wpList_append_any _ rfl (.tmp 5) (.tmp 7) _ rfl (w.heap.size + 2) 5 i0 _ 1 1 Tryd.underlying24 hi0 hz0 hz1 hz2 rfl (by omega) (.slice none 0 0) 0 [] rfl ⟨by simp, .inl ⟨rfl, rfl⟩⟩ w.heap.size _ n _ (u8s p.s) rfl hs (u8s_one _) (by simp only [maxLen]; omega) (by omega) (by simp) ?_; intro v1 w2 hown1 hg1 _; rw [Nat.zero_add, List.nil_append] at hown1; obtain ⟨A1, c1, rfl⟩ := own_slice hown1; have hb2 := below_of_grown hg1; have K0 := Lib.hid (HB0.out.below hb2 (by simp; omega)); have K1 := Lib.hid (HB1.out.below hb2 (by simp)); have ht2 := (ht.keep (fun p hp => hb2.cell (by simp; omega))).setCell (p := ⟨w.heap.size, 9, none⟩) (Nat.le_refl _) (.slice A1 n c1); have hz2' := hb2.size; have HL2 := Lib.hid (HBL.out.trans (hb2.mono (by simp; omega))); have f9 := K0.out.cell 9; have f10a := K0.out.cell 10; have g9 := K0.out.frozen 9; have hown1' := own_far hown1 (grown_setCell w2 w.heap.size 9 (.slice A1 n c1)) (by omega); clear hb2 hg1 hown1; simp only [World.size_alloc] at hz2') | (at_builtin; refine wpList_append_any _ rfl (.tmp 10) (.tmp 12) _ rfl (w.heap.size + 2) 5 i0 _ 1 1 Tryd.underlying24 hi0 hz0 hz1 hz2 rfl (by omega) (.slice none 0 0) 0 [] rfl ⟨by simp, .inl ⟨rfl, rfl⟩⟩ w.heap.size _ m _ (u8s p.t) rfl ht2 (u8s_one _) (by simp only [maxLen]; omega) (by omega) (by simp; omega) ?_; intro v3 w3 hown3 hg3 _; rw [Nat.zero_add, List.nil_append] at hown3; obtain ⟨A3, c3, rfl⟩ := own_slice hown3; have hb3 := below_of_grown hg3; have K03 := Lib.hid ((K0.out.set_ 9 (.slice A1 n c1)).below hb3 (by simp; omega)); have K13 := Lib.hid ((K1.out.far (p := ⟨w.heap.size, 9, none⟩) (by simp) (.slice A1 n c1)).below hb3 (by simp; omega)); have hz3' := hb3.size; have HL3 := Lib.hid ((HL2.out.setCell (p := ⟨w.heap.size, 9, none⟩) (Nat.le_refl _) (.slice A1 n c1)).trans (hb3.mono (by simp; omega))); have f10 := K03.out.cell 10; have g10 := K03.out.frozen 10; have hownA := own_below hown1' hb3; clear hb3 hg3 f9 g9 f10a hown1'; simp only [World.size_setCell] at hz3') | (refine wpList_load_row rfl 26 (.tmp 1) rfl w.heap.size rfl 26 _ (0, 0) _ (K03.out.set_ 10 (.slice A3 m c3)) Tryd.underlying26 rfl (by kernel_rfl) ?_) | (refine wpList_storeB rfl 26 (.tmp 2) (.tmp 15) rfl rfl (w.heap.size + 1) _ rfl rfl (K13.out.far (p := ⟨w.heap.size, 10, none⟩) (by simp) (.slice A3 m c3)) (by kernel_rfl) rfl rfl ?_; intro w4 hB4 hg4 hz4))
  have o1 := own_far (own_far hownA (grown_setCell w3 w.heap.size 10 (.slice A3 m c3)) (by omega)) hg4 (by omega)
  have o3 := own_far (own_far hown3 (grown_setCell w3 w.heap.size 10 (.slice A3 m c3)) (by omega)) hg4 (by omega)
  refine bodyPost_ret (results_cellB (p := 2) rfl _ hB4 _ rfl Tryd.underlying26 rfl (by kernel_rfl)) rfl (HG.out A1 c1 A3 c3 _ (own_base o1 (by omega)) (own_base o3 (by omega)) ?_)
  exact (HL3.out.setCell (p := ⟨w.heap.size, 10, none⟩) (Nat.le_refl _) _).grown hg4 (by simp; omega) (fun _ h => by injection h with h; omega)
end Go.Proofs.YtofcdffcaiajmaaDoor
