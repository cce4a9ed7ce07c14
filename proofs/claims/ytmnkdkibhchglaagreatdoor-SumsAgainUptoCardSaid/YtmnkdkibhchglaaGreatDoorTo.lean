/- Walk: a line read (sums.Read). Conditions: lengths within the reach; the library's errors as laid. -/
import Derived.Test.YtmnkdkibhchglaaGreatDoorTn
import Derived.Test.YtmnkdkibhchglaaGreatDoorAs
namespace Go.Proofs.YtmnkdkibhchglaaGreatDoor
open Go.RowKit
set_option linter.unusedVariables false
attribute [local go_sem ↓] Go.wp_at_zero Go.wp_at_succ

/-- The library's errors as laid: both of numbers, and the type of errors. -/
def Laid (w : World) : Prop := Errs w ∧ w.cell? ⟨0, 0, none⟩ = some (.iface 129 (.agg #[.pointer (some ⟨7, 59, none⟩)]))
theorem Laid.grown {w w' : World} {row : Option Nat} (h : Laid w) (hg : w.grownBy w' row) (hr : ∀ b, row = some b → 6 < b) : Laid w' :=
  ⟨h.1.grown hg hr, hg.cell h.2 (fun e => by have := hr 0 e.symm; omega)⟩
theorem Laid.below {w w' : World} (h : Laid w) (hb : Below w.heap.size w w') : Laid w' := ⟨h.1.below hb, (hb.cell (p := ⟨0, 0, none⟩) (Lib.lt_of_cell h.2)).trans h.2⟩
theorem Laid.lt {w : World} (h : Laid w) : 6 < w.heap.size := h.1.2.2
/-- An entry in new memory, a place, an error. -/
def OutS (w : World) (e : Sm) (i : Nat) (er : Int) (x : Ending) (w' : World) : Prop :=
  ∃ D c, x = .returned (.tuple #[smV e D e.dg.length c, .int .i64 (i : Int), .int .i64 er]) ∧ w'.ownsRow w.heap.size 5 1 (.slice D e.dg.length c) e.dg.length (bys e.dg) ∧ Below w.heap.size w w'
theorem OutS.none_ {w w' : World} {i : Nat} {er : Int} (hb : Below w.heap.size w w') : OutS w smN i er (.returned (.tuple #[smV smN none 0 0, .int .i64 (i : Int), .int .i64 er])) w' :=
  ⟨none, 0, rfl, World.ownsRow_nil _ _ _ _, hb⟩
theorem smost_wrd {p : Int} : (smost p = 0 ↔ swrd p = []) := by
  unfold smost swrd
  by_cases h1 : p = 1
  · simp [h1]
  by_cases h2 : p = 2
  · simp [h2]
  by_cases h3 : p = 3
  · simp [h3]
  by_cases h4 : p = 4
  · simp [h4]
  · simp [h1, h2, h3, h4]
theorem as_hitG (e t : Addr) (old : Value) (w : World) (hg : w.cell? ⟨0, 0, none⟩ = some (.iface 129 (.agg #[.pointer (some ⟨7, 59, none⟩)]))) (ht0 : w.cell? t = some old) (hf0 : w.frozen? t = false) :
    Calls Tryz.prog 25 #[.iface 71 (.pointer (some e)), .iface 73 (.pointer (some t))] w fun ev w' => ev = .returned (.bool true) ∧ w'.cell? t = some (.pointer (some e)) ∧ w.grownBy w' (some t.block) := by
  have htl : t.block < w.heap.size := by
    rcases Nat.lt_or_ge t.block w.heap.size with h | h
    · exact h
    · simp [World.cell?, Array.getElem?_eq_none h] at ht0
  refine (as_hit e t old w hg ht0 hf0).mono ?_
  rintro ev w' ⟨rfl, rfl⟩
  refine ⟨rfl, ?_, only_setCell (g := t.block) (only_alloc (only_alloc (only_alloc (only_alloc (World.grownBy.refl w _) _) _) _) _) (.inl rfl) _⟩
  refine World.cell?_setCell_same (u := old) _ _ _ ?_
  rw [World.cell?_alloc_lt _ _ t (by simp; omega), World.cell?_alloc_lt _ _ t (by simp; omega), World.cell?_alloc_lt _ _ t (by simp; omega), World.cell?_alloc_lt _ _ t htl]
  exact ht0
set_option maxRecDepth 100000 in
set_option maxHeartbeats 16000000 in
theorem c_Read (s : ByteArray) (p : Int) (w : World) (hs : s.size ≤ 140737488351232) (hL : Laid w) :
    Calls Tryz.prog 12 #[.string s, .int .i64 p] w (OutS w (rdA s p).1 (rdA s p).2.1 (rdA s p).2.2) := by
  have HO := Lib.hid (fun W => c_of p W)
  unfold wayV at HO
  have hw0 := smost_wrd (p := p)
  have hRA : rdA s p = if smost p = 0 then (smN, 0, (1 : Int)) else if 16384 < s.size then (smN, 0, (2 : Int)) else match lineS s p with | .inl i => (smN, i, (4 : Int)) | .inr e => (e, 0, (0 : Int)) := rfl
  have HLD := Lib.hid hL
  have h6 := hL.lt
  clear hL
  have HB0 := Lib.hid (Blk.new w 33 smZ)
  have HBL0 := Lib.hid ((Below.refl w.heap.size w).alloc (Nat.le_refl _) (.cells smZ 33))
  have HFIN : Hid (∀ (i : Nat) (er : Int) w', Below w.heap.size w w' → OutS w smN i er (.returned (.tuple #[.agg smZ, .int .i64 (i : Int), .int .i64 er])) w') := fun i er w' hb => OutS.none_ hb
  by_cases h0 : smost p = 0
  · rw [if_pos h0] at hRA
    have hl := hw0.1 h0
    rw [hl] at HO
    rw [hRA]
    clear hRA hw0 h0 hl HLD
    generalize smost p = M at *
    generalize skind p = K at *
    generalize decide (p = 3 ∨ p = 4) = dl at *
    have hfl := fun W => fld_word (bstr []) (.int .i64 (M : Int)) (.int .i64 K) (.bool dl) W
    go_enter Tryz.func12, Tryz.ntmps12
    go_wp2_with fail
    refine (HO.out _).mono ?_
    rintro e w1 ⟨rfl, hb1⟩
    have HB1 := Lib.hid (HB0.out.below hb1 HB0.out.lt)
    have HBL1 := Lib.hid (below_step HBL0.out hb1)
    clear hb1
    go_wp2_with (refine wpList_storeB rfl 33 (.tmp 4) (.tmp 14) rfl rfl w.heap.size _ rfl rfl HB1.out (by kernel_rfl) rfl rfl ?_; intro w2 hB2 hg2 hz2)
    exact bodyPost_ret (results_cell_tmp2B (p := 4) (u := 5) (v := 6) rfl _ hB2 _ rfl Tryz.underlying33 rfl (by kernel_rfl)) rfl (HFIN.out 0 1 _ (HBL1.out.grown hg2 HBL1.out.size (fun _ h => by injection h with h; omega)))
  rw [if_neg h0] at hRA
  have hle : swrd p ≠ [] := fun h => h0 (hw0.2 h)
  have e1 : (swrd p).isEmpty = false := by rw [List.isEmpty_eq_false_iff]; exact hle
  clear hw0 hle
  by_cases h1 : 16384 < s.size
  · rw [if_pos h1] at hRA
    rw [hRA]
    clear hRA h0 HLD
    have t1 : (16384 : Int) < (s.size : Int) := by omega
    generalize swrd p = l at *
    generalize smost p = M at *
    generalize skind p = K at *
    generalize decide (p = 3 ∨ p = 4) = dl at *
    have hfl := fun W => fld_word (bstr l) (.int .i64 (M : Int)) (.int .i64 K) (.bool dl) W
    go_enter Tryz.func12, Tryz.ntmps12
    go_wp2_with fail
    refine (HO.out _).mono ?_
    rintro e w1 ⟨rfl, hb1⟩
    have HB1 := Lib.hid (HB0.out.below hb1 HB0.out.lt)
    have HBL1 := Lib.hid (below_step HBL0.out hb1)
    clear hb1
    go_wp2_with (refine wpList_storeB rfl 33 (.tmp 4) (.tmp 18) rfl rfl w.heap.size _ rfl rfl HB1.out (by kernel_rfl) rfl rfl ?_; intro w2 hB2 hg2 hz2)
    exact bodyPost_ret (results_cell_tmp2B (p := 4) (u := 5) (v := 6) rfl _ hB2 _ rfl Tryz.underlying33 rfl (by kernel_rfl)) rfl (HFIN.out 0 2 _ (HBL1.out.grown hg2 HBL1.out.size (fun _ h => by injection h with h; omega)))
  rw [if_neg h1] at hRA
  have t1 : ¬ (16384 : Int) < (s.size : Int) := by omega
  have HRD := Lib.hid (fun W b (hB : Blk W b 69 (rdC s 0 false 0 ⟨#[]⟩ none 0 0 false)) he hb => c_read s b p W hB (by omega) he hb)
  clear h0
  generalize rdA s p = RA at *
  generalize lineS s p = R at *
  generalize swrd p = l at *
  generalize smost p = M at *
  generalize skind p = K at *
  generalize decide (p = 3 ∨ p = 4) = dl at *
  have HRA := Lib.hid hRA
  clear hRA
  have hfl := fun W => fld_word (bstr l) (.int .i64 (M : Int)) (.int .i64 K) (.bool dl) W
  go_enter Tryz.func12, Tryz.ntmps12
  go_wp2_with fail
  refine (HO.out _).mono ?_
  rintro e w1 ⟨rfl, hb1⟩
  have HB1 := Lib.hid (HB0.out.below hb1 HB0.out.lt)
  have HBL1 := Lib.hid (below_step HBL0.out hb1)
  have HL1 := Lib.hid ((HLD.out.grown (row := none) (only_of_below HBL0.out none) (by simp)).below hb1)
  have hsz1 : w.heap.size < w1.heap.size := HB1.out.lt
  clear hb1 HB0 HBL0 HLD HO
  go_wp2_with fail
  have HK2 := Lib.hid (Blk.new w1 69 (rdC s 0 false 0 ⟨#[]⟩ none 0 0 false))
  have HB2 := Lib.hid (HB1.out.alloc (.cells (rdC s 0 false 0 ⟨#[]⟩ none 0 0 false) 69))
  have HBL2 := Lib.hid (HBL1.out.alloc HBL1.out.size (.cells (rdC s 0 false 0 ⟨#[]⟩ none 0 0 false) 69))
  have HL2 := Lib.hid (HL1.out.grown (row := none) (only_alloc (World.grownBy.refl w1 none) (.cells (rdC s 0 false 0 ⟨#[]⟩ none 0 0 false) 69)) (by simp))
  have HRR := Lib.hid (HRD.out _ w1.heap.size HK2.out HL2.out.1 (by omega))
  clear HB1 HBL1 HL1 HRD hfl e1
  generalize w1.alloc (.cells (rdC s 0 false 0 ⟨#[]⟩ none 0 0 false) 69) = w2 at *
  have hz2 : w1.heap.size < w2.heap.size := HK2.out.lt
  refine HRR.out.mono ?_
  rintro e w3 ⟨x, rfl, hg3, ht3⟩
  have HB3 := Lib.hid (HB2.out.grown hg3 (by simp; omega))
  have HBL3 := Lib.hid (HBL2.out.grown hg3 HBL2.out.size (fun _ h => by injection h with h; omega))
  have HL3 := Lib.hid (HL2.out.grown hg3 (fun _ h => by injection h with h; omega))
  have hz3 : w2.heap.size ≤ w3.heap.size := hg3.size
  clear hg3 HB2 HBL2 HL2 HRR HK2
  have HB4 := Lib.hid (HB3.out.alloc (.cells #[.pointer none] 71))
  have HBL4 := Lib.hid (HBL3.out.alloc HBL3.out.size (.cells #[.pointer none] 71))
  have HL4 := Lib.hid (HL3.out.grown (row := none) (only_alloc (World.grownBy.refl w3 none) (.cells #[.pointer none] 71)) (by simp))
  have HT4 := Lib.hid (Blk.new w3 71 #[.pointer none])
  cases R with
  | inl i =>
    have hfl : FltE w3 w2.heap.size x i := ht3
    obtain ⟨F, rfl, hF1, hF2⟩ := hfl
    have HF4 := Lib.hid (hF2.alloc (.cells #[.pointer none] 71))
    have hFlt := hF2.lt
    clear ht3 hF2
    have hRA : RA = (smN, i, (4 : Int)) := HRA.out
    subst hRA
    clear HRA HB3 HBL3 HL3
    go_wp2_with fail
    have HAS := Lib.hid (as_hitG ⟨F, 0, none⟩ ⟨w3.heap.size, 0, none⟩ (.pointer none) _ HL4.out.2 (HT4.out.cell 0) (HT4.out.frozen 0))
    have hz4 : (w3.alloc (.cells #[.pointer none] 71)).heap.size = w3.heap.size + 1 := by simp
    generalize w3.alloc (.cells #[.pointer none] 71) = w4 at *
    refine HAS.out.mono ?_
    rintro e w5 ⟨rfl, hc5, hg5⟩
    have HF5 := Lib.hid (HF4.out.grown hg5 (by simp; omega))
    have HB5 := Lib.hid (HB4.out.grown hg5 (by simp; omega))
    have HBL5 := Lib.hid (HBL4.out.grown hg5 HBL4.out.size (fun k h => by have h2 : w3.heap.size = k := Option.some.inj h; omega))
    clear hg5 HAS HF4 HB4 HBL4 HL4 HT4 hz4
    have y0 : w5.cell? ⟨F, 0, none⟩ = some (.int .i64 (i : Int)) := HF5.out.cell 0
    have y1 : w5.cell? ⟨F, 1, none⟩ = some (.int .i64 4) := HF5.out.cell 1
    have b0 : w5.cell? ⟨w.heap.size, 0, none⟩ = some (.int .i64 0) := HB5.out.cell 0
    have b1 : w5.cell? ⟨w.heap.size, 1, none⟩ = some (.string ⟨#[]⟩) := HB5.out.cell 1
    have b2 : w5.cell? ⟨w.heap.size, 2, none⟩ = some (.slice none 0 0) := HB5.out.cell 2
    have b3 : w5.cell? ⟨w.heap.size, 3, none⟩ = some (.bool false) := HB5.out.cell 3
    have f0 := HB5.out.frozen 0
    have f1 := HB5.out.frozen 1
    have f2 := HB5.out.frozen 2
    have f3 := HB5.out.frozen 3
    have hne : F ≠ w.heap.size := by omega
    go_wp2_with fail
    go_region
    have HB6 : Hid (Blk ((((w5.setCell ⟨w.heap.size, 0, none⟩ (.int .i64 0)).setCell ⟨w.heap.size, 1, none⟩ (.string ⟨#[]⟩)).setCell ⟨w.heap.size, 2, none⟩ (.slice none 0 0)).setCell ⟨w.heap.size, 3, none⟩ (.bool false)).drew w.heap.size 33 smZ) := ((((HB5.out.set_ 0 _).set_ 1 _).set_ 2 _).set_ 3 _).drew
    have HBL6 : Hid (Below w.heap.size w ((((w5.setCell ⟨w.heap.size, 0, none⟩ (.int .i64 0)).setCell ⟨w.heap.size, 1, none⟩ (.string ⟨#[]⟩)).setCell ⟨w.heap.size, 2, none⟩ (.slice none 0 0)).setCell ⟨w.heap.size, 3, none⟩ (.bool false)).drew) := ((((HBL5.out.setCell (p := ⟨w.heap.size, 0, none⟩) (Nat.le_refl _) _).setCell (p := ⟨w.heap.size, 1, none⟩) (Nat.le_refl _) _).setCell (p := ⟨w.heap.size, 2, none⟩) (Nat.le_refl _) _).setCell (p := ⟨w.heap.size, 3, none⟩) (Nat.le_refl _) _).drew
    generalize ((((w5.setCell ⟨w.heap.size, 0, none⟩ (.int .i64 0)).setCell ⟨w.heap.size, 1, none⟩ (.string ⟨#[]⟩)).setCell ⟨w.heap.size, 2, none⟩ (.slice none 0 0)).setCell ⟨w.heap.size, 3, none⟩ (.bool false)).drew = w6 at *
    go_wp2_with fail
    exact bodyPost_ret (results_cell_tmp2B (p := 4) (u := 5) (v := 6) rfl _ HB6.out _ rfl Tryz.underlying33 rfl (by kernel_rfl)) rfl (HFIN.out i 4 _ HBL6.out)
  | inr e =>
    obtain ⟨rfl, j, A, c, hK3, hO3⟩ := ht3
    have hRA : RA = (e, 0, (0 : Int)) := HRA.out
    subst hRA
    clear HRA HB3 HBL3 HL3
    have HO4 := Lib.hid (hO3.alloc (.cells #[.pointer none] 71))
    have HK4 := Lib.hid (hK3.alloc (.cells #[.pointer none] 71))
    clear hK3 hO3
    go_wp2_with fail
    generalize w3.alloc (.cells #[.pointer none] 71) = w4 at *
    refine (as_nil _ _).mono ?_
    rintro ev w5 ⟨rfl, rfl⟩
    have k3 := HK4.out.cell 3
    have k4 := HK4.out.cell 4
    have k5 := HK4.out.cell 5
    have k6 := HK4.out.cell 6
    have HO5 : Hid (w5.ownsRow w.heap.size 5 1 (.slice A e.dg.length c) e.dg.length (bys e.dg)) := own_base HO4.out (by omega)
    go_wp2_with (refine wpList_storeB rfl 33 (.tmp 4) (.tmp 40) rfl rfl w.heap.size (smC e A e.dg.length c) rfl rfl HB4.out (by kernel_rfl) rfl rfl ?_; intro w6 hB6 hg6 hz6)
    refine bodyPost_ret (results_cell_tmp2B (p := 4) (u := 5) (v := 6) rfl _ hB6 _ rfl Tryz.underlying33 rfl (by kernel_rfl)) rfl ⟨A, c, rfl, ?_, HBL4.out.grown hg6 HBL4.out.size (fun _ h => by injection h with h; omega)⟩
    exact own_base (own_far HO4.out hg6 (by omega)) (by omega)
end Go.Proofs.YtmnkdkibhchglaaGreatDoor
