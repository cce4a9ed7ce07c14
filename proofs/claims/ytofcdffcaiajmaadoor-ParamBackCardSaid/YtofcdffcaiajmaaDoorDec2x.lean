/- Walks: parameters out of a block of the right length (param.Decode). Conditions: as stated. -/
import Derived.Test.YtofcdffcaiajmaaDoorDec
import Derived.BigRegion
import Derived.Deep.DrawnRows
import Derived.Outline
namespace Go.Proofs.YtofcdffcaiajmaaDoor
open Go.RowKit
set_option linter.unusedVariables false
attribute [local go_sem ↓] Go.wp_at_zero Go.wp_at_succ

set_option maxRecDepth 100000 in
set_option maxHeartbeats 4000000 in
theorem c_Decode_2x (A : Option Addr) (c : Nat) (xs : List Int) (w : World) (hl : xs.length = 32) (hc : 32 ≤ c) (hr : Reads w w.heap.size 1 A 32 (u8s xs)) (hx : ∀ z ∈ xs, 0 ≤ z ∧ z < 256) :
    Calls Tryd.prog 8 #[.int .i64 2, .slice A 32 c, .bool true] w (GivesP w (decA 2 xs true) (decE 2 xs true)) := by
  have hsz : szerr 2 32 = 0 := rfl
  have hR := c_right 2 A 32 c
  rw [hsz] at hR
  have HR := Lib.hid hR
  have HS := Lib.hid (c_sizes 2 (by decide))
  obtain ⟨b, off, rfl, hbB, hbw, hcells⟩ := hr.form (by omega)
  have HC1 : Hid (∀ w1, Below w.heap.size w w1 → ∀ j, j < 32 → w1.cell? ⟨b, off + j, none⟩ = some (.int .u8 (xs.getD j 0))) := fun w1 hb j hj => by
    rw [hb.cell (p := ⟨b, off + j, none⟩) hbB, hcells j hj, getD_u8s (by omega)]
  have hg4 := fun wv B h => c_get (some ⟨b, off, none⟩) 32 c xs wv B h (by omega) hx 4 4 (by omega) (by omega)
  have hg84 : ∀ (wv : World) (B : Nat), Reads wv B 1 (some ⟨b, off, none⟩) 32 (u8s xs) → Calls Tryd.prog 19 #[.slice (some ⟨b, off, none⟩) 32 c, .int .i64 8, .int .i64 4] wv (fun e w' => e = .returned (.int .u64 (le ((xs.drop 8).take 4))) ∧ wv = w') := fun wv B h => c_get (some ⟨b, off, none⟩) 32 c xs wv B h (by omega) hx 8 4 (by omega) (by omega)
  have hg6 : ∀ (wv : World) (B : Nat), Reads wv B 1 (some ⟨b, off, none⟩) 32 (u8s xs) → Calls Tryd.prog 19 #[.slice (some ⟨b, off, none⟩) 32 c, .int .i64 12, .int .i64 2] wv (fun e w' => e = .returned (.int .u64 (le ((xs.drop 12).take 2))) ∧ wv = w') := fun wv B h => c_get (some ⟨b, off, none⟩) 32 c xs wv B h (by omega) hx 12 2 (by omega) (by omega)
  have hg8 : ∀ (wv : World) (B : Nat), Reads wv B 1 (some ⟨b, off, none⟩) 32 (u8s xs) → Calls Tryd.prog 19 #[.slice (some ⟨b, off, none⟩) 32 c, .int .i64 8, .int .i64 6] wv (fun e w' => e = .returned (.int .u64 (le ((xs.drop 8).take 6))) ∧ wv = w') := fun wv B h => c_get (some ⟨b, off, none⟩) 32 c xs wv B h (by omega) hx 8 6 (by omega) (by omega)
  obtain ⟨x0, h0⟩ : ∃ x, xs.getD 0 0 = x := ⟨_, rfl⟩
  obtain ⟨x1, h1⟩ : ∃ x, xs.getD 1 0 = x := ⟨_, rfl⟩
  obtain ⟨x2, h2⟩ : ∃ x, xs.getD 2 0 = x := ⟨_, rfl⟩
  obtain ⟨x3, h3⟩ : ∃ x, xs.getD 3 0 = x := ⟨_, rfl⟩
  obtain ⟨x7, h7⟩ : ∃ x, xs.getD 14 0 = x := ⟨_, rfl⟩
  obtain ⟨x8, h8⟩ : ∃ x, xs.getD 15 0 = x := ⟨_, rfl⟩
  obtain ⟨q0a, q0b⟩ := mem_bd hx 0
  obtain ⟨q1a, q1b⟩ := mem_bd hx 1
  obtain ⟨q2a, q2b⟩ := mem_bd hx 2
  obtain ⟨q3a, q3b⟩ := mem_bd hx 3
  obtain ⟨q7a, q7b⟩ := mem_bd hx 14
  obtain ⟨q8a, q8b⟩ := mem_bd hx 15
  rw [h0] at q0a q0b
  rw [h1] at q1a q1b
  rw [h2] at q2a q2b
  rw [h3] at q3a q3b
  rw [h7] at q7a q7b
  rw [h8] at q8a q8b
  have hsegb : ∀ a n, a + n ≤ 32 → 0 ≤ le (seg xs a n) ∧ le (seg xs a n) < 256 ^ n := fun a n h => by
    have hlen : (seg xs a n).length = n := by unfold seg; simp; omega
    have := le_bound (seg xs a n) (fun z hz => hx z (List.mem_of_mem_drop (List.mem_of_mem_take hz)))
    rw [hlen] at this
    exact this
  obtain ⟨L, hL⟩ : ∃ x, le (seg xs 4 4) = x := ⟨_, rfl⟩
  obtain ⟨V, hV⟩ : ∃ x, le (seg xs 8 6) = x := ⟨_, rfl⟩
  obtain ⟨La, Lb⟩ := hsegb 4 4 (by omega)
  obtain ⟨U, hU⟩ : ∃ x, le (seg xs 8 4) = x := ⟨_, rfl⟩
  obtain ⟨X, hX⟩ : ∃ x, le (seg xs 12 2) = x := ⟨_, rfl⟩
  obtain ⟨Ua, Ub⟩ := hsegb 8 4 (by omega)
  obtain ⟨Xa, Xb⟩ := hsegb 12 2 (by omega)
  rw [show le ((xs.drop 8).take 4) = U from hU] at hg84
  rw [show le ((xs.drop 12).take 2) = X from hX] at hg6
  rw [hU] at Ua Ub
  rw [hX] at Xa Xb
  have Ub : U < 4294967296 := Ub
  have Xb : X < 65536 := Xb
  obtain ⟨Va, Vb⟩ := hsegb 8 6 (by omega)
  rw [show le ((xs.drop 4).take 4) = L from hL] at hg4
  rw [show le ((xs.drop 8).take 6) = V from hV] at hg8
  rw [hL] at La Lb
  rw [hV] at Va Vb
  have Lb : L < 4294967296 := Lb
  have Vb : V < 281474976710656 := Vb
  have HX0 := Lib.hid h0
  have HX1 := Lib.hid h1
  have HX2 := Lib.hid h2
  have HX3 := Lib.hid h3
  have HX7 := Lib.hid h7
  have HX8 := Lib.hid h8
  have HLL := Lib.hid hL
  have HVV := Lib.hid hV
  have HG4 := Lib.hid hg4
  have HG8 := Lib.hid hg8
  have HLN := Lib.hid hl
  have HG84 := Lib.hid hg84
  have HG6 := Lib.hid hg6
  have HXX := Lib.hid hx
  obtain ⟨p, hp⟩ : ∃ p, decRaw 2 xs true = p := ⟨_, rfl⟩
  have hps : p.s = seg xs 16 8 := by rw [← hp]; rfl
  have hpt : p.t = seg xs 24 8 := by rw [← hp]; rfl
  have hls : p.s.length = 8 := by rw [hps]; exact seg_len (by omega)
  have hlt : p.t.length = 8 := by rw [hpt]; exact seg_len (by omega)
  have hpv : ∀ A sc A' tc, pvS p A sc A' tc = pv x0 x1 x2 x3 L U X x7 x8 (.slice A 8 sc) (.slice A' 8 tc) := fun A sc A' tc => by
    unfold pvS
    rw [hls, hlt, ← hp, ← h0, ← h1, ← h2, ← h3, ← h7, ← h8, ← hL, ← hU, ← hX]
    rfl
  have hxo : (decRaw 2 xs true).xof = X := by rw [← hX]; rfl
  have hE : X ≠ 0 → decE 2 xs true = chkP 2 p := fun h => by
    unfold decE
    rw [hl, if_neg (by decide), if_neg (fun h => absurd h.1 (by decide)), if_neg (fun h' => h (hxo ▸ h'.2)), hp]
  have hE0 : X = 0 → decE 2 xs true = 24 := fun h => by
    unfold decE
    rw [hl, if_neg (by decide), if_neg (fun h => absurd h.1 (by decide)), if_pos ⟨rfl, hxo.trans h⟩]
  have hCk := fun A sc A' tc wv => c_CheckP 2 p A sc A' tc wv
  have hNo := fun A sc A' tc wv => c_normal p A sc A' tc wv
  simp only [hpv] at hCk hNo
  obtain ⟨E1, hE1⟩ : ∃ e, chkP 2 p = e := ⟨_, rfl⟩
  rw [hE1] at hCk hE
  have HE := Lib.hid hE
  have HPS := Lib.hid hps
  have HPT := Lib.hid hpt
  have HLS := Lib.hid hls
  have HLT := Lib.hid hlt
  have hZ := fun w' h h' => gives_zero (w := w) (w' := w') (k := 2) (xs := xs) (ext := true) (E := decE 2 xs true) rfl h h'
  have hY : decE 2 xs true = 0 → decA 2 xs true = p.norm := fun h => by rw [← hp]; exact if_pos h
  generalize decE 2 xs true = E at *
  generalize decA 2 xs true = D at *
  have HCk := Lib.hid hCk
  have HE0 := Lib.hid hE0
  have HNo := Lib.hid hNo
  have HZ := Lib.hid hZ
  have HY := Lib.hid hY
  clear hp hps hpt hls hlt hpv hE hCk hE0 hE1 hxo hNo hZ hY
  clear hR hsz hcells hl h0 h1 h2 h3 h7 h8 hL hV hg4 hg8 hsegb hx hU hX hg84 hg6
  go_enter Tryd.func8, Tryd.ntmps8
  go_wp2_with (first | (go_at_call 18; refine (HR.out _ (by omega)).mono ?_; rintro e w' ⟨rfl, rfl⟩) | (go_at_call 13; refine (HS.out _).mono ?_; rintro e w' ⟨rfl, rfl⟩))
  go_wp2_with fail
  refine (c_rows 2 (by decide) _).mono ?_
  rintro e w1 ⟨rfl, hRw, hb1⟩
  simp only [World.size_alloc] at hRw
  have hR0 := (Blk.new w 26 pz).below hb1 (by simp)
  have HL1 := Lib.hid (((Below.refl w.heap.size w).alloc (Nat.le_refl _) (.cells pz 26)).trans (hb1.mono (B' := w.heap.size) (by simp)))
  have hz1 := hb1.size
  simp only [World.size_alloc] at hz1
  have hr1 := Lib.hid ((hr.step ((Below.refl w.heap.size w).alloc (Nat.le_refl _) (.cells pz 26))).step hb1)
  have y0 : w1.cell? ⟨b, off, none⟩ = some (.int .u8 x0) := HX0.out ▸ HC1.out w1 HL1.out 0 (by omega)
  have y1 : w1.cell? ⟨b, off + 1, none⟩ = some (.int .u8 x1) := HX1.out ▸ HC1.out w1 HL1.out 1 (by omega)
  have y2 : w1.cell? ⟨b, off + 2, none⟩ = some (.int .u8 x2) := HX2.out ▸ HC1.out w1 HL1.out 2 (by omega)
  have y3 : w1.cell? ⟨b, off + 3, none⟩ = some (.int .u8 x3) := HX3.out ▸ HC1.out w1 HL1.out 3 (by omega)
  have y7 : w1.cell? ⟨b, off + 14, none⟩ = some (.int .u8 x7) := HX7.out ▸ HC1.out w1 HL1.out 14 (by omega)
  have y8 : w1.cell? ⟨b, off + 15, none⟩ = some (.int .u8 x8) := HX8.out ▸ HC1.out w1 HL1.out 15 (by omega)
  have r7 : w1.cell? ⟨w.heap.size + 1, 36, none⟩ = some (.int .i64 14) := hRw.cell 36
  have r8 : w1.cell? ⟨w.heap.size + 1, 41, none⟩ = some (.int .i64 15) := hRw.cell 41
  have HR0 := Lib.hid hR0
  have HRw := Lib.hid hRw
  clear hb1 hRw hR0
  have hb1' : b < w1.heap.size := by omega
  have hR1' : w.heap.size + 1 < w1.heap.size := HRw.out.lt
  go_wp2_with fail
  go_region_held3 (fun W => W.cell? ⟨b, off, none⟩ = some (.int .u8 x0) ∧ W.cell? ⟨b, off + 1, none⟩ = some (.int .u8 x1) ∧ W.cell? ⟨b, off + 2, none⟩ = some (.int .u8 x2) ∧ W.cell? ⟨b, off + 3, none⟩ = some (.int .u8 x3) ∧ W.cell? ⟨b, off + 14, none⟩ = some (.int .u8 x7) ∧ W.cell? ⟨b, off + 15, none⟩ = some (.int .u8 x8) ∧ W.cell? ⟨w.heap.size + 1, 36, none⟩ = some (.int .i64 14) ∧ W.cell? ⟨w.heap.size + 1, 41, none⟩ = some (.int .i64 15)) (go_keep) (first | (go_at_call 19; refine (HG4.out _ w1.heap.size ?_).mono ?_; (first | exact hr1.out | exact hr1.out.alloc (Nat.le_refl _) _); rintro e w' ⟨rfl, rfl⟩))
  all_goals
    have W0 : IntKind.i64.wrap x0 = x0 := IntWalk.i64_in _ (by omega)
    have W1 : IntKind.i64.wrap x1 = x1 := IntWalk.i64_in _ (by omega)
    have W2 : IntKind.i64.wrap x2 = x2 := IntWalk.i64_in _ (by omega)
    have W3 : IntKind.i64.wrap x3 = x3 := IntWalk.i64_in _ (by omega)
    have W7 : IntKind.i64.wrap x7 = x7 := IntWalk.i64_in _ (by omega)
    have W8 : IntKind.i64.wrap x8 = x8 := IntWalk.i64_in _ (by omega)
    have WL : IntKind.u32.wrap L = L := IntWalk.u32_in _ (by omega)
    try simp only [W0, W1, W2, W3, W7, W8, WL] at *
    clear W0 W1 W2 W3 W7 W8 WL
    have hP2 : Blk (w1.alloc (.cells #[.int .i64 x0, .int .i64 x1, .int .i64 x2, .int .i64 x3, .int .u32 L, .int .u64 0, .int .u32 0, .int .i64 x7, .int .i64 x8, .slice none 0 0, .slice none 0 0] 26)).drew w1.heap.size 26 #[.int .i64 x0, .int .i64 x1, .int .i64 x2, .int .i64 x3, .int .u32 L, .int .u64 0, .int .u32 0, .int .i64 x7, .int .i64 x8, .slice none 0 0, .slice none 0 0] := Blk.drew (Blk.new _ _ _)
    have hR2 := (HR0.out.alloc (.cells #[.int .i64 x0, .int .i64 x1, .int .i64 x2, .int .i64 x3, .int .u32 L, .int .u64 0, .int .u32 0, .int .i64 x7, .int .i64 x8, .slice none 0 0, .slice none 0 0] 26)).drew
    have hw2 := (HRw.out.alloc (.cells #[.int .i64 x0, .int .i64 x1, .int .i64 x2, .int .i64 x3, .int .u32 L, .int .u64 0, .int .u32 0, .int .i64 x7, .int .i64 x8, .slice none 0 0, .slice none 0 0] 26)).drew
    have hr2 := (hr1.out.alloc (Nat.le_refl _) (.cells #[.int .i64 x0, .int .i64 x1, .int .i64 x2, .int .i64 x3, .int .u32 L, .int .u64 0, .int .u32 0, .int .i64 x7, .int .i64 x8, .slice none 0 0, .slice none 0 0] 26)).drew
    have hL2 := (HL1.out.alloc HL1.out.size (.cells #[.int .i64 x0, .int .i64 x1, .int .i64 x2, .int .i64 x3, .int .u32 L, .int .u64 0, .int .u32 0, .int .i64 x7, .int .i64 x8, .slice none 0 0, .slice none 0 0] 26)).drew
    generalize (w1.alloc (.cells #[.int .i64 x0, .int .i64 x1, .int .i64 x2, .int .i64 x3, .int .u32 L, .int .u64 0, .int .u32 0, .int .i64 x7, .int .i64 x8, .slice none 0 0, .slice none 0 0] 26)).drew = w2 at *
    have r5 : w2.cell? ⟨w.heap.size + 1, 27, none⟩ = some (.int .i64 6) := hw2.cell 27
    have p5 := hP2.cell 5
    have p5f := hP2.frozen 5
    clear y0 y1 y2 y3 y7 y8 r7 r8
    go_wp2_with (first | (go_at_call 19; with_reducible refine (HG8.out _ w1.heap.size hr2).mono ?_; rintro e w' ⟨rfl, rfl⟩) | (go_at_call 19; with_reducible refine (HG84.out _ w1.heap.size (hr2.setCell (Nat.le_refl _) _)).mono ?_; rintro e w' ⟨rfl, rfl⟩))
    have hPA : Blk ((w2.setCell ⟨w1.heap.size, 5, none⟩ (.int .u64 V)).setCell ⟨w1.heap.size, 5, none⟩ (.int .u64 U)) w1.heap.size 26 #[.int .i64 x0, .int .i64 x1, .int .i64 x2, .int .i64 x3, .int .u32 L, .int .u64 U, .int .u32 0, .int .i64 x7, .int .i64 x8, .slice none 0 0, .slice none 0 0] := (hP2.set_ 5 (.int .u64 V)).set_ 5 (.int .u64 U)
    have hRA := (hR2.far (p := ⟨w1.heap.size, 5, none⟩) (by simp; omega) (.int .u64 V)).far (p := ⟨w1.heap.size, 5, none⟩) (by simp; omega) (.int .u64 U)
    have hwA := (hw2.far (p := ⟨w1.heap.size, 5, none⟩) (by simp; omega) (.int .u64 V)).far (p := ⟨w1.heap.size, 5, none⟩) (by simp; omega) (.int .u64 U)
    have hrA := (hr2.setCell (p := ⟨w1.heap.size, 5, none⟩) (Nat.le_refl _) (.int .u64 V)).setCell (p := ⟨w1.heap.size, 5, none⟩) (Nat.le_refl _) (.int .u64 U)
    have hLA := (hL2.setCell (p := ⟨w1.heap.size, 5, none⟩) (by simp; omega) (.int .u64 V)).setCell (p := ⟨w1.heap.size, 5, none⟩) (by simp; omega) (.int .u64 U)
    clear p5 p5f r5
    generalize (w2.setCell ⟨w1.heap.size, 5, none⟩ (.int .u64 V)).setCell ⟨w1.heap.size, 5, none⟩ (.int .u64 U) = wA at hPA hRA hwA hrA hLA ⊢
    clear hP2 hR2 hr2 hL2 hw2
    have r6a : wA.cell? ⟨w.heap.size + 1, 31, none⟩ = some (.int .i64 12) := hwA.cell 31
    have r6s : wA.cell? ⟨w.heap.size + 1, 32, none⟩ = some (.int .i64 2) := hwA.cell 32
    have p6f := hPA.frozen 6
    have p6 : wA.cell? ⟨w1.heap.size, 6, none⟩ = some (.int .u32 0) := hPA.cell 6
    have WX : IntKind.u32.wrap X = X := IntWalk.u32_in _ (by omega)
    have k31 : (wA.setCell ⟨w1.heap.size, 6, none⟩ (.int .u32 X)).cell? ⟨w.heap.size + 1, 31, none⟩ = some (.int .i64 12) := by
      rw [World.cell?_setCell_other _ _ _ _ (fun e => by injection e with e _ _; omega)]
      exact r6a
    have k32 : (wA.setCell ⟨w1.heap.size, 6, none⟩ (.int .u32 X)).cell? ⟨w.heap.size + 1, 32, none⟩ = some (.int .i64 2) := by
      rw [World.cell?_setCell_other _ _ _ _ (fun e => by injection e with e _ _; omega)]
      exact r6s
    go_region_held3 (fun W => W.cell? ⟨w.heap.size + 1, 31, none⟩ = some (.int .i64 12) ∧ W.cell? ⟨w.heap.size + 1, 32, none⟩ = some (.int .i64 2)) (go_keep) (first | (go_at_call 19; refine (HG6.out _ w1.heap.size ?_).mono ?_; (first | exact hrA.drew | exact hrA); rintro e w' ⟨rfl, rfl⟩))
    trace "behind region 17"
    go_goals
    have hP3 : Blk (wA.setCell ⟨w1.heap.size, 6, none⟩ (.int .u32 X)).drew w1.heap.size 26 #[.int .i64 x0, .int .i64 x1, .int .i64 x2, .int .i64 x3, .int .u32 L, .int .u64 U, .int .u32 X, .int .i64 x7, .int .i64 x8, .slice none 0 0, .slice none 0 0] := (hPA.set_ 6 (.int .u32 X)).drew
    have hR3 := (hRA.far (p := ⟨w1.heap.size, 6, none⟩) (by simp; omega) (.int .u32 X)).drew
    have hr3 := (hrA.setCell (p := ⟨w1.heap.size, 6, none⟩) (Nat.le_refl _) (.int .u32 X)).drew
    have hL3 := (hLA.setCell (p := ⟨w1.heap.size, 6, none⟩) (by simp; omega) (.int .u32 X)).drew
    clear r6a r6s p6f p6 k31 k32
    generalize (wA.setCell ⟨w1.heap.size, 6, none⟩ (.int .u32 X)).drew = w3 at hP3 hR3 hr3 hL3 ⊢
    clear hPA hRA hrA hLA hwA
    have p6 : w3.cell? ⟨w1.heap.size, 6, none⟩ = some (.int .u32 X) := hP3.cell 6
    by_cases hX0 : X = 0
    · have hE24 := HE0.out hX0
      subst hE24
      subst hX0
      have HR3 := Lib.hid hR3
      have HL3 := Lib.hid hL3
      go_wp2_with (first | (refine wpList_storeB rfl 26 (.tmp 6) (.tmp 107) rfl rfl w.heap.size _ rfl rfl HR3.out (by kernel_rfl) rfl rfl ?_; intro w6 hB6 hg6 hz6))
      exact bodyPost_ret (results_cell_tmpB (p := 6) (u := 7) rfl _ hB6 _ rfl Tryd.underlying26 rfl (by kernel_rfl)) rfl (HZ.out _ (by decide) (HL3.out.grown hg6 HL3.out.size (fun _ h => by injection h with h; omega)))
    have hX1 : (X == 0) = false := by simpa using hX0
    have hEE := HE.out hX0
    subst hEE
    go_wp2_with fail
    simp only [show ksz 2 = 32 from rfl, show ksl 2 = 8 from rfl]
    have p9 := hP3.cell 9
    have p9f := hP3.frozen 9
    have p10 := hP3.cell 10
    have p10f := hP3.frozen 10
    have e1 : IntKind.i64.wrap 16 = 16 := by decide
    have e2 : IntKind.i64.wrap 24 = 24 := by decide
    have e3 : (24 : Int) ≤ ↑c := by omega
    have e4 : 24 ≤ c := by omega
    have e5 : ¬ c = 16 := by omega
    have e6 : ¬ c = 24 := by omega
    go_region
  
    have e5 : ¬ c = 16 := by omega
    have e6 : ¬ c = 24 := by omega
    have hP4 : Blk ((w3.setCell ⟨w1.heap.size, 9, none⟩ (.slice (some ⟨b, off + 16, none⟩) 8 (c - 16))).setCell ⟨w1.heap.size, 10, none⟩ (.slice (some ⟨b, off + 24, none⟩) 8 (c - 24))).drew w1.heap.size 26 #[.int .i64 x0, .int .i64 x1, .int .i64 x2, .int .i64 x3, .int .u32 L, .int .u64 U, .int .u32 X, .int .i64 x7, .int .i64 x8, .slice (some ⟨b, off + 16, none⟩) 8 (c - 16), .slice (some ⟨b, off + 24, none⟩) 8 (c - 24)] := ((hP3.set_ 9 _).set_ 10 _).drew
    have hR4 := ((hR3.far (p := ⟨w1.heap.size, 9, none⟩) (by simp; omega) (.slice (some ⟨b, off + 16, none⟩) 8 (c - 16))).far (p := ⟨w1.heap.size, 10, none⟩) (by simp; omega) (.slice (some ⟨b, off + 24, none⟩) 8 (c - 24))).drew
    have hr4 := ((hr3.setCell (p := ⟨w1.heap.size, 9, none⟩) (Nat.le_refl _) (.slice (some ⟨b, off + 16, none⟩) 8 (c - 16))).setCell (p := ⟨w1.heap.size, 10, none⟩) (Nat.le_refl _) (.slice (some ⟨b, off + 24, none⟩) 8 (c - 24))).drew
    have hL4 := ((hL3.setCell (p := ⟨w1.heap.size, 9, none⟩) (by simp; omega) (.slice (some ⟨b, off + 16, none⟩) 8 (c - 16))).setCell (p := ⟨w1.heap.size, 10, none⟩) (by simp; omega) (.slice (some ⟨b, off + 24, none⟩) 8 (c - 24))).drew
    have HP4 := Lib.hid hP4
    have HR4 := Lib.hid hR4
    have Hr4 := Lib.hid hr4
    have HL4 := Lib.hid hL4
    clear hP4 hR4 hr4 hL4
    go_wp2_with (first | (refine wpList_load_row rfl 26 (.tmp 15) rfl w1.heap.size rfl 26 _ (0, 0) _ HP4.out Tryd.underlying26 rfl (by kernel_rfl) ?_))
    refine (HCk.out _ _ _ _ _).mono ?_
    rintro e w5 ⟨rfl, hb5⟩
    have HP5 := Lib.hid (HP4.out.below hb5 HP4.out.lt)
    have HR5 := Lib.hid (HR4.out.below hb5 HR4.out.lt)
    have hz5 := hb5.size
    have hs5 := HP4.out.lt
    have HL5 := Lib.hid (HL4.out.trans (hb5.mono HL4.out.size))
    have Hr5 := Lib.hid ((Hr4.out.more (by omega)).step hb5)
    clear hb5
    by_cases h0 : E = 0
    · subst h0
      have hD := HY.out rfl
      subst hD
      go_wp2_with (first | (refine wpList_load_row rfl 26 (.tmp 15) rfl w1.heap.size rfl 26 _ (0, 0) _ HP5.out Tryd.underlying26 rfl (by kernel_rfl) ?_))
      refine (HNo.out _ _ _ _ _ ⟨by rw [HLS.out]; omega, by rw [HLT.out]; omega, by rw [HLS.out]; omega, by rw [HLT.out]; omega, by rw [HLS.out, HPS.out]; exact reads_seg Hr5.out HLN.out (by omega) (by omega), by rw [HLT.out, HPT.out]; exact reads_seg Hr5.out HLN.out (by omega) (by omega)⟩).mono ?_
      rintro e w6 ⟨sa2, sc2, ta2, tc2, rfl, o1, o2, hb6⟩
      simp only [pvS, pv]
      have HR6 := Lib.hid (HR5.out.below hb6 HR5.out.lt)
      have HL6 := Lib.hid (HL5.out.trans (hb6.mono HL5.out.size))
      have hz6 := hb6.size
      have hs6 := HL5.out.size
      have hs7 := HR5.out.lt
      clear hb6
      go_wp2_with (first | (refine wpList_storeB rfl 26 (.tmp 6) (.tmp 132) rfl rfl w.heap.size _ rfl rfl HR6.out (by kernel_rfl) rfl rfl ?_; intro w7 hB7 hg7 hz7))
      exact bodyPost_ret (results_cell_tmpB (p := 6) (u := 7) rfl _ hB7 _ rfl Tryd.underlying26 rfl (by kernel_rfl)) rfl ⟨sa2, sc2, ta2, tc2, rfl, own_base (own_far o1 hg7 (by omega)) (by omega), own_base (own_far o2 hg7 (by omega)) (by omega), HL6.out.grown hg7 HL6.out.size (fun _ h => by injection h with h; omega)⟩
    · have hne : (E != 0) = true := by simpa using h0
      go_wp2_with (first | (refine wpList_storeB rfl 26 (.tmp 6) (.tmp 129) rfl rfl w.heap.size _ rfl rfl HR5.out (by kernel_rfl) rfl rfl ?_; intro w6 hB6 hg6 hz6))
      exact bodyPost_ret (results_cell_tmpB (p := 6) (u := 7) rfl _ hB6 _ rfl Tryd.underlying26 rfl (by kernel_rfl)) rfl (HZ.out _ h0 (HL5.out.grown hg6 HL5.out.size (fun _ h => by injection h with h; omega)))
end Go.Proofs.YtofcdffcaiajmaaDoor
