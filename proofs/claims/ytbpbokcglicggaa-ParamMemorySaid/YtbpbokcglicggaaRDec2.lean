/- Walk: quernref02.Decode at kind 2, the option false: parameters out of a block of the right length. Conditions: as stated. -/
import Derived.Test.YtbpbokcglicggaaRDec
import Derived.Deep.DrawnRows
import Derived.Outline
namespace Go.Proofs.Ytbpbokcglicggaa
open Go.RowKit
set_option linter.unusedVariables false
attribute [local go_sem ↓] Go.wp_at_zero Go.wp_at_succ

set_option maxRecDepth 100000 in
set_option maxHeartbeats 4000000 in
theorem c_rDecode_2 (A : Option Addr) (c : Nat) (xs : List Int) (w : World) (hl : xs.length = 32) (hc : 32 ≤ c) (hr : Reads w w.heap.size 1 A 32 (u8s xs)) (hx : ∀ z ∈ xs, 0 ≤ z ∧ z < 256) :
    Calls Try.prog 32 #[.int .i64 2, .slice A 32 c, .bool false] w (GivesP w (decA 2 xs false) (decE 2 xs false)) := by
  obtain ⟨i0, hi0, hz0, hz1, hz2⟩ := info_parts u64_info
  have hR := c_sized 2 A 32 c
  rw [show szerr 2 32 = 0 from rfl] at hR
  have HR := Lib.hid hR
  have hM := c_rMost 2
  rw [show kmost 2 = 32 from rfl] at hM
  have HM := Lib.hid hM
  obtain ⟨b, off, rfl, hbB, hbw, hcells⟩ := hr.form (by omega)
  have HPL : Hid (∀ (j : Nat), j < 9 → ∀ w, Calls Try.prog 52 #[.int .i64 2, .int .i64 ((j : Int) + 1)] w fun e w' => e = .returned (.tuple #[.int .i64 (fatN 2 j : Nat), .int .i64 (fszN 2 j : Nat)]) ∧ w = w') := fun j hj w => by
    have := c_place 2 ((j : Int) + 1) w (by decide)
    rw [if_pos (by omega), if_pos (by omega), fatN_eq (by decide) hj, fszN_eq] at this
    exact this
  have HRD : Hid (∀ (wv : World) (B : Nat), Reads wv B 1 (some ⟨b, off, none⟩) 32 (u8s xs) → ∀ a s, a + s ≤ 32 → s ≤ 8 → Calls Try.prog 53 #[.slice (some ⟨b, off, none⟩) 32 c, .int .i64 (a : Nat), .int .i64 (s : Nat)] wv (fun e w' => e = .returned (.int .u64 (le (seg xs a s))) ∧ wv = w')) := fun wv B h a s h1 h2 => c_read (some ⟨b, off, none⟩) 32 c xs wv B h (by omega) hx a s h1 h2
  have HFB : Hid (∀ j, j < 9 → fatN 2 j + fszN 2 j ≤ 32) := fun j hj => fatN_bd (by decide) hj rfl
  have HVS : Hid (∀ j, vL 2 xs false (j + 1) = vL 2 xs false j ++ [le (seg xs (fatN 2 j) (vLn 2 false j))]) := fun _ => rfl
  have HV0 : Hid ([Value.int .u64 0] = u64s (vL 2 xs false 0)) := rfl
  have HVN : Hid (∀ j, (vL 2 xs false j).length = j + 1) := vL_len _ _ _
  have HVG : Hid (∀ i, i < 9 → (vL 2 xs false 9).getD (i + 1) 0 = le (seg xs (fatN 2 i) (vLn 2 false i))) := fun i hi => vL_get _ _ _ _ _ hi
  have hsegb : ∀ a n, a + n ≤ 32 → 0 ≤ le (seg xs a n) ∧ le (seg xs a n) < 256 ^ n := fun a n h => by
    have hlen : (seg xs a n).length = n := by unfold seg; simp; omega
    have := le_bound (seg xs a n) (fun z hz => hx z (List.mem_of_mem_drop (List.mem_of_mem_take hz)))
    rw [hlen] at this
    exact this
  have HC1 : Hid (∀ w1, Below w.heap.size w w1 → ∀ j, j < 32 → w1.cell? ⟨b, off + j, none⟩ = some (.int .u8 (xs.getD j 0))) := fun w1 hb j hj => by
    rw [hb.cell (p := ⟨b, off + j, none⟩) hbB, hcells j hj, getD_u8s (by omega)]
  have HRS : Hid (∀ w1, Below w.heap.size w w1 → Reads w1 w1.heap.size 1 (some ⟨b, off, none⟩) 32 (u8s xs)) := fun w1 hb => hr.step hb
  -- the numbers
  obtain ⟨p, hp⟩ : ∃ p, decRaw 2 xs false = p := ⟨_, rfl⟩
  have g1 : (vL 2 xs false 9).getD 1 0 = p.d := by rw [HVG.out 0 (by omega), ← hp]; exact le_seg1 (a := 0) (by omega)
  have g2 : (vL 2 xs false 9).getD 2 0 = p.key := by rw [HVG.out 1 (by omega), ← hp]; exact le_seg1 (a := 1) (by omega)
  have g3 : (vL 2 xs false 9).getD 3 0 = p.fo := by rw [HVG.out 2 (by omega), ← hp]; exact le_seg1 (a := 2) (by omega)
  have g4 : (vL 2 xs false 9).getD 4 0 = p.de := by rw [HVG.out 3 (by omega), ← hp]; exact le_seg1 (a := 3) (by omega)
  have g5 : (vL 2 xs false 9).getD 5 0 = p.leaf := by rw [HVG.out 4 (by omega), ← hp]; rfl
  have g6 : (vL 2 xs false 9).getD 6 0 = p.off := by rw [HVG.out 5 (by omega), ← hp]; rfl
  have g7 : True := trivial
  have g8 : (vL 2 xs false 9).getD 8 0 = p.nd := by rw [HVG.out 7 (by omega), ← hp]; exact le_seg1 (a := 14) (by omega)
  have g9 : (vL 2 xs false 9).getD 9 0 = p.inn := by rw [HVG.out 8 (by omega), ← hp]; exact le_seg1 (a := 15) (by omega)
  have b1 : 0 ≤ p.d ∧ p.d < 256 := by rw [← hp]; exact mem_bd hx 0
  have b2 : 0 ≤ p.key ∧ p.key < 256 := by rw [← hp]; exact mem_bd hx 1
  have b3 : 0 ≤ p.fo ∧ p.fo < 256 := by rw [← hp]; exact mem_bd hx 2
  have b4 : 0 ≤ p.de ∧ p.de < 256 := by rw [← hp]; exact mem_bd hx 3
  have b5 : 0 ≤ p.leaf ∧ p.leaf < 4294967296 := by rw [← hp]; exact hsegb 4 4 (by omega)
  have b6 : 0 ≤ p.off ∧ p.off < 281474976710656 := by rw [← hp]; exact hsegb 8 6 (by omega)
  have b7 : p.xof = 0 := by rw [← hp]; rfl
  have b8 : 0 ≤ p.nd ∧ p.nd < 256 := by rw [← hp]; exact mem_bd hx 14
  have b9 : 0 ≤ p.inn ∧ p.inn < 256 := by rw [← hp]; exact mem_bd hx 15
  have HPS : Hid (p.s = seg xs 16 8) := by show _ = _; rw [← hp]; rfl
  have HPT : Hid (p.t = seg xs 24 8) := by show _ = _; rw [← hp]; rfl
  have HLS : Hid (p.s.length = 8) := by show _ = _; rw [HPS.out]; exact seg_len (by omega)
  have HLT : Hid (p.t.length = 8) := by show _ = _; rw [HPT.out]; exact seg_len (by omega)
  have HNo : Hid (∀ A sc A' tc wv, RdP wv p A sc A' tc → Calls Try.prog 23 #[.int .i64 2, pv p.d p.key p.fo p.de p.leaf p.off p.xof p.nd p.inn (.slice A 8 sc) (.slice A' 8 tc)] wv (GivesP wv (nrm 2 p) (chkP 2 p))) := fun A sc A' tc wv h => by
    have := c_rNormal 2 p A sc A' tc wv h
    rw [pvS, HLS.out, HLT.out] at this
    exact this
  have hEn : nrm 2 p = if chkP 2 p = 0 then p.norm else Pm.zero := rfl
  have e0 : decE 2 xs false = chkP 2 p := by
    unfold decE
    rw [hl, if_neg (by decide), if_neg (fun h => absurd h.1 (by decide)), if_neg (fun h => absurd h.1 (by decide)), hp]
  have HLN := Lib.hid hl
  obtain ⟨E, hE⟩ : ∃ E, decE 2 xs false = E := ⟨_, rfl⟩
  obtain ⟨D, hD⟩ : ∃ D, decA 2 xs false = D := ⟨_, rfl⟩
  have HZ : Hid (∀ E', E = E' → E' ≠ 0 → ∀ w', Below w.heap.size w w' → GivesP w D E (.returned (.tuple #[pv 0 0 0 0 0 0 0 0 0 (.slice none 0 0) (.slice none 0 0), .int .i64 E'])) w') := fun E' h h0 w' hb => by
    rw [← hE, ← hD]; exact gives_zero (hE.trans h) h0 hb
  have HOK : Hid (E = chkP 2 p → D = nrm 2 p) := fun h => by
    rw [← hD, hEn, ← h, ← hE, ← hp]; rfl
  rw [hE] at e0
  rw [hE, hD]
  generalize chkP 2 p = F at *
  generalize nrm 2 p = q at *
  have HE0 := Lib.hid e0
  have G1 := Lib.hid g1
  have G2 := Lib.hid g2
  have G3 := Lib.hid g3
  have G4 := Lib.hid g4
  have G5 := Lib.hid g5
  have G6 := Lib.hid g6
  have G7 := Lib.hid g7
  have G8 := Lib.hid g8
  have G9 := Lib.hid g9
  clear hp hE hD hEn g1 g2 g3 g4 g5 g6 g7 g8 g9 hR hM hcells hsegb hl hr e0
  obtain ⟨b1a, b1b⟩ := b1
  obtain ⟨b2a, b2b⟩ := b2
  obtain ⟨b3a, b3b⟩ := b3
  obtain ⟨b4a, b4b⟩ := b4
  obtain ⟨b5a, b5b⟩ := b5
  obtain ⟨b6a, b6b⟩ := b6
  obtain ⟨b8a, b8b⟩ := b8
  obtain ⟨b9a, b9b⟩ := b9
  generalize hxs : vL 2 xs false = VL at *
  clear hxs
  go_enter Try.func32, Try.ntmps32
  go_wp2_with (go_at_call 51; refine (HR.out _ (by omega)).mono ?_; rintro e w' ⟨rfl, rfl⟩)
  go_loop [9] (fun i => i = .int .i64 18) (fun _ => 0)
  case atStart => rfl
  case round =>
    subst hrel
    go_wp2_with fail
    have hblk := Blk.new w 31 pz
    have hown0 := World.ownsRow_lit (e := 28) (size := 1) (base := w.heap.size + 1) (w.alloc (.cells pz 31)) #[.int .u64 0] 1 (by simp) (by simp only [maxLen]; omega) rfl
    have hbl0 := ((Below.refl w.heap.size w).alloc (Nat.le_refl _) (.cells pz 31)).alloc (by simp) (.cells #[.int .u64 0] 28)
    have hblk0 := hblk.alloc (.cells #[.int .u64 0] 28)
    simp only [World.size_alloc] at hown0
    have hown0 : ((w.alloc (.cells pz 31)).alloc (.cells #[.int .u64 0] 28)).ownsRow (w.heap.size + 1) 28 1 (.slice (some ⟨w.heap.size + 1, 0, none⟩) 1 1) (0 + 1) (u64s (VL 0)) := by rw [← HV0.out]; exact hown0
    have HB00 := Lib.hid hblk0
    have HL00 := Lib.hid hbl0
    have HO00 := Lib.hid hown0
    clear hblk hown0 hbl0 hblk0
    go_loopw [10, 11] (fun v i wr => ∃ j : Nat, j ≤ 9 ∧ i = .int .i64 ((j : Int) + 1) ∧ wr.ownsRow (w.heap.size + 1) 28 1 v (j + 1) (u64s (VL j)) ∧ Blk wr w.heap.size 31 pz ∧ Below w.heap.size w wr) (fun _ i _ => (10 - intOf i).toNat)
    case atStart => exact ⟨0, Nat.zero_le _, rfl, HO00.out, HB00.out, HL00.out⟩
    case round =>
      obtain ⟨j, hj, rfl, hown, hblk, hbel⟩ := hrel
      have HBK := Lib.hid hblk
      have HBL := Lib.hid hbel
      have HOW := Lib.hid hown
      have hsz := hbel.size
      have hsz2 := hblk.lt
      clear hblk hbel
      by_cases hlt : j < 9
      · have hfb := HFB.out j hlt
        have hfs := (fszN_bd 2 j).2
        have hpl := HPL.out j hlt
        have HT : Hid (VL (j + 1) = VL j ++ [le (seg xs (fatN 2 j) (vLn 2 false j))]) := HVS.out j
        by_cases h5 : j = 5
        · have t1 : ((j : Int) + 1 == 6) = true := by simp; omega
          clear h5
          have hV : vLn 2 false j = (fszN 2 j) := if_neg (fun h => absurd h.2 (by decide))
          rw [hV] at HT
          have hRd := HRD.out wr wr.heap.size (HRS.out wr HBL.out) (fatN 2 j) (fszN 2 j) (by omega) (by omega)
          generalize le (seg xs (fatN 2 j) (fszN 2 j)) = V at *
          generalize fatN 2 j = FA at *
          generalize fszN 2 j = FS at *
          have HPj := Lib.hid hpl
          have HRj := Lib.hid hRd
          clear hpl hRd hV hown
          go_wp2_with (first | (go_at_call 52; refine (HPj.out _).mono ?_; rintro e w' ⟨rfl, rfl⟩) | (go_at_call 53; refine HRj.out.mono ?_; rintro e w' ⟨rfl, rfl⟩) | (at_builtin; refine wpList_append_any _ rfl (.tmp 53) (.tmp 58) _ rfl (w.heap.size + 1) 28 i0 _ 1 8 Try.underlying65 hi0 hz0 hz1 hz2 rfl (by omega) _ (j + 1) _ rfl (HOW.out.alloc _) _ _ 1 1 [.int .u64 V] rfl (reads_one _ _ _) (by intro u hu; rw [List.mem_singleton.1 hu]; rfl) (by simp only [maxLen]; omega) (by omega) (by simp; omega) ?_; intro v1 w2 hown2 hg2' _; have hbk2 := (HBK.out.alloc (.cells #[.int .u64 V] 28)).grown hg2' (fun e => (by have := ((HOW.out.alloc (.cells #[.int .u64 V] 28)).lt w.heap.size e.symm).1; omega)); have hb2 := (HBL.out.alloc HBL.out.size (.cells #[.int .u64 V] 28)).grown hg2' (by simp; omega) (fun k hk => (by have := ((HOW.out.alloc (.cells #[.int .u64 V] 28)).lt k hk).1; omega)); clear hg2'))
          have hown3 : w2.ownsRow (w.heap.size + 1) 28 1 v1 (j + 1 + 1) (u64s (VL (j + 1))) := by rw [HT.out]; simpa [u64s] using hown2
          have HO3 := Lib.hid hown3
          have HK3 := Lib.hid hbk2
          have HB3 := Lib.hid hb2
          clear hown3 hbk2 hb2 hown2
          trace "at the round's end"
          go_roundw
          case rel => exact ⟨j + 1, by omega, by go_num, HO3.out, HK3.out, HB3.out⟩
          case measure => simp [intOf]; omega
        · have t1 : ((j : Int) + 1 == 6) = false := by simp; omega
          clear h5
          have hV : vLn 2 false j = (fszN 2 j) := if_neg (fun h => absurd h.2 (by decide))
          rw [hV] at HT
          have hRd := HRD.out wr wr.heap.size (HRS.out wr HBL.out) (fatN 2 j) (fszN 2 j) (by omega) (by omega)
          generalize le (seg xs (fatN 2 j) (fszN 2 j)) = V at *
          generalize fatN 2 j = FA at *
          generalize fszN 2 j = FS at *
          have HPj := Lib.hid hpl
          have HRj := Lib.hid hRd
          clear hpl hRd hV hown
          go_wp2_with (first | (go_at_call 52; refine (HPj.out _).mono ?_; rintro e w' ⟨rfl, rfl⟩) | (go_at_call 53; refine HRj.out.mono ?_; rintro e w' ⟨rfl, rfl⟩) | (at_builtin; refine wpList_append_any _ rfl (.tmp 53) (.tmp 58) _ rfl (w.heap.size + 1) 28 i0 _ 1 8 Try.underlying65 hi0 hz0 hz1 hz2 rfl (by omega) _ (j + 1) _ rfl (HOW.out.alloc _) _ _ 1 1 [.int .u64 V] rfl (reads_one _ _ _) (by intro u hu; rw [List.mem_singleton.1 hu]; rfl) (by simp only [maxLen]; omega) (by omega) (by simp; omega) ?_; intro v1 w2 hown2 hg2' _; have hbk2 := (HBK.out.alloc (.cells #[.int .u64 V] 28)).grown hg2' (fun e => (by have := ((HOW.out.alloc (.cells #[.int .u64 V] 28)).lt w.heap.size e.symm).1; omega)); have hb2 := (HBL.out.alloc HBL.out.size (.cells #[.int .u64 V] 28)).grown hg2' (by simp; omega) (fun k hk => (by have := ((HOW.out.alloc (.cells #[.int .u64 V] 28)).lt k hk).1; omega)); clear hg2'))
          have hown3 : w2.ownsRow (w.heap.size + 1) 28 1 v1 (j + 1 + 1) (u64s (VL (j + 1))) := by rw [HT.out]; simpa [u64s] using hown2
          have HO3 := Lib.hid hown3
          have HK3 := Lib.hid hbk2
          have HB3 := Lib.hid hb2
          clear hown3 hbk2 hb2 hown2
          trace "at the round's end"
          go_roundw
          case rel => exact ⟨j + 1, by omega, by go_num, HO3.out, HK3.out, HB3.out⟩
          case measure => simp [intOf]; omega
      · obtain rfl : j = 9 := by omega
        have hVN := HVN.out 9
        obtain ⟨g, cap, rfl, hg1, hg2⟩ := own_form hown (by decide)
        have hc7 := hown.cellAt 7 (by omega)
        rw [show (u64s (VL 9))[7]? = some (.int .u64 ((VL 9).getD 7 0)) from by simp [List.getD, List.getElem?_eq_getElem (show 7 < (VL 9).length by omega)]] at hc7
        have hf7 := hown.frozenAt 7
        have hst := (hown.stored 7 (.int .u64 0)).1
        rw [show (u64s (VL 9)).set 7 (.int .u64 0) = u64s ((VL 9).set 7 0) from by simp [u64s]] at hst
        have hy : ∀ i, i < 10 → (wr.setCell ⟨g, 7, none⟩ (.int .u64 0)).cell? ⟨g, i, none⟩ = some (.int .u64 (((VL 9).set 7 0).getD i 0)) := fun i hi => by
          rw [hst.cellAt i (by omega)]
          have : i < ((VL 9).set 7 0).length := by simp; omega
          simp only [List.getElem?_map, List.getElem?_eq_getElem this, List.getD, Option.map_some, Option.getD_some]
        have hset : ∀ i, i ≠ 7 → ((VL 9).set 7 0).getD i 0 = (VL 9).getD i 0 := fun i hi => by simp only [List.getD, List.getElem?_set]; rw [if_neg (fun h => hi h.symm)]
        have hset7 : ((VL 9).set 7 0).getD 7 0 = p.xof := by rw [b7]; simp only [List.getD, List.getElem?_set, ↓reduceIte]; split <;> rfl
        have HY := Lib.hid hy
        have HST := Lib.hid hset
        have HST7 := Lib.hid hset7
        have hbkA := HBK.out.far (p := ⟨g, 7, none⟩) (by simp; omega) (.int .u64 0)
        have hblA := HBL.out.setCell (p := ⟨g, 7, none⟩) (by simp; omega) (.int .u64 0)
        have HBKA := Lib.hid hbkA
        have HBLA := Lib.hid hblA
        have HB7 := Lib.hid b7
        clear hst hy hset hset7 hown hVN hbkA hblA b7
        go_wp2_with (go_at_call 14; refine (HM.out _).mono ?_; rintro e w' ⟨rfl, rfl⟩)
        clear hc7 hf7
        have y1 : (wr.setCell ⟨g, 7, none⟩ (.int .u64 0)).cell? ⟨g, 1, none⟩ = some (.int .u64 p.d) := by rw [HY.out 1 (by omega), HST.out 1 (by omega), G1.out]
        have y2 : (wr.setCell ⟨g, 7, none⟩ (.int .u64 0)).cell? ⟨g, 2, none⟩ = some (.int .u64 p.key) := by rw [HY.out 2 (by omega), HST.out 2 (by omega), G2.out]
        have y3 : (wr.setCell ⟨g, 7, none⟩ (.int .u64 0)).cell? ⟨g, 3, none⟩ = some (.int .u64 p.fo) := by rw [HY.out 3 (by omega), HST.out 3 (by omega), G3.out]
        have y4 : (wr.setCell ⟨g, 7, none⟩ (.int .u64 0)).cell? ⟨g, 4, none⟩ = some (.int .u64 p.de) := by rw [HY.out 4 (by omega), HST.out 4 (by omega), G4.out]
        have y5 : (wr.setCell ⟨g, 7, none⟩ (.int .u64 0)).cell? ⟨g, 5, none⟩ = some (.int .u64 p.leaf) := by rw [HY.out 5 (by omega), HST.out 5 (by omega), G5.out]
        have y6 : (wr.setCell ⟨g, 7, none⟩ (.int .u64 0)).cell? ⟨g, 6, none⟩ = some (.int .u64 p.off) := by rw [HY.out 6 (by omega), HST.out 6 (by omega), G6.out]
        have y7 : (wr.setCell ⟨g, 7, none⟩ (.int .u64 0)).cell? ⟨g, 7, none⟩ = some (.int .u64 p.xof) := by rw [HY.out 7 (by omega), HST7.out]
        have y8 : (wr.setCell ⟨g, 7, none⟩ (.int .u64 0)).cell? ⟨g, 8, none⟩ = some (.int .u64 p.nd) := by rw [HY.out 8 (by omega), HST.out 8 (by omega), G8.out]
        have y9 : (wr.setCell ⟨g, 7, none⟩ (.int .u64 0)).cell? ⟨g, 9, none⟩ = some (.int .u64 p.inn) := by rw [HY.out 9 (by omega), HST.out 9 (by omega), G9.out]
        have hbkA := HBKA.out
        have hblA := HBLA.out
        have b7a : 0 ≤ p.xof := by rw [HB7.out]; decide
        have b7b : p.xof < 256 := by rw [HB7.out]; decide
        have HEF : Hid (E = F) := HE0.out
        have hg3 : g < (wr.setCell ⟨g, 7, none⟩ (.int .u64 0)).heap.size := by simp; omega
        generalize wr.setCell ⟨g, 7, none⟩ (.int .u64 0) = wB at *
        have z1 : IntKind.i64.wrap p.d = p.d := IntWalk.i64_in _ (by omega)
        have z2 : IntKind.i64.wrap p.key = p.key := IntWalk.i64_in _ (by omega)
        have z3 : IntKind.i64.wrap p.fo = p.fo := IntWalk.i64_in _ (by omega)
        have z4 : IntKind.i64.wrap p.de = p.de := IntWalk.i64_in _ (by omega)
        have z5 : IntKind.u32.wrap p.leaf = p.leaf := IntWalk.u32_in _ (by omega)
        have z7 : IntKind.u32.wrap p.xof = p.xof := IntWalk.u32_in _ (by omega)
        have z8 : IntKind.i64.wrap p.nd = p.nd := IntWalk.i64_in _ (by omega)
        have z9 : IntKind.i64.wrap p.inn = p.inn := IntWalk.i64_in _ (by omega)
        have e3 : (24 : Int) ≤ ↑c := by omega
        have e4 : (32 : Int) ≤ ↑c := by omega
        have e5 : ¬ c = 16 := by omega
        have e6 : ¬ c = 24 := by omega
        have e7 : IntKind.i64.wrap 16 = 16 := by decide
        have e8 : IntKind.i64.wrap 24 = 24 := by decide
        have e9 : IntKind.i64.wrap 32 = 32 := by decide
        have e10 : (0 : Int) ≤ ↑c := by omega
        have Hxx := Lib.hid hx
        clear hx
        have hgne : g ≠ wB.heap.size := by omega
        go_region_held3 (fun W => W.cell? ⟨g, 1, none⟩ = some (.int .u64 p.d) ∧ W.cell? ⟨g, 2, none⟩ = some (.int .u64 p.key) ∧ W.cell? ⟨g, 3, none⟩ = some (.int .u64 p.fo) ∧ W.cell? ⟨g, 4, none⟩ = some (.int .u64 p.de) ∧ W.cell? ⟨g, 5, none⟩ = some (.int .u64 p.leaf) ∧ W.cell? ⟨g, 6, none⟩ = some (.int .u64 p.off) ∧ W.cell? ⟨g, 7, none⟩ = some (.int .u64 p.xof) ∧ W.cell? ⟨g, 8, none⟩ = some (.int .u64 p.nd) ∧ W.cell? ⟨g, 9, none⟩ = some (.int .u64 p.inn)) (go_keep) (fail)
        trace "behind the region"
        go_goals
        have hP4 : Blk (wB.alloc (.cells #[.int .i64 p.d, .int .i64 p.key, .int .i64 p.fo, .int .i64 p.de, .int .u32 p.leaf, .int .u64 p.off, .int .u32 p.xof, .int .i64 p.nd, .int .i64 p.inn, .slice (some ⟨b, off + 16, none⟩) 8 (c - 16), .slice (some ⟨b, off + 24, none⟩) 8 (c - 24)] 31)).drew wB.heap.size 31 _ := Blk.drew (Blk.new _ _ _)
        have hR4 := (hbkA.alloc (.cells #[.int .i64 p.d, .int .i64 p.key, .int .i64 p.fo, .int .i64 p.de, .int .u32 p.leaf, .int .u64 p.off, .int .u32 p.xof, .int .i64 p.nd, .int .i64 p.inn, .slice (some ⟨b, off + 16, none⟩) 8 (c - 16), .slice (some ⟨b, off + 24, none⟩) 8 (c - 24)] 31)).drew
        have hL4 := (hblA.alloc hblA.size (.cells #[.int .i64 p.d, .int .i64 p.key, .int .i64 p.fo, .int .i64 p.de, .int .u32 p.leaf, .int .u64 p.off, .int .u32 p.xof, .int .i64 p.nd, .int .i64 p.inn, .slice (some ⟨b, off + 16, none⟩) 8 (c - 16), .slice (some ⟨b, off + 24, none⟩) 8 (c - 24)] 31)).drew
        have HP4 := Lib.hid hP4
        have HR4 := Lib.hid hR4
        have HL4 := Lib.hid hL4
        have Hr4 := Lib.hid (HRS.out _ hL4)
        clear hP4 hR4 hL4
        go_wp2_with (first | (refine wpList_load_row rfl 31 (.tmp 15) rfl wB.heap.size rfl 31 _ (0, 0) _ HP4.out Try.underlying31 rfl (by kernel_rfl) ?_))
        refine (HNo.out _ _ _ _ _ ⟨by rw [HLS.out]; omega, by rw [HLT.out]; omega, by rw [HLS.out]; omega, by rw [HLT.out]; omega, by rw [HLS.out, HPS.out]; exact reads_seg Hr4.out HLN.out (by omega) (by omega), by rw [HLT.out, HPT.out]; exact reads_seg Hr4.out HLN.out (by omega) (by omega)⟩).mono ?_
        rintro e w6 ⟨sa2, sc2, ta2, tc2, rfl, o1, o2, hb6⟩
        simp only [pvS, pv]
        have HR6 := Lib.hid (HR4.out.below hb6 HR4.out.lt)
        have HL6 := Lib.hid (HL4.out.trans (hb6.mono HL4.out.size))
        have hz6 := hb6.size
        have hs6 := HL4.out.size
        have hs7 := HR4.out.lt
        clear hb6
        have hEF := HEF.out
        have hDq := HOK.out hEF
        subst hEF
        subst hDq
        go_wp2_with (first | (refine wpList_storeB rfl 31 (.tmp 6) (.tmp 123) rfl rfl w.heap.size _ rfl rfl HR6.out (by kernel_rfl) rfl rfl ?_; intro w7 hB7 hg7 hz7))
        exact bodyPost_ret (results_cell_tmpB (p := 6) (u := 7) rfl _ hB7 _ rfl Try.underlying31 rfl (by kernel_rfl)) rfl ⟨sa2, sc2, ta2, tc2, rfl, own_base (own_far o1 hg7 (by omega)) (by omega), own_base (own_far o2 hg7 (by omega)) (by omega), HL6.out.grown hg7 HL6.out.size (fun _ h => by injection h with h; omega)⟩
end Go.Proofs.Ytbpbokcglicggaa
