/- Walk: quernref02.Decode at kind 1, the option false: parameters out of a block of the right length. Conditions: as stated. -/
import Derived.Test.YtbpbokcglicggaaRDec
import Derived.Deep.DrawnRows
import Derived.Outline
namespace Go.Proofs.Ytbpbokcglicggaa
open Go.RowKit
set_option linter.unusedVariables false
attribute [local go_sem ↓] Go.wp_at_zero Go.wp_at_succ

set_option maxRecDepth 100000 in
set_option maxHeartbeats 4000000 in
theorem c_rDecode_1 (A : Option Addr) (c : Nat) (xs : List Int) (w : World) (hl : xs.length = 64) (hc : 64 ≤ c) (hr : Reads w w.heap.size 1 A 64 (u8s xs)) (hx : ∀ z ∈ xs, 0 ≤ z ∧ z < 256) :
    Calls Try.prog 32 #[.int .i64 1, .slice A 64 c, .bool false] w (GivesP w (decA 1 xs false) (decE 1 xs false)) := by
  obtain ⟨i0, hi0, hz0, hz1, hz2⟩ := info_parts u64_info
  have hR := c_sized 1 A 64 c
  rw [show szerr 1 64 = 0 from rfl] at hR
  have HR := Lib.hid hR
  have hM := c_rMost 1
  rw [show kmost 1 = 64 from rfl] at hM
  have HM := Lib.hid hM
  obtain ⟨b, off, rfl, hbB, hbw, hcells⟩ := hr.form (by omega)
  have HPL : Hid (∀ (j : Nat), j < 9 → ∀ w, Calls Try.prog 52 #[.int .i64 1, .int .i64 ((j : Int) + 1)] w fun e w' => e = .returned (.tuple #[.int .i64 (fatN 1 j : Nat), .int .i64 (fszN 1 j : Nat)]) ∧ w = w') := fun j hj w => by
    have := c_place 1 ((j : Int) + 1) w (by decide)
    rw [if_pos (by omega), if_pos (by omega), fatN_eq (by decide) hj, fszN_eq] at this
    exact this
  have HRD : Hid (∀ (wv : World) (B : Nat), Reads wv B 1 (some ⟨b, off, none⟩) 64 (u8s xs) → ∀ a s, a + s ≤ 64 → s ≤ 8 → Calls Try.prog 53 #[.slice (some ⟨b, off, none⟩) 64 c, .int .i64 (a : Nat), .int .i64 (s : Nat)] wv (fun e w' => e = .returned (.int .u64 (le (seg xs a s))) ∧ wv = w')) := fun wv B h a s h1 h2 => c_read (some ⟨b, off, none⟩) 64 c xs wv B h (by omega) hx a s h1 h2
  have HFB : Hid (∀ j, j < 9 → fatN 1 j + fszN 1 j ≤ 64) := fun j hj => fatN_bd (by decide) hj rfl
  have HVS : Hid (∀ j, vL 1 xs false (j + 1) = vL 1 xs false j ++ [le (seg xs (fatN 1 j) (vLn 1 false j))]) := fun _ => rfl
  have HV0 : Hid ([Value.int .u64 0] = u64s (vL 1 xs false 0)) := rfl
  have HVN : Hid (∀ j, (vL 1 xs false j).length = j + 1) := vL_len _ _ _
  have HVG : Hid (∀ i, i < 9 → (vL 1 xs false 9).getD (i + 1) 0 = le (seg xs (fatN 1 i) (vLn 1 false i))) := fun i hi => vL_get _ _ _ _ _ hi
  have hsegb : ∀ a n, a + n ≤ 64 → 0 ≤ le (seg xs a n) ∧ le (seg xs a n) < 256 ^ n := fun a n h => by
    have hlen : (seg xs a n).length = n := by unfold seg; simp; omega
    have := le_bound (seg xs a n) (fun z hz => hx z (List.mem_of_mem_drop (List.mem_of_mem_take hz)))
    rw [hlen] at this
    exact this
  have HC1 : Hid (∀ w1, Below w.heap.size w w1 → ∀ j, j < 64 → w1.cell? ⟨b, off + j, none⟩ = some (.int .u8 (xs.getD j 0))) := fun w1 hb j hj => by
    rw [hb.cell (p := ⟨b, off + j, none⟩) hbB, hcells j hj, getD_u8s (by omega)]
  have HRS : Hid (∀ w1, Below w.heap.size w w1 → Reads w1 w1.heap.size 1 (some ⟨b, off, none⟩) 64 (u8s xs)) := fun w1 hb => hr.step hb
  -- the numbers
  obtain ⟨p, hp⟩ : ∃ p, decRaw 1 xs false = p := ⟨_, rfl⟩
  have g1 : (vL 1 xs false 9).getD 1 0 = p.d := by rw [HVG.out 0 (by omega), ← hp]; exact le_seg1 (a := 0) (by omega)
  have g2 : (vL 1 xs false 9).getD 2 0 = p.key := by rw [HVG.out 1 (by omega), ← hp]; exact le_seg1 (a := 1) (by omega)
  have g3 : (vL 1 xs false 9).getD 3 0 = p.fo := by rw [HVG.out 2 (by omega), ← hp]; exact le_seg1 (a := 2) (by omega)
  have g4 : (vL 1 xs false 9).getD 4 0 = p.de := by rw [HVG.out 3 (by omega), ← hp]; exact le_seg1 (a := 3) (by omega)
  have g5 : (vL 1 xs false 9).getD 5 0 = p.leaf := by rw [HVG.out 4 (by omega), ← hp]; rfl
  have g6 : (vL 1 xs false 9).getD 6 0 = p.off := by rw [HVG.out 5 (by omega), ← hp]; rfl
  have g7 : True := trivial
  have g8 : (vL 1 xs false 9).getD 8 0 = p.nd := by rw [HVG.out 7 (by omega), ← hp]; exact le_seg1 (a := 16) (by omega)
  have g9 : (vL 1 xs false 9).getD 9 0 = p.inn := by rw [HVG.out 8 (by omega), ← hp]; exact le_seg1 (a := 17) (by omega)
  have b1 : 0 ≤ p.d ∧ p.d < 256 := by rw [← hp]; exact mem_bd hx 0
  have b2 : 0 ≤ p.key ∧ p.key < 256 := by rw [← hp]; exact mem_bd hx 1
  have b3 : 0 ≤ p.fo ∧ p.fo < 256 := by rw [← hp]; exact mem_bd hx 2
  have b4 : 0 ≤ p.de ∧ p.de < 256 := by rw [← hp]; exact mem_bd hx 3
  have b5 : 0 ≤ p.leaf ∧ p.leaf < 4294967296 := by rw [← hp]; exact hsegb 4 4 (by omega)
  have b6 : 0 ≤ p.off ∧ p.off < 18446744073709551616 := by rw [← hp]; exact hsegb 8 8 (by omega)
  have b7 : p.xof = 0 := by rw [← hp]; rfl
  have b8 : 0 ≤ p.nd ∧ p.nd < 256 := by rw [← hp]; exact mem_bd hx 16
  have b9 : 0 ≤ p.inn ∧ p.inn < 256 := by rw [← hp]; exact mem_bd hx 17
  have HPS : Hid (p.s = seg xs 32 16) := by show _ = _; rw [← hp]; rfl
  have HPT : Hid (p.t = seg xs 48 16) := by show _ = _; rw [← hp]; rfl
  have HLS : Hid (p.s.length = 16) := by show _ = _; rw [HPS.out]; exact seg_len (by omega)
  have HLT : Hid (p.t.length = 16) := by show _ = _; rw [HPT.out]; exact seg_len (by omega)
  have HNo : Hid (∀ A sc A' tc wv, RdP wv p A sc A' tc → Calls Try.prog 23 #[.int .i64 1, pv p.d p.key p.fo p.de p.leaf p.off p.xof p.nd p.inn (.slice A 16 sc) (.slice A' 16 tc)] wv (GivesP wv (nrm 1 p) (chkP 1 p))) := fun A sc A' tc wv h => by
    have := c_rNormal 1 p A sc A' tc wv h
    rw [pvS, HLS.out, HLT.out] at this
    exact this
  have hEn : nrm 1 p = if chkP 1 p = 0 then p.norm else Pm.zero := rfl
  have e0 : (∀ m, 18 ≤ m → m < 32 → xs.getD m 0 = 0) → decE 1 xs false = chkP 1 p := fun h => by
    unfold decE
    rw [hl, if_neg (by decide), if_neg (fun h' => h'.2 (seg18_zero hl h)), if_neg (fun h => absurd h.1 (by decide)), hp]
  have e2 : ∀ m, 18 ≤ m → m < 32 → xs.getD m 0 ≠ 0 → decE 1 xs false = 4 := fun m h1 h2 h => by
    unfold decE
    rw [hl, if_neg (by decide), if_pos ⟨rfl, seg18_ne hl h1 h2 h⟩]
  have HLN := Lib.hid hl
  obtain ⟨E, hE⟩ : ∃ E, decE 1 xs false = E := ⟨_, rfl⟩
  obtain ⟨D, hD⟩ : ∃ D, decA 1 xs false = D := ⟨_, rfl⟩
  have HZ : Hid (∀ E', E = E' → E' ≠ 0 → ∀ w', Below w.heap.size w w' → GivesP w D E (.returned (.tuple #[pv 0 0 0 0 0 0 0 0 0 (.slice none 0 0) (.slice none 0 0), .int .i64 E'])) w') := fun E' h h0 w' hb => by
    rw [← hE, ← hD]; exact gives_zero (hE.trans h) h0 hb
  have HOK : Hid (E = chkP 1 p → D = nrm 1 p) := fun h => by
    rw [← hD, hEn, ← h, ← hE, ← hp]; rfl
  rw [hE] at e0 e2
  rw [hE, hD]
  generalize chkP 1 p = F at *
  generalize nrm 1 p = q at *
  have HE0 := Lib.hid e0
  have HE2 := Lib.hid e2
  have G1 := Lib.hid g1
  have G2 := Lib.hid g2
  have G3 := Lib.hid g3
  have G4 := Lib.hid g4
  have G5 := Lib.hid g5
  have G6 := Lib.hid g6
  have G7 := Lib.hid g7
  have G8 := Lib.hid g8
  have G9 := Lib.hid g9
  clear hp hE hD hEn g1 g2 g3 g4 g5 g6 g7 g8 g9 hR hM hcells hsegb hl hr e0 e2
  obtain ⟨b1a, b1b⟩ := b1
  obtain ⟨b2a, b2b⟩ := b2
  obtain ⟨b3a, b3b⟩ := b3
  obtain ⟨b4a, b4b⟩ := b4
  obtain ⟨b5a, b5b⟩ := b5
  obtain ⟨b6a, b6b⟩ := b6
  obtain ⟨b8a, b8b⟩ := b8
  obtain ⟨b9a, b9b⟩ := b9
  generalize hxs : vL 1 xs false = VL at *
  clear hxs
  go_enter Try.func32, Try.ntmps32
  go_wp2_with (go_at_call 51; refine (HR.out _ (by omega)).mono ?_; rintro e w' ⟨rfl, rfl⟩)
  go_loop [9] (fun i => ∃ j : Nat, 18 ≤ j ∧ j ≤ 32 ∧ i = .int .i64 j ∧ Hid (∀ m, 18 ≤ m → m < j → xs.getD m 0 = 0)) (fun i => (32 - intOf i).toNat)
  case atStart => exact ⟨18, by omega, by omega, rfl, fun m h1 h2 => by omega⟩
  case round =>
    obtain ⟨j, h18, hj, rfl, HJ⟩ := hrel
    by_cases hlt : j < 32
    · have hcell := HC1.out _ ((Below.refl w.heap.size w).alloc (Nat.le_refl _) (.cells pz 31)) j (by omega)
      have HN : Hid (xs.getD j 0 = 0 → ∀ m, 18 ≤ m → m < j + 1 → xs.getD m 0 = 0) := fun h0 m h1 h2 => by
        by_cases hm : m = j
        · rw [hm]; exact h0
        · exact HJ.out m h1 (by omega)
      have HD : Hid (xs.getD j 0 ≠ 0 → E = 4) := HE2.out j h18 hlt
      generalize xs.getD j 0 = z at *
      by_cases hz : z = 0
      · have hz' : (z != 0) = false := by simp [hz]
        have HNN := Lib.hid (HN.out hz)
        clear hz HN HD
        go_wp2_with fail
        go_round
        case rel => exact ⟨j + 1, by omega, by omega, by go_num, HNN.out⟩
        case measure => simp [intOf]; omega
      · have hz' : (z != 0) = true := by simp [hz]
        have HD4 := Lib.hid (HD.out hz)
        have HB0 := Lib.hid (Blk.new w 31 pz)
        clear hz HN HD
        go_wp2_with (first | (refine wpList_storeB rfl 31 (.tmp 6) (.tmp 36) rfl rfl w.heap.size _ rfl rfl HB0.out (by kernel_rfl) rfl rfl ?_; intro w6 hB6 hg6 hz6))
        exact bodyPost_ret (results_cell_tmpB (p := 6) (u := 7) rfl _ hB6 _ rfl Try.underlying31 rfl (by kernel_rfl)) rfl (HZ.out 4 HD4.out (by decide) _ (((Below.refl w.heap.size w).alloc (Nat.le_refl _) (.cells pz 31)).grown hg6 (by simp) (fun _ h => by injection h with h; omega)))
    · obtain rfl : j = 32 := by omega
      have HZR := HJ
      clear HJ
      go_wp2_with fail
      have hblk := Blk.new w 31 pz
      have hown0 := World.ownsRow_lit (e := 28) (size := 1) (base := w.heap.size + 1) (w.alloc (.cells pz 31)) #[.int .u64 0] 1 (by simp) (by simp only [maxLen]; omega) rfl
      have hbl0 := ((Below.refl w.heap.size w).alloc (Nat.le_refl _) (.cells pz 31)).alloc (by simp) (.cells #[.int .u64 0] 28)
      have hblk0 := hblk.alloc (.cells #[.int .u64 0] 28)
      simp only [World.size_alloc] at hown0
      have hown0 : ((w.alloc (.cells pz 31)).alloc (.cells #[.int .u64 0] 28)).ownsRow (w.heap.size + 1) 28 1 (.slice (some ⟨w.heap.size + 1, 0, none⟩) 1 1) (0 + 1) (u64s (VL 0)) := by rw [← HV0.out]; exact hown0
      have HB00 := Lib.hid hblk0
      have HL00 := Lib.hid hbl0
      have HO00 := Lib.hid hown0
      clear hblk hown0 hbl0 hblk0
      go_loopw [10, 11] (fun v i wr => ∃ j : Nat, j ≤ 9 ∧ i = .int .i64 ((j : Int) + 1) ∧ wr.ownsRow (w.heap.size + 1) 28 1 v (j + 1) (u64s (VL j)) ∧ Blk wr w.heap.size 31 pz ∧ Below w.heap.size w wr) (fun _ i _ => (10 - intOf i).toNat)
      case atStart => exact ⟨0, Nat.zero_le _, rfl, HO00.out, HB00.out, HL00.out⟩
      case round =>
        obtain ⟨j, hj, rfl, hown, hblk, hbel⟩ := hrel
        have HBK := Lib.hid hblk
        have HBL := Lib.hid hbel
        have HOW := Lib.hid hown
        have hsz := hbel.size
        have hsz2 := hblk.lt
        clear hblk hbel
        by_cases hlt : j < 9
        · have hfb := HFB.out j hlt
          have hfs := (fszN_bd 1 j).2
          have hpl := HPL.out j hlt
          have HT : Hid (VL (j + 1) = VL j ++ [le (seg xs (fatN 1 j) (vLn 1 false j))]) := HVS.out j
          by_cases h5 : j = 5
          · have t1 : ((j : Int) + 1 == 6) = true := by simp; omega
            clear h5
            have hV : vLn 1 false j = (fszN 1 j) := if_neg (fun h => absurd h.2 (by decide))
            rw [hV] at HT
            have hRd := HRD.out wr wr.heap.size (HRS.out wr HBL.out) (fatN 1 j) (fszN 1 j) (by omega) (by omega)
            generalize le (seg xs (fatN 1 j) (fszN 1 j)) = V at *
            generalize fatN 1 j = FA at *
            generalize fszN 1 j = FS at *
            have HPj := Lib.hid hpl
            have HRj := Lib.hid hRd
            clear hpl hRd hV hown
            go_wp2_with (first | (go_at_call 52; refine (HPj.out _).mono ?_; rintro e w' ⟨rfl, rfl⟩) | (go_at_call 53; refine HRj.out.mono ?_; rintro e w' ⟨rfl, rfl⟩) | (at_builtin; refine wpList_append_any _ rfl (.tmp 53) (.tmp 58) _ rfl (w.heap.size + 1) 28 i0 _ 1 8 Try.underlying65 hi0 hz0 hz1 hz2 rfl (by omega) _ (j + 1) _ rfl (HOW.out.alloc _) _ _ 1 1 [.int .u64 V] rfl (reads_one _ _ _) (by intro u hu; rw [List.mem_singleton.1 hu]; rfl) (by simp only [maxLen]; omega) (by omega) (by simp; omega) ?_; intro v1 w2 hown2 hg2' _; have hbk2 := (HBK.out.alloc (.cells #[.int .u64 V] 28)).grown hg2' (fun e => (by have := ((HOW.out.alloc (.cells #[.int .u64 V] 28)).lt w.heap.size e.symm).1; omega)); have hb2 := (HBL.out.alloc HBL.out.size (.cells #[.int .u64 V] 28)).grown hg2' (by simp; omega) (fun k hk => (by have := ((HOW.out.alloc (.cells #[.int .u64 V] 28)).lt k hk).1; omega)); clear hg2'))
            have hown3 : w2.ownsRow (w.heap.size + 1) 28 1 v1 (j + 1 + 1) (u64s (VL (j + 1))) := by rw [HT.out]; simpa [u64s] using hown2
            have HO3 := Lib.hid hown3
            have HK3 := Lib.hid hbk2
            have HB3 := Lib.hid hb2
            clear hown3 hbk2 hb2 hown2
            trace "at the round's end"
            go_roundw
            case rel => exact ⟨j + 1, by omega, by go_num, HO3.out, HK3.out, HB3.out⟩
            case measure => simp [intOf]; omega
          · have t1 : ((j : Int) + 1 == 6) = false := by simp; omega
            clear h5
            have hV : vLn 1 false j = (fszN 1 j) := if_neg (fun h => absurd h.2 (by decide))
            rw [hV] at HT
            have hRd := HRD.out wr wr.heap.size (HRS.out wr HBL.out) (fatN 1 j) (fszN 1 j) (by omega) (by omega)
            generalize le (seg xs (fatN 1 j) (fszN 1 j)) = V at *
            generalize fatN 1 j = FA at *
            generalize fszN 1 j = FS at *
            have HPj := Lib.hid hpl
            have HRj := Lib.hid hRd
            clear hpl hRd hV hown
            go_wp2_with (first | (go_at_call 52; refine (HPj.out _).mono ?_; rintro e w' ⟨rfl, rfl⟩) | (go_at_call 53; refine HRj.out.mono ?_; rintro e w' ⟨rfl, rfl⟩) | (at_builtin; refine wpList_append_any _ rfl (.tmp 53) (.tmp 58) _ rfl (w.heap.size + 1) 28 i0 _ 1 8 Try.underlying65 hi0 hz0 hz1 hz2 rfl (by omega) _ (j + 1) _ rfl (HOW.out.alloc _) _ _ 1 1 [.int .u64 V] rfl (reads_one _ _ _) (by intro u hu; rw [List.mem_singleton.1 hu]; rfl) (by simp only [maxLen]; omega) (by omega) (by simp; omega) ?_; intro v1 w2 hown2 hg2' _; have hbk2 := (HBK.out.alloc (.cells #[.int .u64 V] 28)).grown hg2' (fun e => (by have := ((HOW.out.alloc (.cells #[.int .u64 V] 28)).lt w.heap.size e.symm).1; omega)); have hb2 := (HBL.out.alloc HBL.out.size (.cells #[.int .u64 V] 28)).grown hg2' (by simp; omega) (fun k hk => (by have := ((HOW.out.alloc (.cells #[.int .u64 V] 28)).lt k hk).1; omega)); clear hg2'))
            have hown3 : w2.ownsRow (w.heap.size + 1) 28 1 v1 (j + 1 + 1) (u64s (VL (j + 1))) := by rw [HT.out]; simpa [u64s] using hown2
            have HO3 := Lib.hid hown3
            have HK3 := Lib.hid hbk2
            have HB3 := Lib.hid hb2
            clear hown3 hbk2 hb2 hown2
            trace "at the round's end"
            go_roundw
            case rel => exact ⟨j + 1, by omega, by go_num, HO3.out, HK3.out, HB3.out⟩
            case measure => simp [intOf]; omega
        · obtain rfl : j = 9 := by omega
          have hVN := HVN.out 9
          obtain ⟨g, cap, rfl, hg1, hg2⟩ := own_form hown (by decide)
          have hc7 := hown.cellAt 7 (by omega)
          rw [show (u64s (VL 9))[7]? = some (.int .u64 ((VL 9).getD 7 0)) from by simp [List.getD, List.getElem?_eq_getElem (show 7 < (VL 9).length by omega)]] at hc7
          have hf7 := hown.frozenAt 7
          have hst := (hown.stored 7 (.int .u64 0)).1
          rw [show (u64s (VL 9)).set 7 (.int .u64 0) = u64s ((VL 9).set 7 0) from by simp [u64s]] at hst
          have hy : ∀ i, i < 10 → (wr.setCell ⟨g, 7, none⟩ (.int .u64 0)).cell? ⟨g, i, none⟩ = some (.int .u64 (((VL 9).set 7 0).getD i 0)) := fun i hi => by
            rw [hst.cellAt i (by omega)]
            have : i < ((VL 9).set 7 0).length := by simp; omega
            simp only [List.getElem?_map, List.getElem?_eq_getElem this, List.getD, Option.map_some, Option.getD_some]
          have hset : ∀ i, i ≠ 7 → ((VL 9).set 7 0).getD i 0 = (VL 9).getD i 0 := fun i hi => by simp only [List.getD, List.getElem?_set]; rw [if_neg (fun h => hi h.symm)]
          have hset7 : ((VL 9).set 7 0).getD 7 0 = p.xof := by rw [b7]; simp only [List.getD, List.getElem?_set, ↓reduceIte]; split <;> rfl
          have HY := Lib.hid hy
          have HST := Lib.hid hset
          have HST7 := Lib.hid hset7
          have hbkA := HBK.out.far (p := ⟨g, 7, none⟩) (by simp; omega) (.int .u64 0)
          have hblA := HBL.out.setCell (p := ⟨g, 7, none⟩) (by simp; omega) (.int .u64 0)
          have HBKA := Lib.hid hbkA
          have HBLA := Lib.hid hblA
          have HB7 := Lib.hid b7
          clear hst hy hset hset7 hown hVN hbkA hblA b7
          go_wp2_with (go_at_call 14; refine (HM.out _).mono ?_; rintro e w' ⟨rfl, rfl⟩)
          clear hc7 hf7
          have y1 : (wr.setCell ⟨g, 7, none⟩ (.int .u64 0)).cell? ⟨g, 1, none⟩ = some (.int .u64 p.d) := by rw [HY.out 1 (by omega), HST.out 1 (by omega), G1.out]
          have y2 : (wr.setCell ⟨g, 7, none⟩ (.int .u64 0)).cell? ⟨g, 2, none⟩ = some (.int .u64 p.key) := by rw [HY.out 2 (by omega), HST.out 2 (by omega), G2.out]
          have y3 : (wr.setCell ⟨g, 7, none⟩ (.int .u64 0)).cell? ⟨g, 3, none⟩ = some (.int .u64 p.fo) := by rw [HY.out 3 (by omega), HST.out 3 (by omega), G3.out]
          have y4 : (wr.setCell ⟨g, 7, none⟩ (.int .u64 0)).cell? ⟨g, 4, none⟩ = some (.int .u64 p.de) := by rw [HY.out 4 (by omega), HST.out 4 (by omega), G4.out]
          have y5 : (wr.setCell ⟨g, 7, none⟩ (.int .u64 0)).cell? ⟨g, 5, none⟩ = some (.int .u64 p.leaf) := by rw [HY.out 5 (by omega), HST.out 5 (by omega), G5.out]
          have y6 : (wr.setCell ⟨g, 7, none⟩ (.int .u64 0)).cell? ⟨g, 6, none⟩ = some (.int .u64 p.off) := by rw [HY.out 6 (by omega), HST.out 6 (by omega), G6.out]
          have y7 : (wr.setCell ⟨g, 7, none⟩ (.int .u64 0)).cell? ⟨g, 7, none⟩ = some (.int .u64 p.xof) := by rw [HY.out 7 (by omega), HST7.out]
          have y8 : (wr.setCell ⟨g, 7, none⟩ (.int .u64 0)).cell? ⟨g, 8, none⟩ = some (.int .u64 p.nd) := by rw [HY.out 8 (by omega), HST.out 8 (by omega), G8.out]
          have y9 : (wr.setCell ⟨g, 7, none⟩ (.int .u64 0)).cell? ⟨g, 9, none⟩ = some (.int .u64 p.inn) := by rw [HY.out 9 (by omega), HST.out 9 (by omega), G9.out]
          have hbkA := HBKA.out
          have hblA := HBLA.out
          have b7a : 0 ≤ p.xof := by rw [HB7.out]; decide
          have b7b : p.xof < 256 := by rw [HB7.out]; decide
          have HEF : Hid (E = F) := HE0.out HZR.out
          have hg3 : g < (wr.setCell ⟨g, 7, none⟩ (.int .u64 0)).heap.size := by simp; omega
          generalize wr.setCell ⟨g, 7, none⟩ (.int .u64 0) = wB at *
          have z1 : IntKind.i64.wrap p.d = p.d := IntWalk.i64_in _ (by omega)
          have z2 : IntKind.i64.wrap p.key = p.key := IntWalk.i64_in _ (by omega)
          have z3 : IntKind.i64.wrap p.fo = p.fo := IntWalk.i64_in _ (by omega)
          have z4 : IntKind.i64.wrap p.de = p.de := IntWalk.i64_in _ (by omega)
          have z5 : IntKind.u32.wrap p.leaf = p.leaf := IntWalk.u32_in _ (by omega)
          have z7 : IntKind.u32.wrap p.xof = p.xof := IntWalk.u32_in _ (by omega)
          have z8 : IntKind.i64.wrap p.nd = p.nd := IntWalk.i64_in _ (by omega)
          have z9 : IntKind.i64.wrap p.inn = p.inn := IntWalk.i64_in _ (by omega)
          have e3 : (48 : Int) ≤ ↑c := by omega
          have e4 : (64 : Int) ≤ ↑c := by omega
          have e5 : ¬ c = 32 := by omega
          have e6 : ¬ c = 48 := by omega
          have e7 : IntKind.i64.wrap 32 = 32 := by decide
          have e8 : IntKind.i64.wrap 48 = 48 := by decide
          have e9 : IntKind.i64.wrap 64 = 64 := by decide
          have e10 : (0 : Int) ≤ ↑c := by omega
          have Hxx := Lib.hid hx
          clear hx
          have hgne : g ≠ wB.heap.size := by omega
          go_region_held3 (fun W => W.cell? ⟨g, 1, none⟩ = some (.int .u64 p.d) ∧ W.cell? ⟨g, 2, none⟩ = some (.int .u64 p.key) ∧ W.cell? ⟨g, 3, none⟩ = some (.int .u64 p.fo) ∧ W.cell? ⟨g, 4, none⟩ = some (.int .u64 p.de) ∧ W.cell? ⟨g, 5, none⟩ = some (.int .u64 p.leaf) ∧ W.cell? ⟨g, 6, none⟩ = some (.int .u64 p.off) ∧ W.cell? ⟨g, 7, none⟩ = some (.int .u64 p.xof) ∧ W.cell? ⟨g, 8, none⟩ = some (.int .u64 p.nd) ∧ W.cell? ⟨g, 9, none⟩ = some (.int .u64 p.inn)) (go_keep) (fail)
          trace "behind the region"
          go_goals
          have hP4 : Blk (wB.alloc (.cells #[.int .i64 p.d, .int .i64 p.key, .int .i64 p.fo, .int .i64 p.de, .int .u32 p.leaf, .int .u64 p.off, .int .u32 p.xof, .int .i64 p.nd, .int .i64 p.inn, .slice (some ⟨b, off + 32, none⟩) 16 (c - 32), .slice (some ⟨b, off + 48, none⟩) 16 (c - 48)] 31)).drew wB.heap.size 31 _ := Blk.drew (Blk.new _ _ _)
          have hR4 := (hbkA.alloc (.cells #[.int .i64 p.d, .int .i64 p.key, .int .i64 p.fo, .int .i64 p.de, .int .u32 p.leaf, .int .u64 p.off, .int .u32 p.xof, .int .i64 p.nd, .int .i64 p.inn, .slice (some ⟨b, off + 32, none⟩) 16 (c - 32), .slice (some ⟨b, off + 48, none⟩) 16 (c - 48)] 31)).drew
          have hL4 := (hblA.alloc hblA.size (.cells #[.int .i64 p.d, .int .i64 p.key, .int .i64 p.fo, .int .i64 p.de, .int .u32 p.leaf, .int .u64 p.off, .int .u32 p.xof, .int .i64 p.nd, .int .i64 p.inn, .slice (some ⟨b, off + 32, none⟩) 16 (c - 32), .slice (some ⟨b, off + 48, none⟩) 16 (c - 48)] 31)).drew
          have HP4 := Lib.hid hP4
          have HR4 := Lib.hid hR4
          have HL4 := Lib.hid hL4
          have Hr4 := Lib.hid (HRS.out _ hL4)
          clear hP4 hR4 hL4
          go_wp2_with (first | (refine wpList_load_row rfl 31 (.tmp 15) rfl wB.heap.size rfl 31 _ (0, 0) _ HP4.out Try.underlying31 rfl (by kernel_rfl) ?_))
          refine (HNo.out _ _ _ _ _ ⟨by rw [HLS.out]; omega, by rw [HLT.out]; omega, by rw [HLS.out]; omega, by rw [HLT.out]; omega, by rw [HLS.out, HPS.out]; exact reads_seg Hr4.out HLN.out (by omega) (by omega), by rw [HLT.out, HPT.out]; exact reads_seg Hr4.out HLN.out (by omega) (by omega)⟩).mono ?_
          rintro e w6 ⟨sa2, sc2, ta2, tc2, rfl, o1, o2, hb6⟩
          simp only [pvS, pv]
          have HR6 := Lib.hid (HR4.out.below hb6 HR4.out.lt)
          have HL6 := Lib.hid (HL4.out.trans (hb6.mono HL4.out.size))
          have hz6 := hb6.size
          have hs6 := HL4.out.size
          have hs7 := HR4.out.lt
          clear hb6
          have hEF := HEF.out
          have hDq := HOK.out hEF
          subst hEF
          subst hDq
          go_wp2_with (first | (refine wpList_storeB rfl 31 (.tmp 6) (.tmp 123) rfl rfl w.heap.size _ rfl rfl HR6.out (by kernel_rfl) rfl rfl ?_; intro w7 hB7 hg7 hz7))
          exact bodyPost_ret (results_cell_tmpB (p := 6) (u := 7) rfl _ hB7 _ rfl Try.underlying31 rfl (by kernel_rfl)) rfl ⟨sa2, sc2, ta2, tc2, rfl, own_base (own_far o1 hg7 (by omega)) (by omega), own_base (own_far o2 hg7 (by omega)) (by omega), HL6.out.grown hg7 HL6.out.size (fun _ h => by injection h with h; omega)⟩
end Go.Proofs.Ytbpbokcglicggaa
