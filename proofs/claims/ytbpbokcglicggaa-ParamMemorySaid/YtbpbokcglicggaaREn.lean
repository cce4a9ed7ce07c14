/- Walks: a block's bytes out of parameters (quernref02.Encode). Conditions: as stated. -/
import Derived.Test.YtbpbokcglicggaaAlv
import Derived.Test.YtbpbokcglicggaaPs
namespace Go.Proofs.Ytbpbokcglicggaa
open Go.RowKit
set_option linter.unusedVariables false

/-- Bytes laid one by one. -/
def setL (xs : List Int) (a : Nat) (ys : List Int) : Nat → List Int
  | 0 => xs
  | j + 1 => (setL xs a ys j).set (a + j) (ys.getD j 0)
theorem setL_len (xs : List Int) (a : Nat) (ys : List Int) (j : Nat) : (setL xs a ys j).length = xs.length := by
  induction j with
  | zero => rfl
  | succ j ih => simp [setL, ih]
theorem setL_get (xs : List Int) (a : Nat) (ys : List Int) (j i : Nat) (h : a + j ≤ xs.length) (hj : j ≤ ys.length) : (setL xs a ys j)[i]? = if a ≤ i ∧ i < a + j then ys[i - a]? else xs[i]? := by
  induction j with
  | zero => rw [if_neg (by omega)]; rfl
  | succ j ih =>
    unfold setL
    rw [List.getElem?_set, setL_len, ih (by omega) (by omega)]
    by_cases h1 : a + j = i
    · subst h1
      rw [if_pos rfl, if_pos (by omega), if_pos (by omega), Nat.add_sub_cancel_left]
      simp [List.getD, List.getElem?_eq_getElem (show j < ys.length by omega)]
    · rw [if_neg h1]
      by_cases h2 : a ≤ i ∧ i < a + j
      · rw [if_pos h2, if_pos (by omega)]
      · rw [if_neg h2, if_neg (by omega)]
theorem setL_blit (xs : List Int) (a : Nat) (ys : List Int) (h : a + ys.length ≤ xs.length) : setL xs a ys ys.length = blit xs a ys := by
  apply List.ext_getElem?
  intro i
  rw [setL_get xs a ys _ i h (Nat.le_refl _)]
  unfold blit
  simp only [List.append_assoc, List.getElem?_append, List.length_take, List.getElem?_take, List.getElem?_drop]
  grind
theorem kmost_ksz {k : Int} (hk : k = 1 ∨ k = 2) : kmost k = (ksz k : Nat) := by rcases hk with rfl | rfl <;> rfl
def vArr (p : Pm) : Array Value := #[.int .u64 p.d, .int .u64 p.key, .int .u64 p.fo, .int .u64 p.de, .int .u64 p.leaf, .int .u64 p.off, .int .u64 p.xof, .int .u64 p.nd, .int .u64 p.inn]
theorem vArr_get (p : Pm) (j : Nat) (h : j < 9) : (vArr p)[j]? = some (.int .u64 (fv p j)) := by
  have hc : j = 0 ∨ j = 1 ∨ j = 2 ∨ j = 3 ∨ j = 4 ∨ j = 5 ∨ j = 6 ∨ j = 7 ∨ j = 8 := by omega
  rcases hc with rfl | rfl | rfl | rfl | rfl | rfl | rfl | rfl | rfl <;> rfl
set_option maxRecDepth 100000 in
set_option maxHeartbeats 2000000 in
theorem c_rEncode_ok (k : Int) (p : Pm) (sa : Option Addr) (sc : Nat) (ta : Option Addr) (tc : Nat) (w : World) (h : RdP w p sa sc ta tc) (ho : PmOk p) (h0 : chkP k p = 0) :
    Calls Try.prog 34 #[.int .i64 k, pvS p sa sc ta tc] w fun e w' => ∃ A c, e = .returned (.tuple #[.slice A (ksz k) c, .int .i64 0]) ∧ w'.ownsRow w.heap.size 5 1 (.slice A (ksz k) c) (ksz k) (u8s (encB k p)) ∧ Below w.heap.size w w' := by
  obtain ⟨i0, hi0, hz0, hz1, hz2⟩ := info_parts u8_info
  obtain ⟨hk, ⟨a1, a2⟩, ⟨b1, b2⟩, ⟨d1, d2⟩, ⟨e1, e2⟩, ⟨g1, g2⟩, ⟨m1, m2⟩, hsl⟩ := chk_ok h0
  obtain ⟨l1, l2⟩ := ho.leaf
  obtain ⟨o1, o2⟩ := ho.off
  obtain ⟨x1, x2⟩ := ho.xof
  have hb0 := (Below.refl w.heap.size w).alloc (Nat.le_refl _) (.cells (pvC p sa sc ta tc) 31)
  have hB0 := Blk.new w 31 (pvC p sa sc ta tc)
  have hC := c_rCheckP k p sa sc ta tc
  rw [h0] at hC
  have hS := c_rSize k
  have hM := c_rMost k
  rw [kmost_ksz hk] at hS hM
  have hPl := fun (j : Nat) (hj : j < 9) (w : World) => c_place k ((j : Int) + 1) w hk
  obtain ⟨s1, s2, s3⟩ := ksz_bd k
  have HE : Hid (∀ j, (encN k p j).length = ksz k) := encN_len k p
  have H0E : Hid (encN k p 0 = List.replicate (ksz k) 0) := rfl
  have HFIN : Hid (encB k p = blit (blit (encN k p 9) (2 * ksl k) p.s) (3 * ksl k) p.t) := rfl
  have HFB : Hid (∀ j, j < 9 → fatN k j + fszN k j ≤ ksz k) := fun j hj => fatN_bd hk hj (by rcases hk with rfl | rfl <;> rfl)
  have HPL : Hid (∀ (j : Nat), j < 9 → ∀ w, Calls Try.prog 52 #[.int .i64 k, .int .i64 ((j : Int) + 1)] w fun e w' => e = .returned (.tuple #[.int .i64 (fatN k j : Nat), .int .i64 (fszN k j : Nat)]) ∧ w = w') := by
    intro j hj w
    have := hPl j hj w
    rw [if_pos (by omega), if_pos (by omega), fatN_eq hk hj, fszN_eq] at this
    exact this
  have HSL : Hid (p.s.length ≤ ksl k ∧ p.t.length ≤ ksl k) := by
    have e : kmost k / 4 = (ksl k : Int) := by rcases hk with rfl | rfl <;> rfl
    rw [e] at hsl
    exact ⟨by omega, by omega⟩
  have HRS := Lib.hid h.rs
  have HRT := Lib.hid h.rt
  have hmk := fun W => run_make_rowN (P := Try.prog) 29 5 i0 _ Try.underlying29 hi0 hz0 .i64 .i64 (ksz k) (ksz k) (Nat.le_refl _) (by rw [hz2]; omega) (by omega) W
  simp only [hz1, Nat.mul_one] at hmk
  have S3 := Lib.hid s3
  clear s3 hsl hPl
  generalize hN : ksz k = N at *
  generalize hMM : ksl k = M at *
  have HC := Lib.hid hC
  have HS := Lib.hid hS
  have HM := Lib.hid hM
  have HB0 := Lib.hid hB0
  have HBL := Lib.hid hb0
  have HK := Lib.hid hk
  have HN := Lib.hid hN
  clear hC hB0 hb0 h h0 hS hM hk hN hMM
  simp only [pvS, pv]
  go_enter Try.func34, Try.ntmps34
  go_wp2_with fail
  refine (HC.out _).mono ?_
  rintro e w1 ⟨rfl, hb1⟩
  have hP1 := HB0.out.below hb1 (by simp)
  have q0 : w1.cell? ⟨w.heap.size, 0, none⟩ = some (.int .i64 p.d) := hP1.cell 0
  have q1 : w1.cell? ⟨w.heap.size, 1, none⟩ = some (.int .i64 p.key) := hP1.cell 1
  have q2 : w1.cell? ⟨w.heap.size, 2, none⟩ = some (.int .i64 p.fo) := hP1.cell 2
  have q3 : w1.cell? ⟨w.heap.size, 3, none⟩ = some (.int .i64 p.de) := hP1.cell 3
  have q4 : w1.cell? ⟨w.heap.size, 4, none⟩ = some (.int .u32 p.leaf) := hP1.cell 4
  have q5 : w1.cell? ⟨w.heap.size, 5, none⟩ = some (.int .u64 p.off) := hP1.cell 5
  have q6 : w1.cell? ⟨w.heap.size, 6, none⟩ = some (.int .u32 p.xof) := hP1.cell 6
  have q7 : w1.cell? ⟨w.heap.size, 7, none⟩ = some (.int .i64 p.nd) := hP1.cell 7
  have q8 : w1.cell? ⟨w.heap.size, 8, none⟩ = some (.int .i64 p.inn) := hP1.cell 8
  have K0 := Lib.hid hP1
  have HL := Lib.hid (HBL.out.trans (hb1.mono (B' := w.heap.size) (by simp)))
  have hz1 := hb1.size
  simp only [World.size_alloc] at hz1
  have hlt1 : w.heap.size < w1.heap.size := by omega
  clear hb1 hP1
  go_wp2_with (go_at_call 15; refine (HS.out _).mono ?_; rintro e w' ⟨rfl, rfl⟩)
  have ho2 := (own_made w1 (w.heap.size + 1) N 5 (.int .u8 0) (by omega) (by simp only [maxLen]; omega)).alloc (.cells (vArr p) 28)
  have hP2 := (K0.out.alloc (.cells (madeCells #[.int .u8 0] N) 5)).alloc (.cells (vArr p) 28)
  have hV2 := Blk.new (w1.alloc (.cells (madeCells #[.int .u8 0] N) 5)) 28 (vArr p)
  have hL2 := (HL.out.alloc (by omega) (.cells (madeCells #[.int .u8 0] N) 5)).alloc (by simp; omega) (.cells (vArr p) 28)
  have HRep : Hid (List.replicate N (Value.int .u8 0) = u8s (List.replicate N 0)) := by show _ = _; simp
  rw [HRep.out, ← H0E.out] at ho2
  simp only [World.size_alloc] at hV2
  clear q0 q1 q2 q3 q4 q5 q6 q7 q8 hmk
  go_loopw [9] (fun i wr => ∃ j : Nat, j ≤ 9 ∧ i = .int .i64 ((j : Int) + 1) ∧ wr.ownsRow (w.heap.size + 1) 5 1 (.slice (some ⟨w1.heap.size, 0, none⟩) N N) N (u8s (encN k p j)) ∧ Blk wr w.heap.size 31 (pvC p sa sc ta tc) ∧ Blk wr (w1.heap.size + 1) 28 (vArr p) ∧ Below w.heap.size w wr ∧ w1.heap.size + 2 ≤ wr.heap.size) (fun i _ => 10 - (intOf i).toNat)
  case atStart => exact ⟨0, Nat.zero_le _, rfl, ho2, hP2, hV2, hL2, by simp⟩
  case round =>
    obtain ⟨j, hj, rfl, hown, hP, hVw, hbel, hzr⟩ := hrel
    by_cases hlt : j < 9
    · have f6 : wr.cell? ⟨w.heap.size, 6, none⟩ = some (.int .u32 p.xof) := hP.cell 6
      have fv0 := (hVw.cell j).trans (vArr_get p j hlt)
      have HP := Lib.hid hP
      have HVw := Lib.hid hVw
      have HBel := Lib.hid hbel
      have hfbj := HFB.out j hlt
      have hfsj := (fszN_bd k j).2
      clear hP hVw hbel
      by_cases h6 : j = 6 ∧ p.xof = 0
      · have HX : Hid (encN k p (j + 1) = encN k p j) := if_pos h6
        have HO := Lib.hid hown
        have t1 : ((j : Int) + 1 == 7) = true := by simp; omega
        have t2 : (p.xof == 0) = true := by simp [h6.2]
        clear h6 hown
        go_wp2_with fail
        go_roundw
        case rel => exact ⟨j + 1, by omega, by go_num, by rw [HX.out]; exact HO.out, HP.out, HVw.out, HBel.out, hzr⟩
        case measure => simp [intOf]; omega
      · have HX : Hid (encN k p (j + 1) = layL (encN k p j) (fatN k j) (fv p j) (fszN k j)) := if_neg h6
        have ht : (((j : Int) + 1 == 7) = false) ∨ (((j : Int) + 1 == 7) = true ∧ (p.xof == 0) = false) := by
          by_cases h7 : j = 6
          · exact .inr ⟨by simp; omega, by simpa using fun h => h6 ⟨h7, h⟩⟩
          · exact .inl (by simp; omega)
        clear h6
        have hpl := HPL.out j hlt
        generalize fatN k j = FA at *
        generalize fszN k j = FS at *
        generalize fv p j = FV at *
        have HPj := Lib.hid hpl
        clear hpl
        rcases ht with t1 | ⟨t1, t2⟩
        all_goals
          go_wp2_with (first | (go_at_call 52; refine (HPj.out _).mono ?_; rintro e w' ⟨rfl, rfl⟩))
          refine (c_lay (w.heap.size + 1) w1.heap.size N N (encN k p j) _ hown (by omega) FA FS FV hfbj hfsj).mono ?_
          rintro e wp ⟨rfl, hop, hgp⟩
          have hPp := HP.out.grown hgp (by simp; omega)
          have hVp := HVw.out.grown hgp (by simp)
          have hBp := HBel.out.grown hgp (by omega) (fun _ h => by injection h with h; omega)
          have hzp := hgp.size
          clear hgp f6 fv0
          go_wp2_with fail
          go_roundw
          case rel => exact ⟨j + 1, by omega, by go_num, by rw [HX.out]; exact hop, hPp, hVp, hBp, by omega⟩
          case measure => simp [intOf]; omega
    · obtain rfl : j = 9 := by omega
      rcases HK.out with rfl | rfl
      · obtain rfl : N = 64 := HN.out.symm
        obtain rfl : M = 16 := by have := S3.out; omega
        have hsl := HSL.out
        have hl9 := HE.out 9
        have HFINk := HFIN
        go_wp2_with (first | (go_at_call 14; refine (HM.out _).mono ?_; rintro e w' ⟨rfl, rfl⟩))
        obtain ⟨ns, hns⟩ : ∃ n, p.s.length = n := ⟨_, rfl⟩
        obtain ⟨nt, hnt⟩ : ∃ n, p.t.length = n := ⟨_, rfl⟩
        have HNS := Lib.hid hns
        have HNT := Lib.hid hnt
        have hrs0 := HRS.out
        have hrt0 := HRT.out
        rw [hns] at hrs0 hsl
        rw [hnt] at hrt0 hsl
        obtain ⟨hsl1, hsl2⟩ := hsl
        go_loopw [13] (fun i wr => ∃ j : Nat, j ≤ ns ∧ i = .int .i64 j ∧ wr.ownsRow (w.heap.size + 1) 5 1 (.slice (some ⟨w1.heap.size, 0, none⟩) 64 64) 64 (u8s (setL (encN 1 p 9) 32 p.s j)) ∧ Blk wr w.heap.size 31 (pvC p sa sc ta tc) ∧ Below w.heap.size w wr) (fun i _ => ns - (intOf i).toNat)
        case atStart => exact ⟨0, Nat.zero_le _, rfl, hown, hP, hbel⟩
        case round =>
          obtain ⟨j, hj, rfl, hown, hP, hbel⟩ := hrel
          have f9 : wr.cell? ⟨w.heap.size, 9, none⟩ = some (.slice sa ns sc) := by rw [← HNS.out]; exact hP.cell 9
          by_cases hlt : j < ns
          · obtain ⟨b, off, rfl, hbB, hbw, hcells⟩ := hrs0.form (by omega)
            have hce := (hbel.cell (p := ⟨b, off + j, none⟩) hbB).trans (hcells j hlt)
            rw [getD_u8s (by rw [HNS.out]; omega)] at hce
            have hcell := hown.cellAt (32 + j) (by omega)
            rw [u8s_get (by rw [setL_len, hl9]; omega)] at hcell
            have hfr := hown.frozenAt (32 + j)
            have HX : Hid (setL (encN 1 p 9) 32 p.s (j + 1) = (setL (encN 1 p 9) 32 p.s j).set (32 + j) (p.s.getD j 0)) := rfl
            have HP := Lib.hid hP
            have HBel := Lib.hid hbel
            clear hcells hP hbel
            generalize p.s.getD j 0 = z at *
            generalize (setL (encN 1 p 9) 32 p.s j).getD (32 + j) 0 = y at *
            go_wp2_with fail
            go_roundw
            case rel =>
              have hst := (hown.stored (32 + j) (.int .u8 z)).1
              rw [← List.map_set, ← HX.out] at hst
              exact ⟨j + 1, by omega, by go_num, hst, HP.out.far (p := ⟨w1.heap.size, 32 + j, none⟩) (by simp; omega) _, HBel.out.setCell (p := ⟨w1.heap.size, 32 + j, none⟩) (by simp; omega) _⟩
            case measure => simp [intOf]; omega
          · obtain rfl : j = ns := by omega
            have HB1 : Hid (setL (encN 1 p 9) 32 p.s j = blit (encN 1 p 9) 32 p.s) := by show _ = _; rw [← HNS.out]; exact setL_blit _ _ _ (by have := HNS.out; omega)
            rw [HB1.out] at hown
            have hlb : (blit (encN 1 p 9) 32 p.s).length = 64 := by rw [blit_len (by have := HNS.out; omega), hl9]
            generalize blit (encN 1 p 9) 32 p.s = bs at *
            go_wp2_with fail
            go_loopw [14] (fun i wr => ∃ j : Nat, j ≤ nt ∧ i = .int .i64 j ∧ wr.ownsRow (w.heap.size + 1) 5 1 (.slice (some ⟨w1.heap.size, 0, none⟩) 64 64) 64 (u8s (setL bs 48 p.t j)) ∧ Blk wr w.heap.size 31 (pvC p sa sc ta tc) ∧ Below w.heap.size w wr) (fun i _ => nt - (intOf i).toNat)
            case atStart => exact ⟨0, Nat.zero_le _, rfl, hown, hP, hbel⟩
            case round =>
              obtain ⟨j, hj, rfl, hown, hP, hbel⟩ := hrel
              clear f9
              have f10 : wr.cell? ⟨w.heap.size, 10, none⟩ = some (.slice ta nt tc) := by rw [← HNT.out]; exact hP.cell 10
              by_cases hlt : j < nt
              · obtain ⟨b, off, rfl, hbB, hbw, hcells⟩ := hrt0.form (by omega)
                have hce := (hbel.cell (p := ⟨b, off + j, none⟩) hbB).trans (hcells j hlt)
                rw [getD_u8s (by rw [HNT.out]; omega)] at hce
                have hcell := hown.cellAt (48 + j) (by omega)
                rw [u8s_get (by rw [setL_len, hlb]; omega)] at hcell
                have hfr := hown.frozenAt (48 + j)
                have HX : Hid (setL bs 48 p.t (j + 1) = (setL bs 48 p.t j).set (48 + j) (p.t.getD j 0)) := rfl
                have HP := Lib.hid hP
                have HBel := Lib.hid hbel
                clear hcells hP hbel
                generalize p.t.getD j 0 = z at *
                generalize (setL bs 48 p.t j).getD (48 + j) 0 = y at *
                go_wp2_with fail
                go_roundw
                case rel =>
                  have hst := (hown.stored (48 + j) (.int .u8 z)).1
                  rw [← List.map_set, ← HX.out] at hst
                  exact ⟨j + 1, by omega, by go_num, hst, HP.out.far (p := ⟨w1.heap.size, 48 + j, none⟩) (by simp; omega) _, HBel.out.setCell (p := ⟨w1.heap.size, 48 + j, none⟩) (by simp; omega) _⟩
                case measure => simp [intOf]; omega
              · obtain rfl : j = nt := by omega
                have hst : setL bs 48 p.t j = encB 1 p := by rw [HFIN.out, ← HNT.out]; exact setL_blit _ _ _ (by have := HNT.out; omega)
                rw [hst] at hown
                clear hst
                go_wp2_with fail
                go_ret2
                exact ⟨_, _, rfl, own_base hown (by omega), hbel⟩
      · obtain rfl : N = 32 := HN.out.symm
        obtain rfl : M = 8 := by have := S3.out; omega
        have hsl := HSL.out
        have hl9 := HE.out 9
        have HFINk := HFIN
        go_wp2_with (first | (go_at_call 14; refine (HM.out _).mono ?_; rintro e w' ⟨rfl, rfl⟩))
        obtain ⟨ns, hns⟩ : ∃ n, p.s.length = n := ⟨_, rfl⟩
        obtain ⟨nt, hnt⟩ : ∃ n, p.t.length = n := ⟨_, rfl⟩
        have HNS := Lib.hid hns
        have HNT := Lib.hid hnt
        have hrs0 := HRS.out
        have hrt0 := HRT.out
        rw [hns] at hrs0 hsl
        rw [hnt] at hrt0 hsl
        obtain ⟨hsl1, hsl2⟩ := hsl
        go_loopw [13] (fun i wr => ∃ j : Nat, j ≤ ns ∧ i = .int .i64 j ∧ wr.ownsRow (w.heap.size + 1) 5 1 (.slice (some ⟨w1.heap.size, 0, none⟩) 32 32) 32 (u8s (setL (encN 2 p 9) 16 p.s j)) ∧ Blk wr w.heap.size 31 (pvC p sa sc ta tc) ∧ Below w.heap.size w wr) (fun i _ => ns - (intOf i).toNat)
        case atStart => exact ⟨0, Nat.zero_le _, rfl, hown, hP, hbel⟩
        case round =>
          obtain ⟨j, hj, rfl, hown, hP, hbel⟩ := hrel
          have f9 : wr.cell? ⟨w.heap.size, 9, none⟩ = some (.slice sa ns sc) := by rw [← HNS.out]; exact hP.cell 9
          by_cases hlt : j < ns
          · obtain ⟨b, off, rfl, hbB, hbw, hcells⟩ := hrs0.form (by omega)
            have hce := (hbel.cell (p := ⟨b, off + j, none⟩) hbB).trans (hcells j hlt)
            rw [getD_u8s (by rw [HNS.out]; omega)] at hce
            have hcell := hown.cellAt (16 + j) (by omega)
            rw [u8s_get (by rw [setL_len, hl9]; omega)] at hcell
            have hfr := hown.frozenAt (16 + j)
            have HX : Hid (setL (encN 2 p 9) 16 p.s (j + 1) = (setL (encN 2 p 9) 16 p.s j).set (16 + j) (p.s.getD j 0)) := rfl
            have HP := Lib.hid hP
            have HBel := Lib.hid hbel
            clear hcells hP hbel
            generalize p.s.getD j 0 = z at *
            generalize (setL (encN 2 p 9) 16 p.s j).getD (16 + j) 0 = y at *
            go_wp2_with fail
            go_roundw
            case rel =>
              have hst := (hown.stored (16 + j) (.int .u8 z)).1
              rw [← List.map_set, ← HX.out] at hst
              exact ⟨j + 1, by omega, by go_num, hst, HP.out.far (p := ⟨w1.heap.size, 16 + j, none⟩) (by simp; omega) _, HBel.out.setCell (p := ⟨w1.heap.size, 16 + j, none⟩) (by simp; omega) _⟩
            case measure => simp [intOf]; omega
          · obtain rfl : j = ns := by omega
            have HB1 : Hid (setL (encN 2 p 9) 16 p.s j = blit (encN 2 p 9) 16 p.s) := by show _ = _; rw [← HNS.out]; exact setL_blit _ _ _ (by have := HNS.out; omega)
            rw [HB1.out] at hown
            have hlb : (blit (encN 2 p 9) 16 p.s).length = 32 := by rw [blit_len (by have := HNS.out; omega), hl9]
            generalize blit (encN 2 p 9) 16 p.s = bs at *
            go_wp2_with fail
            go_loopw [14] (fun i wr => ∃ j : Nat, j ≤ nt ∧ i = .int .i64 j ∧ wr.ownsRow (w.heap.size + 1) 5 1 (.slice (some ⟨w1.heap.size, 0, none⟩) 32 32) 32 (u8s (setL bs 24 p.t j)) ∧ Blk wr w.heap.size 31 (pvC p sa sc ta tc) ∧ Below w.heap.size w wr) (fun i _ => nt - (intOf i).toNat)
            case atStart => exact ⟨0, Nat.zero_le _, rfl, hown, hP, hbel⟩
            case round =>
              obtain ⟨j, hj, rfl, hown, hP, hbel⟩ := hrel
              clear f9
              have f10 : wr.cell? ⟨w.heap.size, 10, none⟩ = some (.slice ta nt tc) := by rw [← HNT.out]; exact hP.cell 10
              by_cases hlt : j < nt
              · obtain ⟨b, off, rfl, hbB, hbw, hcells⟩ := hrt0.form (by omega)
                have hce := (hbel.cell (p := ⟨b, off + j, none⟩) hbB).trans (hcells j hlt)
                rw [getD_u8s (by rw [HNT.out]; omega)] at hce
                have hcell := hown.cellAt (24 + j) (by omega)
                rw [u8s_get (by rw [setL_len, hlb]; omega)] at hcell
                have hfr := hown.frozenAt (24 + j)
                have HX : Hid (setL bs 24 p.t (j + 1) = (setL bs 24 p.t j).set (24 + j) (p.t.getD j 0)) := rfl
                have HP := Lib.hid hP
                have HBel := Lib.hid hbel
                clear hcells hP hbel
                generalize p.t.getD j 0 = z at *
                generalize (setL bs 24 p.t j).getD (24 + j) 0 = y at *
                go_wp2_with fail
                go_roundw
                case rel =>
                  have hst := (hown.stored (24 + j) (.int .u8 z)).1
                  rw [← List.map_set, ← HX.out] at hst
                  exact ⟨j + 1, by omega, by go_num, hst, HP.out.far (p := ⟨w1.heap.size, 24 + j, none⟩) (by simp; omega) _, HBel.out.setCell (p := ⟨w1.heap.size, 24 + j, none⟩) (by simp; omega) _⟩
                case measure => simp [intOf]; omega
              · obtain rfl : j = nt := by omega
                have hst : setL bs 24 p.t j = encB 2 p := by rw [HFIN.out, ← HNT.out]; exact setL_blit _ _ _ (by have := HNT.out; omega)
                rw [hst] at hown
                clear hst
                go_wp2_with fail
                go_ret2
                exact ⟨_, _, rfl, own_base hown (by omega), hbel⟩
end Go.Proofs.Ytbpbokcglicggaa
