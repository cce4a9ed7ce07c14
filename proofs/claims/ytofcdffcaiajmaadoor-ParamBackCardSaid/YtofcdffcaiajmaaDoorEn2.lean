/- Walks: a block's bytes out of parameters (param.Encode). Conditions: as stated. -/
import Derived.Test.YtofcdffcaiajmaaDoorEn
import Derived.Laws.CopyOwn
import Derived.Deep.RegionLaw
namespace Go.Proofs.YtofcdffcaiajmaaDoor
open Go.RowKit
set_option linter.unusedVariables false

def ksz (k : Int) : Nat := if k = 1 then 64 else 32
def ksl (k : Int) : Nat := if k = 1 then 16 else 8
/-- The numbers of a block, the first j of them laid. -/
def encN (k : Int) (p : Pm) : Nat → List Int
  | 0 => List.replicate (ksz k) 0
  | j + 1 => if j = 6 ∧ p.xof = 0 then encN k p j else layL (encN k p j) (fatN k j) (fv p j) (fszN k j)
/-- Bytes laid over bytes. -/
def blit (xs : List Int) (a : Nat) (ys : List Int) : List Int := xs.take a ++ ys ++ xs.drop (a + ys.length)
def encB (k : Int) (p : Pm) : List Int := blit (blit (encN k p 9) (2 * ksl k) p.s) (3 * ksl k) p.t
theorem blit_splice (xs ys : List Int) (a : Nat) : u8s (blit xs a ys) = splice (u8s xs) a (u8s ys) := by unfold blit splice; simp
theorem encN_len (k : Int) (p : Pm) (j : Nat) : (encN k p j).length = ksz k := by
  induction j with
  | zero => simp [encN]
  | succ j ih => unfold encN; split <;> simp [layL_length, ih]
theorem blit_len {xs ys : List Int} {a : Nat} (h : a + ys.length ≤ xs.length) : (blit xs a ys).length = xs.length := by unfold blit; simp; omega
theorem c_sizes (k : Int) (hk : k = 1 ∨ k = 2) (w : World) : Calls Tryd.prog 13 #[.int .i64 k] w fun e w' => e = .returned (.tuple #[.int .i64 (ksz k : Nat), .int .i64 (ksz k : Nat), .int .i64 (ksl k : Nat)]) ∧ w = w' := by
  rcases hk with rfl | rfl
  all_goals
    go_enter Tryd.func13, Tryd.ntmps13
    go_wp2
    refine bodyPost_ret (results_tmp3 rfl _ _ _) rfl ⟨rfl, rfl⟩
theorem ksz_bd (k : Int) : ksz k ≤ 64 ∧ 32 ≤ ksz k ∧ ksz k = 4 * ksl k := by unfold ksz ksl; split <;> omega
set_option maxRecDepth 100000 in
set_option maxHeartbeats 2000000 in
theorem c_Encode_ok (k : Int) (p : Pm) (sa : Option Addr) (sc : Nat) (ta : Option Addr) (tc : Nat) (w : World) (h : RdP w p sa sc ta tc) (ho : PmOk p) (h0 : chkP k p = 0) :
    Calls Tryd.prog 7 #[.int .i64 k, pvS p sa sc ta tc] w fun e w' => ∃ A c, e = .returned (.tuple #[.slice A (ksz k) c, .int .i64 0]) ∧ w'.ownsRow w.heap.size 5 1 (.slice A (ksz k) c) (ksz k) (u8s (encB k p)) ∧ Below w.heap.size w w' := by
  obtain ⟨i0, hi0, hz0, hz1, hz2⟩ := info_parts u8_info
  have hk := (chk_ok h0).1
  have hb0 := (Below.refl w.heap.size w).alloc (Nat.le_refl _) (.cells (pvC p sa sc ta tc) 26)
  have hB0 := Blk.new w 26 (pvC p sa sc ta tc)
  have h2 := h.step hb0
  have hC := c_CheckP k p sa sc ta tc
  rw [h0] at hC
  have hS := c_sizes k hk
  obtain ⟨s1, s2, s3⟩ := ksz_bd k
  have HE : Hid (∀ j, (encN k p j).length = ksz k) := encN_len k p
  have H0E : Hid (encN k p 0 = List.replicate (ksz k) 0) := rfl
  have HFIN : Hid (encB k p = blit (blit (encN k p 9) (2 * ksl k) p.s) (3 * ksl k) p.t) := rfl
  have hsl := (chk_ok h0).2.2.2.2.2.2.2
  have HROW : Hid (∀ i, i < 9 → (rowsArr k)[i * 5]? = some (.int .i64 ((i : Int) + 1)) ∧ (rowsArr k)[i * 5 + 1]? = some (.int .i64 (fatN k i : Nat)) ∧ (rowsArr k)[i * 5 + 2]? = some (.int .i64 (fszN k i : Nat)) ∧ (rowsArr k)[i * 5 + 3]? = some (.string (rname (i + 1))) ∧ (rowsArr k)[i * 5 + 4]? = some (.int .i64 (rwhy (i + 1)))) := row_at k hk
  have hmk := fun W => run_make_rowN (P := Tryd.prog) 24 5 i0 _ Tryd.underlying24 hi0 hz0 .i64 .i64 (ksz k) (ksz k) (Nat.le_refl _) (by rw [hz2]; omega) (by omega) W
  simp only [hz1, Nat.mul_one] at hmk
  have S3 := Lib.hid s3
  clear s3
  have HSL : Hid (p.s.length ≤ ksl k ∧ p.t.length ≤ ksl k) := by
    have e : kmost k / 4 = (ksl k : Int) := by rcases hk with rfl | rfl <;> rfl
    rw [e] at hsl
    exact ⟨by omega, by omega⟩
  clear hsl
  have hfb : ∀ j, j < 9 → fatN k j + fszN k j ≤ ksz k := fun j hj => fatN_bd hk hj (by rcases hk with rfl | rfl <;> rfl)
  have HFB := Lib.hid hfb
  clear hfb
  generalize hN : ksz k = N at *
  generalize hM : ksl k = M at *
  have HRS := Lib.hid h.rs
  have HRT := Lib.hid h.rt
  have HC := Lib.hid hC
  have HS := Lib.hid hS
  have HB0 := Lib.hid hB0
  have HBL := Lib.hid hb0
  have H0 := Lib.hid h0
  have HK := Lib.hid hk
  have HN := Lib.hid hN
  have HMK := Lib.hid hmk
  clear hC hB0 hb0 h h0 hS hk hN hM hmk
  simp only [pvS, pv]
  go_enter Tryd.func7, Tryd.ntmps7
  go_wp2_with fail
  refine (HC.out _).mono ?_
  rintro e w1 ⟨rfl, hb1⟩
  have K0 := Lib.hid (HB0.out.below hb1 (by simp))
  have h3 := h2.step hb1
  have HL := Lib.hid (HBL.out.trans (hb1.mono (B' := w.heap.size) (by simp)))
  have hz1 := hb1.size
  simp only [World.size_alloc] at hz1
  clear hb1 h2
  have hmk := HMK.out
  go_wp2_with (go_at_call 13; refine (HS.out _).mono ?_; rintro e w' ⟨rfl, rfl⟩)
  refine (c_rows k HK.out _).mono ?_
  rintro e w2 ⟨rfl, hR, hb2⟩
  have ho2 := own_below (own_made w1 (w.heap.size + 1) N 5 (.int .u8 0) (by omega) (by simp only [maxLen]; omega)) hb2
  have K2 := Lib.hid ((K0.out.alloc (.cells (madeCells #[.int .u8 0] N) 5)).below hb2 (by simp; omega))
  have HL2 := Lib.hid ((HL.out.alloc (by omega) (.cells (madeCells #[.int .u8 0] N) 5)).trans (hb2.mono (by simp; omega)))
  simp only [World.size_alloc] at hR
  have hz2 := hb2.size
  simp only [World.size_alloc] at hz2
  have HR2 := Lib.hid hR
  clear hb2 hmk hR
  go_wp2_with fail
  have HRep : Hid (List.replicate N (Value.int .u8 0) = u8s (List.replicate N 0)) := by show _ = _; simp
  rw [HRep.out, ← H0E.out] at ho2
  have hxo := ho.xof
  go_loopw [30] (fun i wr => ∃ j : Nat, j ≤ 9 ∧ i = .int .i64 j ∧ wr.ownsRow (w.heap.size + 1) 5 1 (.slice (some ⟨w1.heap.size, 0, none⟩) N N) N (u8s (encN k p j)) ∧ Blk wr w.heap.size 26 (pvC p sa sc ta tc) ∧ Blk wr (w1.heap.size + 1) 50 (rowsArr k) ∧ Below w.heap.size w wr ∧ w1.heap.size + 2 ≤ wr.heap.size) (fun i _ => 9 - (intOf i).toNat)
  case atStart => exact ⟨0, Nat.zero_le _, rfl, ho2, K2.out, HR2.out, HL2.out, by have := HR2.out.lt; omega⟩
  case round =>
    obtain ⟨j, hj, rfl, hown, hP, hRw, hbel, hzr⟩ := hrel
    by_cases hlt : j < 9
    · obtain ⟨r0, r1, r2, r3, r4⟩ := HROW.out j hlt
      have c0 := (hRw.cell _).trans r0
      have c1 := (hRw.cell _).trans r1
      have c2 := (hRw.cell _).trans r2
      have c3 := (hRw.cell _).trans r3
      have c4 := (hRw.cell _).trans r4
      have f6 : wr.cell? ⟨w.heap.size, 6, none⟩ = some (.int .u32 p.xof) := hP.cell 6
      have hlt2 : w.heap.size < wr.heap.size := by omega
      have HP := Lib.hid hP
      have HRw := Lib.hid hRw
      have HBel := Lib.hid hbel
      clear r0 r1 r2 r3 r4 hP hRw hbel
      by_cases h6 : j = 6 ∧ p.xof = 0
      · have HX : Hid (encN k p (j + 1) = encN k p j) := if_pos h6
        have HO := Lib.hid hown
        have t1 : ((j : Int) + 1 == 7) = true := by simp; omega
        have t2 : (p.xof == 0) = true := by simp [h6.2]
        clear h6 hown
        go_wp2
        go_roundw
        case rel => exact ⟨j + 1, by omega, by go_num, by rw [HX.out]; exact HO.out.alloc _, HP.out.alloc _, HRw.out.alloc _, HBel.out.alloc HBel.out.size _, by simp; omega⟩
        case measure => simp [intOf]; omega
      · have HX : Hid (encN k p (j + 1) = layL (encN k p j) (fatN k j) (fv p j) (fszN k j)) := if_neg h6
        have HO := Lib.hid hown
        have ht : (((j : Int) + 1 == 7) = false) ∨ (((j : Int) + 1 == 7) = true ∧ (p.xof == 0) = false) := by
          by_cases h7 : j = 6
          · exact .inr ⟨by simp; omega, by simpa using fun h => h6 ⟨h7, h⟩⟩
          · exact .inl (by simp; omega)
        clear h6 hown
        rcases ht with t1 | ⟨t1, t2⟩
        · go_wp2
          have p0 : wr.cell? ⟨w.heap.size, 0, none⟩ = some (.int .i64 p.d) := HP.out.cell 0
          have p1 : wr.cell? ⟨w.heap.size, 1, none⟩ = some (.int .i64 p.key) := HP.out.cell 1
          have p2 : wr.cell? ⟨w.heap.size, 2, none⟩ = some (.int .i64 p.fo) := HP.out.cell 2
          have p3 : wr.cell? ⟨w.heap.size, 3, none⟩ = some (.int .i64 p.de) := HP.out.cell 3
          have p4 : wr.cell? ⟨w.heap.size, 4, none⟩ = some (.int .u32 p.leaf) := HP.out.cell 4
          have p5 : wr.cell? ⟨w.heap.size, 5, none⟩ = some (.int .u64 p.off) := HP.out.cell 5
          have p7 : wr.cell? ⟨w.heap.size, 7, none⟩ = some (.int .i64 p.nd) := HP.out.cell 7
          have p8 : wr.cell? ⟨w.heap.size, 8, none⟩ = some (.int .i64 p.inn) := HP.out.cell 8
          have p9 : wr.cell? ⟨w.heap.size, 9, none⟩ = some (.slice sa p.s.length sc) := HP.out.cell 9
          have p10 : wr.cell? ⟨w.heap.size, 10, none⟩ = some (.slice ta p.t.length tc) := HP.out.cell 10
          have hfbj := HFB.out j hlt
          have hfsj := (fszN_bd k j).2
          have hne1 : w.heap.size ≠ w1.heap.size := by omega
          have hne2 : wr.heap.size ≠ w1.heap.size := by omega
          clear c0 c1 c2 c3 c4
          go_region_held3 (fun W => W.cell? ⟨wr.heap.size, 0, none⟩ = some (.int .i64 ((j : Int) + 1)) ∧ W.cell? ⟨wr.heap.size, 1, none⟩ = some (.int .i64 (fatN k j : Nat)) ∧ W.cell? ⟨wr.heap.size, 2, none⟩ = some (.int .i64 (fszN k j : Nat)) ∧ W.cell? ⟨w.heap.size, 0, none⟩ = some (.int .i64 p.d) ∧ W.cell? ⟨w.heap.size, 1, none⟩ = some (.int .i64 p.key) ∧ W.cell? ⟨w.heap.size, 2, none⟩ = some (.int .i64 p.fo) ∧ W.cell? ⟨w.heap.size, 3, none⟩ = some (.int .i64 p.de) ∧ W.cell? ⟨w.heap.size, 4, none⟩ = some (.int .u32 p.leaf) ∧ W.cell? ⟨w.heap.size, 5, none⟩ = some (.int .u64 p.off) ∧ W.cell? ⟨w.heap.size, 6, none⟩ = some (.int .u32 p.xof) ∧ W.cell? ⟨w.heap.size, 7, none⟩ = some (.int .i64 p.nd) ∧ W.cell? ⟨w.heap.size, 8, none⟩ = some (.int .i64 p.inn) ∧ W.cell? ⟨w.heap.size, 9, none⟩ = some (.slice sa p.s.length sc) ∧ W.cell? ⟨w.heap.size, 10, none⟩ = some (.slice ta p.t.length tc)) (first | exact ⟨HDp.out.cell 0, HDp.out.cell 1, HDp.out.cell 2, HPp.out.cell 0, HPp.out.cell 1, HPp.out.cell 2, HPp.out.cell 3, HPp.out.cell 4, HPp.out.cell 5, HPp.out.cell 6, HPp.out.cell 7, HPp.out.cell 8, HPp.out.cell 9, HPp.out.cell 10⟩ | exact ⟨HDv.out.cell 0, HDv.out.cell 1, HDv.out.cell 2, HPv.out.cell 0, HPv.out.cell 1, HPv.out.cell 2, HPv.out.cell 3, HPv.out.cell 4, HPv.out.cell 5, HPv.out.cell 6, HPv.out.cell 7, HPv.out.cell 8, HPv.out.cell 9, HPv.out.cell 10⟩ | go_keep) (first | (go_at_call 17; refine (c_value k p sa sc ta tc j hlt H0.out ho _).mono ?_; rintro e wv ⟨rfl, hbv⟩; have hov := own_below (World.ownsRow.drew (HO.out.alloc _)) hbv; have HPv := Lib.hid ((HP.out.alloc _).drew.below hbv (by simp only [heap_drew, World.size_alloc]; omega)); have HRv := Lib.hid ((HRw.out.alloc _).drew.below hbv (by simp only [heap_drew, World.size_alloc]; omega)); have HDv := Lib.hid ((Blk.new wr 50 #[.int .i64 ((j : Int) + 1), .int .i64 (fatN k j : Nat), .int .i64 (fszN k j : Nat), .string (rname ((j : Int) + 1)), .int .i64 (rwhy ((j : Int) + 1))]).drew.below hbv (by simp only [heap_drew, World.size_alloc]; omega)); have HBv := Lib.hid (((HBel.out.alloc HBel.out.size _).drew).trans (hbv.mono (by simp only [heap_drew, World.size_alloc]; omega))); obtain ⟨hclv, hflv⟩ := bcell hbv; have hzv := hbv.size; simp only [heap_drew, World.size_alloc] at hclv hzv; clear hbv hflv; have hzv1 : w.heap.size < wv.heap.size := (by omega); have hzv2 : wr.heap.size < wv.heap.size := (by omega)) | (go_at_call 16; refine (c_put (w.heap.size + 1) w1.heap.size N N (encN k p j) _ hov (by omega) (fatN k j) (fszN k j) (fv p j) hfbj hfsj).mono ?_; rintro e wp ⟨rfl, hop, hgp⟩; have HPp := Lib.hid (HPv.out.grown hgp (by simp; omega)); have HRp := Lib.hid (HRv.out.grown hgp (by simp)); have HDp := Lib.hid (HDv.out.grown hgp (by simp; omega)); have HBp := Lib.hid (HBv.out.grown hgp (by omega) (fun _ h => by injection h with h; omega)); have hzp := hgp.size; have hclp : ∀ b o, b < wv.heap.size → b ≠ w1.heap.size → wp.cell? ⟨b, o, none⟩ = wv.cell? ⟨b, o, none⟩ := (fun b o h1 h2 => World.cell?_of_block (a := ⟨b, o, none⟩) (hgp.block b h1 (by simpa using h2))); clear hgp))
          clear hclp
          go_wp2_with fail
          go_roundw
          case rel => exact ⟨j + 1, by omega, by go_num, by rw [HX.out]; exact hop, HPp.out, HRp.out, HBp.out, by omega⟩
          case measure => simp [intOf]; omega
        · go_wp2
          have p0 : wr.cell? ⟨w.heap.size, 0, none⟩ = some (.int .i64 p.d) := HP.out.cell 0
          have p1 : wr.cell? ⟨w.heap.size, 1, none⟩ = some (.int .i64 p.key) := HP.out.cell 1
          have p2 : wr.cell? ⟨w.heap.size, 2, none⟩ = some (.int .i64 p.fo) := HP.out.cell 2
          have p3 : wr.cell? ⟨w.heap.size, 3, none⟩ = some (.int .i64 p.de) := HP.out.cell 3
          have p4 : wr.cell? ⟨w.heap.size, 4, none⟩ = some (.int .u32 p.leaf) := HP.out.cell 4
          have p5 : wr.cell? ⟨w.heap.size, 5, none⟩ = some (.int .u64 p.off) := HP.out.cell 5
          have p7 : wr.cell? ⟨w.heap.size, 7, none⟩ = some (.int .i64 p.nd) := HP.out.cell 7
          have p8 : wr.cell? ⟨w.heap.size, 8, none⟩ = some (.int .i64 p.inn) := HP.out.cell 8
          have p9 : wr.cell? ⟨w.heap.size, 9, none⟩ = some (.slice sa p.s.length sc) := HP.out.cell 9
          have p10 : wr.cell? ⟨w.heap.size, 10, none⟩ = some (.slice ta p.t.length tc) := HP.out.cell 10
          have hfbj := HFB.out j hlt
          have hfsj := (fszN_bd k j).2
          have hne1 : w.heap.size ≠ w1.heap.size := by omega
          have hne2 : wr.heap.size ≠ w1.heap.size := by omega
          clear c0 c1 c2 c3 c4
          go_region_held3 (fun W => W.cell? ⟨wr.heap.size, 0, none⟩ = some (.int .i64 ((j : Int) + 1)) ∧ W.cell? ⟨wr.heap.size, 1, none⟩ = some (.int .i64 (fatN k j : Nat)) ∧ W.cell? ⟨wr.heap.size, 2, none⟩ = some (.int .i64 (fszN k j : Nat)) ∧ W.cell? ⟨w.heap.size, 0, none⟩ = some (.int .i64 p.d) ∧ W.cell? ⟨w.heap.size, 1, none⟩ = some (.int .i64 p.key) ∧ W.cell? ⟨w.heap.size, 2, none⟩ = some (.int .i64 p.fo) ∧ W.cell? ⟨w.heap.size, 3, none⟩ = some (.int .i64 p.de) ∧ W.cell? ⟨w.heap.size, 4, none⟩ = some (.int .u32 p.leaf) ∧ W.cell? ⟨w.heap.size, 5, none⟩ = some (.int .u64 p.off) ∧ W.cell? ⟨w.heap.size, 6, none⟩ = some (.int .u32 p.xof) ∧ W.cell? ⟨w.heap.size, 7, none⟩ = some (.int .i64 p.nd) ∧ W.cell? ⟨w.heap.size, 8, none⟩ = some (.int .i64 p.inn) ∧ W.cell? ⟨w.heap.size, 9, none⟩ = some (.slice sa p.s.length sc) ∧ W.cell? ⟨w.heap.size, 10, none⟩ = some (.slice ta p.t.length tc)) (first | exact ⟨HDp.out.cell 0, HDp.out.cell 1, HDp.out.cell 2, HPp.out.cell 0, HPp.out.cell 1, HPp.out.cell 2, HPp.out.cell 3, HPp.out.cell 4, HPp.out.cell 5, HPp.out.cell 6, HPp.out.cell 7, HPp.out.cell 8, HPp.out.cell 9, HPp.out.cell 10⟩ | exact ⟨HDv.out.cell 0, HDv.out.cell 1, HDv.out.cell 2, HPv.out.cell 0, HPv.out.cell 1, HPv.out.cell 2, HPv.out.cell 3, HPv.out.cell 4, HPv.out.cell 5, HPv.out.cell 6, HPv.out.cell 7, HPv.out.cell 8, HPv.out.cell 9, HPv.out.cell 10⟩ | go_keep) (first | (go_at_call 17; refine (c_value k p sa sc ta tc j hlt H0.out ho _).mono ?_; rintro e wv ⟨rfl, hbv⟩; have hov := own_below (World.ownsRow.drew (HO.out.alloc _)) hbv; have HPv := Lib.hid ((HP.out.alloc _).drew.below hbv (by simp only [heap_drew, World.size_alloc]; omega)); have HRv := Lib.hid ((HRw.out.alloc _).drew.below hbv (by simp only [heap_drew, World.size_alloc]; omega)); have HDv := Lib.hid ((Blk.new wr 50 #[.int .i64 ((j : Int) + 1), .int .i64 (fatN k j : Nat), .int .i64 (fszN k j : Nat), .string (rname ((j : Int) + 1)), .int .i64 (rwhy ((j : Int) + 1))]).drew.below hbv (by simp only [heap_drew, World.size_alloc]; omega)); have HBv := Lib.hid (((HBel.out.alloc HBel.out.size _).drew).trans (hbv.mono (by simp only [heap_drew, World.size_alloc]; omega))); obtain ⟨hclv, hflv⟩ := bcell hbv; have hzv := hbv.size; simp only [heap_drew, World.size_alloc] at hclv hzv; clear hbv hflv; have hzv1 : w.heap.size < wv.heap.size := (by omega); have hzv2 : wr.heap.size < wv.heap.size := (by omega)) | (go_at_call 16; refine (c_put (w.heap.size + 1) w1.heap.size N N (encN k p j) _ hov (by omega) (fatN k j) (fszN k j) (fv p j) hfbj hfsj).mono ?_; rintro e wp ⟨rfl, hop, hgp⟩; have HPp := Lib.hid (HPv.out.grown hgp (by simp; omega)); have HRp := Lib.hid (HRv.out.grown hgp (by simp)); have HDp := Lib.hid (HDv.out.grown hgp (by simp; omega)); have HBp := Lib.hid (HBv.out.grown hgp (by omega) (fun _ h => by injection h with h; omega)); have hzp := hgp.size; have hclp : ∀ b o, b < wv.heap.size → b ≠ w1.heap.size → wp.cell? ⟨b, o, none⟩ = wv.cell? ⟨b, o, none⟩ := (fun b o h1 h2 => World.cell?_of_block (a := ⟨b, o, none⟩) (hgp.block b h1 (by simpa using h2))); clear hgp))
          clear hclp
          go_wp2_with fail
          go_roundw
          case rel => exact ⟨j + 1, by omega, by go_num, by rw [HX.out]; exact hop, HPp.out, HRp.out, HBp.out, by omega⟩
          case measure => simp [intOf]; omega
    · obtain rfl : j = 9 := by omega
      rcases HK.out with rfl | rfl
      · obtain rfl : N = 64 := HN.out.symm
        obtain rfl : M = 16 := by have := S3.out; omega
        have hrs := HRS.out.below hbel
        have hrt := HRT.out.below hbel
        have hfull := own_full hown
        have p9 : wr.cell? ⟨w.heap.size, 9, none⟩ = some (.slice sa p.s.length sc) := hP.cell 9
        have hsl := HSL.out
        have hl9 := HE.out 9
        have HP := Lib.hid hP
        have HF := Lib.hid hfull
        have HBel := Lib.hid hbel
        clear hP hfull hbel hown hRw
        have e1 : IntKind.i64.wrap 32 = 32 := by decide
        have e2 : IntKind.i64.wrap 48 = 48 := by decide
        go_wp2
        go_region_law (refine step_copy_splice rfl (.tmp 58) (.tmp 60) 24 24 rfl 5 Tryd.underlying24 (by kernel_rfl) (some ⟨w1.heap.size, 32, none⟩) sa 32 32 p.s.length sc (by simp [Act.eval]) (by simp [Act.eval]) w1.heap.size 32 (u8s (encN 1 p 9)) 5 HF.out (u8s p.s) (by rw [List.length_map]; exact (Nat.min_eq_left (by omega)).symm) (fun h0 => ⟨rfl, by obtain ⟨ad, e, _, hc⟩ := hrs.2 (by simpa using h0); exact ⟨ad, e, hc⟩⟩) (by simp; omega) (u8s_one _) w1.heap.size wr (Below.refl w1.heap.size wr).drew (Nat.le_refl _) ?_; intro w4 HG4 hb4)
        have HF4 : Hid (w4.heap[w1.heap.size]? = some (.cells (u8s (blit (encN 1 p 9) 32 p.s)).toArray 5 (0, 0))) := by show _ = _; rw [blit_splice]; exact HG4.out
        have hlb : (blit (encN 1 p 9) 32 p.s).length = 64 := by rw [blit_len (by omega), hl9]
        have HP4 := Lib.hid (HP.out.below hb4 (by omega))
        have p10 : w4.cell? ⟨w.heap.size, 10, none⟩ = some (.slice ta p.t.length tc) := HP4.out.cell 10
        have hrt4 := hrt.below (hb4.mono (by omega))
        have HBel4 := Lib.hid (HBel.out.trans (hb4.mono (by omega)))
        clear hb4 HG4 p9
        go_wp2_with fail
        go_region_law (refine step_copy_splice rfl (.tmp 66) (.tmp 68) 24 24 rfl 5 Tryd.underlying24 (by kernel_rfl) (some ⟨w1.heap.size, 48, none⟩) ta 16 16 p.t.length tc (by simp [Act.eval]) (by simp [Act.eval]) w1.heap.size 48 (u8s (blit (encN 1 p 9) 32 p.s)) 5 HF4.out (u8s p.t) (by rw [List.length_map]; exact (Nat.min_eq_left (by omega)).symm) (fun h0 => ⟨rfl, by obtain ⟨ad, e, _, hc⟩ := hrt4.2 (by simpa using h0); exact ⟨ad, e, hc⟩⟩) (by simp; omega) (u8s_one _) w1.heap.size w4 (Below.refl w1.heap.size w4).drew (Nat.le_refl _) ?_; intro w5 HG5 hb5)
        have HF5 : Hid (w5.heap[w1.heap.size]? = some (.cells (u8s (encB 1 p)).toArray 5 (0, 0))) := by show _ = _; rw [HFIN.out, blit_splice]; exact HG5.out
        have hlf : (u8s (encB 1 p)).length = 64 := by rw [List.length_map, HFIN.out, blit_len (by rw [hlb]; omega), hlb]
        have HBel5 := Lib.hid (HBel4.out.trans (hb5.mono (by omega)))
        clear hb5 HG5 p10
        go_wp2_with fail
        go_ret2
        exact ⟨_, _, rfl, own_of_full HF5.out (by omega) hlf (by simp only [maxLen]; omega), HBel5.out⟩
      · obtain rfl : N = 32 := HN.out.symm
        obtain rfl : M = 8 := by have := S3.out; omega
        have hrs := HRS.out.below hbel
        have hrt := HRT.out.below hbel
        have hfull := own_full hown
        have p9 : wr.cell? ⟨w.heap.size, 9, none⟩ = some (.slice sa p.s.length sc) := hP.cell 9
        have hsl := HSL.out
        have hl9 := HE.out 9
        have HP := Lib.hid hP
        have HF := Lib.hid hfull
        have HBel := Lib.hid hbel
        clear hP hfull hbel hown hRw
        have e1 : IntKind.i64.wrap 16 = 16 := by decide
        have e2 : IntKind.i64.wrap 24 = 24 := by decide
        go_wp2
        go_region_law (refine step_copy_splice rfl (.tmp 58) (.tmp 60) 24 24 rfl 5 Tryd.underlying24 (by kernel_rfl) (some ⟨w1.heap.size, 16, none⟩) sa 16 16 p.s.length sc (by simp [Act.eval]) (by simp [Act.eval]) w1.heap.size 16 (u8s (encN 2 p 9)) 5 HF.out (u8s p.s) (by rw [List.length_map]; exact (Nat.min_eq_left (by omega)).symm) (fun h0 => ⟨rfl, by obtain ⟨ad, e, _, hc⟩ := hrs.2 (by simpa using h0); exact ⟨ad, e, hc⟩⟩) (by simp; omega) (u8s_one _) w1.heap.size wr (Below.refl w1.heap.size wr).drew (Nat.le_refl _) ?_; intro w4 HG4 hb4)
        have HF4 : Hid (w4.heap[w1.heap.size]? = some (.cells (u8s (blit (encN 2 p 9) 16 p.s)).toArray 5 (0, 0))) := by show _ = _; rw [blit_splice]; exact HG4.out
        have hlb : (blit (encN 2 p 9) 16 p.s).length = 32 := by rw [blit_len (by omega), hl9]
        have HP4 := Lib.hid (HP.out.below hb4 (by omega))
        have p10 : w4.cell? ⟨w.heap.size, 10, none⟩ = some (.slice ta p.t.length tc) := HP4.out.cell 10
        have hrt4 := hrt.below (hb4.mono (by omega))
        have HBel4 := Lib.hid (HBel.out.trans (hb4.mono (by omega)))
        clear hb4 HG4 p9
        go_wp2_with fail
        go_region_law (refine step_copy_splice rfl (.tmp 66) (.tmp 68) 24 24 rfl 5 Tryd.underlying24 (by kernel_rfl) (some ⟨w1.heap.size, 24, none⟩) ta 8 8 p.t.length tc (by simp [Act.eval]) (by simp [Act.eval]) w1.heap.size 24 (u8s (blit (encN 2 p 9) 16 p.s)) 5 HF4.out (u8s p.t) (by rw [List.length_map]; exact (Nat.min_eq_left (by omega)).symm) (fun h0 => ⟨rfl, by obtain ⟨ad, e, _, hc⟩ := hrt4.2 (by simpa using h0); exact ⟨ad, e, hc⟩⟩) (by simp; omega) (u8s_one _) w1.heap.size w4 (Below.refl w1.heap.size w4).drew (Nat.le_refl _) ?_; intro w5 HG5 hb5)
        have HF5 : Hid (w5.heap[w1.heap.size]? = some (.cells (u8s (encB 2 p)).toArray 5 (0, 0))) := by show _ = _; rw [HFIN.out, blit_splice]; exact HG5.out
        have hlf : (u8s (encB 2 p)).length = 32 := by rw [List.length_map, HFIN.out, blit_len (by rw [hlb]; omega), hlb]
        have HBel5 := Lib.hid (HBel4.out.trans (hb5.mono (by omega)))
        clear hb5 HG5 p10
        go_wp2_with fail
        go_ret2
        exact ⟨_, _, rfl, own_of_full HF5.out (by omega) hlf (by simp only [maxLen]; omega), HBel5.out⟩
end Go.Proofs.YtofcdffcaiajmaaDoor
