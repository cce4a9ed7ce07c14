/- Walk: the table of what is replaced is built ((*strings.Replacer).build, at the three escapes). Conditions: as stated. -/
import Derived.Test.YtmnkdkibhchglaaGreatDoorRa
namespace Go.Proofs.YtmnkdkibhchglaaGreatDoor
open Go.RowKit
set_option linter.unusedVariables false
attribute [local go_sem ↓] Go.wp_at_zero Go.wp_at_succ

/-- The replacements, in the order in which they are laid. -/
def rep3 : List (UInt8 × List UInt8) := [(13, [92, 114]), (10, [92, 110]), (92, [92, 92])]
/-- One replacement more. -/
theorem RepSt.add {W w1 w2 w4 : World} {g : Nat} {k : Nat} {o : UInt8} {n : List UInt8} {C : Array Value} {A : Option Addr} {c : Nat} {v2 : Value} {c4 b4 : Nat}
    (ps : List (UInt8 × List UInt8)) (hp : ps = rep3.take k) (hk : k < 3) (hon : rep3[k]? = some (o, n))
    (hS : C.size = 257) (hC : ∀ i : Nat, i < 256 → ∃ v, C[i]? = some v ∧ Slt w1 v (look ps i))
    (hB1 : Blk w1 g 201 C) (hown1 : w1.ownsRow W.heap.size 9 1 (.slice A ps.length c) ps.length (ps.map fun p => bstr [p.1]))
    (hown2 : w2.ownsRow W.heap.size 9 1 v2 (ps.length + 1) ((ps.map fun p => bstr [p.1]) ++ [bstr [o]])) (hg2 : w1.grownBy w2 (Value.slice A ps.length c).ownBlock) (hb1 : Below W.heap.size W w1) (hgW : W.heap.size ≤ g)
    (hb4 : Below (w2.setCell ⟨g, 256, none⟩ v2).heap.size (w2.setCell ⟨g, 256, none⟩ v2) w4) (hk4 : BBlk w4 b4 n) :
    RepSt W (w4.setCell ⟨g, o.toNat, none⟩ (.slice (some ⟨b4, 0, none⟩) n.length c4)) g (rep3.take (k + 1)) := by
  obtain ⟨A2, c2, rfl⟩ := own_slice hown2
  have hps : rep3.take (k + 1) = ps ++ [(o, n)] := by rw [hp, List.take_add_one, hon]; rfl
  have hlo : o.toNat < 256 := o.toNat_lt
  have hB2 := hB1.grown hg2 (fun e => own_blk_ne hown1 hB1 (by decide) e.symm)
  have hB3 := hB2.set_ 256 (.slice A2 (ps.length + 1) c2)
  have hB4 := hB3.below hb4 hB3.lt
  have hB5 := hB4.set_ o.toNat (.slice (some ⟨b4, 0, none⟩) n.length c4)
  have hn2 : (Value.slice A2 (ps.length + 1) c2).ownBlock ≠ some g := own_blk_ne hown2 hB2 (by decide)
  have hown3 := hown2.kept (grown_setCell w2 g 256 (.slice A2 (ps.length + 1) c2)) (.inr hn2)
  have hown4 := own_below hown3 hb4
  have hown5 := hown4.kept (grown_setCell w4 g o.toNat (.slice (some ⟨b4, 0, none⟩) n.length c4)) (.inr hn2)
  have hkeep : ∀ b l, BBlk w1 b l → BBlk (w4.setCell ⟨g, o.toNat, none⟩ (.slice (some ⟨b4, 0, none⟩) n.length c4)) b l := by
    intro b l h
    have hne := h.ne_ hB1 (by decide)
    exact (((h.grown hg2 (h.ne_own hown1 (by decide))).far (p := ⟨g, 256, none⟩) hne _).below hb4).far (p := ⟨g, o.toNat, none⟩) hne _
  rw [hps]
  refine ⟨_, A2, c2, hB5, by simp [hS], ?_, ?_, ?_, ?_⟩
  · rw [Array.getElem?_setIfInBounds_ne (by omega), Array.getElem?_setIfInBounds_self_of_lt (by omega)]
    simp
  · simpa using hown5
  · intro i hi
    by_cases hio : o.toNat = i
    · subst hio
      refine ⟨_, by rw [Array.getElem?_setIfInBounds_self_of_lt (by simp; omega)], ?_⟩
      have hl : look (ps ++ [(o, n)]) o.toNat = some n := by
        unfold look
        have hnone : ps.find? (fun p => p.1.toNat == o.toNat) = none := by
          subst hp
          rcases (show k = 0 ∨ k = 1 ∨ k = 2 by omega) with rfl | rfl | rfl <;> simp only [rep3, List.getElem?_cons_zero, List.getElem?_cons_succ, Option.some.injEq, Prod.mk.injEq] at hon <;> obtain ⟨rfl, rfl⟩ := hon <;> rfl
        rw [List.find?_append, hnone]
        simp
      rw [hl]
      exact ⟨b4, c4, rfl, hk4.far (p := ⟨g, o.toNat, none⟩) (hk4.ne_ hB4 (by decide)) _⟩
    · obtain ⟨v, h1, h2⟩ := hC i hi
      refine ⟨v, by rw [Array.getElem?_setIfInBounds_ne (by omega), Array.getElem?_setIfInBounds_ne (by omega)]; exact h1, ?_⟩
      have hl : look (ps ++ [(o, n)]) i = look ps i := by
        unfold look
        rw [List.find?_append]
        simp [hio]
      rw [hl]
      exact h2.step hkeep
  · have hb2 := below_own hb1 hown1 hg2
    exact (below_step (hb2.setCell (p := ⟨g, 256, none⟩) hgW _) hb4).setCell (p := ⟨g, o.toNat, none⟩) hgW _
theorem zero_bs (b : Nat) : Tryz.zeroCells201.setIfInBounds 256 (.slice (some ⟨b, 0, none⟩) 0 3) = bsC (.slice (some ⟨b, 0, none⟩) 0 3) := by kernel_rfl
set_option maxRecDepth 100000 in
set_option maxHeartbeats 4000000 in
theorem c_build (R gs c : Nat) (w : World) (hr : w.cell? ⟨R, 4, none⟩ = some (.slice (some ⟨gs, 0, none⟩) 6 c)) (hc : 6 ≤ c) (hgs : gs < w.heap.size)
    (h0 : w.cell? ⟨gs, 0, none⟩ = some (.string ⟨#[92]⟩)) (h1 : w.cell? ⟨gs, 1, none⟩ = some (.string ⟨#[92, 92]⟩)) (h2 : w.cell? ⟨gs, 2, none⟩ = some (.string ⟨#[10]⟩)) (h3 : w.cell? ⟨gs, 3, none⟩ = some (.string ⟨#[92, 110]⟩)) (h4 : w.cell? ⟨gs, 4, none⟩ = some (.string ⟨#[13]⟩)) (h5 : w.cell? ⟨gs, 5, none⟩ = some (.string ⟨#[92, 114]⟩)) :
    Calls Tryz.prog 98 #[.pointer (some ⟨R, 0, none⟩)] w fun e w' => ∃ g, e = .returned (.iface 202 (.pointer (some ⟨g, 0, none⟩))) ∧ RepSt w w' g rep3 := by
  obtain ⟨i0, hi0, hz0, hz1, hz2⟩ := info_parts str_info
  obtain ⟨iB, zB, hiB, hzB, hzB2, hsB⟩ := bs_parts
  have hmk : ∀ W, (Instr.makeSlice 148 (.int .i64 0) (.int .i64 3)).run Tryz.prog W = .ok (.slice (some ⟨W.heap.size, 0, none⟩) 0 3) (W.alloc (.cells (madeCells (Value.cells (.string ⟨#[]⟩)) (3 * i0.size)) 9)) := fun W => run_make_rowN (P := Tryz.prog) 148 9 i0 _ Tryz.underlying148 hi0 hz0 .i64 .i64 0 3 (by omega) (by rw [hz2]; omega) (by omega) W
  have HO0 : Hid (∀ W : World, (W.alloc (.cells (madeCells (Value.cells (.string ⟨#[]⟩)) (3 * i0.size)) 9)).ownsRow W.heap.size 9 1 (.slice (some ⟨W.heap.size, 0, none⟩) 0 3) 0 []) := fun W => World.ownsRow_made W _ 3 (Nat.le_refl _) (by simp only [maxLen]; omega) (by rw [size_madeCells, hz1])
  generalize (madeCells (Value.cells (.string ⟨#[]⟩)) (3 * i0.size)) = MC at *
  go_enter Tryz.func98, Tryz.ntmps98
  go_wp2_with fail
  go_loop [4, 5] (fun vb vi => ∃ k : Nat, k ≤ 3 ∧ vb = .bool (decide (k = 0)) ∧ vi = .int .i64 (2 * k : Nat)) (fun _ vi => 6 - (intOf vi).toNat)
  case atStart => exact ⟨0, by omega, rfl, rfl⟩
  case round =>
    obtain ⟨k, hk, rfl, rfl⟩ := hrel
    rcases (show k = 0 ∨ k = 1 ∨ k = 2 ∨ k = 3 by omega) with rfl | rfl | rfl | rfl
    · go_wp2_with fail
      go_round
      case rel => exact ⟨1, by omega, by simp, by go_num⟩
      case measure => simp [intOf]
    · go_wp2_with fail
      go_round
      case rel => exact ⟨2, by omega, by simp, by go_num⟩
      case measure => simp [intOf]
    · go_wp2_with fail
      go_round
      case rel => exact ⟨3, by omega, by simp, by go_num⟩
      case measure => simp [intOf]
    · have hB1 := (Below.refl w.heap.size w).alloc (Nat.le_refl _) (.cells MC 9)
      have ho0 := HO0.out w
      have HZ : Hid ((w.alloc (.cells MC 9)).heap.size = w.heap.size + 1) := by show _ = _; simp
      have HBS : Hid (Tryz.zeroCells201.setIfInBounds 256 (.slice (some ⟨w.heap.size, 0, none⟩) 0 3) = bsC (.slice (some ⟨w.heap.size, 0, none⟩) 0 3)) := zero_bs w.heap.size
      have HCS : Hid ((bsC (.slice (some ⟨w.heap.size, 0, none⟩) 0 3)).size = 257 ∧ (∀ i, i < 256 → (bsC (.slice (some ⟨w.heap.size, 0, none⟩) 0 3))[i]? = some (.slice none 0 0)) ∧ (bsC (.slice (some ⟨w.heap.size, 0, none⟩) 0 3))[256]? = some (.slice (some ⟨w.heap.size, 0, none⟩) 0 3) ∧ (bsC (.slice (some ⟨w.heap.size, 0, none⟩) 0 3)).toList.all (·.oneCell') = true) := ⟨bsC_size _, bsC_at _, bsC_last _, bsC_one _ rfl⟩
      generalize bsC (.slice (some ⟨w.heap.size, 0, none⟩) 0 3) = C0 at *
      have HZ0 : Hid ((bsC (.slice none 0 0)).size = 257) := bsC_size _
      have HzB := Lib.hid hzB2
      generalize bsC (.slice none 0 0) = Z0 at *
      have HB1 := Lib.hid hB1
      have HO1 := Lib.hid ho0
      have HSZ : Hid ((Tryz.prog.info? 201).map (·.size) = some 257) := by show _ = _; rw [hiB]; simp [hsB]
      clear hB1 ho0 hzB2 HO0
      go_wp2_with (first
        | (refine wpList_allocC rfl 201 rfl iB hiB zB hzB Z0 HzB.out ?_; intro w2 hB2 hb2 hz2; have HK2 := Lib.hid hB2; have HB2 := Lib.hid hb2; have HZ2 := Lib.hid hz2; clear hB2 hb2 hz2)
        | (refine wpList_storeB rfl 201 (.tmp 11) (.tmp 95) rfl rfl (w.heap.size + 1) C0 (by simp [Act.eval, Act.put]) (by simp [Act.eval, Act.put]; exact HBS.out) (by have h := HK2.out; rw [HZ.out] at h; exact h) (by rw [HSZ.out, HCS.out.1]) (by rw [HZ0.out, HCS.out.1]) HCS.out.2.2.2 ?_; intro w3 hB3 hg3 hz3; have HK3 := Lib.hid hB3; have HG3 := Lib.hid hg3; have HZ3 := Lib.hid hz3; clear hB3 hg3 hz3))
      have HK4 : Hid (RepSt w w3 (w.heap.size + 1) (rep3.take 0)) := by
        have hb12 : Below w.heap.size w w2 := HB1.out.trans (HB2.out.mono (by rw [HZ.out]; omega))
        refine ⟨C0, some ⟨w.heap.size, 0, none⟩, 3, HK3.out, HCS.out.1, HCS.out.2.2.1, ?_, fun i hi => ⟨_, HCS.out.2.1 i hi, rfl⟩, hb12.grown HG3.out (by have := HZ2.out; rw [HZ.out] at this; omega) (fun g h => by injection h with h; omega)⟩
        have := own_below HO1.out HB2.out
        exact this.kept HG3.out (.inr (by simp [Value.ownBlock]))
      have hz3 : w.heap.size + 1 < w3.heap.size := by have h1 := HZ2.out; have h2 := HZ3.out; rw [HZ.out] at h1; omega
      clear HBS HCS HZ0 HzB HB1 HO1 HSZ HB2 HZ2 HK3 HG3 HZ3 HK2 hiB hzB hsB hmk HZ
      clear hr
      have H0 := Lib.hid h0
      have H1 := Lib.hid h1
      have H2 := Lib.hid h2
      have H3 := Lib.hid h3
      have H4 := Lib.hid h4
      have H5 := Lib.hid h5
      clear h0 h1 h2 h3 h4 h5
      go_loopw [12] (fun vi wr => ∃ k : Nat, k ≤ 3 ∧ vi = .int .i64 (4 - 2 * (k : Int)) ∧ Hid (RepSt w wr (w.heap.size + 1) (rep3.take k))) (fun vi _ => (intOf vi + 4).toNat)
      case atStart => exact ⟨0, by omega, rfl, HK4.out⟩
      case round =>
        obtain ⟨k, hk, rfl, HS⟩ := hrel
        rcases (show k = 0 ∨ k = 1 ∨ k = 2 ∨ k = 3 by omega) with rfl | rfl | rfl | rfl
        · obtain ⟨C, A, c1, hB, hS, hl, hown, hC, hb⟩ := HS.out
          have e0 : wr.cell? ⟨gs, 4, none⟩ = some (.string ⟨#[13]⟩) := (hb.cell (p := ⟨gs, 4, none⟩) hgs).trans H4.out
          have e1 : wr.cell? ⟨gs, 5, none⟩ = some (.string ⟨#[92, 114]⟩) := (hb.cell (p := ⟨gs, 5, none⟩) hgs).trans H5.out
          have e2 : wr.cell? ⟨w.heap.size + 1, 13, none⟩ = some (.slice none 0 0) := by
            obtain ⟨v, g1, g2⟩ := hC 13 (by omega)
            rw [hB.cell, g1]; exact congrArg some g2
          have e3 : wr.cell? ⟨w.heap.size + 1, 256, none⟩ = some (.slice A 0 c1) := (hB.cell 256).trans hl
          have qn : ∀ (W : World) (a : Option Addr) (n c n' c' : Nat), (binOp .eql 31 (.slice a n c) (.slice none n' c')).run Tryz.prog W = .ok (.bool a.isNone) W := fun W a n c n' c' => Lib.run_eql_slice_nil W _ _ a n c n' c' Tryz.underlying31
          obtain ⟨sO, hs0⟩ : ∃ sO : ByteArray, sO = ⟨#[13]⟩ := ⟨_, rfl⟩
          have hx : ∀ h, (sO[0]'h).toNat = 13 := by subst hs0; exact fun _ => rfl
          have hy : sO.size = 1 := by subst hs0; rfl
          rw [← hs0] at e0
          clear hs0
          have hcv : (convert 31 9 (.slice (some ⟨wr.heap.size, 0, none⟩) 1 1)).run Tryz.prog (wr.alloc (.cells #[.int .u8 13] 5)) = .ok (.string ⟨#[13]⟩) (wr.alloc (.cells #[.int .u8 13] 5)) := conv_b1 wr 13
          have HL : Hid (C[256]? = some (.slice A 0 c1)) := hl
          have HE2 : Hid (C[13]? = some (.slice none 0 0)) := by rw [← hB.cell]; exact e2
          have HK := Lib.hid hB
          have HSZ := Lib.hid hS
          have HOW := Lib.hid hown
          have HCC := Lib.hid hC
          have HBE := Lib.hid hb
          have HOA : Hid (((wr.alloc (.cells #[.int .u8 13] 5)).alloc (.cells #[.string ⟨#[13]⟩] 9)).ownsRow w.heap.size 9 1 (.slice A 0 c1) 0 ((rep3.take 0).map fun p => bstr [p.1])) := (hown.alloc _).alloc _
          have HRA : Hid (Reads ((wr.alloc (.cells #[.int .u8 13] 5)).alloc (.cells #[.string ⟨#[13]⟩] 9)) (wr.heap.size + 1 + 1) 1 (some ⟨wr.heap.size + 1, 0, none⟩) 1 [.string ⟨#[13]⟩]) := by have h := reads_lits (wr.alloc (.cells #[.int .u8 13] 5)) ⟨#[13]⟩; simp only [World.size_alloc] at h; exact h
          have HB1 : Hid (Blk ((wr.alloc (.cells #[.int .u8 13] 5)).alloc (.cells #[.string ⟨#[13]⟩] 9)) (w.heap.size + 1) 201 C) := (hB.alloc _).alloc _
          have HBE1 : Hid (Below w.heap.size w ((wr.alloc (.cells #[.int .u8 13] 5)).alloc (.cells #[.string ⟨#[13]⟩] 9))) := (hb.alloc hb.size _).alloc (by simp; have := hb.size; omega) _
          have HC1 : Hid (∀ i : Nat, i < 256 → ∃ v, C[i]? = some v ∧ Slt ((wr.alloc (.cells #[.int .u8 13] 5)).alloc (.cells #[.string ⟨#[13]⟩] 9)) v (look (rep3.take 0) i)) := fun i hi => by
            obtain ⟨v, g1, g2⟩ := hC i hi
            exact ⟨v, g1, g2.step (fun b l h => (h.below ((Below.refl _ _).alloc (Nat.le_refl _) _)).below ((Below.refl _ _).alloc (Nat.le_refl _) _))⟩
          clear hB hS hl hown hC hb HS
          go_wp2_with (first
            | (refine wpList_buildSliceTo rfl 31 5 1 _ rfl wr.heap.size rfl (some 121) rfl Tryz.underlying31 #[.int .u8 13] (by exact built1 _) ?_)
            | (refine wpList_buildSliceTo rfl 148 9 1 _ rfl (wr.alloc (.cells #[.int .u8 13] 5)).heap.size rfl (some 123) rfl Tryz.underlying148 #[.string ⟨#[13]⟩] (by exact built_s1 _) ?_)
            | (at_builtin; refine wpList_append_any _ rfl (.tmp 119) (.tmp 123) 148 rfl w.heap.size 9 i0 _ 1 16 Tryz.underlying148 hi0 hz0 hz1 hz2 rfl (by omega) (.slice A 0 c1) 0 ((rep3.take 0).map fun p => bstr [p.1]) rfl HOA.out _ (some ⟨wr.heap.size + 1, 0, none⟩) 1 1 [.string ⟨#[13]⟩] rfl HRA.out (by simp [Value.oneCell']) (by simp only [maxLen]; omega) (by omega) HBE1.out.size ?_; intro v2 w2 hown2 hg2 _; have hB2 := HB1.out.grown hg2 (fun e => own_blk_ne HOA.out HB1.out (by decide) e.symm); obtain ⟨A2, c2, rfl⟩ := own_slice hown2; have f1 := (hB2.cell 256).trans HL.out; have f2 := hB2.frozen 256; have HOW2 := Lib.hid hown2; have HG2 := Lib.hid hg2; have HB2 := Lib.hid hB2; clear hown2 hg2 hB2)
            | (refine wpList_convNew rfl _ rfl ⟨#[92, 114]⟩ rfl ?_; intro w4 c4 hk4 hb4 hz4; have hB3 := HB2.out.set_ 256 (.slice A2 (0 + 1) c2); have hB4 := hB3.below hb4 hB3.lt; have f3 : w4.cell? ⟨w.heap.size + 1, 13, none⟩ = some (.slice none 0 0) := (by rw [hB4.cell, Array.getElem?_setIfInBounds_ne (by decide)]; exact HE2.out); have f4 := hB4.frozen 13; have HK4 := Lib.hid hk4; have HB4 := Lib.hid hb4; clear hk4 hb4 hz4 hB3 hB4))
          have HGW : Hid (w.heap.size ≤ w.heap.size + 1) := Nat.le_succ _
          have HN := Lib.hid (RepSt.add (W := w) (k := 0) (o := 13) (n := [92, 114]) (c4 := c4) (rep3.take 0) rfl (by omega) rfl HSZ.out HC1.out HB1.out HOA.out HOW2.out HG2.out HBE1.out HGW.out HB4.out HK4.out)
          have HN2 : Hid (RepSt w (w4.setCell ⟨w.heap.size + 1, 13, none⟩ (.slice (some ⟨w2.heap.size, 0, none⟩) 2 c4)) (w.heap.size + 1) (rep3.take (0 + 1))) := by
            have h := HN.out
            have hs : (w2.setCell ⟨w.heap.size + 1, 256, none⟩ (.slice A2 (0 + 1) c2)).heap.size = w2.heap.size := by simp
            rw [hs] at h
            exact h
          go_roundw
          case rel => exact ⟨0 + 1, by omega, by simp, HN2.out⟩
          case measure => simp [intOf]
        · obtain ⟨C, A, c1, hB, hS, hl, hown, hC, hb⟩ := HS.out
          have e0 : wr.cell? ⟨gs, 2, none⟩ = some (.string ⟨#[10]⟩) := (hb.cell (p := ⟨gs, 2, none⟩) hgs).trans H2.out
          have e1 : wr.cell? ⟨gs, 3, none⟩ = some (.string ⟨#[92, 110]⟩) := (hb.cell (p := ⟨gs, 3, none⟩) hgs).trans H3.out
          have e2 : wr.cell? ⟨w.heap.size + 1, 10, none⟩ = some (.slice none 0 0) := by
            obtain ⟨v, g1, g2⟩ := hC 10 (by omega)
            rw [hB.cell, g1]; exact congrArg some g2
          have e3 : wr.cell? ⟨w.heap.size + 1, 256, none⟩ = some (.slice A 1 c1) := (hB.cell 256).trans hl
          have qn : ∀ (W : World) (a : Option Addr) (n c n' c' : Nat), (binOp .eql 31 (.slice a n c) (.slice none n' c')).run Tryz.prog W = .ok (.bool a.isNone) W := fun W a n c n' c' => Lib.run_eql_slice_nil W _ _ a n c n' c' Tryz.underlying31
          obtain ⟨sO, hs0⟩ : ∃ sO : ByteArray, sO = ⟨#[10]⟩ := ⟨_, rfl⟩
          have hx : ∀ h, (sO[0]'h).toNat = 10 := by subst hs0; exact fun _ => rfl
          have hy : sO.size = 1 := by subst hs0; rfl
          rw [← hs0] at e0
          clear hs0
          have hcv : (convert 31 9 (.slice (some ⟨wr.heap.size, 0, none⟩) 1 1)).run Tryz.prog (wr.alloc (.cells #[.int .u8 10] 5)) = .ok (.string ⟨#[10]⟩) (wr.alloc (.cells #[.int .u8 10] 5)) := conv_b1 wr 10
          have HL : Hid (C[256]? = some (.slice A 1 c1)) := hl
          have HE2 : Hid (C[10]? = some (.slice none 0 0)) := by rw [← hB.cell]; exact e2
          have HK := Lib.hid hB
          have HSZ := Lib.hid hS
          have HOW := Lib.hid hown
          have HCC := Lib.hid hC
          have HBE := Lib.hid hb
          have HOA : Hid (((wr.alloc (.cells #[.int .u8 10] 5)).alloc (.cells #[.string ⟨#[10]⟩] 9)).ownsRow w.heap.size 9 1 (.slice A 1 c1) 1 ((rep3.take 1).map fun p => bstr [p.1])) := (hown.alloc _).alloc _
          have HRA : Hid (Reads ((wr.alloc (.cells #[.int .u8 10] 5)).alloc (.cells #[.string ⟨#[10]⟩] 9)) (wr.heap.size + 1 + 1) 1 (some ⟨wr.heap.size + 1, 0, none⟩) 1 [.string ⟨#[10]⟩]) := by have h := reads_lits (wr.alloc (.cells #[.int .u8 10] 5)) ⟨#[10]⟩; simp only [World.size_alloc] at h; exact h
          have HB1 : Hid (Blk ((wr.alloc (.cells #[.int .u8 10] 5)).alloc (.cells #[.string ⟨#[10]⟩] 9)) (w.heap.size + 1) 201 C) := (hB.alloc _).alloc _
          have HBE1 : Hid (Below w.heap.size w ((wr.alloc (.cells #[.int .u8 10] 5)).alloc (.cells #[.string ⟨#[10]⟩] 9))) := (hb.alloc hb.size _).alloc (by simp; have := hb.size; omega) _
          have HC1 : Hid (∀ i : Nat, i < 256 → ∃ v, C[i]? = some v ∧ Slt ((wr.alloc (.cells #[.int .u8 10] 5)).alloc (.cells #[.string ⟨#[10]⟩] 9)) v (look (rep3.take 1) i)) := fun i hi => by
            obtain ⟨v, g1, g2⟩ := hC i hi
            exact ⟨v, g1, g2.step (fun b l h => (h.below ((Below.refl _ _).alloc (Nat.le_refl _) _)).below ((Below.refl _ _).alloc (Nat.le_refl _) _))⟩
          clear hB hS hl hown hC hb HS
          go_wp2_with (first
            | (refine wpList_buildSliceTo rfl 31 5 1 _ rfl wr.heap.size rfl (some 121) rfl Tryz.underlying31 #[.int .u8 10] (by exact built1 _) ?_)
            | (refine wpList_buildSliceTo rfl 148 9 1 _ rfl (wr.alloc (.cells #[.int .u8 10] 5)).heap.size rfl (some 123) rfl Tryz.underlying148 #[.string ⟨#[10]⟩] (by exact built_s1 _) ?_)
            | (at_builtin; refine wpList_append_any _ rfl (.tmp 119) (.tmp 123) 148 rfl w.heap.size 9 i0 _ 1 16 Tryz.underlying148 hi0 hz0 hz1 hz2 rfl (by omega) (.slice A 1 c1) 1 ((rep3.take 1).map fun p => bstr [p.1]) rfl HOA.out _ (some ⟨wr.heap.size + 1, 0, none⟩) 1 1 [.string ⟨#[10]⟩] rfl HRA.out (by simp [Value.oneCell']) (by simp only [maxLen]; omega) (by omega) HBE1.out.size ?_; intro v2 w2 hown2 hg2 _; have hB2 := HB1.out.grown hg2 (fun e => own_blk_ne HOA.out HB1.out (by decide) e.symm); obtain ⟨A2, c2, rfl⟩ := own_slice hown2; have f1 := (hB2.cell 256).trans HL.out; have f2 := hB2.frozen 256; have HOW2 := Lib.hid hown2; have HG2 := Lib.hid hg2; have HB2 := Lib.hid hB2; clear hown2 hg2 hB2)
            | (refine wpList_convNew rfl _ rfl ⟨#[92, 110]⟩ rfl ?_; intro w4 c4 hk4 hb4 hz4; have hB3 := HB2.out.set_ 256 (.slice A2 (1 + 1) c2); have hB4 := hB3.below hb4 hB3.lt; have f3 : w4.cell? ⟨w.heap.size + 1, 10, none⟩ = some (.slice none 0 0) := (by rw [hB4.cell, Array.getElem?_setIfInBounds_ne (by decide)]; exact HE2.out); have f4 := hB4.frozen 10; have HK4 := Lib.hid hk4; have HB4 := Lib.hid hb4; clear hk4 hb4 hz4 hB3 hB4))
          have HGW : Hid (w.heap.size ≤ w.heap.size + 1) := Nat.le_succ _
          have HN := Lib.hid (RepSt.add (W := w) (k := 1) (o := 10) (n := [92, 110]) (c4 := c4) (rep3.take 1) rfl (by omega) rfl HSZ.out HC1.out HB1.out HOA.out HOW2.out HG2.out HBE1.out HGW.out HB4.out HK4.out)
          have HN2 : Hid (RepSt w (w4.setCell ⟨w.heap.size + 1, 10, none⟩ (.slice (some ⟨w2.heap.size, 0, none⟩) 2 c4)) (w.heap.size + 1) (rep3.take (1 + 1))) := by
            have h := HN.out
            have hs : (w2.setCell ⟨w.heap.size + 1, 256, none⟩ (.slice A2 (1 + 1) c2)).heap.size = w2.heap.size := by simp
            rw [hs] at h
            exact h
          go_roundw
          case rel => exact ⟨1 + 1, by omega, by simp, HN2.out⟩
          case measure => simp [intOf]
        · obtain ⟨C, A, c1, hB, hS, hl, hown, hC, hb⟩ := HS.out
          have e0 : wr.cell? ⟨gs, 0, none⟩ = some (.string ⟨#[92]⟩) := (hb.cell (p := ⟨gs, 0, none⟩) hgs).trans H0.out
          have e1 : wr.cell? ⟨gs, 1, none⟩ = some (.string ⟨#[92, 92]⟩) := (hb.cell (p := ⟨gs, 1, none⟩) hgs).trans H1.out
          have e2 : wr.cell? ⟨w.heap.size + 1, 92, none⟩ = some (.slice none 0 0) := by
            obtain ⟨v, g1, g2⟩ := hC 92 (by omega)
            rw [hB.cell, g1]; exact congrArg some g2
          have e3 : wr.cell? ⟨w.heap.size + 1, 256, none⟩ = some (.slice A 2 c1) := (hB.cell 256).trans hl
          have qn : ∀ (W : World) (a : Option Addr) (n c n' c' : Nat), (binOp .eql 31 (.slice a n c) (.slice none n' c')).run Tryz.prog W = .ok (.bool a.isNone) W := fun W a n c n' c' => Lib.run_eql_slice_nil W _ _ a n c n' c' Tryz.underlying31
          obtain ⟨sO, hs0⟩ : ∃ sO : ByteArray, sO = ⟨#[92]⟩ := ⟨_, rfl⟩
          have hx : ∀ h, (sO[0]'h).toNat = 92 := by subst hs0; exact fun _ => rfl
          have hy : sO.size = 1 := by subst hs0; rfl
          rw [← hs0] at e0
          clear hs0
          have hcv : (convert 31 9 (.slice (some ⟨wr.heap.size, 0, none⟩) 1 1)).run Tryz.prog (wr.alloc (.cells #[.int .u8 92] 5)) = .ok (.string ⟨#[92]⟩) (wr.alloc (.cells #[.int .u8 92] 5)) := conv_b1 wr 92
          have HL : Hid (C[256]? = some (.slice A 2 c1)) := hl
          have HE2 : Hid (C[92]? = some (.slice none 0 0)) := by rw [← hB.cell]; exact e2
          have HK := Lib.hid hB
          have HSZ := Lib.hid hS
          have HOW := Lib.hid hown
          have HCC := Lib.hid hC
          have HBE := Lib.hid hb
          have HOA : Hid (((wr.alloc (.cells #[.int .u8 92] 5)).alloc (.cells #[.string ⟨#[92]⟩] 9)).ownsRow w.heap.size 9 1 (.slice A 2 c1) 2 ((rep3.take 2).map fun p => bstr [p.1])) := (hown.alloc _).alloc _
          have HRA : Hid (Reads ((wr.alloc (.cells #[.int .u8 92] 5)).alloc (.cells #[.string ⟨#[92]⟩] 9)) (wr.heap.size + 1 + 1) 1 (some ⟨wr.heap.size + 1, 0, none⟩) 1 [.string ⟨#[92]⟩]) := by have h := reads_lits (wr.alloc (.cells #[.int .u8 92] 5)) ⟨#[92]⟩; simp only [World.size_alloc] at h; exact h
          have HB1 : Hid (Blk ((wr.alloc (.cells #[.int .u8 92] 5)).alloc (.cells #[.string ⟨#[92]⟩] 9)) (w.heap.size + 1) 201 C) := (hB.alloc _).alloc _
          have HBE1 : Hid (Below w.heap.size w ((wr.alloc (.cells #[.int .u8 92] 5)).alloc (.cells #[.string ⟨#[92]⟩] 9))) := (hb.alloc hb.size _).alloc (by simp; have := hb.size; omega) _
          have HC1 : Hid (∀ i : Nat, i < 256 → ∃ v, C[i]? = some v ∧ Slt ((wr.alloc (.cells #[.int .u8 92] 5)).alloc (.cells #[.string ⟨#[92]⟩] 9)) v (look (rep3.take 2) i)) := fun i hi => by
            obtain ⟨v, g1, g2⟩ := hC i hi
            exact ⟨v, g1, g2.step (fun b l h => (h.below ((Below.refl _ _).alloc (Nat.le_refl _) _)).below ((Below.refl _ _).alloc (Nat.le_refl _) _))⟩
          clear hB hS hl hown hC hb HS
          go_wp2_with (first
            | (refine wpList_buildSliceTo rfl 31 5 1 _ rfl wr.heap.size rfl (some 121) rfl Tryz.underlying31 #[.int .u8 92] (by exact built1 _) ?_)
            | (refine wpList_buildSliceTo rfl 148 9 1 _ rfl (wr.alloc (.cells #[.int .u8 92] 5)).heap.size rfl (some 123) rfl Tryz.underlying148 #[.string ⟨#[92]⟩] (by exact built_s1 _) ?_)
            | (at_builtin; refine wpList_append_any _ rfl (.tmp 119) (.tmp 123) 148 rfl w.heap.size 9 i0 _ 1 16 Tryz.underlying148 hi0 hz0 hz1 hz2 rfl (by omega) (.slice A 2 c1) 2 ((rep3.take 2).map fun p => bstr [p.1]) rfl HOA.out _ (some ⟨wr.heap.size + 1, 0, none⟩) 1 1 [.string ⟨#[92]⟩] rfl HRA.out (by simp [Value.oneCell']) (by simp only [maxLen]; omega) (by omega) HBE1.out.size ?_; intro v2 w2 hown2 hg2 _; have hB2 := HB1.out.grown hg2 (fun e => own_blk_ne HOA.out HB1.out (by decide) e.symm); obtain ⟨A2, c2, rfl⟩ := own_slice hown2; have f1 := (hB2.cell 256).trans HL.out; have f2 := hB2.frozen 256; have HOW2 := Lib.hid hown2; have HG2 := Lib.hid hg2; have HB2 := Lib.hid hB2; clear hown2 hg2 hB2)
            | (refine wpList_convNew rfl _ rfl ⟨#[92, 92]⟩ rfl ?_; intro w4 c4 hk4 hb4 hz4; have hB3 := HB2.out.set_ 256 (.slice A2 (2 + 1) c2); have hB4 := hB3.below hb4 hB3.lt; have f3 : w4.cell? ⟨w.heap.size + 1, 92, none⟩ = some (.slice none 0 0) := (by rw [hB4.cell, Array.getElem?_setIfInBounds_ne (by decide)]; exact HE2.out); have f4 := hB4.frozen 92; have HK4 := Lib.hid hk4; have HB4 := Lib.hid hb4; clear hk4 hb4 hz4 hB3 hB4))
          have HGW : Hid (w.heap.size ≤ w.heap.size + 1) := Nat.le_succ _
          have HN := Lib.hid (RepSt.add (W := w) (k := 2) (o := 92) (n := [92, 92]) (c4 := c4) (rep3.take 2) rfl (by omega) rfl HSZ.out HC1.out HB1.out HOA.out HOW2.out HG2.out HBE1.out HGW.out HB4.out HK4.out)
          have HN2 : Hid (RepSt w (w4.setCell ⟨w.heap.size + 1, 92, none⟩ (.slice (some ⟨w2.heap.size, 0, none⟩) 2 c4)) (w.heap.size + 1) (rep3.take (2 + 1))) := by
            have h := HN.out
            have hs : (w2.setCell ⟨w.heap.size + 1, 256, none⟩ (.slice A2 (2 + 1) c2)).heap.size = w2.heap.size := by simp
            rw [hs] at h
            exact h
          go_roundw
          case rel => exact ⟨2 + 1, by omega, by simp, HN2.out⟩
          case measure => simp [intOf]
        · go_wp2_with fail
          go_ret
          exact ⟨_, rfl, HS.out⟩
end Go.Proofs.YtmnkdkibhchglaaGreatDoor
