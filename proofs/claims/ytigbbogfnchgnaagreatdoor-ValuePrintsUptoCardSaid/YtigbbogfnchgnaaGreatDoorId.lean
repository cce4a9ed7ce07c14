/- Walk: a value's text written into a builder (value.write). Conditions: the value as it reads below base; fields as the kinds say; bulk at most 1048576; the library's tables. -/
import Derived.Test.YtigbbogfnchgnaaGreatDoorIc
import Derived.Deep.RegionHeld3
namespace Go.Proofs.YtigbbogfnchgnaaGreatDoor
open Go.RowKit
set_option linter.unusedVariables false
attribute [local go_sem ↓] Go.wp_at_zero Go.wp_at_succ

theorem Box.oth {B b g : Nat} {zs : List Int} {w w' : World} {cs : List Value} (h : Box w g cs) (k : WrI B b zs w w') (hg : g ≠ b) (hs : w.heap.size ≤ w'.heap.size) : Box w' g cs :=
  ⟨k.2.2.blk h.blk hg (by decide), Nat.lt_of_lt_of_le h.lt hs⟩
/-- What holds on the way: the builder's bytes, all below, all other blocks, a value's box. -/
structure St (B b : Nat) (w W : World) (zs : List Int) (g : Nat) (cs : List Value) : Prop where
  bi : IsBI B b zs W
  be : Below B w W
  ot : Oth b w W
  bx : Box W g cs
  hB : B ≤ W.heap.size
  sz : w.heap.size ≤ W.heap.size
section
variable {B b g : Nat} {w W W' : World} {zs zs' : List Int} {cs : List Value}
theorem WrI.size (k : WrI B b zs W W') (hB : b < W.heap.size) : W.heap.size ≤ W'.heap.size := k.2.1.size
theorem St.wr (h : St B b w W zs g cs) (k : WrI B b zs' W W') (hg : g ≠ b) : St B b w W' zs' g cs :=
  ⟨k.1, h.be.trans k.2.1, h.ot.trans k.2.2, h.bx.oth k hg k.2.1.size, Nat.le_trans h.hB k.2.1.size, Nat.le_trans h.sz k.2.1.size⟩
theorem St.step (h : St B b w W zs g cs) (hb : Below W.heap.size W W') : St B b w W' zs g cs :=
  ⟨h.bi.step hb, h.be.trans (hb.mono h.hB), h.ot.trans (.of_below hb), h.bx.step hb, Nat.le_trans h.hB hb.size, Nat.le_trans h.sz hb.size⟩
theorem St.wi (h : St B b w W zs g cs) : WrI B b zs w W := ⟨h.bi, h.be, h.ot⟩
end
theorem c_tTruthI (i : Int) (w : World) : Calls Tryz.prog 179 #[.bool (i == 1)] w (TxE w (if i = 1 then [116, 114, 117, 101] else [102, 97, 108, 115, 101])) := by
  have := c_tTruth (i == 1) w
  rw [show fbT (i == 1) = if i = 1 then [116, 114, 117, 101] else [102, 97, 108, 115, 101] by unfold fbT; simp] at this
  exact this
theorem bts_lit {l : List Int} (h : (l.all fun z => decide (0 ≤ z) && decide (z < 256)) = true) : Bts l := fun z hz => by
  have := List.all_eq_true.1 h z hz
  simpa using this
theorem bI_bts2 (l : List UInt8) : Bts (bI l) := bI_bts l
set_option maxRecDepth 100000 in
set_option maxHeartbeats 8000000 in
theorem c_write : ∀ (v : Val) (cs : List Value) (w : World) (B b : Nat) (xs : List Int), RdV w B v cs → wfV v → bnd v ≤ 1048576 → okV v → (∀ W, Below B w W → TabS W) → B ≤ w.heap.size → IsBI B b xs w → xs.length + (tld v).length ≤ 1099511627776 →
    Calls Tryz.prog 8 #[.pointer (some ⟨b, 0, none⟩), .agg cs.toArray] w fun e w' => e = .returned (.tuple #[]) ∧ WrI B b (xs ++ tld v) w w' := by
  refine Val.ind fun v ih cs w B b xs hrd hwf hbd hok htb hbase hbi hlen => ?_
  have hgd := good_of hok
  have hlf := leaf_of hok hwf hbd
  have h : RV w v cs := ⟨hrd.more' hbase, hwf, hbd⟩
  have HR := Lib.hid h.row
  have hilen : v.its.length < 1048577 := by have := (bnd_len v).1; omega
  have hnlen : v.nms.length < 1048577 := by have := (bnd_len v).2.1; omega
  have htl : v.t.size < 1048577 := by have := (bnd_len v).2.2; omega
  have hblt := hbi.lt
  have HGB : Hid (w.heap.size ≠ b) := fun e => by omega
  have HB : Hid (Below w.heap.size w (w.alloc (.cells cs.toArray 26))) := (Below.refl w.heap.size w).alloc (Nat.le_refl _) _
  have HS0 : Hid (St B b w (w.alloc (.cells cs.toArray 26)) xs w.heap.size cs) := ⟨hbi.step HB.out, HB.out.mono hbase, .of_below HB.out, Box.new w cs, Nat.le_trans hbase HB.out.size, HB.out.size⟩
  have HBB := Lib.hid hblt
  obtain ⟨A, A', c, c', hvc, hnm, hop⟩ := hrd.open_
  have HNM := Lib.hid hnm
  have HOP := Lib.hid hop
  have HIH : Hid (∀ (i : Nat) (hi : i < v.its.length) (cs : List Value) (W : World) (zs : List Int), RdV W B v.its[i] cs → (∀ V, Below B W V → TabS V) → B ≤ W.heap.size → IsBI B b zs W → zs.length + (tld v.its[i]).length ≤ 1099511627776 →
    Calls Tryz.prog 8 #[.pointer (some ⟨b, 0, none⟩), .agg cs.toArray] W fun e w' => e = .returned (.tuple #[]) ∧ WrI B b (zs ++ tld v.its[i]) W w') := fun i hi cs W zs hr hT hB hb hl =>
    ih _ (List.getElem_mem hi) cs W B b zs hr (wfV_item hwf (List.getElem_mem hi)) (by have := bnd_item (List.getElem_mem hi); omega) (okV_item hok (List.getElem_mem hi)) hT hB hb hl
  have HNS : Hid (∀ s ∈ v.nms, s.size < 1048576) := fun s hs => by have h1 := sum_mem hs; have h2 := bnd_eq v; omega
  have HTB := Lib.hid htb
  have HRV : Hid (∀ W, Below B w W → B ≤ W.heap.size → RV W v cs) := fun W hb hs => ⟨(hrd.below hb).more' hs, hwf, hbd⟩
  have HLF : Hid (∀ W, RV W v cs → Calls Tryz.prog 24 #[.agg cs.toArray] W fun e w' => e = .returned (leafV v) ∧ Below W.heap.size W w') := fun W hr => c_leafOf v cs W hr
  have K0 : Hid (cs.toArray[0]? = some (.int .i64 v.k)) := by show _ = _; rw [hvc]; rfl
  have K4 : Hid (cs.toArray[4]? = some (.slice A v.its.length c)) := by show _ = _; rw [hvc]; rfl
  have K5 : Hid (cs.toArray[5]? = some (.slice A' v.nms.length c')) := by show _ = _; rw [hvc]; rfl
  have HGN : Hid (v.k = 7 → v.nms.length = v.its.length) := hgd.nm
  have HBY : Hid (tld v = tldK v.k v.i v.f v.t v.its v.nms) := tld_eq v
  have HFR := Lib.hid hlf.fr
  have HIR := Lib.hid hlf.ir
  have HKK := hgd.k
  have HLN := Lib.hid hlen
  unfold leafV at HLF
  generalize tld v = BY at *
  clear hop ih h hvc hnm hok hgd hrd hwf hbase hlf hlen hblt hbi htb
  generalize v.its = its at *
  generalize v.nms = nms at *
  generalize v.k = k at *
  generalize v.i = iv at *
  generalize v.f = fv at *
  generalize v.t = t at *
  generalize bnd v = BD at *
  rcases HKK with hk | hk | hk | hk | hk | hk | hk | hk | hk
  · subst hk
    have HLF2 : Hid (∀ W, RV W v cs → Calls Tryz.prog 24 #[.agg cs.toArray] W fun e w' => e = .returned (.iface 76 (.agg #[])) ∧ Below W.heap.size W w') := HLF.out
    obtain ⟨L, hL⟩ : ∃ L : List Int, L = ([110, 117, 108, 108]) := ⟨_, rfl⟩
    have HBY2 : Hid (BY = L) := by show _ = _; rw [HBY.out, hL]; unfold tldK; rw [if_pos rfl]
    have HCB : Hid (∀ W, Below B w W → Calls Tryz.prog 177 #[.agg #[]] W (TxE W L)) := by
      intro W hW
      rw [hL]
      exact c_tNull W
    have HBT : Hid (Bts L) := by show Bts L; rw [hL]; exact bts_lit rfl
    have HLL : Hid (xs.length + L.length ≤ 140737488355328) := by have := HLN.out; rw [HBY2.out] at this; show _ ≤ _; omega
    clear HIH HOP HNM HGN HNS HBY HLN K0 K4 K5 hL HTB HIR HFR
    go_enter Tryz.func8, Tryz.ntmps8
    go_upto_region 1 with fail
    generalize w.alloc (.cells cs.toArray 26) = w0 at *
    go_wp2_with (refine wpList_load_row rfl 26 (.tmp 3) rfl w.heap.size rfl 26 _ (0, 0) _ HS0.out.bx.blk Tryz.underlying26 rfl HR.out ?_)
    refine (HLF2.out w0 (HRV.out w0 HS0.out.be HS0.out.hB)).mono ?_; rintro e w2 ⟨rfl, hb2⟩
    have HS2 := Lib.hid (HS0.out.step hb2)
    clear hb2 HLF HLF2 HB HS0
    go_wp2_with fail
    refine (HCB.out w2 HS2.out.be).mono ?_; rintro e w3 ⟨rfl, hb3⟩
    have HS3 := Lib.hid (HS2.out.step hb3)
    have HWC := Lib.hid (c_WSI B b xs L w3 HS3.out.bi HBT.out HLL.out HS3.out.hB)
    unfold nmT at HWC
    simp only [nmT]
    generalize strOfNums L = S at *
    clear hb3 HS2 HCB
    go_wp2_with fail
    refine HWC.out.mono ?_; rintro e w4 ⟨rfl, hk⟩
    have HS4 := Lib.hid (HS3.out.wr hk HGB.out)
    clear hk HWC
    go_wp2_with fail
    refine bodyPost_ret (results_none rfl _ _ _) rfl ?_
    exact ⟨rfl, by rw [HBY2.out]; exact HS4.out.wi⟩
  · subst hk
    have HLF2 : Hid (∀ W, RV W v cs → Calls Tryz.prog 24 #[.agg cs.toArray] W fun e w' => e = .returned (.iface 77 (.bool (iv == 1))) ∧ Below W.heap.size W w') := HLF.out
    obtain ⟨L, hL⟩ : ∃ L : List Int, L = (if iv = 1 then [116, 114, 117, 101] else [102, 97, 108, 115, 101]) := ⟨_, rfl⟩
    have HBY2 : Hid (BY = L) := by show _ = _; rw [HBY.out, hL]; unfold tldK; rw [if_neg (by decide)]; rw [if_pos rfl]
    have HCB : Hid (∀ W, Below B w W → Calls Tryz.prog 179 #[.bool (iv == 1)] W (TxE W L)) := by
      intro W hW
      rw [hL]
      exact c_tTruthI iv W
    have HBT : Hid (Bts L) := by show Bts L; rw [hL]; exact by split <;> exact bts_lit rfl
    have HLL : Hid (xs.length + L.length ≤ 140737488355328) := by have := HLN.out; rw [HBY2.out] at this; show _ ≤ _; omega
    clear HIH HOP HNM HGN HNS HBY HLN K0 K4 K5 hL HTB HIR HFR
    go_enter Tryz.func8, Tryz.ntmps8
    go_upto_region 1 with fail
    generalize w.alloc (.cells cs.toArray 26) = w0 at *
    go_wp2_with (refine wpList_load_row rfl 26 (.tmp 3) rfl w.heap.size rfl 26 _ (0, 0) _ HS0.out.bx.blk Tryz.underlying26 rfl HR.out ?_)
    refine (HLF2.out w0 (HRV.out w0 HS0.out.be HS0.out.hB)).mono ?_; rintro e w2 ⟨rfl, hb2⟩
    have HS2 := Lib.hid (HS0.out.step hb2)
    clear hb2 HLF HLF2 HB HS0
    go_wp2_with fail
    refine (HCB.out w2 HS2.out.be).mono ?_; rintro e w3 ⟨rfl, hb3⟩
    have HS3 := Lib.hid (HS2.out.step hb3)
    have HWC := Lib.hid (c_WSI B b xs L w3 HS3.out.bi HBT.out HLL.out HS3.out.hB)
    unfold nmT at HWC
    simp only [nmT]
    generalize strOfNums L = S at *
    clear hb3 HS2 HCB
    go_wp2_with fail
    refine HWC.out.mono ?_; rintro e w4 ⟨rfl, hk⟩
    have HS4 := Lib.hid (HS3.out.wr hk HGB.out)
    clear hk HWC
    go_wp2_with fail
    refine bodyPost_ret (results_none rfl _ _ _) rfl ?_
    exact ⟨rfl, by rw [HBY2.out]; exact HS4.out.wi⟩
  · subst hk
    have HLF2 : Hid (∀ W, RV W v cs → Calls Tryz.prog 24 #[.agg cs.toArray] W fun e w' => e = .returned (.iface 78 (.int .i64 iv)) ∧ Below W.heap.size W w') := HLF.out
    obtain ⟨L, hL⟩ : ∃ L : List Int, L = (bI (Lib.itoa iv)) := ⟨_, rfl⟩
    have HBY2 : Hid (BY = L) := by show _ = _; rw [HBY.out, hL]; unfold tldK; rw [if_neg (by decide)]; rw [if_neg (by decide)]; rw [if_pos rfl]
    have HCB : Hid (∀ W, Below B w W → Calls Tryz.prog 183 #[.int .i64 iv] W (TxE W L)) := by
      intro W hW
      rw [hL]
      exact c_tNumber iv HIR.out.1 HIR.out.2 W (HTB.out W hW)
    have HBT : Hid (Bts L) := by show Bts L; rw [hL]; exact bI_bts2 _
    have HLL : Hid (xs.length + L.length ≤ 140737488355328) := by have := HLN.out; rw [HBY2.out] at this; show _ ≤ _; omega
    clear HIH HOP HNM HGN HNS HBY HLN K0 K4 K5 hL HTB HIR HFR
    go_enter Tryz.func8, Tryz.ntmps8
    go_upto_region 1 with fail
    generalize w.alloc (.cells cs.toArray 26) = w0 at *
    go_wp2_with (refine wpList_load_row rfl 26 (.tmp 3) rfl w.heap.size rfl 26 _ (0, 0) _ HS0.out.bx.blk Tryz.underlying26 rfl HR.out ?_)
    refine (HLF2.out w0 (HRV.out w0 HS0.out.be HS0.out.hB)).mono ?_; rintro e w2 ⟨rfl, hb2⟩
    have HS2 := Lib.hid (HS0.out.step hb2)
    clear hb2 HLF HLF2 HB HS0
    go_wp2_with fail
    refine (HCB.out w2 HS2.out.be).mono ?_; rintro e w3 ⟨rfl, hb3⟩
    have HS3 := Lib.hid (HS2.out.step hb3)
    have HWC := Lib.hid (c_WSI B b xs L w3 HS3.out.bi HBT.out HLL.out HS3.out.hB)
    unfold nmT at HWC
    simp only [nmT]
    generalize strOfNums L = S at *
    clear hb3 HS2 HCB
    go_wp2_with fail
    refine HWC.out.mono ?_; rintro e w4 ⟨rfl, hk⟩
    have HS4 := Lib.hid (HS3.out.wr hk HGB.out)
    clear hk HWC
    go_wp2_with fail
    refine bodyPost_ret (results_none rfl _ _ _) rfl ?_
    exact ⟨rfl, by rw [HBY2.out]; exact HS4.out.wi⟩
  · subst hk
    have HLF2 : Hid (∀ W, RV W v cs → Calls Tryz.prog 24 #[.agg cs.toArray] W fun e w' => e = .returned (.iface 79 (.float .f64 fv)) ∧ Below W.heap.size W w') := HLF.out
    obtain ⟨L, hL⟩ : ∃ L : List Int, L = ([64] ++ bI (txtF fv)) := ⟨_, rfl⟩
    have HBY2 : Hid (BY = L) := by show _ = _; rw [HBY.out, hL]; unfold tldK; rw [if_neg (by decide)]; rw [if_neg (by decide)]; rw [if_neg (by decide)]; rw [if_pos rfl]
    have HCB : Hid (∀ W, Below B w W → Calls Tryz.prog 187 #[.float .f64 fv] W (TxE W L)) := by
      intro W hW
      rw [hL]
      exact c_tReal fv HFR.out W (HTB.out W hW)
    have HBT : Hid (Bts L) := by show Bts L; rw [hL]; exact (bts_lit rfl).app (bI_bts2 _)
    have HLL : Hid (xs.length + L.length ≤ 140737488355328) := by have := HLN.out; rw [HBY2.out] at this; show _ ≤ _; omega
    clear HIH HOP HNM HGN HNS HBY HLN K0 K4 K5 hL HTB HIR HFR
    go_enter Tryz.func8, Tryz.ntmps8
    go_upto_region 1 with fail
    generalize w.alloc (.cells cs.toArray 26) = w0 at *
    go_wp2_with (refine wpList_load_row rfl 26 (.tmp 3) rfl w.heap.size rfl 26 _ (0, 0) _ HS0.out.bx.blk Tryz.underlying26 rfl HR.out ?_)
    refine (HLF2.out w0 (HRV.out w0 HS0.out.be HS0.out.hB)).mono ?_; rintro e w2 ⟨rfl, hb2⟩
    have HS2 := Lib.hid (HS0.out.step hb2)
    clear hb2 HLF HLF2 HB HS0
    go_wp2_with fail
    refine (HCB.out w2 HS2.out.be).mono ?_; rintro e w3 ⟨rfl, hb3⟩
    have HS3 := Lib.hid (HS2.out.step hb3)
    have HWC := Lib.hid (c_WSI B b xs L w3 HS3.out.bi HBT.out HLL.out HS3.out.hB)
    unfold nmT at HWC
    simp only [nmT]
    generalize strOfNums L = S at *
    clear hb3 HS2 HCB
    go_wp2_with fail
    refine HWC.out.mono ?_; rintro e w4 ⟨rfl, hk⟩
    have HS4 := Lib.hid (HS3.out.wr hk HGB.out)
    clear hk HWC
    go_wp2_with fail
    refine bodyPost_ret (results_none rfl _ _ _) rfl ?_
    exact ⟨rfl, by rw [HBY2.out]; exact HS4.out.wi⟩
  · subst hk
    have HLF2 : Hid (∀ W, RV W v cs → Calls Tryz.prog 24 #[.agg cs.toArray] W fun e w' => e = .returned (.iface 80 (.string t)) ∧ Below W.heap.size W w') := HLF.out
    obtain ⟨L, hL⟩ : ∃ L : List Int, L = (quo t) := ⟨_, rfl⟩
    have HBY2 : Hid (BY = L) := by show _ = _; rw [HBY.out, hL]; unfold tldK; rw [if_neg (by decide)]; rw [if_neg (by decide)]; rw [if_neg (by decide)]; rw [if_neg (by decide)]; rw [if_pos rfl]
    have HCB : Hid (∀ W, Below B w W → Calls Tryz.prog 242 #[.string t] W (TxE W L)) := by
      intro W hW
      rw [hL]
      exact c_tWords t (by omega) W
    have HBT : Hid (Bts L) := by show Bts L; rw [hL]; exact quo_bts t
    have HLL : Hid (xs.length + L.length ≤ 140737488355328) := by have := HLN.out; rw [HBY2.out] at this; show _ ≤ _; omega
    clear HIH HOP HNM HGN HNS HBY HLN K0 K4 K5 hL HTB HIR HFR
    go_enter Tryz.func8, Tryz.ntmps8
    go_upto_region 1 with fail
    generalize w.alloc (.cells cs.toArray 26) = w0 at *
    go_wp2_with (refine wpList_load_row rfl 26 (.tmp 3) rfl w.heap.size rfl 26 _ (0, 0) _ HS0.out.bx.blk Tryz.underlying26 rfl HR.out ?_)
    refine (HLF2.out w0 (HRV.out w0 HS0.out.be HS0.out.hB)).mono ?_; rintro e w2 ⟨rfl, hb2⟩
    have HS2 := Lib.hid (HS0.out.step hb2)
    clear hb2 HLF HLF2 HB HS0
    go_wp2_with fail
    refine (HCB.out w2 HS2.out.be).mono ?_; rintro e w3 ⟨rfl, hb3⟩
    have HS3 := Lib.hid (HS2.out.step hb3)
    have HWC := Lib.hid (c_WSI B b xs L w3 HS3.out.bi HBT.out HLL.out HS3.out.hB)
    unfold nmT at HWC
    simp only [nmT]
    generalize strOfNums L = S at *
    clear hb3 HS2 HCB
    go_wp2_with fail
    refine HWC.out.mono ?_; rintro e w4 ⟨rfl, hk⟩
    have HS4 := Lib.hid (HS3.out.wr hk HGB.out)
    clear hk HWC
    go_wp2_with fail
    refine bodyPost_ret (results_none rfl _ _ _) rfl ?_
    exact ⟨rfl, by rw [HBY2.out]; exact HS4.out.wi⟩
  · subst hk
    have HLF2 : Hid (∀ W, RV W v cs → Calls Tryz.prog 24 #[.agg cs.toArray] W fun e w' => e = .returned (.iface 81 (.string t)) ∧ Below W.heap.size W w') := HLF.out
    obtain ⟨L, hL⟩ : ∃ L : List Int, L = ([35] ++ hxs (txB t)) := ⟨_, rfl⟩
    have HBY2 : Hid (BY = L) := by show _ = _; rw [HBY.out, hL]; unfold tldK; rw [if_neg (by decide)]; rw [if_neg (by decide)]; rw [if_neg (by decide)]; rw [if_neg (by decide)]; rw [if_neg (by decide)]; rw [if_pos rfl]
    have HCB : Hid (∀ W, Below B w W → Calls Tryz.prog 244 #[.string t] W (TxE W L)) := by
      intro W hW
      rw [hL]
      exact c_tRaw t (by omega) W
    have HBT : Hid (Bts L) := by show Bts L; rw [hL]; exact (bts_lit rfl).app (hxs_range (txB_bts t))
    have HLL : Hid (xs.length + L.length ≤ 140737488355328) := by have := HLN.out; rw [HBY2.out] at this; show _ ≤ _; omega
    clear HIH HOP HNM HGN HNS HBY HLN K0 K4 K5 hL HTB HIR HFR
    go_enter Tryz.func8, Tryz.ntmps8
    go_upto_region 1 with fail
    generalize w.alloc (.cells cs.toArray 26) = w0 at *
    go_wp2_with (refine wpList_load_row rfl 26 (.tmp 3) rfl w.heap.size rfl 26 _ (0, 0) _ HS0.out.bx.blk Tryz.underlying26 rfl HR.out ?_)
    refine (HLF2.out w0 (HRV.out w0 HS0.out.be HS0.out.hB)).mono ?_; rintro e w2 ⟨rfl, hb2⟩
    have HS2 := Lib.hid (HS0.out.step hb2)
    clear hb2 HLF HLF2 HB HS0
    go_wp2_with fail
    refine (HCB.out w2 HS2.out.be).mono ?_; rintro e w3 ⟨rfl, hb3⟩
    have HS3 := Lib.hid (HS2.out.step hb3)
    have HWC := Lib.hid (c_WSI B b xs L w3 HS3.out.bi HBT.out HLL.out HS3.out.hB)
    unfold nmT at HWC
    simp only [nmT]
    generalize strOfNums L = S at *
    clear hb3 HS2 HCB
    go_wp2_with fail
    refine HWC.out.mono ?_; rintro e w4 ⟨rfl, hk⟩
    have HS4 := Lib.hid (HS3.out.wr hk HGB.out)
    clear hk HWC
    go_wp2_with fail
    refine bodyPost_ret (results_none rfl _ _ _) rfl ?_
    exact ⟨rfl, by rw [HBY2.out]; exact HS4.out.wi⟩
  · subst hk
    have HLF2 : Hid (∀ W, RV W v cs → Calls Tryz.prog 24 #[.agg cs.toArray] W fun e w' => e = .returned (.iface 82 (.string t)) ∧ Below W.heap.size W w') := HLF.out
    obtain ⟨L, hL⟩ : ∃ L : List Int, L = ([126] ++ hxs (txB t)) := ⟨_, rfl⟩
    have HBY2 : Hid (BY = L) := by show _ = _; rw [HBY.out, hL]; unfold tldK; rw [if_neg (by decide)]; rw [if_neg (by decide)]; rw [if_neg (by decide)]; rw [if_neg (by decide)]; rw [if_neg (by decide)]; rw [if_neg (by decide)]; rw [if_pos rfl]
    have HCB : Hid (∀ W, Below B w W → Calls Tryz.prog 247 #[.string t] W (TxE W L)) := by
      intro W hW
      rw [hL]
      exact c_tVeil t (by omega) W
    have HBT : Hid (Bts L) := by show Bts L; rw [hL]; exact (bts_lit rfl).app (hxs_range (txB_bts t))
    have HLL : Hid (xs.length + L.length ≤ 140737488355328) := by have := HLN.out; rw [HBY2.out] at this; show _ ≤ _; omega
    clear HIH HOP HNM HGN HNS HBY HLN K0 K4 K5 hL HTB HIR HFR
    go_enter Tryz.func8, Tryz.ntmps8
    go_upto_region 1 with fail
    generalize w.alloc (.cells cs.toArray 26) = w0 at *
    go_wp2_with (refine wpList_load_row rfl 26 (.tmp 3) rfl w.heap.size rfl 26 _ (0, 0) _ HS0.out.bx.blk Tryz.underlying26 rfl HR.out ?_)
    refine (HLF2.out w0 (HRV.out w0 HS0.out.be HS0.out.hB)).mono ?_; rintro e w2 ⟨rfl, hb2⟩
    have HS2 := Lib.hid (HS0.out.step hb2)
    clear hb2 HLF HLF2 HB HS0
    go_wp2_with fail
    refine (HCB.out w2 HS2.out.be).mono ?_; rintro e w3 ⟨rfl, hb3⟩
    have HS3 := Lib.hid (HS2.out.step hb3)
    have HWC := Lib.hid (c_WSI B b xs L w3 HS3.out.bi HBT.out HLL.out HS3.out.hB)
    unfold nmT at HWC
    simp only [nmT]
    generalize strOfNums L = S at *
    clear hb3 HS2 HCB
    go_wp2_with fail
    refine HWC.out.mono ?_; rintro e w4 ⟨rfl, hk⟩
    have HS4 := Lib.hid (HS3.out.wr hk HGB.out)
    clear hk HWC
    go_wp2_with fail
    refine bodyPost_ret (results_none rfl _ _ _) rfl ?_
    exact ⟨rfl, by rw [HBY2.out]; exact HS4.out.wi⟩
  · subst hk
    have HLF2 : Hid (∀ W, RV W v cs → Calls Tryz.prog 24 #[.agg cs.toArray] W fun e w' => e = .returned .nilIface ∧ Below W.heap.size W w') := HLF.out
    have HBY2 : Hid (BY = ([91] ++ tldL false true its nms) ++ [93]) := by show _ = _; rw [HBY.out]; unfold tldK; rw [if_neg (by decide)]; rw [if_neg (by decide)]; rw [if_neg (by decide)]; rw [if_neg (by decide)]; rw [if_neg (by decide)]; rw [if_neg (by decide)]; rw [if_neg (by decide)]; rfl
    have HL0 : Hid (xs.length + BY.length ≤ 1099511627776) := HLN.out
    clear HBY HLN HIR HFR
    go_enter Tryz.func8, Tryz.ntmps8
    go_upto_region 1 with fail
    generalize w.alloc (.cells cs.toArray 26) = w0 at *
    go_wp2_with (refine wpList_load_row rfl 26 (.tmp 3) rfl w.heap.size rfl 26 _ (0, 0) _ HS0.out.bx.blk Tryz.underlying26 rfl HR.out ?_)
    refine (HLF2.out w0 (HRV.out w0 HS0.out.be HS0.out.hB)).mono ?_; rintro e w2 ⟨rfl, hb2⟩
    have HS2 := Lib.hid (HS0.out.step hb2)
    clear hb2 HLF HLF2 HB HS0
    have k0 : w2.cell? ⟨w.heap.size, 0, none⟩ = some (.int .i64 6) := (HS2.out.bx.blk.cell 0).trans K0.out
    have HW1 : Hid (Calls Tryz.prog 25 #[.pointer (some ⟨b, 0, none⟩), .string ⟨#[91]⟩] w2 fun e w' => e = .returned (.tuple #[.int .i64 1, .nilIface]) ∧ WrI B b (xs ++ [91]) w2 w') := c_WSI B b xs [91] w2 HS2.out.bi (bts_lit rfl) (by have := HL0.out; show xs.length + 1 ≤ _; omega) HS2.out.hB
    go_wp2_with fail
    refine HW1.out.mono ?_; rintro e w3 ⟨rfl, hk3⟩
    have HS3 := Lib.hid (HS2.out.wr hk3 HGB.out)
    clear hk3 k0 HW1 HS2
    have k4 : w3.cell? ⟨w.heap.size, 4, none⟩ = some (.slice A its.length c) := (HS3.out.bx.blk.cell 4).trans K4.out
    have HF0 : Hid (BY = ([91] ++ tldL false ((0 : Nat) == 0) (its.drop 0) (nms.drop 0)) ++ [93]) := HBY2.out
    go_wp2_with fail
    clear k4 HBY2
    go_loopw [26] (fun vi wr => ∃ (i : Nat) (ys : List Int), vi = .int .i64 i ∧ i ≤ its.length ∧ Hid (BY = (ys ++ tldL false (i == 0) (its.drop i) (nms.drop i)) ++ [93]) ∧ Hid (St B b w wr (xs ++ ys) w.heap.size cs)) (fun vi _ => its.length - (intOf vi).toNat)
    case atStart => exact ⟨0, [91], rfl, Nat.zero_le _, HF0, HS3⟩
    case round =>
      obtain ⟨i, ys, rfl, hi, HF, HSr⟩ := hrel
      clear HF0 HS3
      by_cases hlt : i < its.length
      · obtain ⟨bk, off, hA, hbl, hbl2, hr⟩ := HOP.out (by omega)
        subst hA
        obtain ⟨cs', hrv, hcell0⟩ := hr i hlt
        have hcell : ∀ q u, cs'[q]? = some u → wr.cell? ⟨bk, off + i * 6 + q, none⟩ = some u := fun q u hq => (HSr.out.be.cell (p := ⟨bk, off + i * 6 + q, none⟩) hbl).trans (by rw [Nat.add_assoc]; exact hcell0 q u hq)
        obtain ⟨h6, hone⟩ : cs'.length = 6 ∧ cs'.toArray.toList.all (·.oneCell') = true := by
          obtain ⟨_, _, _, _, e, _⟩ := hrv.open_
          subst e
          exact ⟨rfl, rfl⟩
        have h6a : cs'.toArray.size = 6 := by simpa using h6
        have HRVr := Lib.hid hrv
        have HCL := Lib.hid hcell
        have HB8 := Lib.hid (Blk.new wr 26 vz)
        have HBA : Hid (Below wr.heap.size wr (wr.alloc (.cells vz 26))) := (Below.refl _ _).alloc (Nat.le_refl _) _
        have HST := Lib.hid (tldL_step (m := false) (n := nms) hlt)
        have HCALL := Lib.hid (HIH.out i hlt)
        have HGY : Hid (wr.heap.size ≠ b) := fun e => by have := HSr.out.sz; have := HBB.out; omega
        clear hr hrv hcell hcell0 HIH
        obtain ⟨BI, hbI⟩ : ∃ BI, tld its[i] = BI := ⟨_, rfl⟩
        rw [hbI] at HCALL HST
        clear hbI
        go_upto_region 11 with (first
          | (refine wpList_load_at rfl 26 (.tmp 29) rfl bk (off + i * 6) rfl cs' _ HCL.out Tryz.underlying26 rfl (by rw [h6]; exact v_info) ?_)
          | (refine wpList_storeB rfl 26 (.tmp 8) (.tmp 30) rfl rfl wr.heap.size cs'.toArray rfl rfl HB8.out (by rw [h6a]; exact v_info) (by rw [h6a]; rfl) hone ?_; intro w4 hB4 hg4 hz4))
        have hb4 : Below wr.heap.size wr w4 := HBA.out.grown hg4 (by simp) (fun _ h => by injection h with h; omega)
        have HS4 := Lib.hid (HSr.out.step hb4)
        have HY4 : Hid (Box w4 wr.heap.size cs') := ⟨hB4, hB4.lt⟩
        clear hg4 hz4 hb4 hB4 HBA HB8 HCL
        by_cases hi00 : i = 0
        · have hib : (i == 0) = true := by simp [hi00]
          have hip : ¬ (0 : Int) < (i : Int) := by omega
          have HF7 : Hid (BY = ((ys ++ BI) ++ tldL false (i + 1 == 0) (its.drop (i + 1)) (nms.drop (i + 1))) ++ [93]) := by
            show _ = _
            rw [HF.out, HST.out]
            simp [hib, List.append_assoc]
          have HLL : Hid (xs.length + (ys.length + BI.length) ≤ 1099511627776) := by
            have h1 := congrArg List.length HF7.out
            rw [List.length_append, List.length_append, List.length_append] at h1
            have := HL0.out
            show _ ≤ _
            omega
          clear hib hi00 HST HF
          have k0 : w4.cell? ⟨w.heap.size, 0, none⟩ = some (.int .i64 6) := (HS4.out.bx.blk.cell 0).trans K0.out
          have HCI := Lib.hid (HCALL.out cs' w4 (xs ++ ys) (RdV.below HRVr.out HS4.out.be) (fun V hV => HTB.out V (HS4.out.be.trans hV)) HS4.out.hB HS4.out.bi (by
            have := HLL.out
            simp only [List.length_append] at this ⊢
            omega))
          go_wp2_with (refine wpList_load_row rfl 26 (.tmp 8) rfl wr.heap.size rfl 26 _ (0, 0) _ HY4.out.blk Tryz.underlying26 rfl (by rw [h6a]; exact v_info) ?_)
          refine HCI.out.mono ?_; rintro e w8 ⟨rfl, hk8⟩
          have HS8 := Lib.hid (HS4.out.wr hk8 HGB.out)
          have HS8' : Hid (St B b w w8 (xs ++ (ys ++ BI)) w.heap.size cs) := by
            have h := HS8.out
            rw [show ((xs ++ ys) ++ BI) = xs ++ (ys ++ BI) from by simp only [List.append_assoc]] at h
            exact h
          clear hk8 HCI HS8 HS4 HY4 k0
          go_wp2_with fail
          go_roundw
          case rel => exact ⟨i + 1, _, by go_num, hlt, HF7, HS8'⟩
          case measure => simp [intOf]; omega
        · have hib : (i == 0) = false := by simpa using hi00
          have hip : (0 : Int) < (i : Int) := by omega
          have HF7 : Hid (BY = (((ys ++ [44, 32]) ++ BI) ++ tldL false (i + 1 == 0) (its.drop (i + 1)) (nms.drop (i + 1))) ++ [93]) := by
            show _ = _
            rw [HF.out, HST.out]
            simp [hib, List.append_assoc]
          have HLL : Hid (xs.length + ((ys ++ [44, 32]).length + BI.length) ≤ 1099511627776) := by
            have h1 := congrArg List.length HF7.out
            rw [List.length_append, List.length_append, List.length_append] at h1
            have := HL0.out
            show _ ≤ _
            omega
          clear hib hi00 HST HF
          have HWa : Hid (Calls Tryz.prog 25 #[.pointer (some ⟨b, 0, none⟩), .string ⟨#[44, 32]⟩] w4 fun e w' => e = .returned (.tuple #[.int .i64 2, .nilIface]) ∧ WrI B b ((xs ++ ys) ++ [44, 32]) w4 w') := c_WSI B b (xs ++ ys) [44, 32] w4 HS4.out.bi (bts_lit rfl) (by
            have := HLL.out
            simp only [List.length_append, List.length_cons, List.length_nil] at this ⊢
            omega) HS4.out.hB
          go_wp2_with fail
          refine HWa.out.mono ?_; rintro e w5 ⟨rfl, hk5⟩
          have HS5 := Lib.hid (HS4.out.wr hk5 HGB.out)
          have HY5 := Lib.hid (HY4.out.oth hk5 HGY.out hk5.2.1.size)
          clear hk5 HWa HS4 HY4
          have k0 : w5.cell? ⟨w.heap.size, 0, none⟩ = some (.int .i64 6) := (HS5.out.bx.blk.cell 0).trans K0.out
          have HCI := Lib.hid (HCALL.out cs' w5 ((xs ++ ys) ++ [44, 32]) (RdV.below HRVr.out HS5.out.be) (fun V hV => HTB.out V (HS5.out.be.trans hV)) HS5.out.hB HS5.out.bi (by
            have := HLL.out
            simp only [List.length_append] at this ⊢
            omega))
          go_wp2_with (refine wpList_load_row rfl 26 (.tmp 8) rfl wr.heap.size rfl 26 _ (0, 0) _ HY5.out.blk Tryz.underlying26 rfl (by rw [h6a]; exact v_info) ?_)
          refine HCI.out.mono ?_; rintro e w8 ⟨rfl, hk8⟩
          have HS8 := Lib.hid (HS5.out.wr hk8 HGB.out)
          have HS8' : Hid (St B b w w8 (xs ++ ((ys ++ [44, 32]) ++ BI)) w.heap.size cs) := by
            have h := HS8.out
            rw [show (((xs ++ ys) ++ [44, 32]) ++ BI) = xs ++ ((ys ++ [44, 32]) ++ BI) from by simp only [List.append_assoc]] at h
            exact h
          clear hk8 HCI HS8 HS5 HY5 k0
          go_wp2_with fail
          go_roundw
          case rel => exact ⟨i + 1, _, by go_num, hlt, HF7, HS8'⟩
          case measure => simp [intOf]; omega
      · have HE2 : Hid (BY = ys ++ [93]) := by
          have := HF.out
          rw [List.drop_eq_nil_of_le (show its.length ≤ i by omega), tldL, List.append_nil] at this
          exact this
        have HW9 : Hid (Calls Tryz.prog 25 #[.pointer (some ⟨b, 0, none⟩), .string ⟨#[93]⟩] wr fun e w' => e = .returned (.tuple #[.int .i64 1, .nilIface]) ∧ WrI B b ((xs ++ ys) ++ [93]) wr w') := c_WSI B b (xs ++ ys) [93] wr HSr.out.bi (bts_lit rfl) (by
          have h1 := congrArg List.length HE2.out
          rw [List.length_append] at h1
          have := HL0.out
          rw [List.length_append]
          show _ + 1 ≤ _
          omega) HSr.out.hB
        go_wp2_with fail
        refine HW9.out.mono ?_; rintro e w9 ⟨rfl, hk9⟩
        have HS9 := Lib.hid (HSr.out.wr hk9 HGB.out)
        clear hk9 HW9
        go_wp2_with fail
        go_end0
        exact ⟨rfl, by rw [HE2.out, ← List.append_assoc]; exact HS9.out.wi⟩
  · subst hk
    have HLF2 : Hid (∀ W, RV W v cs → Calls Tryz.prog 24 #[.agg cs.toArray] W fun e w' => e = .returned .nilIface ∧ Below W.heap.size W w') := HLF.out
    have HBY2 : Hid (BY = ([123] ++ tldL true true its nms) ++ [125]) := by show _ = _; rw [HBY.out]; unfold tldK; rw [if_neg (by decide)]; rw [if_neg (by decide)]; rw [if_neg (by decide)]; rw [if_neg (by decide)]; rw [if_neg (by decide)]; rw [if_neg (by decide)]; rw [if_neg (by decide)]; rfl
    have HL0 : Hid (xs.length + BY.length ≤ 1099511627776) := HLN.out
    clear HBY HLN HIR HFR
    go_enter Tryz.func8, Tryz.ntmps8
    go_upto_region 1 with fail
    generalize w.alloc (.cells cs.toArray 26) = w0 at *
    go_wp2_with (refine wpList_load_row rfl 26 (.tmp 3) rfl w.heap.size rfl 26 _ (0, 0) _ HS0.out.bx.blk Tryz.underlying26 rfl HR.out ?_)
    refine (HLF2.out w0 (HRV.out w0 HS0.out.be HS0.out.hB)).mono ?_; rintro e w2 ⟨rfl, hb2⟩
    have HS2 := Lib.hid (HS0.out.step hb2)
    clear hb2 HLF HLF2 HB HS0
    have k0 : w2.cell? ⟨w.heap.size, 0, none⟩ = some (.int .i64 7) := (HS2.out.bx.blk.cell 0).trans K0.out
    have HW1 : Hid (Calls Tryz.prog 25 #[.pointer (some ⟨b, 0, none⟩), .string ⟨#[123]⟩] w2 fun e w' => e = .returned (.tuple #[.int .i64 1, .nilIface]) ∧ WrI B b (xs ++ [123]) w2 w') := c_WSI B b xs [123] w2 HS2.out.bi (bts_lit rfl) (by have := HL0.out; show xs.length + 1 ≤ _; omega) HS2.out.hB
    go_wp2_with fail
    refine HW1.out.mono ?_; rintro e w3 ⟨rfl, hk3⟩
    have HS3 := Lib.hid (HS2.out.wr hk3 HGB.out)
    clear hk3 k0 HW1 HS2
    have k4 : w3.cell? ⟨w.heap.size, 4, none⟩ = some (.slice A its.length c) := (HS3.out.bx.blk.cell 4).trans K4.out
    have HF0 : Hid (BY = ([123] ++ tldL true ((0 : Nat) == 0) (its.drop 0) (nms.drop 0)) ++ [125]) := HBY2.out
    go_wp2_with fail
    clear k4 HBY2
    go_loopw [26] (fun vi wr => ∃ (i : Nat) (ys : List Int), vi = .int .i64 i ∧ i ≤ its.length ∧ Hid (BY = (ys ++ tldL true (i == 0) (its.drop i) (nms.drop i)) ++ [125]) ∧ Hid (St B b w wr (xs ++ ys) w.heap.size cs)) (fun vi _ => its.length - (intOf vi).toNat)
    case atStart => exact ⟨0, [123], rfl, Nat.zero_le _, HF0, HS3⟩
    case round =>
      obtain ⟨i, ys, rfl, hi, HF, HSr⟩ := hrel
      clear HF0 HS3
      by_cases hlt : i < its.length
      · obtain ⟨bk, off, hA, hbl, hbl2, hr⟩ := HOP.out (by omega)
        subst hA
        obtain ⟨cs', hrv, hcell0⟩ := hr i hlt
        have hcell : ∀ q u, cs'[q]? = some u → wr.cell? ⟨bk, off + i * 6 + q, none⟩ = some u := fun q u hq => (HSr.out.be.cell (p := ⟨bk, off + i * 6 + q, none⟩) hbl).trans (by rw [Nat.add_assoc]; exact hcell0 q u hq)
        obtain ⟨h6, hone⟩ : cs'.length = 6 ∧ cs'.toArray.toList.all (·.oneCell') = true := by
          obtain ⟨_, _, _, _, e, _⟩ := hrv.open_
          subst e
          exact ⟨rfl, rfl⟩
        have h6a : cs'.toArray.size = 6 := by simpa using h6
        have HRVr := Lib.hid hrv
        have HCL := Lib.hid hcell
        have HB8 := Lib.hid (Blk.new wr 26 vz)
        have HBA : Hid (Below wr.heap.size wr (wr.alloc (.cells vz 26))) := (Below.refl _ _).alloc (Nat.le_refl _) _
        have HST := Lib.hid (tldL_step (m := true) (n := nms) hlt)
        have HCALL := Lib.hid (HIH.out i hlt)
        have HGY : Hid (wr.heap.size ≠ b) := fun e => by have := HSr.out.sz; have := HBB.out; omega
        clear hr hrv hcell hcell0 HIH
        obtain ⟨BI, hbI⟩ : ∃ BI, tld its[i] = BI := ⟨_, rfl⟩
        rw [hbI] at HCALL HST
        clear hbI
        have hnl : nms.length = its.length := by first | exact HGN.out rfl | exact HGN.out trivial
        obtain ⟨bn, offn, hAn, hbn1, hbn2, hcelln⟩ := HNM.out.form (by omega)
        subst hAn
        have kn0 := hcelln i (by omega)
        rw [show (strs nms).getD i undef = .string (nms.getD i ⟨#[]⟩) by simp [List.getD, List.getElem?_eq_getElem (show i < nms.length by omega)]] at kn0
        have hns : (nms.getD i ⟨#[]⟩).size < 1048576 := HNS.out _ (by rw [List.getD_eq_getElem?_getD, List.getElem?_eq_getElem (show i < nms.length by omega)]; exact List.getElem_mem _)
        have dn : (i : Int) < (nms.length : Int) := by omega
        clear hcelln
        generalize nms.getD i ⟨#[]⟩ = nmi at *
        have HKN : Hid (∀ W, Below B w W → W.cell? ⟨bn, offn + i, none⟩ = some (.string nmi)) := fun W hW => (hW.cell (p := ⟨bn, offn + i, none⟩) hbn1).trans kn0
        have HQL : Hid ((quo nmi).length ≤ 4194306) := by have := quo_len nmi; show _ ≤ _; omega
        clear kn0
        go_upto_region 11 with (first
          | (refine wpList_load_at rfl 26 (.tmp 29) rfl bk (off + i * 6) rfl cs' _ HCL.out Tryz.underlying26 rfl (by rw [h6]; exact v_info) ?_)
          | (refine wpList_storeB rfl 26 (.tmp 8) (.tmp 30) rfl rfl wr.heap.size cs'.toArray rfl rfl HB8.out (by rw [h6a]; exact v_info) (by rw [h6a]; rfl) hone ?_; intro w4 hB4 hg4 hz4))
        have hb4 : Below wr.heap.size wr w4 := HBA.out.grown hg4 (by simp) (fun _ h => by injection h with h; omega)
        have HS4 := Lib.hid (HSr.out.step hb4)
        have HY4 : Hid (Box w4 wr.heap.size cs') := ⟨hB4, hB4.lt⟩
        clear hg4 hz4 hb4 hB4 HBA HB8 HCL
        by_cases hi00 : i = 0
        · have hib : (i == 0) = true := by simp [hi00]
          have hip : ¬ (0 : Int) < (i : Int) := by omega
          have HF7 : Hid (BY = (((ys ++ (quo nmi ++ [58, 32])) ++ BI) ++ tldL true (i + 1 == 0) (its.drop (i + 1)) (nms.drop (i + 1))) ++ [125]) := by
            show _ = _
            rw [HF.out, HST.out]
            simp [hib, List.append_assoc]
          have HLL : Hid (xs.length + ((ys ++ (quo nmi ++ [58, 32])).length + BI.length) ≤ 1099511627776) := by
            have h1 := congrArg List.length HF7.out
            rw [List.length_append, List.length_append, List.length_append] at h1
            have := HL0.out
            show _ ≤ _
            omega
          clear hib hi00 HST HF
          have k0 : w4.cell? ⟨w.heap.size, 0, none⟩ = some (.int .i64 7) := (HS4.out.bx.blk.cell 0).trans K0.out
          have k5 : w4.cell? ⟨w.heap.size, 5, none⟩ = some (.slice (some ⟨bn, offn, none⟩) nms.length c') := (HS4.out.bx.blk.cell 5).trans K5.out
          have kn : w4.cell? ⟨bn, offn + i, none⟩ = some (.string nmi) := HKN.out w4 HS4.out.be
          go_wp2_with fail
          refine (c_quoted nmi (by omega) w4).mono ?_; rintro e w6 ⟨rfl, hb6⟩
          have HS6 := Lib.hid (HS4.out.step hb6)
          have HY6 := Lib.hid (HY4.out.step hb6)
          clear hb6 HS4 HY4 k0 k5 kn
          have a1 : ∀ W, (Op.stringOp .add (strOfNums (quo nmi)) ⟨#[58, 32]⟩).run Tryz.prog W = .ok (.string (strOfNums (quo nmi) ++ ⟨#[58, 32]⟩)) W := fun W => run_string_add_sum W _ _ (by rw [nm_size]; have := HQL.out; show _ + 2 ≤ _; omega)
          have HWb : Hid (Calls Tryz.prog 25 #[.pointer (some ⟨b, 0, none⟩), .string (strOfNums (quo nmi) ++ ⟨#[58, 32]⟩)] w6 fun e w' => e = .returned (.tuple #[.int .i64 (((quo nmi ++ [58, 32]).length : Nat) : Int), .nilIface]) ∧ WrI B b ((xs ++ ys) ++ (quo nmi ++ [58, 32])) w6 w') := by
            have h1 := c_WSI B b (xs ++ ys) (quo nmi ++ [58, 32]) w6 HS6.out.bi ((quo_bts nmi).app (bts_lit rfl)) (by
              have := HLL.out
              simp only [List.length_append, List.length_cons, List.length_nil] at this ⊢
              omega) HS6.out.hB
            unfold nmT at h1
            rw [← nm_app] at h1
            exact h1
          simp only [nmT]
          obtain ⟨S, hS⟩ : ∃ S, strOfNums (quo nmi) = S := ⟨_, rfl⟩
          rw [hS] at a1 HWb
          simp only [hS]
          clear hS
          go_wp2_with fail
          refine HWb.out.mono ?_; rintro e w7 ⟨rfl, hk7⟩
          have HS7 := Lib.hid (HS6.out.wr hk7 HGB.out)
          have HY7 := Lib.hid (HY6.out.oth hk7 HGY.out hk7.2.1.size)
          clear hk7 HWb HS6 HY6 a1
          have HCI := Lib.hid (HCALL.out cs' w7 ((xs ++ ys) ++ (quo nmi ++ [58, 32])) (RdV.below HRVr.out HS7.out.be) (fun V hV => HTB.out V (HS7.out.be.trans hV)) HS7.out.hB HS7.out.bi (by
            have := HLL.out
            simp only [List.length_append] at this ⊢
            omega))
          go_wp2_with (refine wpList_load_row rfl 26 (.tmp 8) rfl wr.heap.size rfl 26 _ (0, 0) _ HY7.out.blk Tryz.underlying26 rfl (by rw [h6a]; exact v_info) ?_)
          refine HCI.out.mono ?_; rintro e w8 ⟨rfl, hk8⟩
          have HS8 := Lib.hid (HS7.out.wr hk8 HGB.out)
          have HS8' : Hid (St B b w w8 (xs ++ ((ys ++ (quo nmi ++ [58, 32])) ++ BI)) w.heap.size cs) := by
            have h := HS8.out
            rw [show (((xs ++ ys) ++ (quo nmi ++ [58, 32])) ++ BI) = xs ++ ((ys ++ (quo nmi ++ [58, 32])) ++ BI) from by simp only [List.append_assoc]] at h
            exact h
          clear hk8 HCI HS8 HS7 HY7
          go_wp2_with fail
          go_roundw
          case rel => exact ⟨i + 1, _, by go_num, hlt, HF7, HS8'⟩
          case measure => simp [intOf]; omega
        · have hib : (i == 0) = false := by simpa using hi00
          have hip : (0 : Int) < (i : Int) := by omega
          have HF7 : Hid (BY = ((((ys ++ [44, 32]) ++ (quo nmi ++ [58, 32])) ++ BI) ++ tldL true (i + 1 == 0) (its.drop (i + 1)) (nms.drop (i + 1))) ++ [125]) := by
            show _ = _
            rw [HF.out, HST.out]
            simp [hib, List.append_assoc]
          have HLL : Hid (xs.length + (((ys ++ [44, 32]) ++ (quo nmi ++ [58, 32])).length + BI.length) ≤ 1099511627776) := by
            have h1 := congrArg List.length HF7.out
            rw [List.length_append, List.length_append, List.length_append] at h1
            have := HL0.out
            show _ ≤ _
            omega
          clear hib hi00 HST HF
          have HWa : Hid (Calls Tryz.prog 25 #[.pointer (some ⟨b, 0, none⟩), .string ⟨#[44, 32]⟩] w4 fun e w' => e = .returned (.tuple #[.int .i64 2, .nilIface]) ∧ WrI B b ((xs ++ ys) ++ [44, 32]) w4 w') := c_WSI B b (xs ++ ys) [44, 32] w4 HS4.out.bi (bts_lit rfl) (by
            have := HLL.out
            simp only [List.length_append, List.length_cons, List.length_nil] at this ⊢
            omega) HS4.out.hB
          go_wp2_with fail
          refine HWa.out.mono ?_; rintro e w5 ⟨rfl, hk5⟩
          have HS5 := Lib.hid (HS4.out.wr hk5 HGB.out)
          have HY5 := Lib.hid (HY4.out.oth hk5 HGY.out hk5.2.1.size)
          clear hk5 HWa HS4 HY4
          have k0 : w5.cell? ⟨w.heap.size, 0, none⟩ = some (.int .i64 7) := (HS5.out.bx.blk.cell 0).trans K0.out
          have k5 : w5.cell? ⟨w.heap.size, 5, none⟩ = some (.slice (some ⟨bn, offn, none⟩) nms.length c') := (HS5.out.bx.blk.cell 5).trans K5.out
          have kn : w5.cell? ⟨bn, offn + i, none⟩ = some (.string nmi) := HKN.out w5 HS5.out.be
          go_wp2_with fail
          refine (c_quoted nmi (by omega) w5).mono ?_; rintro e w6 ⟨rfl, hb6⟩
          have HS6 := Lib.hid (HS5.out.step hb6)
          have HY6 := Lib.hid (HY5.out.step hb6)
          clear hb6 HS5 HY5 k0 k5 kn
          have a1 : ∀ W, (Op.stringOp .add (strOfNums (quo nmi)) ⟨#[58, 32]⟩).run Tryz.prog W = .ok (.string (strOfNums (quo nmi) ++ ⟨#[58, 32]⟩)) W := fun W => run_string_add_sum W _ _ (by rw [nm_size]; have := HQL.out; show _ + 2 ≤ _; omega)
          have HWb : Hid (Calls Tryz.prog 25 #[.pointer (some ⟨b, 0, none⟩), .string (strOfNums (quo nmi) ++ ⟨#[58, 32]⟩)] w6 fun e w' => e = .returned (.tuple #[.int .i64 (((quo nmi ++ [58, 32]).length : Nat) : Int), .nilIface]) ∧ WrI B b (((xs ++ ys) ++ [44, 32]) ++ (quo nmi ++ [58, 32])) w6 w') := by
            have h1 := c_WSI B b ((xs ++ ys) ++ [44, 32]) (quo nmi ++ [58, 32]) w6 HS6.out.bi ((quo_bts nmi).app (bts_lit rfl)) (by
              have := HLL.out
              simp only [List.length_append, List.length_cons, List.length_nil] at this ⊢
              omega) HS6.out.hB
            unfold nmT at h1
            rw [← nm_app] at h1
            exact h1
          simp only [nmT]
          obtain ⟨S, hS⟩ : ∃ S, strOfNums (quo nmi) = S := ⟨_, rfl⟩
          rw [hS] at a1 HWb
          simp only [hS]
          clear hS
          go_wp2_with fail
          refine HWb.out.mono ?_; rintro e w7 ⟨rfl, hk7⟩
          have HS7 := Lib.hid (HS6.out.wr hk7 HGB.out)
          have HY7 := Lib.hid (HY6.out.oth hk7 HGY.out hk7.2.1.size)
          clear hk7 HWb HS6 HY6 a1
          have HCI := Lib.hid (HCALL.out cs' w7 (((xs ++ ys) ++ [44, 32]) ++ (quo nmi ++ [58, 32])) (RdV.below HRVr.out HS7.out.be) (fun V hV => HTB.out V (HS7.out.be.trans hV)) HS7.out.hB HS7.out.bi (by
            have := HLL.out
            simp only [List.length_append] at this ⊢
            omega))
          go_wp2_with (refine wpList_load_row rfl 26 (.tmp 8) rfl wr.heap.size rfl 26 _ (0, 0) _ HY7.out.blk Tryz.underlying26 rfl (by rw [h6a]; exact v_info) ?_)
          refine HCI.out.mono ?_; rintro e w8 ⟨rfl, hk8⟩
          have HS8 := Lib.hid (HS7.out.wr hk8 HGB.out)
          have HS8' : Hid (St B b w w8 (xs ++ (((ys ++ [44, 32]) ++ (quo nmi ++ [58, 32])) ++ BI)) w.heap.size cs) := by
            have h := HS8.out
            rw [show ((((xs ++ ys) ++ [44, 32]) ++ (quo nmi ++ [58, 32])) ++ BI) = xs ++ (((ys ++ [44, 32]) ++ (quo nmi ++ [58, 32])) ++ BI) from by simp only [List.append_assoc]] at h
            exact h
          clear hk8 HCI HS8 HS7 HY7
          go_wp2_with fail
          go_roundw
          case rel => exact ⟨i + 1, _, by go_num, hlt, HF7, HS8'⟩
          case measure => simp [intOf]; omega
      · have HE2 : Hid (BY = ys ++ [125]) := by
          have := HF.out
          rw [List.drop_eq_nil_of_le (show its.length ≤ i by omega), tldL, List.append_nil] at this
          exact this
        have HW9 : Hid (Calls Tryz.prog 25 #[.pointer (some ⟨b, 0, none⟩), .string ⟨#[125]⟩] wr fun e w' => e = .returned (.tuple #[.int .i64 1, .nilIface]) ∧ WrI B b ((xs ++ ys) ++ [125]) wr w') := c_WSI B b (xs ++ ys) [125] wr HSr.out.bi (bts_lit rfl) (by
          have h1 := congrArg List.length HE2.out
          rw [List.length_append] at h1
          have := HL0.out
          rw [List.length_append]
          show _ + 1 ≤ _
          omega) HSr.out.hB
        go_wp2_with fail
        refine HW9.out.mono ?_; rintro e w9 ⟨rfl, hk9⟩
        have HS9 := Lib.hid (HSr.out.wr hk9 HGB.out)
        clear hk9 HW9
        go_wp2_with fail
        go_end0
        exact ⟨rfl, by rw [HE2.out, ← List.append_assoc]; exact HS9.out.wi⟩
end Go.Proofs.YtigbbogfnchgnaaGreatDoor
