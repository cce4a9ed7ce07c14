/- Walks: a value's bytes behind others (value.lay). Conditions: the value as it reads below base; fields as the kinds say; bulk at most 1048576. -/
import Derived.Test.YtacnoedhpamdmaaGreatDoorOd
import Derived.Deep.RegionHeld3
namespace Go.Proofs.YtacnoedhpamdmaaGreatDoor
open Go.RowKit
set_option linter.unusedVariables false
attribute [local go_sem ↓] Go.wp_at_zero Go.wp_at_succ

def AddsE (w : World) (base : Nat) (xs news : List Int) (e : Ending) (w' : World) : Prop := ∃ v', e = .returned v' ∧ Adds w w' base v' xs news
set_option maxRecDepth 100000 in
set_option maxHeartbeats 4000000 in
theorem c_lay : ∀ (v : Val) (cs : List Value) (w : World) (base : Nat) (A0 : Option Addr) (n0 c0 : Nat) (xs : List Int), RdV w base v cs → wfV v → bnd v ≤ 1048576 → okV v → base ≤ w.heap.size → w.ownsRow base 5 1 (.slice A0 n0 c0) n0 (u8s xs) → n0 + wt v ≤ 1099511627776 →
    Calls Tryz.prog 59 #[.slice A0 n0 c0, .agg cs.toArray] w (AddsE w base xs (byt v)) := by
  refine Val.ind fun v ih cs w base A0 n0 c0 xs hrd hwf hbd hok hbase hown hlen => ?_
  have hgd := good_of hok
  have h : RV w v cs := ⟨hrd.more' hbase, hwf, hbd⟩
  have HR := Lib.hid h.row
  obtain ⟨i0, hi0, hz0, hz1, hz2⟩ := info_parts u8_info8
  have hilen : v.its.length < 1048577 := by have := (bnd_len v).1; omega
  have hnlen : v.nms.length < 1048577 := by have := (bnd_len v).2.1; omega
  have htl : v.t.size < 1048577 := by have := (bnd_len v).2.2; omega
  have HB : Hid (Below w.heap.size w (w.alloc (.cells cs.toArray 30))) := (Below.refl w.heap.size w).alloc (Nat.le_refl _) _
  have HX0 := Lib.hid (Box.new w cs)
  have HO0 := Lib.hid (own_below hown HB.out)
  have HLO := Lib.hid hbase
  obtain ⟨A, A', c, c', hvc, hnm, hop⟩ := hrd.open_
  have HNM := Lib.hid hnm
  have HOP := Lib.hid hop
  have HIH : Hid (∀ (i : Nat) (hi : i < v.its.length) (cs : List Value) (w : World) (A0 : Option Addr) (n0 c0 : Nat) (xs : List Int), RdV w base v.its[i] cs → base ≤ w.heap.size → w.ownsRow base 5 1 (.slice A0 n0 c0) n0 (u8s xs) → n0 + wt v.its[i] ≤ 1099511627776 →
    Calls Tryz.prog 59 #[.slice A0 n0 c0, .agg cs.toArray] w (AddsE w base xs (byt v.its[i]))) := fun i hi cs w A0 n0 c0 xs hr hb ho hl =>
    ih _ (List.getElem_mem hi) cs w base A0 n0 c0 xs hr (wfV_item hwf (List.getElem_mem hi)) (by have := bnd_item (List.getElem_mem hi); omega) (okV_item hok (List.getElem_mem hi)) hb ho hl
  have HNS : Hid (∀ s ∈ v.nms, s.size < 1048576) := fun s hs => by have h1 := sum_mem hs; have h2 := bnd_eq v; omega
  have HRD : Hid (∀ W, Below base w W → RdV W base v cs) := fun W hb => hrd.below hb
  have HRV : Hid (∀ W, Below base w W → RV W v cs) := fun W hb => ⟨(hrd.below hb).more' (Nat.le_trans hbase hb.size), hwf, hbd⟩
  have HLF : Hid (∀ W, RV W v cs → Calls Tryz.prog 76 #[.agg cs.toArray] W fun e w' => e = .returned (leafV v) ∧ Below W.heap.size W w') := fun W hr => c_leafOf v cs W hr
  have K0 : Hid (cs.toArray[0]? = some (.int .i64 v.k)) := by show _ = _; rw [hvc]; rfl
  have K4 : Hid (cs.toArray[4]? = some (.slice A v.its.length c)) := by show _ = _; rw [hvc]; rfl
  have K5 : Hid (cs.toArray[5]? = some (.slice A' v.nms.length c')) := by show _ = _; rw [hvc]; rfl
  have HGN : Hid (v.k = 7 → v.nms.length = v.its.length) := hgd.nm
  have HBY : Hid (byt v = v.k :: (leafB v.k v.i v.f v.t v.its.length ++ bytL (v.k == 7) v.its v.nms)) := byt_eq v
  have HLN : Hid ((byt v).length = wt v) := byt_len v
  have HLE : Hid (v.k ≠ 6 → v.k ≠ 7 → v.its = []) := fun h6 h7 => List.eq_nil_of_length_eq_zero (hgd.leaf h6 h7)
  have HFL : v.f < 18446744073709551616 := wfV_f hwf
  have HII := Lib.hid (wfV_own hwf)
  have HKK := hgd.k
  unfold leafV at HLF
  generalize byt v = BY at *
  clear hop ih h hvc hnm hok hgd hrd hwf hown hbase
  generalize wt v = W at *
  generalize v.its = its at *
  generalize v.nms = nms at *
  generalize v.k = k at *
  generalize v.i = iv at *
  generalize v.f = fv at *
  generalize v.t = t at *
  generalize bnd v = BD at *
  rcases HKK with hk | hk | hk | hk | hk | hk | hk | hk | hk
  · subst hk
    have HLF2 : Hid (∀ W, RV W v cs → Calls Tryz.prog 76 #[.agg cs.toArray] W fun e w' => e = .returned (.iface 109 (.agg #[])) ∧ Below W.heap.size W w') := HLF.out
    have hits : its = [] := HLE.out (by decide) (by decide)
    obtain ⟨L, hL⟩ : ∃ L : List Int, L = ([]) := ⟨_, rfl⟩
    have HBY2 : Hid (BY = [0] ++ L) := by
      show _ = _
      rw [HBY.out, hits, bytL, List.append_nil, hL]; rfl
    have HCB : Hid (∀ W, Calls Tryz.prog 232 #[.agg #[]] W (OwnB W L)) := by
      intro W
      rw [hL]
      exact c_bNull W
    have hl3 : L.length + 1 = W := by
      have := HLN.out
      rw [HBY2.out] at this
      simpa using this
    clear HIH HOP HNM HGN HNS HRD HLE HBY HLN K4 K5 hits hL
    go_enter Tryz.func59, Tryz.ntmps59
    go_upto_region 1 with fail
    generalize w.alloc (.cells cs.toArray 30) = w0 at *
    have k0 : w0.cell? ⟨w.heap.size, 0, none⟩ = some (.int .i64 0) := (HX0.out.blk.cell 0).trans K0.out
    have HR1 := Lib.hid (Reads.of_own (World.ownsRow_lit (e := 5) (size := 1) (base := 0) w0 #[.int .u8 0] 1 (Nat.zero_le _) (by decide) rfl) : Reads (w0.alloc (.cells #[.int .u8 0] 5)) _ 1 (some ⟨w0.heap.size, 0, none⟩) 1 [.int .u8 0])
    have HBA : Hid (Below w0.heap.size w0 (w0.alloc (.cells #[.int .u8 0] 5))) := (Below.refl _ _).alloc (Nat.le_refl _) _
    have HOA := Lib.hid (own_below HO0.out HBA.out)
    have HBS : Hid (base ≤ (w0.alloc (.cells #[.int .u8 0] 5)).heap.size) := Nat.le_trans HLO.out (Nat.le_trans HB.out.size HBA.out.size)
    go_upto_region 2 with (at_builtin; refine wpList_append_any _ rfl (.tmp 8) (.tmp 12) 23 rfl base 5 i0 _ 1 1 Tryz.underlying23 hi0 hz0 hz1 hz2 rfl (by omega) (.slice A0 n0 c0) n0 (u8s xs) rfl HOA.out _ (some ⟨w0.heap.size, 0, none⟩) 1 1 [.int .u8 0] rfl HR1.out (by simp [Value.oneCell']) (by simp only [maxLen]; omega) (by omega) HBS.out ?_; intro v1 w1 hown1 hg1 _; have AD1 := Lib.hid (Adds.ahead HBA.out (Adds.of (n1 := [0]) HOA.out rfl hown1 hg1)); clear hown1 hg1)
    have HX1 := Lib.hid (AD1.out.kp.box HX0.out)
    have HB1 : Hid (Below base w w1) := (HB.out.mono HLO.out).trans (AD1.out.kp.below (Nat.le_refl _) (Nat.le_trans HLO.out HB.out.size))
    clear k0 HR1 HBA HOA HBS HX0
    go_wp2_with (refine wpList_load_row rfl 30 (.tmp 3) rfl w.heap.size rfl 30 _ (0, 0) _ HX1.out.blk Tryz.underlying30 rfl HR.out ?_)
    refine (HLF2.out w1 (HRV.out w1 HB1.out)).mono ?_; rintro e w2 ⟨rfl, hb2⟩
    have AD2 := Lib.hid (AD1.out.step hb2)
    have HX2 := Lib.hid (HX1.out.step hb2)
    have HB2 := Lib.hid (HB1.out.trans (hb2.mono (Nat.le_trans HLO.out (Nat.le_trans HB.out.size AD1.out.kp.size))))
    have HS2 : Hid (base ≤ w2.heap.size) := Nat.le_trans HLO.out HB2.out.size
    clear hb2 HLF HLF2 AD1 HX1 HB1
    go_wp2_with fail
    refine (HCB.out w2).mono ?_; rintro e w3 ⟨v3, rfl, ho3, hb3⟩
    obtain ⟨A3, c3, hv3, hc3, hr3⟩ := own_reads ho3
    subst hv3
    have AD3 := Lib.hid (AD2.out.step hb3)
    have HR3 := Lib.hid hr3
    have HS3 : Hid (base ≤ w3.heap.size) := Nat.le_trans HS2.out hb3.size
    clear hr3 hb3 ho3 AD2 HX2 HB2 HS2
    have HO3 : Hid (w3.ownsRow base 5 1 v1 (n0 + 1) (u8s (xs ++ [0]))) := by
      have := AD3.out.own
      rw [List.length_append, List.length_singleton, show xs.length = n0 by simpa using HO0.out.1] at this
      exact this
    go_wp2_with (at_builtin; refine wpList_append_any _ rfl (.tmp 18) (.tmp 20) 23 rfl base 5 i0 _ 1 1 Tryz.underlying23 hi0 hz0 hz1 hz2 rfl (by omega) v1 (n0 + 1) (u8s (xs ++ [0])) rfl HO3.out _ A3 L.length c3 (u8s L) rfl HR3.out (u8s_one _) (by simp only [maxLen]; omega) (by omega) HS3.out ?_; intro v4 w4 hown4 hg4 _; have AD4 := Lib.hid (Adds.trans AD3.out (Adds.of (n1 := L) HO3.out rfl hown4 hg4)); clear hown4 hg4)
    go_ret
    exact ⟨v4, rfl, by rw [HBY2.out]; exact Adds.ahead HB.out AD4.out⟩
  · subst hk
    have HLF2 : Hid (∀ W, RV W v cs → Calls Tryz.prog 76 #[.agg cs.toArray] W fun e w' => e = .returned (.iface 110 (.bool (iv == 1))) ∧ Below W.heap.size W w') := HLF.out
    have hits : its = [] := HLE.out (by decide) (by decide)
    obtain ⟨L, hL⟩ : ∃ L : List Int, L = ([if iv = 1 then 1 else 0]) := ⟨_, rfl⟩
    have HBY2 : Hid (BY = [1] ++ L) := by
      show _ = _
      rw [HBY.out, hits, bytL, List.append_nil, hL]; rfl
    have HCB : Hid (∀ W, Calls Tryz.prog 234 #[.bool (iv == 1)] W (OwnB W L)) := by
      intro W
      rw [hL]
      exact c_bTruthI iv W
    have hl3 : L.length + 1 = W := by
      have := HLN.out
      rw [HBY2.out] at this
      simpa using this
    clear HIH HOP HNM HGN HNS HRD HLE HBY HLN K4 K5 hits hL
    go_enter Tryz.func59, Tryz.ntmps59
    go_upto_region 1 with fail
    generalize w.alloc (.cells cs.toArray 30) = w0 at *
    have k0 : w0.cell? ⟨w.heap.size, 0, none⟩ = some (.int .i64 1) := (HX0.out.blk.cell 0).trans K0.out
    have HR1 := Lib.hid (Reads.of_own (World.ownsRow_lit (e := 5) (size := 1) (base := 0) w0 #[.int .u8 1] 1 (Nat.zero_le _) (by decide) rfl) : Reads (w0.alloc (.cells #[.int .u8 1] 5)) _ 1 (some ⟨w0.heap.size, 0, none⟩) 1 [.int .u8 1])
    have HBA : Hid (Below w0.heap.size w0 (w0.alloc (.cells #[.int .u8 1] 5))) := (Below.refl _ _).alloc (Nat.le_refl _) _
    have HOA := Lib.hid (own_below HO0.out HBA.out)
    have HBS : Hid (base ≤ (w0.alloc (.cells #[.int .u8 1] 5)).heap.size) := Nat.le_trans HLO.out (Nat.le_trans HB.out.size HBA.out.size)
    go_upto_region 2 with (at_builtin; refine wpList_append_any _ rfl (.tmp 8) (.tmp 12) 23 rfl base 5 i0 _ 1 1 Tryz.underlying23 hi0 hz0 hz1 hz2 rfl (by omega) (.slice A0 n0 c0) n0 (u8s xs) rfl HOA.out _ (some ⟨w0.heap.size, 0, none⟩) 1 1 [.int .u8 1] rfl HR1.out (by simp [Value.oneCell']) (by simp only [maxLen]; omega) (by omega) HBS.out ?_; intro v1 w1 hown1 hg1 _; have AD1 := Lib.hid (Adds.ahead HBA.out (Adds.of (n1 := [1]) HOA.out rfl hown1 hg1)); clear hown1 hg1)
    have HX1 := Lib.hid (AD1.out.kp.box HX0.out)
    have HB1 : Hid (Below base w w1) := (HB.out.mono HLO.out).trans (AD1.out.kp.below (Nat.le_refl _) (Nat.le_trans HLO.out HB.out.size))
    clear k0 HR1 HBA HOA HBS HX0
    go_wp2_with (refine wpList_load_row rfl 30 (.tmp 3) rfl w.heap.size rfl 30 _ (0, 0) _ HX1.out.blk Tryz.underlying30 rfl HR.out ?_)
    refine (HLF2.out w1 (HRV.out w1 HB1.out)).mono ?_; rintro e w2 ⟨rfl, hb2⟩
    have AD2 := Lib.hid (AD1.out.step hb2)
    have HX2 := Lib.hid (HX1.out.step hb2)
    have HB2 := Lib.hid (HB1.out.trans (hb2.mono (Nat.le_trans HLO.out (Nat.le_trans HB.out.size AD1.out.kp.size))))
    have HS2 : Hid (base ≤ w2.heap.size) := Nat.le_trans HLO.out HB2.out.size
    clear hb2 HLF HLF2 AD1 HX1 HB1
    go_wp2_with fail
    refine (HCB.out w2).mono ?_; rintro e w3 ⟨v3, rfl, ho3, hb3⟩
    obtain ⟨A3, c3, hv3, hc3, hr3⟩ := own_reads ho3
    subst hv3
    have AD3 := Lib.hid (AD2.out.step hb3)
    have HR3 := Lib.hid hr3
    have HS3 : Hid (base ≤ w3.heap.size) := Nat.le_trans HS2.out hb3.size
    clear hr3 hb3 ho3 AD2 HX2 HB2 HS2
    have HO3 : Hid (w3.ownsRow base 5 1 v1 (n0 + 1) (u8s (xs ++ [1]))) := by
      have := AD3.out.own
      rw [List.length_append, List.length_singleton, show xs.length = n0 by simpa using HO0.out.1] at this
      exact this
    go_wp2_with (at_builtin; refine wpList_append_any _ rfl (.tmp 18) (.tmp 20) 23 rfl base 5 i0 _ 1 1 Tryz.underlying23 hi0 hz0 hz1 hz2 rfl (by omega) v1 (n0 + 1) (u8s (xs ++ [1])) rfl HO3.out _ A3 L.length c3 (u8s L) rfl HR3.out (u8s_one _) (by simp only [maxLen]; omega) (by omega) HS3.out ?_; intro v4 w4 hown4 hg4 _; have AD4 := Lib.hid (Adds.trans AD3.out (Adds.of (n1 := L) HO3.out rfl hown4 hg4)); clear hown4 hg4)
    go_ret
    exact ⟨v4, rfl, by rw [HBY2.out]; exact Adds.ahead HB.out AD4.out⟩
  · subst hk
    have HLF2 : Hid (∀ W, RV W v cs → Calls Tryz.prog 76 #[.agg cs.toArray] W fun e w' => e = .returned (.iface 111 (.int .i64 iv)) ∧ Below W.heap.size W w') := HLF.out
    have hits : its = [] := HLE.out (by decide) (by decide)
    obtain ⟨L, hL⟩ : ∃ L : List Int, L = (leB 8 (u64N iv)) := ⟨_, rfl⟩
    have HBY2 : Hid (BY = [2] ++ L) := by
      show _ = _
      rw [HBY.out, hits, bytL, List.append_nil, hL]; rfl
    have HCB : Hid (∀ W, Calls Tryz.prog 236 #[.int .i64 iv] W (OwnB W L)) := by
      intro W
      rw [hL]
      exact c_bNumber iv HII.out.2.1 W
    have hl3 : L.length + 1 = W := by
      have := HLN.out
      rw [HBY2.out] at this
      simpa using this
    clear HIH HOP HNM HGN HNS HRD HLE HBY HLN K4 K5 hits hL
    go_enter Tryz.func59, Tryz.ntmps59
    go_upto_region 1 with fail
    generalize w.alloc (.cells cs.toArray 30) = w0 at *
    have k0 : w0.cell? ⟨w.heap.size, 0, none⟩ = some (.int .i64 2) := (HX0.out.blk.cell 0).trans K0.out
    have HR1 := Lib.hid (Reads.of_own (World.ownsRow_lit (e := 5) (size := 1) (base := 0) w0 #[.int .u8 2] 1 (Nat.zero_le _) (by decide) rfl) : Reads (w0.alloc (.cells #[.int .u8 2] 5)) _ 1 (some ⟨w0.heap.size, 0, none⟩) 1 [.int .u8 2])
    have HBA : Hid (Below w0.heap.size w0 (w0.alloc (.cells #[.int .u8 2] 5))) := (Below.refl _ _).alloc (Nat.le_refl _) _
    have HOA := Lib.hid (own_below HO0.out HBA.out)
    have HBS : Hid (base ≤ (w0.alloc (.cells #[.int .u8 2] 5)).heap.size) := Nat.le_trans HLO.out (Nat.le_trans HB.out.size HBA.out.size)
    go_upto_region 2 with (at_builtin; refine wpList_append_any _ rfl (.tmp 8) (.tmp 12) 23 rfl base 5 i0 _ 1 1 Tryz.underlying23 hi0 hz0 hz1 hz2 rfl (by omega) (.slice A0 n0 c0) n0 (u8s xs) rfl HOA.out _ (some ⟨w0.heap.size, 0, none⟩) 1 1 [.int .u8 2] rfl HR1.out (by simp [Value.oneCell']) (by simp only [maxLen]; omega) (by omega) HBS.out ?_; intro v1 w1 hown1 hg1 _; have AD1 := Lib.hid (Adds.ahead HBA.out (Adds.of (n1 := [2]) HOA.out rfl hown1 hg1)); clear hown1 hg1)
    have HX1 := Lib.hid (AD1.out.kp.box HX0.out)
    have HB1 : Hid (Below base w w1) := (HB.out.mono HLO.out).trans (AD1.out.kp.below (Nat.le_refl _) (Nat.le_trans HLO.out HB.out.size))
    clear k0 HR1 HBA HOA HBS HX0
    go_wp2_with (refine wpList_load_row rfl 30 (.tmp 3) rfl w.heap.size rfl 30 _ (0, 0) _ HX1.out.blk Tryz.underlying30 rfl HR.out ?_)
    refine (HLF2.out w1 (HRV.out w1 HB1.out)).mono ?_; rintro e w2 ⟨rfl, hb2⟩
    have AD2 := Lib.hid (AD1.out.step hb2)
    have HX2 := Lib.hid (HX1.out.step hb2)
    have HB2 := Lib.hid (HB1.out.trans (hb2.mono (Nat.le_trans HLO.out (Nat.le_trans HB.out.size AD1.out.kp.size))))
    have HS2 : Hid (base ≤ w2.heap.size) := Nat.le_trans HLO.out HB2.out.size
    clear hb2 HLF HLF2 AD1 HX1 HB1
    go_wp2_with fail
    refine (HCB.out w2).mono ?_; rintro e w3 ⟨v3, rfl, ho3, hb3⟩
    obtain ⟨A3, c3, hv3, hc3, hr3⟩ := own_reads ho3
    subst hv3
    have AD3 := Lib.hid (AD2.out.step hb3)
    have HR3 := Lib.hid hr3
    have HS3 : Hid (base ≤ w3.heap.size) := Nat.le_trans HS2.out hb3.size
    clear hr3 hb3 ho3 AD2 HX2 HB2 HS2
    have HO3 : Hid (w3.ownsRow base 5 1 v1 (n0 + 1) (u8s (xs ++ [2]))) := by
      have := AD3.out.own
      rw [List.length_append, List.length_singleton, show xs.length = n0 by simpa using HO0.out.1] at this
      exact this
    go_wp2_with (at_builtin; refine wpList_append_any _ rfl (.tmp 18) (.tmp 20) 23 rfl base 5 i0 _ 1 1 Tryz.underlying23 hi0 hz0 hz1 hz2 rfl (by omega) v1 (n0 + 1) (u8s (xs ++ [2])) rfl HO3.out _ A3 L.length c3 (u8s L) rfl HR3.out (u8s_one _) (by simp only [maxLen]; omega) (by omega) HS3.out ?_; intro v4 w4 hown4 hg4 _; have AD4 := Lib.hid (Adds.trans AD3.out (Adds.of (n1 := L) HO3.out rfl hown4 hg4)); clear hown4 hg4)
    go_ret
    exact ⟨v4, rfl, by rw [HBY2.out]; exact Adds.ahead HB.out AD4.out⟩
  · subst hk
    have HLF2 : Hid (∀ W, RV W v cs → Calls Tryz.prog 76 #[.agg cs.toArray] W fun e w' => e = .returned (.iface 112 (.float .f64 fv)) ∧ Below W.heap.size W w') := HLF.out
    have hits : its = [] := HLE.out (by decide) (by decide)
    obtain ⟨L, hL⟩ : ∃ L : List Int, L = (leB 8 (fone fv)) := ⟨_, rfl⟩
    have HBY2 : Hid (BY = [3] ++ L) := by
      show _ = _
      rw [HBY.out, hits, bytL, List.append_nil, hL]; rfl
    have HCB : Hid (∀ W, Calls Tryz.prog 239 #[.float .f64 fv] W (OwnB W L)) := by
      intro W
      rw [hL]
      exact c_bReal fv HFL W
    have hl3 : L.length + 1 = W := by
      have := HLN.out
      rw [HBY2.out] at this
      simpa using this
    clear HIH HOP HNM HGN HNS HRD HLE HBY HLN K4 K5 hits hL
    go_enter Tryz.func59, Tryz.ntmps59
    go_upto_region 1 with fail
    generalize w.alloc (.cells cs.toArray 30) = w0 at *
    have k0 : w0.cell? ⟨w.heap.size, 0, none⟩ = some (.int .i64 3) := (HX0.out.blk.cell 0).trans K0.out
    have HR1 := Lib.hid (Reads.of_own (World.ownsRow_lit (e := 5) (size := 1) (base := 0) w0 #[.int .u8 3] 1 (Nat.zero_le _) (by decide) rfl) : Reads (w0.alloc (.cells #[.int .u8 3] 5)) _ 1 (some ⟨w0.heap.size, 0, none⟩) 1 [.int .u8 3])
    have HBA : Hid (Below w0.heap.size w0 (w0.alloc (.cells #[.int .u8 3] 5))) := (Below.refl _ _).alloc (Nat.le_refl _) _
    have HOA := Lib.hid (own_below HO0.out HBA.out)
    have HBS : Hid (base ≤ (w0.alloc (.cells #[.int .u8 3] 5)).heap.size) := Nat.le_trans HLO.out (Nat.le_trans HB.out.size HBA.out.size)
    go_upto_region 2 with (at_builtin; refine wpList_append_any _ rfl (.tmp 8) (.tmp 12) 23 rfl base 5 i0 _ 1 1 Tryz.underlying23 hi0 hz0 hz1 hz2 rfl (by omega) (.slice A0 n0 c0) n0 (u8s xs) rfl HOA.out _ (some ⟨w0.heap.size, 0, none⟩) 1 1 [.int .u8 3] rfl HR1.out (by simp [Value.oneCell']) (by simp only [maxLen]; omega) (by omega) HBS.out ?_; intro v1 w1 hown1 hg1 _; have AD1 := Lib.hid (Adds.ahead HBA.out (Adds.of (n1 := [3]) HOA.out rfl hown1 hg1)); clear hown1 hg1)
    have HX1 := Lib.hid (AD1.out.kp.box HX0.out)
    have HB1 : Hid (Below base w w1) := (HB.out.mono HLO.out).trans (AD1.out.kp.below (Nat.le_refl _) (Nat.le_trans HLO.out HB.out.size))
    clear k0 HR1 HBA HOA HBS HX0
    go_wp2_with (refine wpList_load_row rfl 30 (.tmp 3) rfl w.heap.size rfl 30 _ (0, 0) _ HX1.out.blk Tryz.underlying30 rfl HR.out ?_)
    refine (HLF2.out w1 (HRV.out w1 HB1.out)).mono ?_; rintro e w2 ⟨rfl, hb2⟩
    have AD2 := Lib.hid (AD1.out.step hb2)
    have HX2 := Lib.hid (HX1.out.step hb2)
    have HB2 := Lib.hid (HB1.out.trans (hb2.mono (Nat.le_trans HLO.out (Nat.le_trans HB.out.size AD1.out.kp.size))))
    have HS2 : Hid (base ≤ w2.heap.size) := Nat.le_trans HLO.out HB2.out.size
    clear hb2 HLF HLF2 AD1 HX1 HB1
    go_wp2_with fail
    refine (HCB.out w2).mono ?_; rintro e w3 ⟨v3, rfl, ho3, hb3⟩
    obtain ⟨A3, c3, hv3, hc3, hr3⟩ := own_reads ho3
    subst hv3
    have AD3 := Lib.hid (AD2.out.step hb3)
    have HR3 := Lib.hid hr3
    have HS3 : Hid (base ≤ w3.heap.size) := Nat.le_trans HS2.out hb3.size
    clear hr3 hb3 ho3 AD2 HX2 HB2 HS2
    have HO3 : Hid (w3.ownsRow base 5 1 v1 (n0 + 1) (u8s (xs ++ [3]))) := by
      have := AD3.out.own
      rw [List.length_append, List.length_singleton, show xs.length = n0 by simpa using HO0.out.1] at this
      exact this
    go_wp2_with (at_builtin; refine wpList_append_any _ rfl (.tmp 18) (.tmp 20) 23 rfl base 5 i0 _ 1 1 Tryz.underlying23 hi0 hz0 hz1 hz2 rfl (by omega) v1 (n0 + 1) (u8s (xs ++ [3])) rfl HO3.out _ A3 L.length c3 (u8s L) rfl HR3.out (u8s_one _) (by simp only [maxLen]; omega) (by omega) HS3.out ?_; intro v4 w4 hown4 hg4 _; have AD4 := Lib.hid (Adds.trans AD3.out (Adds.of (n1 := L) HO3.out rfl hown4 hg4)); clear hown4 hg4)
    go_ret
    exact ⟨v4, rfl, by rw [HBY2.out]; exact Adds.ahead HB.out AD4.out⟩
  · subst hk
    have HLF2 : Hid (∀ W, RV W v cs → Calls Tryz.prog 76 #[.agg cs.toArray] W fun e w' => e = .returned (.iface 113 (.string t)) ∧ Below W.heap.size W w') := HLF.out
    have hits : its = [] := HLE.out (by decide) (by decide)
    obtain ⟨L, hL⟩ : ∃ L : List Int, L = (leB 4 t.size ++ txB t) := ⟨_, rfl⟩
    have HBY2 : Hid (BY = [4] ++ L) := by
      show _ = _
      rw [HBY.out, hits, bytL, List.append_nil, hL]; rfl
    have HCB : Hid (∀ W, Calls Tryz.prog 241 #[.string t] W (OwnB W L)) := by
      intro W
      rw [hL]
      exact c_bWords t (by omega) W
    have hl3 : L.length + 1 = W := by
      have := HLN.out
      rw [HBY2.out] at this
      simpa using this
    clear HIH HOP HNM HGN HNS HRD HLE HBY HLN K4 K5 hits hL
    go_enter Tryz.func59, Tryz.ntmps59
    go_upto_region 1 with fail
    generalize w.alloc (.cells cs.toArray 30) = w0 at *
    have k0 : w0.cell? ⟨w.heap.size, 0, none⟩ = some (.int .i64 4) := (HX0.out.blk.cell 0).trans K0.out
    have HR1 := Lib.hid (Reads.of_own (World.ownsRow_lit (e := 5) (size := 1) (base := 0) w0 #[.int .u8 4] 1 (Nat.zero_le _) (by decide) rfl) : Reads (w0.alloc (.cells #[.int .u8 4] 5)) _ 1 (some ⟨w0.heap.size, 0, none⟩) 1 [.int .u8 4])
    have HBA : Hid (Below w0.heap.size w0 (w0.alloc (.cells #[.int .u8 4] 5))) := (Below.refl _ _).alloc (Nat.le_refl _) _
    have HOA := Lib.hid (own_below HO0.out HBA.out)
    have HBS : Hid (base ≤ (w0.alloc (.cells #[.int .u8 4] 5)).heap.size) := Nat.le_trans HLO.out (Nat.le_trans HB.out.size HBA.out.size)
    go_upto_region 2 with (at_builtin; refine wpList_append_any _ rfl (.tmp 8) (.tmp 12) 23 rfl base 5 i0 _ 1 1 Tryz.underlying23 hi0 hz0 hz1 hz2 rfl (by omega) (.slice A0 n0 c0) n0 (u8s xs) rfl HOA.out _ (some ⟨w0.heap.size, 0, none⟩) 1 1 [.int .u8 4] rfl HR1.out (by simp [Value.oneCell']) (by simp only [maxLen]; omega) (by omega) HBS.out ?_; intro v1 w1 hown1 hg1 _; have AD1 := Lib.hid (Adds.ahead HBA.out (Adds.of (n1 := [4]) HOA.out rfl hown1 hg1)); clear hown1 hg1)
    have HX1 := Lib.hid (AD1.out.kp.box HX0.out)
    have HB1 : Hid (Below base w w1) := (HB.out.mono HLO.out).trans (AD1.out.kp.below (Nat.le_refl _) (Nat.le_trans HLO.out HB.out.size))
    clear k0 HR1 HBA HOA HBS HX0
    go_wp2_with (refine wpList_load_row rfl 30 (.tmp 3) rfl w.heap.size rfl 30 _ (0, 0) _ HX1.out.blk Tryz.underlying30 rfl HR.out ?_)
    refine (HLF2.out w1 (HRV.out w1 HB1.out)).mono ?_; rintro e w2 ⟨rfl, hb2⟩
    have AD2 := Lib.hid (AD1.out.step hb2)
    have HX2 := Lib.hid (HX1.out.step hb2)
    have HB2 := Lib.hid (HB1.out.trans (hb2.mono (Nat.le_trans HLO.out (Nat.le_trans HB.out.size AD1.out.kp.size))))
    have HS2 : Hid (base ≤ w2.heap.size) := Nat.le_trans HLO.out HB2.out.size
    clear hb2 HLF HLF2 AD1 HX1 HB1
    go_wp2_with fail
    refine (HCB.out w2).mono ?_; rintro e w3 ⟨v3, rfl, ho3, hb3⟩
    obtain ⟨A3, c3, hv3, hc3, hr3⟩ := own_reads ho3
    subst hv3
    have AD3 := Lib.hid (AD2.out.step hb3)
    have HR3 := Lib.hid hr3
    have HS3 : Hid (base ≤ w3.heap.size) := Nat.le_trans HS2.out hb3.size
    clear hr3 hb3 ho3 AD2 HX2 HB2 HS2
    have HO3 : Hid (w3.ownsRow base 5 1 v1 (n0 + 1) (u8s (xs ++ [4]))) := by
      have := AD3.out.own
      rw [List.length_append, List.length_singleton, show xs.length = n0 by simpa using HO0.out.1] at this
      exact this
    go_wp2_with (at_builtin; refine wpList_append_any _ rfl (.tmp 18) (.tmp 20) 23 rfl base 5 i0 _ 1 1 Tryz.underlying23 hi0 hz0 hz1 hz2 rfl (by omega) v1 (n0 + 1) (u8s (xs ++ [4])) rfl HO3.out _ A3 L.length c3 (u8s L) rfl HR3.out (u8s_one _) (by simp only [maxLen]; omega) (by omega) HS3.out ?_; intro v4 w4 hown4 hg4 _; have AD4 := Lib.hid (Adds.trans AD3.out (Adds.of (n1 := L) HO3.out rfl hown4 hg4)); clear hown4 hg4)
    go_ret
    exact ⟨v4, rfl, by rw [HBY2.out]; exact Adds.ahead HB.out AD4.out⟩
  · subst hk
    have HLF2 : Hid (∀ W, RV W v cs → Calls Tryz.prog 76 #[.agg cs.toArray] W fun e w' => e = .returned (.iface 142 (.string t)) ∧ Below W.heap.size W w') := HLF.out
    have hits : its = [] := HLE.out (by decide) (by decide)
    obtain ⟨L, hL⟩ : ∃ L : List Int, L = (leB 4 t.size ++ txB t) := ⟨_, rfl⟩
    have HBY2 : Hid (BY = [5] ++ L) := by
      show _ = _
      rw [HBY.out, hits, bytL, List.append_nil, hL]; rfl
    have HCB : Hid (∀ W, Calls Tryz.prog 243 #[.string t] W (OwnB W L)) := by
      intro W
      rw [hL]
      exact c_bRaw t (by omega) W
    have hl3 : L.length + 1 = W := by
      have := HLN.out
      rw [HBY2.out] at this
      simpa using this
    clear HIH HOP HNM HGN HNS HRD HLE HBY HLN K4 K5 hits hL
    go_enter Tryz.func59, Tryz.ntmps59
    go_upto_region 1 with fail
    generalize w.alloc (.cells cs.toArray 30) = w0 at *
    have k0 : w0.cell? ⟨w.heap.size, 0, none⟩ = some (.int .i64 5) := (HX0.out.blk.cell 0).trans K0.out
    have HR1 := Lib.hid (Reads.of_own (World.ownsRow_lit (e := 5) (size := 1) (base := 0) w0 #[.int .u8 5] 1 (Nat.zero_le _) (by decide) rfl) : Reads (w0.alloc (.cells #[.int .u8 5] 5)) _ 1 (some ⟨w0.heap.size, 0, none⟩) 1 [.int .u8 5])
    have HBA : Hid (Below w0.heap.size w0 (w0.alloc (.cells #[.int .u8 5] 5))) := (Below.refl _ _).alloc (Nat.le_refl _) _
    have HOA := Lib.hid (own_below HO0.out HBA.out)
    have HBS : Hid (base ≤ (w0.alloc (.cells #[.int .u8 5] 5)).heap.size) := Nat.le_trans HLO.out (Nat.le_trans HB.out.size HBA.out.size)
    go_upto_region 2 with (at_builtin; refine wpList_append_any _ rfl (.tmp 8) (.tmp 12) 23 rfl base 5 i0 _ 1 1 Tryz.underlying23 hi0 hz0 hz1 hz2 rfl (by omega) (.slice A0 n0 c0) n0 (u8s xs) rfl HOA.out _ (some ⟨w0.heap.size, 0, none⟩) 1 1 [.int .u8 5] rfl HR1.out (by simp [Value.oneCell']) (by simp only [maxLen]; omega) (by omega) HBS.out ?_; intro v1 w1 hown1 hg1 _; have AD1 := Lib.hid (Adds.ahead HBA.out (Adds.of (n1 := [5]) HOA.out rfl hown1 hg1)); clear hown1 hg1)
    have HX1 := Lib.hid (AD1.out.kp.box HX0.out)
    have HB1 : Hid (Below base w w1) := (HB.out.mono HLO.out).trans (AD1.out.kp.below (Nat.le_refl _) (Nat.le_trans HLO.out HB.out.size))
    clear k0 HR1 HBA HOA HBS HX0
    go_wp2_with (refine wpList_load_row rfl 30 (.tmp 3) rfl w.heap.size rfl 30 _ (0, 0) _ HX1.out.blk Tryz.underlying30 rfl HR.out ?_)
    refine (HLF2.out w1 (HRV.out w1 HB1.out)).mono ?_; rintro e w2 ⟨rfl, hb2⟩
    have AD2 := Lib.hid (AD1.out.step hb2)
    have HX2 := Lib.hid (HX1.out.step hb2)
    have HB2 := Lib.hid (HB1.out.trans (hb2.mono (Nat.le_trans HLO.out (Nat.le_trans HB.out.size AD1.out.kp.size))))
    have HS2 : Hid (base ≤ w2.heap.size) := Nat.le_trans HLO.out HB2.out.size
    clear hb2 HLF HLF2 AD1 HX1 HB1
    go_wp2_with fail
    refine (HCB.out w2).mono ?_; rintro e w3 ⟨v3, rfl, ho3, hb3⟩
    obtain ⟨A3, c3, hv3, hc3, hr3⟩ := own_reads ho3
    subst hv3
    have AD3 := Lib.hid (AD2.out.step hb3)
    have HR3 := Lib.hid hr3
    have HS3 : Hid (base ≤ w3.heap.size) := Nat.le_trans HS2.out hb3.size
    clear hr3 hb3 ho3 AD2 HX2 HB2 HS2
    have HO3 : Hid (w3.ownsRow base 5 1 v1 (n0 + 1) (u8s (xs ++ [5]))) := by
      have := AD3.out.own
      rw [List.length_append, List.length_singleton, show xs.length = n0 by simpa using HO0.out.1] at this
      exact this
    go_wp2_with (at_builtin; refine wpList_append_any _ rfl (.tmp 18) (.tmp 20) 23 rfl base 5 i0 _ 1 1 Tryz.underlying23 hi0 hz0 hz1 hz2 rfl (by omega) v1 (n0 + 1) (u8s (xs ++ [5])) rfl HO3.out _ A3 L.length c3 (u8s L) rfl HR3.out (u8s_one _) (by simp only [maxLen]; omega) (by omega) HS3.out ?_; intro v4 w4 hown4 hg4 _; have AD4 := Lib.hid (Adds.trans AD3.out (Adds.of (n1 := L) HO3.out rfl hown4 hg4)); clear hown4 hg4)
    go_ret
    exact ⟨v4, rfl, by rw [HBY2.out]; exact Adds.ahead HB.out AD4.out⟩
  · subst hk
    have HLF2 : Hid (∀ W, RV W v cs → Calls Tryz.prog 76 #[.agg cs.toArray] W fun e w' => e = .returned (.iface 143 (.string t)) ∧ Below W.heap.size W w') := HLF.out
    have hits : its = [] := HLE.out (by decide) (by decide)
    obtain ⟨L, hL⟩ : ∃ L : List Int, L = (leB 4 t.size ++ txB t) := ⟨_, rfl⟩
    have HBY2 : Hid (BY = [8] ++ L) := by
      show _ = _
      rw [HBY.out, hits, bytL, List.append_nil, hL]; rfl
    have HCB : Hid (∀ W, Calls Tryz.prog 245 #[.string t] W (OwnB W L)) := by
      intro W
      rw [hL]
      exact c_bVeil t (by omega) W
    have hl3 : L.length + 1 = W := by
      have := HLN.out
      rw [HBY2.out] at this
      simpa using this
    clear HIH HOP HNM HGN HNS HRD HLE HBY HLN K4 K5 hits hL
    go_enter Tryz.func59, Tryz.ntmps59
    go_upto_region 1 with fail
    generalize w.alloc (.cells cs.toArray 30) = w0 at *
    have k0 : w0.cell? ⟨w.heap.size, 0, none⟩ = some (.int .i64 8) := (HX0.out.blk.cell 0).trans K0.out
    have HR1 := Lib.hid (Reads.of_own (World.ownsRow_lit (e := 5) (size := 1) (base := 0) w0 #[.int .u8 8] 1 (Nat.zero_le _) (by decide) rfl) : Reads (w0.alloc (.cells #[.int .u8 8] 5)) _ 1 (some ⟨w0.heap.size, 0, none⟩) 1 [.int .u8 8])
    have HBA : Hid (Below w0.heap.size w0 (w0.alloc (.cells #[.int .u8 8] 5))) := (Below.refl _ _).alloc (Nat.le_refl _) _
    have HOA := Lib.hid (own_below HO0.out HBA.out)
    have HBS : Hid (base ≤ (w0.alloc (.cells #[.int .u8 8] 5)).heap.size) := Nat.le_trans HLO.out (Nat.le_trans HB.out.size HBA.out.size)
    go_upto_region 2 with (at_builtin; refine wpList_append_any _ rfl (.tmp 8) (.tmp 12) 23 rfl base 5 i0 _ 1 1 Tryz.underlying23 hi0 hz0 hz1 hz2 rfl (by omega) (.slice A0 n0 c0) n0 (u8s xs) rfl HOA.out _ (some ⟨w0.heap.size, 0, none⟩) 1 1 [.int .u8 8] rfl HR1.out (by simp [Value.oneCell']) (by simp only [maxLen]; omega) (by omega) HBS.out ?_; intro v1 w1 hown1 hg1 _; have AD1 := Lib.hid (Adds.ahead HBA.out (Adds.of (n1 := [8]) HOA.out rfl hown1 hg1)); clear hown1 hg1)
    have HX1 := Lib.hid (AD1.out.kp.box HX0.out)
    have HB1 : Hid (Below base w w1) := (HB.out.mono HLO.out).trans (AD1.out.kp.below (Nat.le_refl _) (Nat.le_trans HLO.out HB.out.size))
    clear k0 HR1 HBA HOA HBS HX0
    go_wp2_with (refine wpList_load_row rfl 30 (.tmp 3) rfl w.heap.size rfl 30 _ (0, 0) _ HX1.out.blk Tryz.underlying30 rfl HR.out ?_)
    refine (HLF2.out w1 (HRV.out w1 HB1.out)).mono ?_; rintro e w2 ⟨rfl, hb2⟩
    have AD2 := Lib.hid (AD1.out.step hb2)
    have HX2 := Lib.hid (HX1.out.step hb2)
    have HB2 := Lib.hid (HB1.out.trans (hb2.mono (Nat.le_trans HLO.out (Nat.le_trans HB.out.size AD1.out.kp.size))))
    have HS2 : Hid (base ≤ w2.heap.size) := Nat.le_trans HLO.out HB2.out.size
    clear hb2 HLF HLF2 AD1 HX1 HB1
    go_wp2_with fail
    refine (HCB.out w2).mono ?_; rintro e w3 ⟨v3, rfl, ho3, hb3⟩
    obtain ⟨A3, c3, hv3, hc3, hr3⟩ := own_reads ho3
    subst hv3
    have AD3 := Lib.hid (AD2.out.step hb3)
    have HR3 := Lib.hid hr3
    have HS3 : Hid (base ≤ w3.heap.size) := Nat.le_trans HS2.out hb3.size
    clear hr3 hb3 ho3 AD2 HX2 HB2 HS2
    have HO3 : Hid (w3.ownsRow base 5 1 v1 (n0 + 1) (u8s (xs ++ [8]))) := by
      have := AD3.out.own
      rw [List.length_append, List.length_singleton, show xs.length = n0 by simpa using HO0.out.1] at this
      exact this
    go_wp2_with (at_builtin; refine wpList_append_any _ rfl (.tmp 18) (.tmp 20) 23 rfl base 5 i0 _ 1 1 Tryz.underlying23 hi0 hz0 hz1 hz2 rfl (by omega) v1 (n0 + 1) (u8s (xs ++ [8])) rfl HO3.out _ A3 L.length c3 (u8s L) rfl HR3.out (u8s_one _) (by simp only [maxLen]; omega) (by omega) HS3.out ?_; intro v4 w4 hown4 hg4 _; have AD4 := Lib.hid (Adds.trans AD3.out (Adds.of (n1 := L) HO3.out rfl hown4 hg4)); clear hown4 hg4)
    go_ret
    exact ⟨v4, rfl, by rw [HBY2.out]; exact Adds.ahead HB.out AD4.out⟩
  · subst hk
    have HLF2 : Hid (∀ W, RV W v cs → Calls Tryz.prog 76 #[.agg cs.toArray] W fun e w' => e = .returned .nilIface ∧ Below W.heap.size W w') := HLF.out
    have HBY2 : Hid (BY = ([6] ++ leB 4 its.length) ++ bytL false its nms) := HBY.out
    have hlb : BY.length = W := HLN.out
    clear HLE HBY HLN HRD
    go_enter Tryz.func59, Tryz.ntmps59
    go_upto_region 1 with fail
    generalize w.alloc (.cells cs.toArray 30) = w0 at *
    have k0 : w0.cell? ⟨w.heap.size, 0, none⟩ = some (.int .i64 6) := (HX0.out.blk.cell 0).trans K0.out
    have HR1 := Lib.hid (Reads.of_own (World.ownsRow_lit (e := 5) (size := 1) (base := 0) w0 #[.int .u8 6] 1 (Nat.zero_le _) (by decide) rfl) : Reads (w0.alloc (.cells #[.int .u8 6] 5)) _ 1 (some ⟨w0.heap.size, 0, none⟩) 1 [.int .u8 6])
    have HBA : Hid (Below w0.heap.size w0 (w0.alloc (.cells #[.int .u8 6] 5))) := (Below.refl _ _).alloc (Nat.le_refl _) _
    have HOA := Lib.hid (own_below HO0.out HBA.out)
    have HBS : Hid (base ≤ (w0.alloc (.cells #[.int .u8 6] 5)).heap.size) := Nat.le_trans HLO.out (Nat.le_trans HB.out.size HBA.out.size)
    go_upto_region 2 with (at_builtin; refine wpList_append_any _ rfl (.tmp 8) (.tmp 12) 23 rfl base 5 i0 _ 1 1 Tryz.underlying23 hi0 hz0 hz1 hz2 rfl (by omega) (.slice A0 n0 c0) n0 (u8s xs) rfl HOA.out _ (some ⟨w0.heap.size, 0, none⟩) 1 1 [.int .u8 6] rfl HR1.out (by simp [Value.oneCell']) (by simp only [maxLen]; omega) (by omega) HBS.out ?_; intro v1 w1 hown1 hg1 _; have AD1 := Lib.hid (Adds.ahead HBA.out (Adds.of (n1 := [6]) HOA.out rfl hown1 hg1)); clear hown1 hg1)
    have HX1 := Lib.hid (AD1.out.kp.box HX0.out)
    have HB1 : Hid (Below base w w1) := (HB.out.mono HLO.out).trans (AD1.out.kp.below (Nat.le_refl _) (Nat.le_trans HLO.out HB.out.size))
    clear k0 HR1 HBA HOA HBS HX0
    go_wp2_with (refine wpList_load_row rfl 30 (.tmp 3) rfl w.heap.size rfl 30 _ (0, 0) _ HX1.out.blk Tryz.underlying30 rfl HR.out ?_)
    refine (HLF2.out w1 (HRV.out w1 HB1.out)).mono ?_; rintro e w2 ⟨rfl, hb2⟩
    have AD2 := Lib.hid (AD1.out.step hb2)
    have HX2 := Lib.hid (HX1.out.step hb2)
    have HB2 := Lib.hid (HB1.out.trans (hb2.mono (Nat.le_trans HLO.out (Nat.le_trans HB.out.size AD1.out.kp.size))))
    have HS2 : Hid (base ≤ w2.heap.size) := Nat.le_trans HLO.out HB2.out.size
    clear hb2 HLF HLF2 AD1 HX1 HB1
    have k4 : w2.cell? ⟨w.heap.size, 4, none⟩ = some (.slice A its.length c) := (HX2.out.blk.cell 4).trans K4.out
    go_wp2_with fail
    refine (c_S32 its.length (by omega) w2).mono ?_; rintro e w3 ⟨v3, rfl, ho3, hb3⟩
    obtain ⟨A3, c3, hv3, hc3, hr3⟩ := own_reads ho3
    subst hv3
    rw [leB_len] at hr3
    have AD3 := Lib.hid (AD2.out.step hb3)
    have HX3 := Lib.hid (HX2.out.step hb3)
    have HR3 := Lib.hid hr3
    have HB3 := Lib.hid (HB2.out.trans (hb3.mono HS2.out))
    have HS3 : Hid (base ≤ w3.heap.size) := Nat.le_trans HS2.out hb3.size
    clear k4 hr3 hb3 ho3 AD2 HX2 HB2 HS2
    have HO3 : Hid (w3.ownsRow base 5 1 v1 (n0 + 1) (u8s (xs ++ [6]))) := by
      have := AD3.out.own
      rw [List.length_append, List.length_singleton, show xs.length = n0 by simpa using HO0.out.1] at this
      exact this
    rw [leB_len]
    go_upto_region 6 with (at_builtin; refine wpList_append_any _ rfl (.tmp 22) (.tmp 27) 23 rfl base 5 i0 _ 1 1 Tryz.underlying23 hi0 hz0 hz1 hz2 rfl (by omega) v1 (n0 + 1) (u8s (xs ++ [6])) rfl HO3.out _ A3 4 c3 (u8s (leB 4 its.length)) rfl HR3.out (u8s_one _) (by simp only [maxLen]; omega) (by omega) HS3.out ?_; intro v4 w4 hown4 hg4 _; have AD4 := Lib.hid (Adds.of (n1 := leB 4 its.length) HO3.out (leB_len _ _) hown4 hg4); clear hown4 hg4)
    have HA0 := Lib.hid (Adds.trans AD3.out AD4.out)
    obtain ⟨Ab0, cb0, hvb0⟩ := own_slice HA0.out.own
    obtain ⟨nb0, hnb0⟩ : ∃ n, (xs ++ ([6] ++ leB 4 its.length)).length = n := ⟨_, rfl⟩
    rw [hnb0] at hvb0
    have HNB0 := Lib.hid hnb0
    subst hvb0
    clear hnb0
    have HX4 := Lib.hid (AD4.out.kp.box HX3.out)
    have k4 : w4.cell? ⟨w.heap.size, 4, none⟩ = some (.slice A its.length c) := (HX4.out.blk.cell 4).trans K4.out
    clear AD3 AD4 HX3 HB3 HS3 HO3 HR3
    go_wp2_with fail
    clear k4
    go_loopw [0, 32] (fun vb vi wr => ∃ (i : Nat) (ys : List Int) (nb : Nat) (Ab : Option Addr) (cb : Nat), vb = .slice Ab nb cb ∧ Hid ((xs ++ ys).length = nb) ∧ vi = .int .i64 i ∧ i ≤ its.length ∧ Hid (BY = ys ++ bytL false (its.drop i) (nms.drop i)) ∧ Hid (Adds w0 wr base (.slice Ab nb cb) xs ys) ∧ Hid (Box wr w.heap.size cs)) (fun _ vi _ => its.length - (intOf vi).toNat)
    case atStart => exact ⟨0, _, nb0, Ab0, cb0, rfl, HNB0, rfl, Nat.zero_le _, HBY2, HA0, HX4⟩
    case round =>
      obtain ⟨i, ys, nb, Ab, cb, rfl, HNB, rfl, hi, HF, HAr, HXr⟩ := hrel
      clear HBY2 HA0 HX4
      have HBb : Hid (Below base w wr) := (HB.out.mono HLO.out).trans (HAr.out.kp.below (Nat.le_refl _) (Nat.le_trans HLO.out HB.out.size))
      by_cases hlt : i < its.length
      · obtain ⟨b, off, hA, hbl, hbl2, hr⟩ := HOP.out (by omega)
        subst hA
        obtain ⟨cs', hrv, hcell0⟩ := hr i hlt
        have hcell : ∀ q u, cs'[q]? = some u → wr.cell? ⟨b, off + i * 6 + q, none⟩ = some u := fun q u hq => (HBb.out.cell (p := ⟨b, off + i * 6 + q, none⟩) hbl).trans (by rw [Nat.add_assoc]; exact hcell0 q u hq)
        have hrvr := hrv.below HBb.out
        obtain ⟨h6, hone⟩ : cs'.length = 6 ∧ cs'.toArray.toList.all (·.oneCell') = true := by
          obtain ⟨_, _, _, _, e, _⟩ := hrv.open_
          subst e
          exact ⟨rfl, rfl⟩
        have h6a : cs'.toArray.size = 6 := by simpa using h6
        have HRVr := Lib.hid hrvr
        have HCL := Lib.hid hcell
        have HB8 := Lib.hid (Blk.new wr 30 vz)
        have HBA : Hid (Below wr.heap.size wr (wr.alloc (.cells vz 30))) := (Below.refl _ _).alloc (Nat.le_refl _) _
        have HST := Lib.hid (bytL_step (m := false) (n := nms) hlt)
        have HCALL := Lib.hid (HIH.out i hlt)
        have HWI := Lib.hid (byt_len its[i])
        clear hr hrv hcell hcell0 hrvr HIH
        obtain ⟨wi, hwi⟩ : ∃ wi, wt its[i] = wi := ⟨_, rfl⟩
        rw [hwi] at HCALL HWI
        obtain ⟨BI, hbi⟩ : ∃ BI, byt its[i] = BI := ⟨_, rfl⟩
        rw [hbi] at HCALL HWI HST
        clear hwi hbi
        have HF7 : Hid (BY = (ys ++ BI) ++ bytL false (its.drop (i + 1)) (nms.drop (i + 1))) := by
          show _ = _
          rw [HF.out, HST.out, List.append_assoc]; rfl
        have HLL : Hid (nb + wi ≤ 1099511627776) := by
          have h1 := congrArg List.length HF7.out
          have h2 := HWI.out
          have h3 : xs.length = n0 := by simpa using HO0.out.1
          rw [List.length_append, List.length_append] at h1
          have h4 := HNB.out
          rw [List.length_append] at h4
          show _ ≤ _
          omega
        clear HST HF
        go_upto_region 9 with (first
          | (refine wpList_load_at rfl 30 (.tmp 35) rfl b (off + i * 6) rfl cs' _ HCL.out Tryz.underlying30 rfl (by rw [h6]; exact v_info) ?_)
          | (refine wpList_storeB rfl 30 (.tmp 7) (.tmp 36) rfl rfl wr.heap.size cs'.toArray rfl rfl HB8.out (by rw [h6a]; exact v_info) (by rw [h6a]; rfl) hone ?_; intro w4 hB4 hg4 hz4))
        have hb4 : Below wr.heap.size wr w4 := HBA.out.grown hg4 (by simp) (fun _ h => by injection h with h; omega)
        have HA4 := Lib.hid (HAr.out.step hb4)
        have HX5 := Lib.hid (HXr.out.step hb4)
        have HY5 : Hid (Box w4 wr.heap.size cs') := ⟨hB4, hB4.lt⟩
        have HRD4 := Lib.hid (RdV.below HRVr.out (hb4.mono (Nat.le_trans HLO.out HBb.out.size)))
        have HBb4 := Lib.hid (HBb.out.trans (hb4.mono (Nat.le_trans HLO.out HBb.out.size)))
        have k0 : w4.cell? ⟨w.heap.size, 0, none⟩ = some (.int .i64 6) := (HX5.out.blk.cell 0).trans K0.out
        have HO4 : Hid (w4.ownsRow base 5 1 (.slice Ab nb cb) nb (u8s (xs ++ ys))) := by have := HA4.out.own; rw [HNB.out] at this; exact this
        clear hg4 hz4 hb4 hB4 HBA HB8 HCL HRVr HXr HAr HBb
        go_wp2_with (refine wpList_load_row rfl 30 (.tmp 7) rfl wr.heap.size rfl 30 _ (0, 0) _ HY5.out.blk Tryz.underlying30 rfl (by rw [h6a]; exact v_info) ?_)
        clear k0
        refine (HCALL.out cs' w4 Ab nb cb _ HRD4.out (Nat.le_trans HLO.out HBb4.out.size) HO4.out HLL.out).mono ?_; rintro e w7 ⟨v7, rfl, had7⟩
        have HA7 := Lib.hid (HA4.out.trans had7)
        have HX7 := Lib.hid (had7.kp.box HX5.out)
        obtain ⟨Ab7, cb7, hv7⟩ := own_slice HA7.out.own
        obtain ⟨nb7, hnb7⟩ : ∃ n, (xs ++ (ys ++ BI)).length = n := ⟨_, rfl⟩
        rw [hnb7] at hv7
        subst hv7
        have HNB7 := Lib.hid hnb7
        clear hnb7
        clear had7 HCALL HLL HX5 HA4 HBb4 HRD4 HY5 HO4
        go_wp2_with fail
        go_roundw
        case rel => exact ⟨i + 1, _, nb7, Ab7, cb7, rfl, HNB7, by go_num, hlt, HF7, HA7, HX7⟩
        case measure => simp [intOf]; omega
      · have HE2 : Hid (BY = ys) := by
          have := HF.out
          rw [List.drop_eq_nil_of_le (show its.length ≤ i by omega), bytL, List.append_nil] at this
          exact this
        go_wp2_with fail
        go_ret
        exact ⟨_, rfl, by rw [HE2.out]; exact Adds.ahead HB.out HAr.out⟩
  · subst hk
    have HLF2 : Hid (∀ W, RV W v cs → Calls Tryz.prog 76 #[.agg cs.toArray] W fun e w' => e = .returned .nilIface ∧ Below W.heap.size W w') := HLF.out
    have HBY2 : Hid (BY = ([7] ++ leB 4 its.length) ++ bytL true its nms) := HBY.out
    have hlb : BY.length = W := HLN.out
    clear HLE HBY HLN HRD
    go_enter Tryz.func59, Tryz.ntmps59
    go_upto_region 1 with fail
    generalize w.alloc (.cells cs.toArray 30) = w0 at *
    have k0 : w0.cell? ⟨w.heap.size, 0, none⟩ = some (.int .i64 7) := (HX0.out.blk.cell 0).trans K0.out
    have HR1 := Lib.hid (Reads.of_own (World.ownsRow_lit (e := 5) (size := 1) (base := 0) w0 #[.int .u8 7] 1 (Nat.zero_le _) (by decide) rfl) : Reads (w0.alloc (.cells #[.int .u8 7] 5)) _ 1 (some ⟨w0.heap.size, 0, none⟩) 1 [.int .u8 7])
    have HBA : Hid (Below w0.heap.size w0 (w0.alloc (.cells #[.int .u8 7] 5))) := (Below.refl _ _).alloc (Nat.le_refl _) _
    have HOA := Lib.hid (own_below HO0.out HBA.out)
    have HBS : Hid (base ≤ (w0.alloc (.cells #[.int .u8 7] 5)).heap.size) := Nat.le_trans HLO.out (Nat.le_trans HB.out.size HBA.out.size)
    go_upto_region 2 with (at_builtin; refine wpList_append_any _ rfl (.tmp 8) (.tmp 12) 23 rfl base 5 i0 _ 1 1 Tryz.underlying23 hi0 hz0 hz1 hz2 rfl (by omega) (.slice A0 n0 c0) n0 (u8s xs) rfl HOA.out _ (some ⟨w0.heap.size, 0, none⟩) 1 1 [.int .u8 7] rfl HR1.out (by simp [Value.oneCell']) (by simp only [maxLen]; omega) (by omega) HBS.out ?_; intro v1 w1 hown1 hg1 _; have AD1 := Lib.hid (Adds.ahead HBA.out (Adds.of (n1 := [7]) HOA.out rfl hown1 hg1)); clear hown1 hg1)
    have HX1 := Lib.hid (AD1.out.kp.box HX0.out)
    have HB1 : Hid (Below base w w1) := (HB.out.mono HLO.out).trans (AD1.out.kp.below (Nat.le_refl _) (Nat.le_trans HLO.out HB.out.size))
    clear k0 HR1 HBA HOA HBS HX0
    go_wp2_with (refine wpList_load_row rfl 30 (.tmp 3) rfl w.heap.size rfl 30 _ (0, 0) _ HX1.out.blk Tryz.underlying30 rfl HR.out ?_)
    refine (HLF2.out w1 (HRV.out w1 HB1.out)).mono ?_; rintro e w2 ⟨rfl, hb2⟩
    have AD2 := Lib.hid (AD1.out.step hb2)
    have HX2 := Lib.hid (HX1.out.step hb2)
    have HB2 := Lib.hid (HB1.out.trans (hb2.mono (Nat.le_trans HLO.out (Nat.le_trans HB.out.size AD1.out.kp.size))))
    have HS2 : Hid (base ≤ w2.heap.size) := Nat.le_trans HLO.out HB2.out.size
    clear hb2 HLF HLF2 AD1 HX1 HB1
    have k4 : w2.cell? ⟨w.heap.size, 4, none⟩ = some (.slice A its.length c) := (HX2.out.blk.cell 4).trans K4.out
    go_wp2_with fail
    refine (c_S32 its.length (by omega) w2).mono ?_; rintro e w3 ⟨v3, rfl, ho3, hb3⟩
    obtain ⟨A3, c3, hv3, hc3, hr3⟩ := own_reads ho3
    subst hv3
    rw [leB_len] at hr3
    have AD3 := Lib.hid (AD2.out.step hb3)
    have HX3 := Lib.hid (HX2.out.step hb3)
    have HR3 := Lib.hid hr3
    have HB3 := Lib.hid (HB2.out.trans (hb3.mono HS2.out))
    have HS3 : Hid (base ≤ w3.heap.size) := Nat.le_trans HS2.out hb3.size
    clear k4 hr3 hb3 ho3 AD2 HX2 HB2 HS2
    have HO3 : Hid (w3.ownsRow base 5 1 v1 (n0 + 1) (u8s (xs ++ [7]))) := by
      have := AD3.out.own
      rw [List.length_append, List.length_singleton, show xs.length = n0 by simpa using HO0.out.1] at this
      exact this
    rw [leB_len]
    go_upto_region 6 with (at_builtin; refine wpList_append_any _ rfl (.tmp 22) (.tmp 27) 23 rfl base 5 i0 _ 1 1 Tryz.underlying23 hi0 hz0 hz1 hz2 rfl (by omega) v1 (n0 + 1) (u8s (xs ++ [7])) rfl HO3.out _ A3 4 c3 (u8s (leB 4 its.length)) rfl HR3.out (u8s_one _) (by simp only [maxLen]; omega) (by omega) HS3.out ?_; intro v4 w4 hown4 hg4 _; have AD4 := Lib.hid (Adds.of (n1 := leB 4 its.length) HO3.out (leB_len _ _) hown4 hg4); clear hown4 hg4)
    have HA0 := Lib.hid (Adds.trans AD3.out AD4.out)
    obtain ⟨Ab0, cb0, hvb0⟩ := own_slice HA0.out.own
    obtain ⟨nb0, hnb0⟩ : ∃ n, (xs ++ ([7] ++ leB 4 its.length)).length = n := ⟨_, rfl⟩
    rw [hnb0] at hvb0
    have HNB0 := Lib.hid hnb0
    subst hvb0
    clear hnb0
    have HX4 := Lib.hid (AD4.out.kp.box HX3.out)
    have k4 : w4.cell? ⟨w.heap.size, 4, none⟩ = some (.slice A its.length c) := (HX4.out.blk.cell 4).trans K4.out
    clear AD3 AD4 HX3 HB3 HS3 HO3 HR3
    go_wp2_with fail
    clear k4
    go_loopw [0, 32] (fun vb vi wr => ∃ (i : Nat) (ys : List Int) (nb : Nat) (Ab : Option Addr) (cb : Nat), vb = .slice Ab nb cb ∧ Hid ((xs ++ ys).length = nb) ∧ vi = .int .i64 i ∧ i ≤ its.length ∧ Hid (BY = ys ++ bytL true (its.drop i) (nms.drop i)) ∧ Hid (Adds w0 wr base (.slice Ab nb cb) xs ys) ∧ Hid (Box wr w.heap.size cs)) (fun _ vi _ => its.length - (intOf vi).toNat)
    case atStart => exact ⟨0, _, nb0, Ab0, cb0, rfl, HNB0, rfl, Nat.zero_le _, HBY2, HA0, HX4⟩
    case round =>
      obtain ⟨i, ys, nb, Ab, cb, rfl, HNB, rfl, hi, HF, HAr, HXr⟩ := hrel
      clear HBY2 HA0 HX4
      have HBb : Hid (Below base w wr) := (HB.out.mono HLO.out).trans (HAr.out.kp.below (Nat.le_refl _) (Nat.le_trans HLO.out HB.out.size))
      by_cases hlt : i < its.length
      · obtain ⟨b, off, hA, hbl, hbl2, hr⟩ := HOP.out (by omega)
        subst hA
        obtain ⟨cs', hrv, hcell0⟩ := hr i hlt
        have hcell : ∀ q u, cs'[q]? = some u → wr.cell? ⟨b, off + i * 6 + q, none⟩ = some u := fun q u hq => (HBb.out.cell (p := ⟨b, off + i * 6 + q, none⟩) hbl).trans (by rw [Nat.add_assoc]; exact hcell0 q u hq)
        have hrvr := hrv.below HBb.out
        obtain ⟨h6, hone⟩ : cs'.length = 6 ∧ cs'.toArray.toList.all (·.oneCell') = true := by
          obtain ⟨_, _, _, _, e, _⟩ := hrv.open_
          subst e
          exact ⟨rfl, rfl⟩
        have h6a : cs'.toArray.size = 6 := by simpa using h6
        have HRVr := Lib.hid hrvr
        have HCL := Lib.hid hcell
        have HB8 := Lib.hid (Blk.new wr 30 vz)
        have HBA : Hid (Below wr.heap.size wr (wr.alloc (.cells vz 30))) := (Below.refl _ _).alloc (Nat.le_refl _) _
        have HST := Lib.hid (bytL_step (m := true) (n := nms) hlt)
        have HCALL := Lib.hid (HIH.out i hlt)
        have HWI := Lib.hid (byt_len its[i])
        clear hr hrv hcell hcell0 hrvr HIH
        obtain ⟨wi, hwi⟩ : ∃ wi, wt its[i] = wi := ⟨_, rfl⟩
        rw [hwi] at HCALL HWI
        obtain ⟨BI, hbi⟩ : ∃ BI, byt its[i] = BI := ⟨_, rfl⟩
        rw [hbi] at HCALL HWI HST
        clear hwi hbi
        have hnl : nms.length = its.length := by first | exact HGN.out rfl | exact HGN.out trivial
        obtain ⟨bn, offn, hAn, hbn1, hbn2, hcelln⟩ := (HNM.out.below HBb.out).form (by omega)
        subst hAn
        have kn0 := hcelln i (by omega)
        rw [show (strs nms).getD i undef = .string (nms.getD i ⟨#[]⟩) by simp [List.getD, List.getElem?_eq_getElem (show i < nms.length by omega)]] at kn0
        have hns : (nms.getD i ⟨#[]⟩).size < 1048576 := HNS.out _ (by rw [List.getD_eq_getElem?_getD, List.getElem?_eq_getElem (show i < nms.length by omega)]; exact List.getElem_mem _)
        have dn : (i : Int) < (nms.length : Int) := by omega
        clear hcelln
        generalize nms.getD i ⟨#[]⟩ = nmi at *
        have HF7 : Hid (BY = ((ys ++ (leB 4 nmi.size ++ txB nmi)) ++ BI) ++ bytL true (its.drop (i + 1)) (nms.drop (i + 1))) := by
          show _ = _
          rw [HF.out, HST.out, List.append_assoc, List.append_assoc]; rfl
        have hnl4 : (leB 4 nmi.size ++ txB nmi).length = 4 + nmi.size := by rw [List.length_append, leB_len, txB_len]
        have hLX : nb + (4 + nmi.size) + wi ≤ 1099511627776 := by
          have h1 := congrArg List.length HF7.out
          have h2 := HWI.out
          have h3 : xs.length = n0 := by simpa using HO0.out.1
          rw [List.length_append, List.length_append, List.length_append, hnl4] at h1
          have h4 := HNB.out
          rw [List.length_append] at h4
          omega
        have HKN := Lib.hid kn0
        clear HST HF kn0
        go_upto_region 9 with (first
          | (refine wpList_load_at rfl 30 (.tmp 35) rfl b (off + i * 6) rfl cs' _ HCL.out Tryz.underlying30 rfl (by rw [h6]; exact v_info) ?_)
          | (refine wpList_storeB rfl 30 (.tmp 7) (.tmp 36) rfl rfl wr.heap.size cs'.toArray rfl rfl HB8.out (by rw [h6a]; exact v_info) (by rw [h6a]; rfl) hone ?_; intro w4 hB4 hg4 hz4))
        have hb4 : Below wr.heap.size wr w4 := HBA.out.grown hg4 (by simp) (fun _ h => by injection h with h; omega)
        have HA4 := Lib.hid (HAr.out.step hb4)
        have HX5 := Lib.hid (HXr.out.step hb4)
        have HY5 : Hid (Box w4 wr.heap.size cs') := ⟨hB4, hB4.lt⟩
        have HRD4 := Lib.hid (RdV.below HRVr.out (hb4.mono (Nat.le_trans HLO.out HBb.out.size)))
        have HBb4 := Lib.hid (HBb.out.trans (hb4.mono (Nat.le_trans HLO.out HBb.out.size)))
        have k0 : w4.cell? ⟨w.heap.size, 0, none⟩ = some (.int .i64 7) := (HX5.out.blk.cell 0).trans K0.out
        have HO4 : Hid (w4.ownsRow base 5 1 (.slice Ab nb cb) nb (u8s (xs ++ ys))) := by have := HA4.out.own; rw [HNB.out] at this; exact this
        have HBK4 : Hid (Below wr.heap.size wr w4) := hb4
        clear hg4 hz4 hb4 hB4 HBA HB8 HCL HRVr HXr HAr HBb
        have k5 : w4.cell? ⟨w.heap.size, 5, none⟩ = some (.slice (some ⟨bn, offn, none⟩) nms.length c') := (HX5.out.blk.cell 5).trans K5.out
        have kn : w4.cell? ⟨bn, offn + i, none⟩ = some (.string nmi) := (HBK4.out.cell (p := ⟨bn, offn + i, none⟩) hbn2).trans HKN.out
        go_wp2_with fail
        refine (c_counted nmi (by omega) w4).mono ?_; rintro e w5 ⟨v5, rfl, ho5, hb5⟩
        obtain ⟨A5, c5, hv5, hc5, hr5⟩ := own_reads ho5
        subst hv5
        rw [hnl4] at hr5
        have HA5 := Lib.hid (HA4.out.step hb5)
        have HO5 := Lib.hid (own_below HO4.out hb5)
        have HX55 := Lib.hid (HX5.out.step hb5)
        have HY55 := Lib.hid (HY5.out.step hb5)
        have HR5 := Lib.hid hr5
        have HB5s : Hid (base ≤ w4.heap.size) := Nat.le_trans HLO.out HBb4.out.size
        have HS5 : Hid (base ≤ w5.heap.size) := Nat.le_trans HB5s.out hb5.size
        have HRD5 := Lib.hid (RdV.below HRD4.out (hb5.mono HB5s.out))
        have HBb5 := Lib.hid (HBb4.out.trans (hb5.mono HB5s.out))
        clear k0 k5 kn hr5 hb5 ho5 HA4 HX5 HY5 HRD4 HBb4 HB5s HO4
        rw [hnl4]
        generalize hN : (leB 4 nmi.size ++ txB nmi) = NM at *
        go_upto_region 11 with (at_builtin; refine wpList_append_any _ rfl (.tmp 40) (.tmp 46) 23 rfl base 5 i0 _ 1 1 Tryz.underlying23 hi0 hz0 hz1 hz2 rfl (by omega) (.slice Ab nb cb) nb (u8s (xs ++ ys)) rfl HO5.out _ A5 (4 + nmi.size) c5 (u8s NM) rfl HR5.out (u8s_one _) (by simp only [maxLen]; omega) (by omega) HS5.out ?_; intro vb6 w6 hown6 hg6 _; have AD6 := Lib.hid (Adds.of (n1 := NM) HO5.out hnl4 hown6 hg6); clear hown6 hg6)
        have HA6 := Lib.hid (Adds.trans HA5.out AD6.out)
        have HX6 := Lib.hid (AD6.out.kp.box HX55.out)
        have HY6 := Lib.hid (AD6.out.kp.box HY55.out)
        have HRD6 := Lib.hid (RdV.below HRD5.out (AD6.out.kp.below (Nat.le_refl _) HS5.out))
        have HBb6 := Lib.hid (HBb5.out.trans (AD6.out.kp.below (Nat.le_refl _) HS5.out))
        obtain ⟨Ab6, cb6, hvb6⟩ := own_slice HA6.out.own
        obtain ⟨nb6, hnb6⟩ : ∃ n, (xs ++ (ys ++ NM)).length = n := ⟨_, rfl⟩
        rw [hnb6] at hvb6
        subst hvb6
        have HO6 : Hid (w6.ownsRow base 5 1 (.slice Ab6 nb6 cb6) nb6 (u8s (xs ++ (ys ++ NM)))) := by have := HA6.out.own; rw [hnb6] at this; exact this
        have HLL : Hid (nb6 + wi ≤ 1099511627776) := by
          have h4 := HNB.out
          rw [← List.append_assoc, List.length_append, hnl4] at hnb6
          show _ ≤ _
          omega
        clear hnb6
        clear HA5 HO5 HX55 HY55 HRD5 HBb5 HS5 HR5 AD6
        go_wp2_with (refine wpList_load_row rfl 30 (.tmp 7) rfl wr.heap.size rfl 30 _ (0, 0) _ HY6.out.blk Tryz.underlying30 rfl (by rw [h6a]; exact v_info) ?_)
        refine (HCALL.out cs' w6 Ab6 nb6 cb6 _ HRD6.out (Nat.le_trans HLO.out HBb6.out.size) HO6.out HLL.out).mono ?_; rintro e w7 ⟨v7, rfl, had7⟩
        have HA7 := Lib.hid (HA6.out.trans had7)
        have HX7 := Lib.hid (had7.kp.box HX6.out)
        obtain ⟨Ab7, cb7, hv7⟩ := own_slice HA7.out.own
        obtain ⟨nb7, hnb7⟩ : ∃ n, (xs ++ ((ys ++ NM) ++ BI)).length = n := ⟨_, rfl⟩
        rw [hnb7] at hv7
        subst hv7
        have HNB7 := Lib.hid hnb7
        clear hnb7
        clear had7 HCALL HO6 HLL HX6 HA6 HBb6 HRD6 HY6
        go_wp2_with fail
        go_roundw
        case rel => exact ⟨i + 1, _, nb7, Ab7, cb7, rfl, HNB7, by go_num, hlt, HF7, HA7, HX7⟩
        case measure => simp [intOf]; omega
      · have HE2 : Hid (BY = ys) := by
          have := HF.out
          rw [List.drop_eq_nil_of_le (show its.length ≤ i by omega), bytL, List.append_nil] at this
          exact this
        go_wp2_with fail
        go_ret
        exact ⟨_, rfl, by rw [HE2.out]; exact Adds.ahead HB.out HAr.out⟩
end Go.Proofs.YtacnoedhpamdmaaGreatDoor
