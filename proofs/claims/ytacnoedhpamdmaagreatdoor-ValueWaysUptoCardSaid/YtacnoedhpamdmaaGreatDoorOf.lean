/- Walks: a value's bytes behind others (quernref23.put). Conditions: the value as it reads below base; fields as the kinds say; bulk at most 1048576. -/
import Derived.Test.YtacnoedhpamdmaaGreatDoorOe
import Derived.Test.YtacnoedhpamdmaaGreatDoorOr
import Derived.Deep.RegionHeld3
namespace Go.Proofs.YtacnoedhpamdmaaGreatDoor
open Go.RowKit
set_option linter.unusedVariables false
attribute [local go_sem ↓] Go.wp_at_zero Go.wp_at_succ

theorem own_app {a : World} {base n : Nat} {v : Value} {xs ys zs : List Int} (h : a.ownsRow base 5 1 v n (u8s (xs ++ ys) ++ u8s zs)) : a.ownsRow base 5 1 v n (u8s (xs ++ (ys ++ zs))) := by
  rw [← List.append_assoc, show u8s (xs ++ ys ++ zs) = u8s (xs ++ ys) ++ u8s zs from List.map_append]; exact h
theorem Adds.ofS {a b : World} {base n : Nat} {v1 v2 : Value} {xs : List Int} {s : ByteArray} (h1 : a.ownsRow base 5 1 v1 n (u8s xs)) (ho : b.ownsRow base 5 1 v2 (n + s.size) (u8s xs ++ Lib.strCells s)) (hg : a.grownBy b v1.ownBlock) : Adds a b base v2 xs (txB s) :=
  Adds.of h1 (txB_len s) (by rw [strCells_u8] at ho; exact ho) hg
set_option maxRecDepth 100000 in
set_option maxHeartbeats 8000000 in
theorem c_put : ∀ (v : Val) (cs : List Value) (w : World) (base : Nat) (A0 : Option Addr) (n0 c0 : Nat) (xs : List Int), RdV w base v cs → wfV v → bnd v ≤ 1048576 → okV v → base ≤ w.heap.size → w.ownsRow base 5 1 (.slice A0 n0 c0) n0 (u8s xs) → n0 + wt v ≤ 1099511627776 →
    Calls Tryz.prog 61 #[.slice A0 n0 c0, .agg cs.toArray] w (AddsE w base xs (byt v)) := by
  refine Val.ind fun v ih cs w base A0 n0 c0 xs hrd hwf hbd hok hbase hown hlen => ?_
  have hgd := good_of hok
  have h : RV w v cs := ⟨hrd.more' hbase, hwf, hbd⟩
  have HR := Lib.hid h.row
  obtain ⟨i0, hi0, hz0, hz1, hz2⟩ := info_parts u8_info8
  have hilen : v.its.length < 1048577 := by have := (bnd_len v).1; omega
  have hnlen : v.nms.length < 1048577 := by have := (bnd_len v).2.1; omega
  have htl : v.t.size < 1048577 := by have := (bnd_len v).2.2; omega
  have HB : Hid (Below w.heap.size w (w.alloc (.cells cs.toArray 30))) := (Below.refl w.heap.size w).alloc (Nat.le_refl _) _
  have HX0 := Lib.hid (Box.new w cs)
  have HO0 := Lib.hid (own_below hown HB.out)
  have HLO := Lib.hid hbase
  obtain ⟨A, A', c, c', hvc, hnm, hop⟩ := hrd.open_
  have HNM := Lib.hid hnm
  have HOP := Lib.hid hop
  have HIH : Hid (∀ (i : Nat) (hi : i < v.its.length) (cs : List Value) (w : World) (A0 : Option Addr) (n0 c0 : Nat) (xs : List Int), RdV w base v.its[i] cs → base ≤ w.heap.size → w.ownsRow base 5 1 (.slice A0 n0 c0) n0 (u8s xs) → n0 + wt v.its[i] ≤ 1099511627776 →
    Calls Tryz.prog 61 #[.slice A0 n0 c0, .agg cs.toArray] w (AddsE w base xs (byt v.its[i]))) := fun i hi cs w A0 n0 c0 xs hr hb ho hl =>
    ih _ (List.getElem_mem hi) cs w base A0 n0 c0 xs hr (wfV_item hwf (List.getElem_mem hi)) (by have := bnd_item (List.getElem_mem hi); omega) (okV_item hok (List.getElem_mem hi)) hb ho hl
  have HNS : Hid (∀ s ∈ v.nms, s.size < 1048576) := fun s hs => by have h1 := sum_mem hs; have h2 := bnd_eq v; omega
  have HRD : Hid (∀ W, Below base w W → RdV W base v cs) := fun W hb => hrd.below hb
  have HRV : Hid (∀ W, Below base w W → RV W v cs) := fun W hb => ⟨(hrd.below hb).more' (Nat.le_trans hbase hb.size), hwf, hbd⟩
  have K1 : Hid (cs.toArray[1]? = some (.int .i64 v.i)) := by show _ = _; rw [hvc]; rfl
  have K2 : Hid (cs.toArray[2]? = some (.float .f64 v.f)) := by show _ = _; rw [hvc]; rfl
  have K3 : Hid (cs.toArray[3]? = some (.string v.t)) := by show _ = _; rw [hvc]; rfl
  have HI1 : Hid (v.k = 1 → v.i = 0 ∨ v.i = 1) := (leaf_of hok hwf hbd).i1
  have K0 : Hid (cs.toArray[0]? = some (.int .i64 v.k)) := by show _ = _; rw [hvc]; rfl
  have K4 : Hid (cs.toArray[4]? = some (.slice A v.its.length c)) := by show _ = _; rw [hvc]; rfl
  have K5 : Hid (cs.toArray[5]? = some (.slice A' v.nms.length c')) := by show _ = _; rw [hvc]; rfl
  have HGN : Hid (v.k = 7 → v.nms.length = v.its.length) := hgd.nm
  have HBY : Hid (byt v = v.k :: (leafB v.k v.i v.f v.t v.its.length ++ bytL (v.k == 7) v.its v.nms)) := byt_eq v
  have HLN : Hid ((byt v).length = wt v) := byt_len v
  have HLE : Hid (v.k ≠ 6 → v.k ≠ 7 → v.its = []) := fun h6 h7 => List.eq_nil_of_length_eq_zero (hgd.leaf h6 h7)
  have HFL : v.f < 18446744073709551616 := wfV_f hwf
  have HII := Lib.hid (wfV_own hwf)
  have HIR : Hid (-9223372036854775808 ≤ v.i ∧ v.i < 9223372036854775808) := (leaf_of hok hwf hbd).ir
  have HKK := hgd.k
  generalize byt v = BY at *
  clear hop ih h hvc hnm hok hgd hrd hwf hown hbase
  generalize wt v = W at *
  generalize v.its = its at *
  generalize v.nms = nms at *
  generalize v.k = k at *
  generalize v.i = iv at *
  generalize v.f = fv at *
  generalize v.t = t at *
  generalize bnd v = BD at *
  rcases HKK with hk | hk | hk | hk | hk | hk | hk | hk | hk
  · subst hk
    have hits : its = [] := HLE.out (by decide) (by decide)
    have HBY2 : Hid (BY = [0] ++ ([] : List Int)) := by
      show _ = _
      rw [HBY.out, hits, bytL, List.append_nil]; rfl
    have hl3 : ([] : List Int).length + 1 = W := by
      have := HLN.out
      rw [HBY2.out] at this
      simpa using this
    have HI1' := Lib.hid HI1.out
    clear HIH HOP HNM HGN HNS HRD HLE HBY HLN K5 HRV
    go_enter Tryz.func61, Tryz.ntmps61
    go_upto_region 1 with fail
    generalize w.alloc (.cells cs.toArray 30) = w0 at *
    have k0 : w0.cell? ⟨w.heap.size, 0, none⟩ = some (.int .i64 0) := (HX0.out.blk.cell 0).trans K0.out
    have HR1 := Lib.hid (Reads.of_own (World.ownsRow_lit (e := 5) (size := 1) (base := 0) w0 #[.int .u8 0] 1 (Nat.zero_le _) (by decide) rfl) : Reads (w0.alloc (.cells #[.int .u8 0] 5)) _ 1 (some ⟨w0.heap.size, 0, none⟩) 1 [.int .u8 0])
    have HBA : Hid (Below w0.heap.size w0 (w0.alloc (.cells #[.int .u8 0] 5))) := (Below.refl _ _).alloc (Nat.le_refl _) _
    have HOA := Lib.hid (own_below HO0.out HBA.out)
    have HBS : Hid (base ≤ (w0.alloc (.cells #[.int .u8 0] 5)).heap.size) := Nat.le_trans HLO.out (Nat.le_trans HB.out.size HBA.out.size)
    go_upto_region 2 with (at_builtin; refine wpList_append_any _ rfl (.tmp 6) (.tmp 10) 23 rfl base 5 i0 _ 1 1 Tryz.underlying23 hi0 hz0 hz1 hz2 rfl (by omega) (.slice A0 n0 c0) n0 (u8s xs) rfl HOA.out _ (some ⟨w0.heap.size, 0, none⟩) 1 1 [.int .u8 0] rfl HR1.out (by simp [Value.oneCell']) (by simp only [maxLen]; omega) (by omega) HBS.out ?_; intro v1 w1 hown1 hg1 _; have AD1 := Lib.hid (Adds.ahead HBA.out (Adds.of (n1 := [0]) HOA.out rfl hown1 hg1)); clear hown1 hg1)
    have HX1 := Lib.hid (AD1.out.kp.box HX0.out)
    have HS1 : Hid (base ≤ w1.heap.size) := Nat.le_trans HLO.out (Nat.le_trans HB.out.size AD1.out.kp.size)
    have HO1 : Hid (w1.ownsRow base 5 1 v1 (n0 + 1) (u8s (xs ++ [0]))) := by
      have := AD1.out.own
      rw [List.length_append, List.length_singleton, show xs.length = n0 by simpa using HO0.out.1] at this
      exact this
    clear k0 HR1 HBA HOA HBS HX0
    have k0 : w1.cell? ⟨w.heap.size, 0, none⟩ = some (.int .i64 0) := (HX1.out.blk.cell 0).trans K0.out
    have k1 : w1.cell? ⟨w.heap.size, 1, none⟩ = some (.int .i64 iv) := (HX1.out.blk.cell 1).trans K1.out
    have k2 : w1.cell? ⟨w.heap.size, 2, none⟩ = some (.float .f64 fv) := (HX1.out.blk.cell 2).trans K2.out
    have k3 : w1.cell? ⟨w.heap.size, 3, none⟩ = some (.string t) := (HX1.out.blk.cell 3).trans K3.out
    clear k1 k2 k3
    have k4 : w1.cell? ⟨w.heap.size, 4, none⟩ = some (.slice A 0 c) := by have := (HX1.out.blk.cell 4).trans K4.out; rw [hits] at this; exact this
    go_wp2_with fail
    go_loopw [0, 5] (fun vb vi wr => vi = .int .i64 0 ∧ vb = v1 ∧ wr = w1) (fun _ _ _ => 0)
    case atStart => exact ⟨rfl, rfl, rfl⟩
    case round =>
      obtain ⟨rfl, rfl, rfl⟩ := hrel
      go_wp2_with fail
      go_ret
      exact ⟨_, rfl, by rw [HBY2.out, List.append_nil]; exact Adds.ahead HB.out AD1.out⟩
  · subst hk
    have hits : its = [] := HLE.out (by decide) (by decide)
    have HBY2 : Hid (BY = [1] ++ ([if iv = 1 then 1 else 0])) := by
      show _ = _
      rw [HBY.out, hits, bytL, List.append_nil]; rfl
    have hl3 : ([if iv = 1 then 1 else 0]).length + 1 = W := by
      have := HLN.out
      rw [HBY2.out] at this
      simpa using this
    have HI1' := Lib.hid HI1.out
    clear HIH HOP HNM HGN HNS HRD HLE HBY HLN K5 HRV
    rcases HI1.out rfl with hiv | hiv
    · subst hiv
      go_enter Tryz.func61, Tryz.ntmps61
      go_upto_region 1 with fail
      generalize w.alloc (.cells cs.toArray 30) = w0 at *
      have k0 : w0.cell? ⟨w.heap.size, 0, none⟩ = some (.int .i64 1) := (HX0.out.blk.cell 0).trans K0.out
      have HR1 := Lib.hid (Reads.of_own (World.ownsRow_lit (e := 5) (size := 1) (base := 0) w0 #[.int .u8 1] 1 (Nat.zero_le _) (by decide) rfl) : Reads (w0.alloc (.cells #[.int .u8 1] 5)) _ 1 (some ⟨w0.heap.size, 0, none⟩) 1 [.int .u8 1])
      have HBA : Hid (Below w0.heap.size w0 (w0.alloc (.cells #[.int .u8 1] 5))) := (Below.refl _ _).alloc (Nat.le_refl _) _
      have HOA := Lib.hid (own_below HO0.out HBA.out)
      have HBS : Hid (base ≤ (w0.alloc (.cells #[.int .u8 1] 5)).heap.size) := Nat.le_trans HLO.out (Nat.le_trans HB.out.size HBA.out.size)
      go_upto_region 2 with (at_builtin; refine wpList_append_any _ rfl (.tmp 6) (.tmp 10) 23 rfl base 5 i0 _ 1 1 Tryz.underlying23 hi0 hz0 hz1 hz2 rfl (by omega) (.slice A0 n0 c0) n0 (u8s xs) rfl HOA.out _ (some ⟨w0.heap.size, 0, none⟩) 1 1 [.int .u8 1] rfl HR1.out (by simp [Value.oneCell']) (by simp only [maxLen]; omega) (by omega) HBS.out ?_; intro v1 w1 hown1 hg1 _; have AD1 := Lib.hid (Adds.ahead HBA.out (Adds.of (n1 := [1]) HOA.out rfl hown1 hg1)); clear hown1 hg1)
      have HX1 := Lib.hid (AD1.out.kp.box HX0.out)
      have HS1 : Hid (base ≤ w1.heap.size) := Nat.le_trans HLO.out (Nat.le_trans HB.out.size AD1.out.kp.size)
      have HO1 : Hid (w1.ownsRow base 5 1 v1 (n0 + 1) (u8s (xs ++ [1]))) := by
        have := AD1.out.own
        rw [List.length_append, List.length_singleton, show xs.length = n0 by simpa using HO0.out.1] at this
        exact this
      clear k0 HR1 HBA HOA HBS HX0
      have k0 : w1.cell? ⟨w.heap.size, 0, none⟩ = some (.int .i64 1) := (HX1.out.blk.cell 0).trans K0.out
      have k1 : w1.cell? ⟨w.heap.size, 1, none⟩ = some (.int .i64 0) := (HX1.out.blk.cell 1).trans K1.out
      have k2 : w1.cell? ⟨w.heap.size, 2, none⟩ = some (.float .f64 fv) := (HX1.out.blk.cell 2).trans K2.out
      have k3 : w1.cell? ⟨w.heap.size, 3, none⟩ = some (.string t) := (HX1.out.blk.cell 3).trans K3.out
      have HR1 := Lib.hid (Reads.of_own (World.ownsRow_lit (e := 5) (size := 1) (base := 0) w1 #[.int .u8 0] 1 (Nat.zero_le _) (by decide) rfl) : Reads (w1.alloc (.cells #[.int .u8 0] 5)) _ 1 (some ⟨w1.heap.size, 0, none⟩) 1 [.int .u8 0])
      have HBA : Hid (Below w1.heap.size w1 (w1.alloc (.cells #[.int .u8 0] 5))) := (Below.refl _ _).alloc (Nat.le_refl _) _
      have HOA := Lib.hid (own_below HO1.out HBA.out)
      have HX1' := Lib.hid (HX1.out.step HBA.out)
      have HBS : Hid (base ≤ (w1.alloc (.cells #[.int .u8 0] 5)).heap.size) := Nat.le_trans HS1.out HBA.out.size
      go_upto_region 17 with (at_builtin; refine wpList_append_any _ rfl (.tmp 16) (.tmp 20) 23 rfl base 5 i0 _ 1 1 Tryz.underlying23 hi0 hz0 hz1 hz2 rfl (by omega) v1 (n0 + 1) (u8s (xs ++ [1])) rfl HOA.out _ (some ⟨w1.heap.size, 0, none⟩) 1 1 [.int .u8 0] rfl HR1.out (by simp [Value.oneCell']) (by simp only [maxLen]; omega) (by omega) HBS.out ?_; intro v4 w4 hown4 hg4 _; have AD4 := Lib.hid (Adds.trans AD1.out (Adds.ahead HBA.out (Adds.of (n1 := [0]) HOA.out rfl hown4 hg4))); have HX4 := Lib.hid ((Kept8.of_grown HOA.out hg4).box HX1'.out); clear hown4 hg4)
      clear k0 k1 k2 k3 HR1 HBA HOA HX1' HBS
      have k4 : w4.cell? ⟨w.heap.size, 4, none⟩ = some (.slice A 0 c) := by have := (HX4.out.blk.cell 4).trans K4.out; rw [hits] at this; exact this
      go_wp2_with fail
      go_loopw [0, 5] (fun vb vi wr => vi = .int .i64 0 ∧ vb = v4 ∧ wr = w4) (fun _ _ _ => 0)
      case atStart => exact ⟨rfl, rfl, rfl⟩
      case round =>
        obtain ⟨rfl, rfl, rfl⟩ := hrel
        go_wp2_with fail
        go_ret
        exact ⟨_, rfl, by rw [HBY2.out]; exact Adds.ahead HB.out AD4.out⟩
    · subst hiv
      go_enter Tryz.func61, Tryz.ntmps61
      go_upto_region 1 with fail
      generalize w.alloc (.cells cs.toArray 30) = w0 at *
      have k0 : w0.cell? ⟨w.heap.size, 0, none⟩ = some (.int .i64 1) := (HX0.out.blk.cell 0).trans K0.out
      have HR1 := Lib.hid (Reads.of_own (World.ownsRow_lit (e := 5) (size := 1) (base := 0) w0 #[.int .u8 1] 1 (Nat.zero_le _) (by decide) rfl) : Reads (w0.alloc (.cells #[.int .u8 1] 5)) _ 1 (some ⟨w0.heap.size, 0, none⟩) 1 [.int .u8 1])
      have HBA : Hid (Below w0.heap.size w0 (w0.alloc (.cells #[.int .u8 1] 5))) := (Below.refl _ _).alloc (Nat.le_refl _) _
      have HOA := Lib.hid (own_below HO0.out HBA.out)
      have HBS : Hid (base ≤ (w0.alloc (.cells #[.int .u8 1] 5)).heap.size) := Nat.le_trans HLO.out (Nat.le_trans HB.out.size HBA.out.size)
      go_upto_region 2 with (at_builtin; refine wpList_append_any _ rfl (.tmp 6) (.tmp 10) 23 rfl base 5 i0 _ 1 1 Tryz.underlying23 hi0 hz0 hz1 hz2 rfl (by omega) (.slice A0 n0 c0) n0 (u8s xs) rfl HOA.out _ (some ⟨w0.heap.size, 0, none⟩) 1 1 [.int .u8 1] rfl HR1.out (by simp [Value.oneCell']) (by simp only [maxLen]; omega) (by omega) HBS.out ?_; intro v1 w1 hown1 hg1 _; have AD1 := Lib.hid (Adds.ahead HBA.out (Adds.of (n1 := [1]) HOA.out rfl hown1 hg1)); clear hown1 hg1)
      have HX1 := Lib.hid (AD1.out.kp.box HX0.out)
      have HS1 : Hid (base ≤ w1.heap.size) := Nat.le_trans HLO.out (Nat.le_trans HB.out.size AD1.out.kp.size)
      have HO1 : Hid (w1.ownsRow base 5 1 v1 (n0 + 1) (u8s (xs ++ [1]))) := by
        have := AD1.out.own
        rw [List.length_append, List.length_singleton, show xs.length = n0 by simpa using HO0.out.1] at this
        exact this
      clear k0 HR1 HBA HOA HBS HX0
      have k0 : w1.cell? ⟨w.heap.size, 0, none⟩ = some (.int .i64 1) := (HX1.out.blk.cell 0).trans K0.out
      have k1 : w1.cell? ⟨w.heap.size, 1, none⟩ = some (.int .i64 1) := (HX1.out.blk.cell 1).trans K1.out
      have k2 : w1.cell? ⟨w.heap.size, 2, none⟩ = some (.float .f64 fv) := (HX1.out.blk.cell 2).trans K2.out
      have k3 : w1.cell? ⟨w.heap.size, 3, none⟩ = some (.string t) := (HX1.out.blk.cell 3).trans K3.out
      have HR1 := Lib.hid (Reads.of_own (World.ownsRow_lit (e := 5) (size := 1) (base := 0) w1 #[.int .u8 1] 1 (Nat.zero_le _) (by decide) rfl) : Reads (w1.alloc (.cells #[.int .u8 1] 5)) _ 1 (some ⟨w1.heap.size, 0, none⟩) 1 [.int .u8 1])
      have HBA : Hid (Below w1.heap.size w1 (w1.alloc (.cells #[.int .u8 1] 5))) := (Below.refl _ _).alloc (Nat.le_refl _) _
      have HOA := Lib.hid (own_below HO1.out HBA.out)
      have HX1' := Lib.hid (HX1.out.step HBA.out)
      have HBS : Hid (base ≤ (w1.alloc (.cells #[.int .u8 1] 5)).heap.size) := Nat.le_trans HS1.out HBA.out.size
      go_upto_region 17 with (at_builtin; refine wpList_append_any _ rfl (.tmp 16) (.tmp 20) 23 rfl base 5 i0 _ 1 1 Tryz.underlying23 hi0 hz0 hz1 hz2 rfl (by omega) v1 (n0 + 1) (u8s (xs ++ [1])) rfl HOA.out _ (some ⟨w1.heap.size, 0, none⟩) 1 1 [.int .u8 1] rfl HR1.out (by simp [Value.oneCell']) (by simp only [maxLen]; omega) (by omega) HBS.out ?_; intro v4 w4 hown4 hg4 _; have AD4 := Lib.hid (Adds.trans AD1.out (Adds.ahead HBA.out (Adds.of (n1 := [1]) HOA.out rfl hown4 hg4))); have HX4 := Lib.hid ((Kept8.of_grown HOA.out hg4).box HX1'.out); clear hown4 hg4)
      clear k0 k1 k2 k3 HR1 HBA HOA HX1' HBS
      have k4 : w4.cell? ⟨w.heap.size, 4, none⟩ = some (.slice A 0 c) := by have := (HX4.out.blk.cell 4).trans K4.out; rw [hits] at this; exact this
      go_wp2_with fail
      go_loopw [0, 5] (fun vb vi wr => vi = .int .i64 0 ∧ vb = v4 ∧ wr = w4) (fun _ _ _ => 0)
      case atStart => exact ⟨rfl, rfl, rfl⟩
      case round =>
        obtain ⟨rfl, rfl, rfl⟩ := hrel
        go_wp2_with fail
        go_ret
        exact ⟨_, rfl, by rw [HBY2.out]; exact Adds.ahead HB.out AD4.out⟩
  · subst hk
    have hits : its = [] := HLE.out (by decide) (by decide)
    have HBY2 : Hid (BY = [2] ++ (leB 8 (u64N iv))) := by
      show _ = _
      rw [HBY.out, hits, bytL, List.append_nil]; rfl
    have hl3 : (leB 8 (u64N iv)).length + 1 = W := by
      have := HLN.out
      rw [HBY2.out] at this
      simpa using this
    have HI1' := Lib.hid HI1.out
    clear HIH HOP HNM HGN HNS HRD HLE HBY HLN K5 HRV
    go_enter Tryz.func61, Tryz.ntmps61
    go_upto_region 1 with fail
    generalize w.alloc (.cells cs.toArray 30) = w0 at *
    have k0 : w0.cell? ⟨w.heap.size, 0, none⟩ = some (.int .i64 2) := (HX0.out.blk.cell 0).trans K0.out
    have HR1 := Lib.hid (Reads.of_own (World.ownsRow_lit (e := 5) (size := 1) (base := 0) w0 #[.int .u8 2] 1 (Nat.zero_le _) (by decide) rfl) : Reads (w0.alloc (.cells #[.int .u8 2] 5)) _ 1 (some ⟨w0.heap.size, 0, none⟩) 1 [.int .u8 2])
    have HBA : Hid (Below w0.heap.size w0 (w0.alloc (.cells #[.int .u8 2] 5))) := (Below.refl _ _).alloc (Nat.le_refl _) _
    have HOA := Lib.hid (own_below HO0.out HBA.out)
    have HBS : Hid (base ≤ (w0.alloc (.cells #[.int .u8 2] 5)).heap.size) := Nat.le_trans HLO.out (Nat.le_trans HB.out.size HBA.out.size)
    go_upto_region 2 with (at_builtin; refine wpList_append_any _ rfl (.tmp 6) (.tmp 10) 23 rfl base 5 i0 _ 1 1 Tryz.underlying23 hi0 hz0 hz1 hz2 rfl (by omega) (.slice A0 n0 c0) n0 (u8s xs) rfl HOA.out _ (some ⟨w0.heap.size, 0, none⟩) 1 1 [.int .u8 2] rfl HR1.out (by simp [Value.oneCell']) (by simp only [maxLen]; omega) (by omega) HBS.out ?_; intro v1 w1 hown1 hg1 _; have AD1 := Lib.hid (Adds.ahead HBA.out (Adds.of (n1 := [2]) HOA.out rfl hown1 hg1)); clear hown1 hg1)
    have HX1 := Lib.hid (AD1.out.kp.box HX0.out)
    have HS1 : Hid (base ≤ w1.heap.size) := Nat.le_trans HLO.out (Nat.le_trans HB.out.size AD1.out.kp.size)
    have HO1 : Hid (w1.ownsRow base 5 1 v1 (n0 + 1) (u8s (xs ++ [2]))) := by
      have := AD1.out.own
      rw [List.length_append, List.length_singleton, show xs.length = n0 by simpa using HO0.out.1] at this
      exact this
    clear k0 HR1 HBA HOA HBS HX0
    have k0 : w1.cell? ⟨w.heap.size, 0, none⟩ = some (.int .i64 2) := (HX1.out.blk.cell 0).trans K0.out
    have k1 : w1.cell? ⟨w.heap.size, 1, none⟩ = some (.int .i64 iv) := (HX1.out.blk.cell 1).trans K1.out
    have k2 : w1.cell? ⟨w.heap.size, 2, none⟩ = some (.float .f64 fv) := (HX1.out.blk.cell 2).trans K2.out
    have k3 : w1.cell? ⟨w.heap.size, 3, none⟩ = some (.string t) := (HX1.out.blk.cell 3).trans K3.out
    have hir := HIR.out
    obtain ⟨hir1, hir2⟩ := hir
    have HCN := Lib.hid (fun W => c_rStore (u64N iv) 8 (by omega) (by unfold u64N; omega) W)
    rw [u64N_cast] at HCN
    go_wp2_with fail
    refine (HCN.out w1).mono ?_; rintro e w3 ⟨v3, rfl, ho3, hb3⟩
    obtain ⟨A3, c3, hv3, hc3, hr3⟩ := own_reads ho3
    subst hv3
    rw [leB_len] at hr3
    have HO3 := Lib.hid (own_below HO1.out hb3)
    have HX3 := Lib.hid (HX1.out.step hb3)
    have AD3 := Lib.hid (AD1.out.step hb3)
    have HR3 := Lib.hid hr3
    have HS3 : Hid (base ≤ w3.heap.size) := Nat.le_trans HS1.out hb3.size
    have k0 : w3.cell? ⟨w.heap.size, 0, none⟩ = some (.int .i64 2) := (HX3.out.blk.cell 0).trans K0.out
    have k3 : w3.cell? ⟨w.heap.size, 3, none⟩ = some (.string t) := (HX3.out.blk.cell 3).trans K3.out
    clear hr3 hb3 ho3 k1 k2
    rw [leB_len]
    go_upto_region 17 with (at_builtin; refine wpList_append_any _ rfl (.tmp 24) (.tmp 28) 23 rfl base 5 i0 _ 1 1 Tryz.underlying23 hi0 hz0 hz1 hz2 rfl (by omega) v1 (n0 + 1) (u8s (xs ++ [2])) rfl HO3.out _ A3 8 c3 (u8s (leB 8 (u64N iv))) rfl HR3.out (u8s_one _) (by simp only [maxLen]; omega) (by omega) HS3.out ?_; intro v4 w4 hown4 hg4 _; have HO4 := Lib.hid (own_app hown4); have AD4 := Lib.hid (Adds.trans AD3.out (Adds.of (n1 := leB 8 (u64N iv)) HO3.out (leB_len _ _) hown4 hg4)); have HX4 := Lib.hid ((Kept8.of_grown HO3.out hg4).box HX3.out); have HS4 : Hid (base ≤ w4.heap.size) := Nat.le_trans HS3.out hg4.size; clear hown4 hg4)
    clear k0 k3 HO3 HX3 AD3 HR3 HS3
    have k4 : w4.cell? ⟨w.heap.size, 4, none⟩ = some (.slice A 0 c) := by have := (HX4.out.blk.cell 4).trans K4.out; rw [hits] at this; exact this
    go_wp2_with fail
    go_loopw [0, 5] (fun vb vi wr => vi = .int .i64 0 ∧ vb = v4 ∧ wr = w4) (fun _ _ _ => 0)
    case atStart => exact ⟨rfl, rfl, rfl⟩
    case round =>
      obtain ⟨rfl, rfl, rfl⟩ := hrel
      go_wp2_with fail
      go_ret
      exact ⟨_, rfl, by rw [HBY2.out]; exact Adds.ahead HB.out AD4.out⟩
  · subst hk
    have hits : its = [] := HLE.out (by decide) (by decide)
    have HBY2 : Hid (BY = [3] ++ (leB 8 (fone fv))) := by
      show _ = _
      rw [HBY.out, hits, bytL, List.append_nil]; rfl
    have hl3 : (leB 8 (fone fv)).length + 1 = W := by
      have := HLN.out
      rw [HBY2.out] at this
      simpa using this
    have HI1' := Lib.hid HI1.out
    clear HIH HOP HNM HGN HNS HRD HLE HBY HLN K5 HRV
    go_enter Tryz.func61, Tryz.ntmps61
    go_upto_region 1 with fail
    generalize w.alloc (.cells cs.toArray 30) = w0 at *
    have k0 : w0.cell? ⟨w.heap.size, 0, none⟩ = some (.int .i64 3) := (HX0.out.blk.cell 0).trans K0.out
    have HR1 := Lib.hid (Reads.of_own (World.ownsRow_lit (e := 5) (size := 1) (base := 0) w0 #[.int .u8 3] 1 (Nat.zero_le _) (by decide) rfl) : Reads (w0.alloc (.cells #[.int .u8 3] 5)) _ 1 (some ⟨w0.heap.size, 0, none⟩) 1 [.int .u8 3])
    have HBA : Hid (Below w0.heap.size w0 (w0.alloc (.cells #[.int .u8 3] 5))) := (Below.refl _ _).alloc (Nat.le_refl _) _
    have HOA := Lib.hid (own_below HO0.out HBA.out)
    have HBS : Hid (base ≤ (w0.alloc (.cells #[.int .u8 3] 5)).heap.size) := Nat.le_trans HLO.out (Nat.le_trans HB.out.size HBA.out.size)
    go_upto_region 2 with (at_builtin; refine wpList_append_any _ rfl (.tmp 6) (.tmp 10) 23 rfl base 5 i0 _ 1 1 Tryz.underlying23 hi0 hz0 hz1 hz2 rfl (by omega) (.slice A0 n0 c0) n0 (u8s xs) rfl HOA.out _ (some ⟨w0.heap.size, 0, none⟩) 1 1 [.int .u8 3] rfl HR1.out (by simp [Value.oneCell']) (by simp only [maxLen]; omega) (by omega) HBS.out ?_; intro v1 w1 hown1 hg1 _; have AD1 := Lib.hid (Adds.ahead HBA.out (Adds.of (n1 := [3]) HOA.out rfl hown1 hg1)); clear hown1 hg1)
    have HX1 := Lib.hid (AD1.out.kp.box HX0.out)
    have HS1 : Hid (base ≤ w1.heap.size) := Nat.le_trans HLO.out (Nat.le_trans HB.out.size AD1.out.kp.size)
    have HO1 : Hid (w1.ownsRow base 5 1 v1 (n0 + 1) (u8s (xs ++ [3]))) := by
      have := AD1.out.own
      rw [List.length_append, List.length_singleton, show xs.length = n0 by simpa using HO0.out.1] at this
      exact this
    clear k0 HR1 HBA HOA HBS HX0
    have k0 : w1.cell? ⟨w.heap.size, 0, none⟩ = some (.int .i64 3) := (HX1.out.blk.cell 0).trans K0.out
    have k1 : w1.cell? ⟨w.heap.size, 1, none⟩ = some (.int .i64 iv) := (HX1.out.blk.cell 1).trans K1.out
    have k2 : w1.cell? ⟨w.heap.size, 2, none⟩ = some (.float .f64 fv) := (HX1.out.blk.cell 2).trans K2.out
    have k3 : w1.cell? ⟨w.heap.size, 3, none⟩ = some (.string t) := (HX1.out.blk.cell 3).trans K3.out
    have HFO := Lib.hid (fone_lt HFL)
    go_wp2_with fail
    refine (c_rOne fv w1).mono ?_; rintro e w2 ⟨rfl, rfl⟩
    go_wp2_with fail
    refine (c_rStore (fone fv) 8 (by omega) HFO.out w1).mono ?_; rintro e w3 ⟨v3, rfl, ho3, hb3⟩
    obtain ⟨A3, c3, hv3, hc3, hr3⟩ := own_reads ho3
    subst hv3
    rw [leB_len] at hr3
    have HO3 := Lib.hid (own_below HO1.out hb3)
    have HX3 := Lib.hid (HX1.out.step hb3)
    have AD3 := Lib.hid (AD1.out.step hb3)
    have HR3 := Lib.hid hr3
    have HS3 : Hid (base ≤ w3.heap.size) := Nat.le_trans HS1.out hb3.size
    have k0 : w3.cell? ⟨w.heap.size, 0, none⟩ = some (.int .i64 3) := (HX3.out.blk.cell 0).trans K0.out
    have k3 : w3.cell? ⟨w.heap.size, 3, none⟩ = some (.string t) := (HX3.out.blk.cell 3).trans K3.out
    clear hr3 hb3 ho3 k1 k2
    rw [leB_len]
    go_upto_region 17 with (at_builtin; refine wpList_append_any _ rfl (.tmp 32) (.tmp 36) 23 rfl base 5 i0 _ 1 1 Tryz.underlying23 hi0 hz0 hz1 hz2 rfl (by omega) v1 (n0 + 1) (u8s (xs ++ [3])) rfl HO3.out _ A3 8 c3 (u8s (leB 8 (fone fv))) rfl HR3.out (u8s_one _) (by simp only [maxLen]; omega) (by omega) HS3.out ?_; intro v4 w4 hown4 hg4 _; have HO4 := Lib.hid (own_app hown4); have AD4 := Lib.hid (Adds.trans AD3.out (Adds.of (n1 := leB 8 (fone fv)) HO3.out (leB_len _ _) hown4 hg4)); have HX4 := Lib.hid ((Kept8.of_grown HO3.out hg4).box HX3.out); have HS4 : Hid (base ≤ w4.heap.size) := Nat.le_trans HS3.out hg4.size; clear hown4 hg4)
    clear k0 k3 HO3 HX3 AD3 HR3 HS3
    have k4 : w4.cell? ⟨w.heap.size, 4, none⟩ = some (.slice A 0 c) := by have := (HX4.out.blk.cell 4).trans K4.out; rw [hits] at this; exact this
    go_wp2_with fail
    go_loopw [0, 5] (fun vb vi wr => vi = .int .i64 0 ∧ vb = v4 ∧ wr = w4) (fun _ _ _ => 0)
    case atStart => exact ⟨rfl, rfl, rfl⟩
    case round =>
      obtain ⟨rfl, rfl, rfl⟩ := hrel
      go_wp2_with fail
      go_ret
      exact ⟨_, rfl, by rw [HBY2.out]; exact Adds.ahead HB.out AD4.out⟩
  · subst hk
    have hits : its = [] := HLE.out (by decide) (by decide)
    have HBY2 : Hid (BY = [4] ++ (leB 4 t.size ++ txB t)) := by
      show _ = _
      rw [HBY.out, hits, bytL, List.append_nil]; rfl
    have hl3 : (leB 4 t.size ++ txB t).length + 1 = W := by
      have := HLN.out
      rw [HBY2.out] at this
      simpa using this
    have HI1' := Lib.hid HI1.out
    clear HIH HOP HNM HGN HNS HRD HLE HBY HLN K5 HRV
    go_enter Tryz.func61, Tryz.ntmps61
    go_upto_region 1 with fail
    generalize w.alloc (.cells cs.toArray 30) = w0 at *
    have k0 : w0.cell? ⟨w.heap.size, 0, none⟩ = some (.int .i64 4) := (HX0.out.blk.cell 0).trans K0.out
    have HR1 := Lib.hid (Reads.of_own (World.ownsRow_lit (e := 5) (size := 1) (base := 0) w0 #[.int .u8 4] 1 (Nat.zero_le _) (by decide) rfl) : Reads (w0.alloc (.cells #[.int .u8 4] 5)) _ 1 (some ⟨w0.heap.size, 0, none⟩) 1 [.int .u8 4])
    have HBA : Hid (Below w0.heap.size w0 (w0.alloc (.cells #[.int .u8 4] 5))) := (Below.refl _ _).alloc (Nat.le_refl _) _
    have HOA := Lib.hid (own_below HO0.out HBA.out)
    have HBS : Hid (base ≤ (w0.alloc (.cells #[.int .u8 4] 5)).heap.size) := Nat.le_trans HLO.out (Nat.le_trans HB.out.size HBA.out.size)
    go_upto_region 2 with (at_builtin; refine wpList_append_any _ rfl (.tmp 6) (.tmp 10) 23 rfl base 5 i0 _ 1 1 Tryz.underlying23 hi0 hz0 hz1 hz2 rfl (by omega) (.slice A0 n0 c0) n0 (u8s xs) rfl HOA.out _ (some ⟨w0.heap.size, 0, none⟩) 1 1 [.int .u8 4] rfl HR1.out (by simp [Value.oneCell']) (by simp only [maxLen]; omega) (by omega) HBS.out ?_; intro v1 w1 hown1 hg1 _; have AD1 := Lib.hid (Adds.ahead HBA.out (Adds.of (n1 := [4]) HOA.out rfl hown1 hg1)); clear hown1 hg1)
    have HX1 := Lib.hid (AD1.out.kp.box HX0.out)
    have HS1 : Hid (base ≤ w1.heap.size) := Nat.le_trans HLO.out (Nat.le_trans HB.out.size AD1.out.kp.size)
    have HO1 : Hid (w1.ownsRow base 5 1 v1 (n0 + 1) (u8s (xs ++ [4]))) := by
      have := AD1.out.own
      rw [List.length_append, List.length_singleton, show xs.length = n0 by simpa using HO0.out.1] at this
      exact this
    clear k0 HR1 HBA HOA HBS HX0
    have k0 : w1.cell? ⟨w.heap.size, 0, none⟩ = some (.int .i64 4) := (HX1.out.blk.cell 0).trans K0.out
    have k1 : w1.cell? ⟨w.heap.size, 1, none⟩ = some (.int .i64 iv) := (HX1.out.blk.cell 1).trans K1.out
    have k2 : w1.cell? ⟨w.heap.size, 2, none⟩ = some (.float .f64 fv) := (HX1.out.blk.cell 2).trans K2.out
    have k3 : w1.cell? ⟨w.heap.size, 3, none⟩ = some (.string t) := (HX1.out.blk.cell 3).trans K3.out
    go_wp2_with fail
    refine (c_number t.size (by omega) w1).mono ?_; rintro e w3 ⟨v3, rfl, ho3, hb3⟩
    obtain ⟨A3, c3, hv3, hc3, hr3⟩ := own_reads ho3
    subst hv3
    rw [leB_len] at hr3
    have HO3 := Lib.hid (own_below HO1.out hb3)
    have HX3 := Lib.hid (HX1.out.step hb3)
    have AD3 := Lib.hid (AD1.out.step hb3)
    have HR3 := Lib.hid hr3
    have HS3 : Hid (base ≤ w3.heap.size) := Nat.le_trans HS1.out hb3.size
    have k0 : w3.cell? ⟨w.heap.size, 0, none⟩ = some (.int .i64 4) := (HX3.out.blk.cell 0).trans K0.out
    have k3 : w3.cell? ⟨w.heap.size, 3, none⟩ = some (.string t) := (HX3.out.blk.cell 3).trans K3.out
    clear hr3 hb3 ho3 k1 k2
    rw [leB_len]
    go_upto_region 13 with (at_builtin; refine wpList_append_any _ rfl (.tmp 42) (.tmp 46) 23 rfl base 5 i0 _ 1 1 Tryz.underlying23 hi0 hz0 hz1 hz2 rfl (by omega) v1 (n0 + 1) (u8s (xs ++ [4])) rfl HO3.out _ A3 4 c3 (u8s (leB 4 t.size)) rfl HR3.out (u8s_one _) (by simp only [maxLen]; omega) (by omega) HS3.out ?_; intro v4 w4 hown4 hg4 _; have HO4 := Lib.hid (own_app hown4); have AD4 := Lib.hid (Adds.trans AD3.out (Adds.of (n1 := leB 4 t.size) HO3.out (leB_len _ _) hown4 hg4)); have HX4 := Lib.hid ((Kept8.of_grown HO3.out hg4).box HX3.out); have HS4 : Hid (base ≤ w4.heap.size) := Nat.le_trans HS3.out hg4.size; clear hown4 hg4)
    clear k0 k3 HO3 HX3 AD3 HR3 HS3
    have k3 : w4.cell? ⟨w.heap.size, 3, none⟩ = some (.string t) := (HX4.out.blk.cell 3).trans K3.out
    have hle : n0 + 1 + 4 + t.size ≤ 1099511627777 := by rw [List.length_append, leB_len, txB_len] at hl3; omega
    go_upto_region 17 with (at_builtin; refine Lib.wpList_append_own_string _ rfl (.tmp 48) (.tmp 50) 23 9 rfl base 5 i0 Tryz.underlying23 Tryz.underlying9 hi0 hz0 hz1 hz2 v4 (n0 + 1 + 4) _ rfl HO4.out t rfl (by simp only [maxLen]; omega) (by omega) HS4.out ?_; intro v5 w5 ho5 hg5 _; have AD5 := Lib.hid (Adds.trans AD4.out (Adds.ofS HO4.out ho5 hg5)); have HX5 := Lib.hid ((Kept8.of_grown HO4.out hg5).box HX4.out); clear ho5 hg5)
    clear k3
    have k4 : w5.cell? ⟨w.heap.size, 4, none⟩ = some (.slice A 0 c) := by have := (HX5.out.blk.cell 4).trans K4.out; rw [hits] at this; exact this
    go_wp2_with fail
    go_loopw [0, 5] (fun vb vi wr => vi = .int .i64 0 ∧ vb = v5 ∧ wr = w5) (fun _ _ _ => 0)
    case atStart => exact ⟨rfl, rfl, rfl⟩
    case round =>
      obtain ⟨rfl, rfl, rfl⟩ := hrel
      go_wp2_with fail
      go_ret
      exact ⟨_, rfl, by rw [HBY2.out, ← List.append_assoc]; exact Adds.ahead HB.out AD5.out⟩
  · subst hk
    have hits : its = [] := HLE.out (by decide) (by decide)
    have HBY2 : Hid (BY = [5] ++ (leB 4 t.size ++ txB t)) := by
      show _ = _
      rw [HBY.out, hits, bytL, List.append_nil]; rfl
    have hl3 : (leB 4 t.size ++ txB t).length + 1 = W := by
      have := HLN.out
      rw [HBY2.out] at this
      simpa using this
    have HI1' := Lib.hid HI1.out
    clear HIH HOP HNM HGN HNS HRD HLE HBY HLN K5 HRV
    go_enter Tryz.func61, Tryz.ntmps61
    go_upto_region 1 with fail
    generalize w.alloc (.cells cs.toArray 30) = w0 at *
    have k0 : w0.cell? ⟨w.heap.size, 0, none⟩ = some (.int .i64 5) := (HX0.out.blk.cell 0).trans K0.out
    have HR1 := Lib.hid (Reads.of_own (World.ownsRow_lit (e := 5) (size := 1) (base := 0) w0 #[.int .u8 5] 1 (Nat.zero_le _) (by decide) rfl) : Reads (w0.alloc (.cells #[.int .u8 5] 5)) _ 1 (some ⟨w0.heap.size, 0, none⟩) 1 [.int .u8 5])
    have HBA : Hid (Below w0.heap.size w0 (w0.alloc (.cells #[.int .u8 5] 5))) := (Below.refl _ _).alloc (Nat.le_refl _) _
    have HOA := Lib.hid (own_below HO0.out HBA.out)
    have HBS : Hid (base ≤ (w0.alloc (.cells #[.int .u8 5] 5)).heap.size) := Nat.le_trans HLO.out (Nat.le_trans HB.out.size HBA.out.size)
    go_upto_region 2 with (at_builtin; refine wpList_append_any _ rfl (.tmp 6) (.tmp 10) 23 rfl base 5 i0 _ 1 1 Tryz.underlying23 hi0 hz0 hz1 hz2 rfl (by omega) (.slice A0 n0 c0) n0 (u8s xs) rfl HOA.out _ (some ⟨w0.heap.size, 0, none⟩) 1 1 [.int .u8 5] rfl HR1.out (by simp [Value.oneCell']) (by simp only [maxLen]; omega) (by omega) HBS.out ?_; intro v1 w1 hown1 hg1 _; have AD1 := Lib.hid (Adds.ahead HBA.out (Adds.of (n1 := [5]) HOA.out rfl hown1 hg1)); clear hown1 hg1)
    have HX1 := Lib.hid (AD1.out.kp.box HX0.out)
    have HS1 : Hid (base ≤ w1.heap.size) := Nat.le_trans HLO.out (Nat.le_trans HB.out.size AD1.out.kp.size)
    have HO1 : Hid (w1.ownsRow base 5 1 v1 (n0 + 1) (u8s (xs ++ [5]))) := by
      have := AD1.out.own
      rw [List.length_append, List.length_singleton, show xs.length = n0 by simpa using HO0.out.1] at this
      exact this
    clear k0 HR1 HBA HOA HBS HX0
    have k0 : w1.cell? ⟨w.heap.size, 0, none⟩ = some (.int .i64 5) := (HX1.out.blk.cell 0).trans K0.out
    have k1 : w1.cell? ⟨w.heap.size, 1, none⟩ = some (.int .i64 iv) := (HX1.out.blk.cell 1).trans K1.out
    have k2 : w1.cell? ⟨w.heap.size, 2, none⟩ = some (.float .f64 fv) := (HX1.out.blk.cell 2).trans K2.out
    have k3 : w1.cell? ⟨w.heap.size, 3, none⟩ = some (.string t) := (HX1.out.blk.cell 3).trans K3.out
    go_wp2_with fail
    refine (c_number t.size (by omega) w1).mono ?_; rintro e w3 ⟨v3, rfl, ho3, hb3⟩
    obtain ⟨A3, c3, hv3, hc3, hr3⟩ := own_reads ho3
    subst hv3
    rw [leB_len] at hr3
    have HO3 := Lib.hid (own_below HO1.out hb3)
    have HX3 := Lib.hid (HX1.out.step hb3)
    have AD3 := Lib.hid (AD1.out.step hb3)
    have HR3 := Lib.hid hr3
    have HS3 : Hid (base ≤ w3.heap.size) := Nat.le_trans HS1.out hb3.size
    have k0 : w3.cell? ⟨w.heap.size, 0, none⟩ = some (.int .i64 5) := (HX3.out.blk.cell 0).trans K0.out
    have k3 : w3.cell? ⟨w.heap.size, 3, none⟩ = some (.string t) := (HX3.out.blk.cell 3).trans K3.out
    clear hr3 hb3 ho3 k1 k2
    rw [leB_len]
    go_upto_region 13 with (at_builtin; refine wpList_append_any _ rfl (.tmp 42) (.tmp 46) 23 rfl base 5 i0 _ 1 1 Tryz.underlying23 hi0 hz0 hz1 hz2 rfl (by omega) v1 (n0 + 1) (u8s (xs ++ [5])) rfl HO3.out _ A3 4 c3 (u8s (leB 4 t.size)) rfl HR3.out (u8s_one _) (by simp only [maxLen]; omega) (by omega) HS3.out ?_; intro v4 w4 hown4 hg4 _; have HO4 := Lib.hid (own_app hown4); have AD4 := Lib.hid (Adds.trans AD3.out (Adds.of (n1 := leB 4 t.size) HO3.out (leB_len _ _) hown4 hg4)); have HX4 := Lib.hid ((Kept8.of_grown HO3.out hg4).box HX3.out); have HS4 : Hid (base ≤ w4.heap.size) := Nat.le_trans HS3.out hg4.size; clear hown4 hg4)
    clear k0 k3 HO3 HX3 AD3 HR3 HS3
    have k3 : w4.cell? ⟨w.heap.size, 3, none⟩ = some (.string t) := (HX4.out.blk.cell 3).trans K3.out
    have hle : n0 + 1 + 4 + t.size ≤ 1099511627777 := by rw [List.length_append, leB_len, txB_len] at hl3; omega
    go_upto_region 17 with (at_builtin; refine Lib.wpList_append_own_string _ rfl (.tmp 48) (.tmp 50) 23 9 rfl base 5 i0 Tryz.underlying23 Tryz.underlying9 hi0 hz0 hz1 hz2 v4 (n0 + 1 + 4) _ rfl HO4.out t rfl (by simp only [maxLen]; omega) (by omega) HS4.out ?_; intro v5 w5 ho5 hg5 _; have AD5 := Lib.hid (Adds.trans AD4.out (Adds.ofS HO4.out ho5 hg5)); have HX5 := Lib.hid ((Kept8.of_grown HO4.out hg5).box HX4.out); clear ho5 hg5)
    clear k3
    have k4 : w5.cell? ⟨w.heap.size, 4, none⟩ = some (.slice A 0 c) := by have := (HX5.out.blk.cell 4).trans K4.out; rw [hits] at this; exact this
    go_wp2_with fail
    go_loopw [0, 5] (fun vb vi wr => vi = .int .i64 0 ∧ vb = v5 ∧ wr = w5) (fun _ _ _ => 0)
    case atStart => exact ⟨rfl, rfl, rfl⟩
    case round =>
      obtain ⟨rfl, rfl, rfl⟩ := hrel
      go_wp2_with fail
      go_ret
      exact ⟨_, rfl, by rw [HBY2.out, ← List.append_assoc]; exact Adds.ahead HB.out AD5.out⟩
  · subst hk
    have hits : its = [] := HLE.out (by decide) (by decide)
    have HBY2 : Hid (BY = [8] ++ (leB 4 t.size ++ txB t)) := by
      show _ = _
      rw [HBY.out, hits, bytL, List.append_nil]; rfl
    have hl3 : (leB 4 t.size ++ txB t).length + 1 = W := by
      have := HLN.out
      rw [HBY2.out] at this
      simpa using this
    have HI1' := Lib.hid HI1.out
    clear HIH HOP HNM HGN HNS HRD HLE HBY HLN K5 HRV
    go_enter Tryz.func61, Tryz.ntmps61
    go_upto_region 1 with fail
    generalize w.alloc (.cells cs.toArray 30) = w0 at *
    have k0 : w0.cell? ⟨w.heap.size, 0, none⟩ = some (.int .i64 8) := (HX0.out.blk.cell 0).trans K0.out
    have HR1 := Lib.hid (Reads.of_own (World.ownsRow_lit (e := 5) (size := 1) (base := 0) w0 #[.int .u8 8] 1 (Nat.zero_le _) (by decide) rfl) : Reads (w0.alloc (.cells #[.int .u8 8] 5)) _ 1 (some ⟨w0.heap.size, 0, none⟩) 1 [.int .u8 8])
    have HBA : Hid (Below w0.heap.size w0 (w0.alloc (.cells #[.int .u8 8] 5))) := (Below.refl _ _).alloc (Nat.le_refl _) _
    have HOA := Lib.hid (own_below HO0.out HBA.out)
    have HBS : Hid (base ≤ (w0.alloc (.cells #[.int .u8 8] 5)).heap.size) := Nat.le_trans HLO.out (Nat.le_trans HB.out.size HBA.out.size)
    go_upto_region 2 with (at_builtin; refine wpList_append_any _ rfl (.tmp 6) (.tmp 10) 23 rfl base 5 i0 _ 1 1 Tryz.underlying23 hi0 hz0 hz1 hz2 rfl (by omega) (.slice A0 n0 c0) n0 (u8s xs) rfl HOA.out _ (some ⟨w0.heap.size, 0, none⟩) 1 1 [.int .u8 8] rfl HR1.out (by simp [Value.oneCell']) (by simp only [maxLen]; omega) (by omega) HBS.out ?_; intro v1 w1 hown1 hg1 _; have AD1 := Lib.hid (Adds.ahead HBA.out (Adds.of (n1 := [8]) HOA.out rfl hown1 hg1)); clear hown1 hg1)
    have HX1 := Lib.hid (AD1.out.kp.box HX0.out)
    have HS1 : Hid (base ≤ w1.heap.size) := Nat.le_trans HLO.out (Nat.le_trans HB.out.size AD1.out.kp.size)
    have HO1 : Hid (w1.ownsRow base 5 1 v1 (n0 + 1) (u8s (xs ++ [8]))) := by
      have := AD1.out.own
      rw [List.length_append, List.length_singleton, show xs.length = n0 by simpa using HO0.out.1] at this
      exact this
    clear k0 HR1 HBA HOA HBS HX0
    have k0 : w1.cell? ⟨w.heap.size, 0, none⟩ = some (.int .i64 8) := (HX1.out.blk.cell 0).trans K0.out
    have k1 : w1.cell? ⟨w.heap.size, 1, none⟩ = some (.int .i64 iv) := (HX1.out.blk.cell 1).trans K1.out
    have k2 : w1.cell? ⟨w.heap.size, 2, none⟩ = some (.float .f64 fv) := (HX1.out.blk.cell 2).trans K2.out
    have k3 : w1.cell? ⟨w.heap.size, 3, none⟩ = some (.string t) := (HX1.out.blk.cell 3).trans K3.out
    go_wp2_with fail
    refine (c_number t.size (by omega) w1).mono ?_; rintro e w3 ⟨v3, rfl, ho3, hb3⟩
    obtain ⟨A3, c3, hv3, hc3, hr3⟩ := own_reads ho3
    subst hv3
    rw [leB_len] at hr3
    have HO3 := Lib.hid (own_below HO1.out hb3)
    have HX3 := Lib.hid (HX1.out.step hb3)
    have AD3 := Lib.hid (AD1.out.step hb3)
    have HR3 := Lib.hid hr3
    have HS3 : Hid (base ≤ w3.heap.size) := Nat.le_trans HS1.out hb3.size
    have k0 : w3.cell? ⟨w.heap.size, 0, none⟩ = some (.int .i64 8) := (HX3.out.blk.cell 0).trans K0.out
    have k3 : w3.cell? ⟨w.heap.size, 3, none⟩ = some (.string t) := (HX3.out.blk.cell 3).trans K3.out
    clear hr3 hb3 ho3 k1 k2
    rw [leB_len]
    go_upto_region 13 with (at_builtin; refine wpList_append_any _ rfl (.tmp 42) (.tmp 46) 23 rfl base 5 i0 _ 1 1 Tryz.underlying23 hi0 hz0 hz1 hz2 rfl (by omega) v1 (n0 + 1) (u8s (xs ++ [8])) rfl HO3.out _ A3 4 c3 (u8s (leB 4 t.size)) rfl HR3.out (u8s_one _) (by simp only [maxLen]; omega) (by omega) HS3.out ?_; intro v4 w4 hown4 hg4 _; have HO4 := Lib.hid (own_app hown4); have AD4 := Lib.hid (Adds.trans AD3.out (Adds.of (n1 := leB 4 t.size) HO3.out (leB_len _ _) hown4 hg4)); have HX4 := Lib.hid ((Kept8.of_grown HO3.out hg4).box HX3.out); have HS4 : Hid (base ≤ w4.heap.size) := Nat.le_trans HS3.out hg4.size; clear hown4 hg4)
    clear k0 k3 HO3 HX3 AD3 HR3 HS3
    have k3 : w4.cell? ⟨w.heap.size, 3, none⟩ = some (.string t) := (HX4.out.blk.cell 3).trans K3.out
    have hle : n0 + 1 + 4 + t.size ≤ 1099511627777 := by rw [List.length_append, leB_len, txB_len] at hl3; omega
    go_upto_region 17 with (at_builtin; refine Lib.wpList_append_own_string _ rfl (.tmp 48) (.tmp 50) 23 9 rfl base 5 i0 Tryz.underlying23 Tryz.underlying9 hi0 hz0 hz1 hz2 v4 (n0 + 1 + 4) _ rfl HO4.out t rfl (by simp only [maxLen]; omega) (by omega) HS4.out ?_; intro v5 w5 ho5 hg5 _; have AD5 := Lib.hid (Adds.trans AD4.out (Adds.ofS HO4.out ho5 hg5)); have HX5 := Lib.hid ((Kept8.of_grown HO4.out hg5).box HX4.out); clear ho5 hg5)
    clear k3
    have k4 : w5.cell? ⟨w.heap.size, 4, none⟩ = some (.slice A 0 c) := by have := (HX5.out.blk.cell 4).trans K4.out; rw [hits] at this; exact this
    go_wp2_with fail
    go_loopw [0, 5] (fun vb vi wr => vi = .int .i64 0 ∧ vb = v5 ∧ wr = w5) (fun _ _ _ => 0)
    case atStart => exact ⟨rfl, rfl, rfl⟩
    case round =>
      obtain ⟨rfl, rfl, rfl⟩ := hrel
      go_wp2_with fail
      go_ret
      exact ⟨_, rfl, by rw [HBY2.out, ← List.append_assoc]; exact Adds.ahead HB.out AD5.out⟩
  · subst hk
    have HBY2 : Hid (BY = ([6] ++ leB 4 its.length) ++ bytL false its nms) := HBY.out
    have hlb : BY.length = W := HLN.out
    clear HLE HBY HLN HRD
    go_enter Tryz.func61, Tryz.ntmps61
    go_upto_region 1 with fail
    generalize w.alloc (.cells cs.toArray 30) = w0 at *
    have k0 : w0.cell? ⟨w.heap.size, 0, none⟩ = some (.int .i64 6) := (HX0.out.blk.cell 0).trans K0.out
    have HR1 := Lib.hid (Reads.of_own (World.ownsRow_lit (e := 5) (size := 1) (base := 0) w0 #[.int .u8 6] 1 (Nat.zero_le _) (by decide) rfl) : Reads (w0.alloc (.cells #[.int .u8 6] 5)) _ 1 (some ⟨w0.heap.size, 0, none⟩) 1 [.int .u8 6])
    have HBA : Hid (Below w0.heap.size w0 (w0.alloc (.cells #[.int .u8 6] 5))) := (Below.refl _ _).alloc (Nat.le_refl _) _
    have HOA := Lib.hid (own_below HO0.out HBA.out)
    have HBS : Hid (base ≤ (w0.alloc (.cells #[.int .u8 6] 5)).heap.size) := Nat.le_trans HLO.out (Nat.le_trans HB.out.size HBA.out.size)
    go_upto_region 2 with (at_builtin; refine wpList_append_any _ rfl (.tmp 6) (.tmp 10) 23 rfl base 5 i0 _ 1 1 Tryz.underlying23 hi0 hz0 hz1 hz2 rfl (by omega) (.slice A0 n0 c0) n0 (u8s xs) rfl HOA.out _ (some ⟨w0.heap.size, 0, none⟩) 1 1 [.int .u8 6] rfl HR1.out (by simp [Value.oneCell']) (by simp only [maxLen]; omega) (by omega) HBS.out ?_; intro v1 w1 hown1 hg1 _; have AD1 := Lib.hid (Adds.ahead HBA.out (Adds.of (n1 := [6]) HOA.out rfl hown1 hg1)); clear hown1 hg1)
    have HX1 := Lib.hid (AD1.out.kp.box HX0.out)
    have HS1 : Hid (base ≤ w1.heap.size) := Nat.le_trans HLO.out (Nat.le_trans HB.out.size AD1.out.kp.size)
    have HO1 : Hid (w1.ownsRow base 5 1 v1 (n0 + 1) (u8s (xs ++ [6]))) := by
      have := AD1.out.own
      rw [List.length_append, List.length_singleton, show xs.length = n0 by simpa using HO0.out.1] at this
      exact this
    clear k0 HR1 HBA HOA HBS HX0
    have k0 : w1.cell? ⟨w.heap.size, 0, none⟩ = some (.int .i64 6) := (HX1.out.blk.cell 0).trans K0.out
    have k1 : w1.cell? ⟨w.heap.size, 1, none⟩ = some (.int .i64 iv) := (HX1.out.blk.cell 1).trans K1.out
    have k2 : w1.cell? ⟨w.heap.size, 2, none⟩ = some (.float .f64 fv) := (HX1.out.blk.cell 2).trans K2.out
    have k3 : w1.cell? ⟨w.heap.size, 3, none⟩ = some (.string t) := (HX1.out.blk.cell 3).trans K3.out
    have k4 : w1.cell? ⟨w.heap.size, 4, none⟩ = some (.slice A its.length c) := (HX1.out.blk.cell 4).trans K4.out
    go_wp2_with fail
    clear k4
    refine (c_number its.length (by omega) w1).mono ?_; rintro e w3 ⟨v3, rfl, ho3, hb3⟩
    obtain ⟨A3, c3, hv3, hc3, hr3⟩ := own_reads ho3
    subst hv3
    rw [leB_len] at hr3
    have HO3 := Lib.hid (own_below HO1.out hb3)
    have HX3 := Lib.hid (HX1.out.step hb3)
    have AD3 := Lib.hid (AD1.out.step hb3)
    have HR3 := Lib.hid hr3
    have HS3 : Hid (base ≤ w3.heap.size) := Nat.le_trans HS1.out hb3.size
    have k0 : w3.cell? ⟨w.heap.size, 0, none⟩ = some (.int .i64 6) := (HX3.out.blk.cell 0).trans K0.out
    have k3 : w3.cell? ⟨w.heap.size, 3, none⟩ = some (.string t) := (HX3.out.blk.cell 3).trans K3.out
    clear hr3 hb3 ho3 k1 k2
    rw [leB_len]
    go_upto_region 17 with (at_builtin; refine wpList_append_any _ rfl (.tmp 55) (.tmp 59) 23 rfl base 5 i0 _ 1 1 Tryz.underlying23 hi0 hz0 hz1 hz2 rfl (by omega) v1 (n0 + 1) (u8s (xs ++ [6])) rfl HO3.out _ A3 4 c3 (u8s (leB 4 its.length)) rfl HR3.out (u8s_one _) (by simp only [maxLen]; omega) (by omega) HS3.out ?_; intro v4 w4 hown4 hg4 _; have HO4 := Lib.hid (own_app hown4); have AD4 := Lib.hid (Adds.trans AD3.out (Adds.of (n1 := leB 4 its.length) HO3.out (leB_len _ _) hown4 hg4)); have HX4 := Lib.hid ((Kept8.of_grown HO3.out hg4).box HX3.out); have HS4 : Hid (base ≤ w4.heap.size) := Nat.le_trans HS3.out hg4.size; clear hown4 hg4)
    clear k0 k3 HO3 HX3 AD3 HR3 HS3
    obtain ⟨Ab0, cb0, hvb0⟩ := own_slice AD4.out.own
    obtain ⟨nb0, hnb0⟩ : ∃ n, (xs ++ ([6] ++ leB 4 its.length)).length = n := ⟨_, rfl⟩
    rw [hnb0] at hvb0
    have HNB0 := Lib.hid hnb0
    subst hvb0
    clear hnb0
    have HA0 : Hid (Adds w0 w4 base (.slice Ab0 nb0 cb0) xs ([6] ++ leB 4 its.length)) := AD4.out
    clear AD4 HO4 HS4 HO1 HX1 HS1 AD1
    go_wp2_with fail
    go_loopw [0, 5] (fun vb vi wr => ∃ (i : Nat) (ys : List Int) (nb : Nat) (Ab : Option Addr) (cb : Nat), vb = .slice Ab nb cb ∧ Hid ((xs ++ ys).length = nb) ∧ vi = .int .i64 i ∧ i ≤ its.length ∧ Hid (BY = ys ++ bytL false (its.drop i) (nms.drop i)) ∧ Hid (Adds w0 wr base (.slice Ab nb cb) xs ys) ∧ Hid (Box wr w.heap.size cs)) (fun _ vi _ => its.length - (intOf vi).toNat)
    case atStart => exact ⟨0, _, nb0, Ab0, cb0, rfl, HNB0, rfl, Nat.zero_le _, HBY2, HA0, HX4⟩
    case round =>
      obtain ⟨i, ys, nb, Ab, cb, rfl, HNB, rfl, hi, HF, HAr, HXr⟩ := hrel
      clear HBY2 HA0 HX4
      have HBb : Hid (Below base w wr) := (HB.out.mono HLO.out).trans (HAr.out.kp.below (Nat.le_refl _) (Nat.le_trans HLO.out HB.out.size))
      have k0 : wr.cell? ⟨w.heap.size, 0, none⟩ = some (.int .i64 6) := (HXr.out.blk.cell 0).trans K0.out
      have k4 : wr.cell? ⟨w.heap.size, 4, none⟩ = some (.slice A its.length c) := (HXr.out.blk.cell 4).trans K4.out
      by_cases hlt : i < its.length
      · obtain ⟨b, off, hA, hbl, hbl2, hr⟩ := HOP.out (by omega)
        subst hA
        obtain ⟨cs', hrv, hcell0⟩ := hr i hlt
        have hcell : ∀ W, Below base w W → ∀ q u, cs'[q]? = some u → W.cell? ⟨b, off + i * 6 + q, none⟩ = some u := fun W hW q u hq => (hW.cell (p := ⟨b, off + i * 6 + q, none⟩) hbl).trans (by rw [Nat.add_assoc]; exact hcell0 q u hq)
        obtain ⟨h6, hone⟩ : cs'.length = 6 ∧ cs'.toArray.toList.all (·.oneCell') = true := by
          obtain ⟨_, _, _, _, e, _⟩ := hrv.open_
          subst e
          exact ⟨rfl, rfl⟩
        have HRV0 := Lib.hid hrv
        have HCL := Lib.hid hcell
        have HST := Lib.hid (bytL_step (m := false) (n := nms) hlt)
        have HCALL := Lib.hid (HIH.out i hlt)
        have HWI := Lib.hid (byt_len its[i])
        clear hr hrv hcell hcell0 HIH
        obtain ⟨wi, hwi⟩ : ∃ wi, wt its[i] = wi := ⟨_, rfl⟩
        rw [hwi] at HCALL HWI
        obtain ⟨BI, hbi⟩ : ∃ BI, byt its[i] = BI := ⟨_, rfl⟩
        rw [hbi] at HCALL HWI HST
        clear hwi hbi
        have HSr : Hid (base ≤ wr.heap.size) := Nat.le_trans HLO.out HBb.out.size
        have HOr : Hid (wr.ownsRow base 5 1 (.slice Ab nb cb) nb (u8s (xs ++ ys))) := by have := HAr.out.own; rw [HNB.out] at this; exact this
        have HF7 : Hid (BY = (ys ++ BI) ++ bytL false (its.drop (i + 1)) (nms.drop (i + 1))) := by
          show _ = _
          rw [HF.out, HST.out, List.append_assoc]; rfl
        have HLL : Hid (nb + wi ≤ 1099511627776) := by
          have h1 := congrArg List.length HF7.out
          have h2 := HWI.out
          have h3 : xs.length = n0 := by simpa using HO0.out.1
          rw [List.length_append, List.length_append] at h1
          have h4 := HNB.out
          rw [List.length_append] at h4
          show _ ≤ _
          omega
        clear HST HF
        have HCLr := Lib.hid (HCL.out wr HBb.out)
        have HRD4 := Lib.hid (RdV.below HRV0.out HBb.out)
        go_wp2_with (refine wpList_load_at rfl 30 (.tmp 91) rfl b (off + i * 6) rfl cs' _ HCLr.out Tryz.underlying30 rfl (by rw [h6]; exact v_info) ?_)
        refine (HCALL.out cs' wr Ab nb cb _ HRD4.out HSr.out HOr.out HLL.out).mono ?_; rintro e w7 ⟨v7, rfl, had7⟩
        have HA7 := Lib.hid (HAr.out.trans had7)
        have HX7 := Lib.hid (had7.kp.box HXr.out)
        obtain ⟨Ab7, cb7, hv7⟩ := own_slice HA7.out.own
        obtain ⟨nb7, hnb7⟩ : ∃ n, (xs ++ (ys ++ BI)).length = n := ⟨_, rfl⟩
        rw [hnb7] at hv7
        subst hv7
        have HNB7 := Lib.hid hnb7
        clear hnb7 had7 HCALL HLL HRD4 HCLr HSr
        go_wp2_with fail
        go_roundw
        case rel => exact ⟨i + 1, _, nb7, Ab7, cb7, rfl, HNB7, by go_num, hlt, HF7, HA7, HX7⟩
        case measure => simp [intOf]; omega
      · have HE2 : Hid (BY = ys) := by
          have := HF.out
          rw [List.drop_eq_nil_of_le (show its.length ≤ i by omega), bytL, List.append_nil] at this
          exact this
        have hii : i = its.length := by omega
        subst hii
        go_wp2_with fail
        go_ret
        exact ⟨_, rfl, by rw [HE2.out]; exact Adds.ahead HB.out HAr.out⟩
  · subst hk
    have HBY2 : Hid (BY = ([7] ++ leB 4 its.length) ++ bytL true its nms) := HBY.out
    have hlb : BY.length = W := HLN.out
    clear HLE HBY HLN HRD
    go_enter Tryz.func61, Tryz.ntmps61
    go_upto_region 1 with fail
    generalize w.alloc (.cells cs.toArray 30) = w0 at *
    have k0 : w0.cell? ⟨w.heap.size, 0, none⟩ = some (.int .i64 7) := (HX0.out.blk.cell 0).trans K0.out
    have HR1 := Lib.hid (Reads.of_own (World.ownsRow_lit (e := 5) (size := 1) (base := 0) w0 #[.int .u8 7] 1 (Nat.zero_le _) (by decide) rfl) : Reads (w0.alloc (.cells #[.int .u8 7] 5)) _ 1 (some ⟨w0.heap.size, 0, none⟩) 1 [.int .u8 7])
    have HBA : Hid (Below w0.heap.size w0 (w0.alloc (.cells #[.int .u8 7] 5))) := (Below.refl _ _).alloc (Nat.le_refl _) _
    have HOA := Lib.hid (own_below HO0.out HBA.out)
    have HBS : Hid (base ≤ (w0.alloc (.cells #[.int .u8 7] 5)).heap.size) := Nat.le_trans HLO.out (Nat.le_trans HB.out.size HBA.out.size)
    go_upto_region 2 with (at_builtin; refine wpList_append_any _ rfl (.tmp 6) (.tmp 10) 23 rfl base 5 i0 _ 1 1 Tryz.underlying23 hi0 hz0 hz1 hz2 rfl (by omega) (.slice A0 n0 c0) n0 (u8s xs) rfl HOA.out _ (some ⟨w0.heap.size, 0, none⟩) 1 1 [.int .u8 7] rfl HR1.out (by simp [Value.oneCell']) (by simp only [maxLen]; omega) (by omega) HBS.out ?_; intro v1 w1 hown1 hg1 _; have AD1 := Lib.hid (Adds.ahead HBA.out (Adds.of (n1 := [7]) HOA.out rfl hown1 hg1)); clear hown1 hg1)
    have HX1 := Lib.hid (AD1.out.kp.box HX0.out)
    have HS1 : Hid (base ≤ w1.heap.size) := Nat.le_trans HLO.out (Nat.le_trans HB.out.size AD1.out.kp.size)
    have HO1 : Hid (w1.ownsRow base 5 1 v1 (n0 + 1) (u8s (xs ++ [7]))) := by
      have := AD1.out.own
      rw [List.length_append, List.length_singleton, show xs.length = n0 by simpa using HO0.out.1] at this
      exact this
    clear k0 HR1 HBA HOA HBS HX0
    have k0 : w1.cell? ⟨w.heap.size, 0, none⟩ = some (.int .i64 7) := (HX1.out.blk.cell 0).trans K0.out
    have k1 : w1.cell? ⟨w.heap.size, 1, none⟩ = some (.int .i64 iv) := (HX1.out.blk.cell 1).trans K1.out
    have k2 : w1.cell? ⟨w.heap.size, 2, none⟩ = some (.float .f64 fv) := (HX1.out.blk.cell 2).trans K2.out
    have k3 : w1.cell? ⟨w.heap.size, 3, none⟩ = some (.string t) := (HX1.out.blk.cell 3).trans K3.out
    have k4 : w1.cell? ⟨w.heap.size, 4, none⟩ = some (.slice A its.length c) := (HX1.out.blk.cell 4).trans K4.out
    go_wp2_with fail
    clear k4
    refine (c_number its.length (by omega) w1).mono ?_; rintro e w3 ⟨v3, rfl, ho3, hb3⟩
    obtain ⟨A3, c3, hv3, hc3, hr3⟩ := own_reads ho3
    subst hv3
    rw [leB_len] at hr3
    have HO3 := Lib.hid (own_below HO1.out hb3)
    have HX3 := Lib.hid (HX1.out.step hb3)
    have AD3 := Lib.hid (AD1.out.step hb3)
    have HR3 := Lib.hid hr3
    have HS3 : Hid (base ≤ w3.heap.size) := Nat.le_trans HS1.out hb3.size
    have k0 : w3.cell? ⟨w.heap.size, 0, none⟩ = some (.int .i64 7) := (HX3.out.blk.cell 0).trans K0.out
    have k3 : w3.cell? ⟨w.heap.size, 3, none⟩ = some (.string t) := (HX3.out.blk.cell 3).trans K3.out
    clear hr3 hb3 ho3 k1 k2
    rw [leB_len]
    go_upto_region 17 with (at_builtin; refine wpList_append_any _ rfl (.tmp 55) (.tmp 59) 23 rfl base 5 i0 _ 1 1 Tryz.underlying23 hi0 hz0 hz1 hz2 rfl (by omega) v1 (n0 + 1) (u8s (xs ++ [7])) rfl HO3.out _ A3 4 c3 (u8s (leB 4 its.length)) rfl HR3.out (u8s_one _) (by simp only [maxLen]; omega) (by omega) HS3.out ?_; intro v4 w4 hown4 hg4 _; have HO4 := Lib.hid (own_app hown4); have AD4 := Lib.hid (Adds.trans AD3.out (Adds.of (n1 := leB 4 its.length) HO3.out (leB_len _ _) hown4 hg4)); have HX4 := Lib.hid ((Kept8.of_grown HO3.out hg4).box HX3.out); have HS4 : Hid (base ≤ w4.heap.size) := Nat.le_trans HS3.out hg4.size; clear hown4 hg4)
    clear k0 k3 HO3 HX3 AD3 HR3 HS3
    obtain ⟨Ab0, cb0, hvb0⟩ := own_slice AD4.out.own
    obtain ⟨nb0, hnb0⟩ : ∃ n, (xs ++ ([7] ++ leB 4 its.length)).length = n := ⟨_, rfl⟩
    rw [hnb0] at hvb0
    have HNB0 := Lib.hid hnb0
    subst hvb0
    clear hnb0
    have HA0 : Hid (Adds w0 w4 base (.slice Ab0 nb0 cb0) xs ([7] ++ leB 4 its.length)) := AD4.out
    clear AD4 HO4 HS4 HO1 HX1 HS1 AD1
    go_wp2_with fail
    go_loopw [0, 5] (fun vb vi wr => ∃ (i : Nat) (ys : List Int) (nb : Nat) (Ab : Option Addr) (cb : Nat), vb = .slice Ab nb cb ∧ Hid ((xs ++ ys).length = nb) ∧ vi = .int .i64 i ∧ i ≤ its.length ∧ Hid (BY = ys ++ bytL true (its.drop i) (nms.drop i)) ∧ Hid (Adds w0 wr base (.slice Ab nb cb) xs ys) ∧ Hid (Box wr w.heap.size cs)) (fun _ vi _ => its.length - (intOf vi).toNat)
    case atStart => exact ⟨0, _, nb0, Ab0, cb0, rfl, HNB0, rfl, Nat.zero_le _, HBY2, HA0, HX4⟩
    case round =>
      obtain ⟨i, ys, nb, Ab, cb, rfl, HNB, rfl, hi, HF, HAr, HXr⟩ := hrel
      clear HBY2 HA0 HX4
      have HBb : Hid (Below base w wr) := (HB.out.mono HLO.out).trans (HAr.out.kp.below (Nat.le_refl _) (Nat.le_trans HLO.out HB.out.size))
      have k0 : wr.cell? ⟨w.heap.size, 0, none⟩ = some (.int .i64 7) := (HXr.out.blk.cell 0).trans K0.out
      have k4 : wr.cell? ⟨w.heap.size, 4, none⟩ = some (.slice A its.length c) := (HXr.out.blk.cell 4).trans K4.out
      by_cases hlt : i < its.length
      · obtain ⟨b, off, hA, hbl, hbl2, hr⟩ := HOP.out (by omega)
        subst hA
        obtain ⟨cs', hrv, hcell0⟩ := hr i hlt
        have hcell : ∀ W, Below base w W → ∀ q u, cs'[q]? = some u → W.cell? ⟨b, off + i * 6 + q, none⟩ = some u := fun W hW q u hq => (hW.cell (p := ⟨b, off + i * 6 + q, none⟩) hbl).trans (by rw [Nat.add_assoc]; exact hcell0 q u hq)
        obtain ⟨h6, hone⟩ : cs'.length = 6 ∧ cs'.toArray.toList.all (·.oneCell') = true := by
          obtain ⟨_, _, _, _, e, _⟩ := hrv.open_
          subst e
          exact ⟨rfl, rfl⟩
        have HRV0 := Lib.hid hrv
        have HCL := Lib.hid hcell
        have HST := Lib.hid (bytL_step (m := true) (n := nms) hlt)
        have HCALL := Lib.hid (HIH.out i hlt)
        have HWI := Lib.hid (byt_len its[i])
        clear hr hrv hcell hcell0 HIH
        obtain ⟨wi, hwi⟩ : ∃ wi, wt its[i] = wi := ⟨_, rfl⟩
        rw [hwi] at HCALL HWI
        obtain ⟨BI, hbi⟩ : ∃ BI, byt its[i] = BI := ⟨_, rfl⟩
        rw [hbi] at HCALL HWI HST
        clear hwi hbi
        have HSr : Hid (base ≤ wr.heap.size) := Nat.le_trans HLO.out HBb.out.size
        have HOr : Hid (wr.ownsRow base 5 1 (.slice Ab nb cb) nb (u8s (xs ++ ys))) := by have := HAr.out.own; rw [HNB.out] at this; exact this
        have hnl : nms.length = its.length := by first | exact HGN.out rfl | exact HGN.out trivial
        obtain ⟨bn, offn, hAn, hbn1, hbn2, hcelln⟩ := HNM.out.form (by omega)
        subst hAn
        have kn0 := hcelln i (by omega)
        rw [show (strs nms).getD i undef = .string (nms.getD i ⟨#[]⟩) by simp [List.getD, List.getElem?_eq_getElem (show i < nms.length by omega)]] at kn0
        have hns : (nms.getD i ⟨#[]⟩).size < 1048576 := HNS.out _ (by rw [List.getD_eq_getElem?_getD, List.getElem?_eq_getElem (show i < nms.length by omega)]; exact List.getElem_mem _)
        have dn : (i : Int) < (nms.length : Int) := by omega
        clear hcelln
        generalize nms.getD i ⟨#[]⟩ = nmi at *
        have HF7 : Hid (BY = ((ys ++ (leB 4 nmi.size ++ txB nmi)) ++ BI) ++ bytL true (its.drop (i + 1)) (nms.drop (i + 1))) := by
          show _ = _
          rw [HF.out, HST.out, List.append_assoc, List.append_assoc]; rfl
        have hnl4 : (leB 4 nmi.size ++ txB nmi).length = 4 + nmi.size := by rw [List.length_append, leB_len, txB_len]
        have hLX : nb + (4 + nmi.size) + wi ≤ 1099511627776 := by
          have h1 := congrArg List.length HF7.out
          have h2 := HWI.out
          have h3 : xs.length = n0 := by simpa using HO0.out.1
          rw [List.length_append, List.length_append, List.length_append, hnl4] at h1
          have h4 := HNB.out
          rw [List.length_append] at h4
          omega
        have HKN : Hid (∀ W, Below base w W → W.cell? ⟨bn, offn + i, none⟩ = some (.string nmi)) := fun W hW => (hW.cell (p := ⟨bn, offn + i, none⟩) hbn1).trans kn0
        have k5 : wr.cell? ⟨w.heap.size, 5, none⟩ = some (.slice (some ⟨bn, offn, none⟩) nms.length c') := (HXr.out.blk.cell 5).trans K5.out
        have kn := HKN.out wr HBb.out
        clear HST HF kn0
        go_wp2_with fail
        refine (c_number nmi.size (by omega) wr).mono ?_; rintro e w3 ⟨v3, rfl, ho3, hb3⟩
        obtain ⟨A3, c3, hv3, hc3, hr3⟩ := own_reads ho3
        subst hv3
        rw [leB_len] at hr3
        have HO3 := Lib.hid (own_below HOr.out hb3)
        have HX3 := Lib.hid (HXr.out.step hb3)
        have AD3 := Lib.hid (HAr.out.step hb3)
        have HR3 := Lib.hid hr3
        have HS3 : Hid (base ≤ w3.heap.size) := Nat.le_trans HSr.out hb3.size
        clear hr3 hb3 ho3 k0 k4 k5 kn HXr HAr HOr HSr
        rw [leB_len]
        go_upto_region 22 with (at_builtin; refine wpList_append_any _ rfl (.tmp 71) (.tmp 78) 23 rfl base 5 i0 _ 1 1 Tryz.underlying23 hi0 hz0 hz1 hz2 rfl (by omega) (.slice Ab nb cb) nb (u8s (xs ++ ys)) rfl HO3.out _ A3 4 c3 (u8s (leB 4 nmi.size)) rfl HR3.out (u8s_one _) (by simp only [maxLen]; omega) (by omega) HS3.out ?_; intro v4 w4 hown4 hg4 _; have HO4 := Lib.hid (own_app hown4); have AD4 := Lib.hid (Adds.trans AD3.out (Adds.of (n1 := leB 4 nmi.size) HO3.out (leB_len _ _) hown4 hg4)); have HX4 := Lib.hid ((Kept8.of_grown HO3.out hg4).box HX3.out); have HS4 : Hid (base ≤ w4.heap.size) := Nat.le_trans HS3.out hg4.size; clear hown4 hg4)
        have HB4 : Hid (Below base w w4) := (HB.out.mono HLO.out).trans (AD4.out.kp.below (Nat.le_refl _) (Nat.le_trans HLO.out HB.out.size))
        have k5 : w4.cell? ⟨w.heap.size, 5, none⟩ = some (.slice (some ⟨bn, offn, none⟩) nms.length c') := (HX4.out.blk.cell 5).trans K5.out
        have kn := HKN.out w4 HB4.out
        clear HO3 HX3 AD3 HR3 HS3
        go_upto_region 23 with (at_builtin; refine Lib.wpList_append_own_string _ rfl (.tmp 80) (.tmp 85) 23 9 rfl base 5 i0 Tryz.underlying23 Tryz.underlying9 hi0 hz0 hz1 hz2 v4 (nb + 4) _ rfl HO4.out nmi rfl (by simp only [maxLen]; omega) (by omega) HS4.out ?_; intro v5 w5 ho5 hg5 _; have AD5 := Lib.hid (Adds.trans AD4.out (Adds.ofS HO4.out ho5 hg5)); have HX5 := Lib.hid ((Kept8.of_grown HO4.out hg5).box HX4.out); clear ho5 hg5)
        rw [List.append_assoc] at AD5
        obtain ⟨Ab6, cb6, hvb6⟩ := own_slice AD5.out.own
        obtain ⟨nb6, hnb6⟩ : ∃ n, (xs ++ (ys ++ (leB 4 nmi.size ++ txB nmi))).length = n := ⟨_, rfl⟩
        rw [hnb6] at hvb6
        subst hvb6
        have HO6 : Hid (w5.ownsRow base 5 1 (.slice Ab6 nb6 cb6) nb6 (u8s (xs ++ (ys ++ (leB 4 nmi.size ++ txB nmi))))) := by have := AD5.out.own; rw [hnb6] at this; exact this
        have HLL : Hid (nb6 + wi ≤ 1099511627776) := by
          have h4 := HNB.out
          rw [← List.append_assoc, List.length_append, hnl4] at hnb6
          show _ ≤ _
          omega
        clear hnb6 k5 kn HO4 HX4 AD4 HS4
        have HB5 : Hid (Below base w w5) := (HB.out.mono HLO.out).trans (AD5.out.kp.below (Nat.le_refl _) (Nat.le_trans HLO.out HB.out.size))
        have HCLr := Lib.hid (HCL.out w5 HB5.out)
        have HRD4 := Lib.hid (RdV.below HRV0.out HB5.out)
        have HSr : Hid (base ≤ w5.heap.size) := Nat.le_trans HLO.out HB5.out.size
        have k4 : w5.cell? ⟨w.heap.size, 4, none⟩ = some (.slice (some ⟨b, off, none⟩) its.length c) := (HX5.out.blk.cell 4).trans K4.out
        go_wp2_with (refine wpList_load_at rfl 30 (.tmp 91) rfl b (off + i * 6) rfl cs' _ HCLr.out Tryz.underlying30 rfl (by rw [h6]; exact v_info) ?_)
        refine (HCALL.out cs' w5 Ab6 nb6 cb6 _ HRD4.out HSr.out HO6.out HLL.out).mono ?_; rintro e w7 ⟨v7, rfl, had7⟩
        have HA7 := Lib.hid (AD5.out.trans had7)
        have HX7 := Lib.hid (had7.kp.box HX5.out)
        obtain ⟨Ab7, cb7, hv7⟩ := own_slice HA7.out.own
        obtain ⟨nb7, hnb7⟩ : ∃ n, (xs ++ ((ys ++ (leB 4 nmi.size ++ txB nmi)) ++ BI)).length = n := ⟨_, rfl⟩
        rw [hnb7] at hv7
        subst hv7
        have HNB7 := Lib.hid hnb7
        clear hnb7 had7 HCALL HLL HRD4 HCLr HSr
        go_wp2_with fail
        go_roundw
        case rel => exact ⟨i + 1, _, nb7, Ab7, cb7, rfl, HNB7, by go_num, hlt, HF7, HA7, HX7⟩
        case measure => simp [intOf]; omega
      · have HE2 : Hid (BY = ys) := by
          have := HF.out
          rw [List.drop_eq_nil_of_le (show its.length ≤ i by omega), bytL, List.append_nil] at this
          exact this
        have hii : i = its.length := by omega
        subst hii
        go_wp2_with fail
        go_ret
        exact ⟨_, rfl, by rw [HE2.out]; exact Adds.ahead HB.out HAr.out⟩
end Go.Proofs.YtacnoedhpamdmaaGreatDoor
