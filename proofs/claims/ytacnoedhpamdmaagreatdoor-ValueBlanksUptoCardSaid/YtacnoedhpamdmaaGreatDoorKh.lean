/- Walk: one value held against itself, from two places in memory (quernlaw23.alike). Conditions: the value as it reads at both; its bulk at most 1048576. -/
import Derived.Test.YtacnoedhpamdmaaGreatDoorKf
import Derived.BigQuiet
import Derived.Deep.QuietTactic
namespace Go.Proofs.YtacnoedhpamdmaaGreatDoor
open Go.RowKit
set_option linter.unusedVariables false
set_option linter.unusedSimpArgs false
attribute [local go_sem ↓] Go.wp_at_zero Go.wp_at_succ

theorem getD_strs {l : List ByteArray} {k : Nat} (h : k < l.length) : (strs l).getD k undef = .string (l.getD k ⟨#[]⟩) := by
  simp [List.getD, List.getElem?_eq_getElem h]
set_option maxRecDepth 100000 in
set_option maxHeartbeats 2000000 in
theorem c_alike : ∀ (v : Val) (cs cs' : List Value) (w : World), RV w v cs → RV w v cs' → Calls Tryz.prog 15 #[.agg cs.toArray, .agg cs'.toArray] w fun e w' => e = .returned (.bool true) ∧ Below w.heap.size w w' := by
  refine Val.ind fun v ih cs cs' w h h' => ?_
  obtain ⟨A1, B1, c1, d1, hcs, hn1, hop1⟩ := h.open_
  obtain ⟨A2, B2, c2, d2, hcs', hn2, hop2⟩ := h'.open_
  have HTB := two_bx w cs cs'
  have HX0 := Lib.hid HTB.1
  have HY0 := Lib.hid HTB.2.1
  have HB0 := Lib.hid HTB.2.2
  have HIH : Hid (∀ (i : Nat) (hi : i < v.its.length) (cs cs' : List Value) (w : World), RV w v.its[i] cs → RV w v.its[i] cs' → Calls Tryz.prog 15 #[.agg cs.toArray, .agg cs'.toArray] w fun e w' => e = .returned (.bool true) ∧ Below w.heap.size w w') := fun i hi => ih _ (List.getElem_mem hi)
  have hl1 : v.its.length ≤ 1048576 := by have := (bnd_len v).1; have := h.bd; omega
  have hl2 : v.nms.length ≤ 1048576 := by have := (bnd_len v).2.1; have := h.bd; omega
  have HN1 := Lib.hid hn1
  have HN2 := Lib.hid hn2
  have HO1 := Lib.hid hop1
  have HO2 := Lib.hid hop2
  subst hcs hcs'
  clear h h' HTB hn1 hn2 hop1 hop2 ih
  unfold vcs at *
  go_enter Tryz.func15, Tryz.ntmps15
  go_upto_region 1 with fail
  generalize World.alloc (w.alloc _) _ = w0 at *
  have a0 : w0.cell? ⟨w.heap.size, 0, none⟩ = some (.int .i64 v.k) := HX0.out.blk.cell 0
  have a1 : w0.cell? ⟨w.heap.size, 1, none⟩ = some (.int .i64 v.i) := HX0.out.blk.cell 1
  have a2 : w0.cell? ⟨w.heap.size, 2, none⟩ = some (.float .f64 v.f) := HX0.out.blk.cell 2
  have a3 : w0.cell? ⟨w.heap.size, 3, none⟩ = some (.string v.t) := HX0.out.blk.cell 3
  have a4 : w0.cell? ⟨w.heap.size, 4, none⟩ = some (.slice A1 v.its.length c1) := HX0.out.blk.cell 4
  have a5 : w0.cell? ⟨w.heap.size, 5, none⟩ = some (.slice B1 v.nms.length d1) := HX0.out.blk.cell 5
  have b0 : w0.cell? ⟨w.heap.size + 1, 0, none⟩ = some (.int .i64 v.k) := HY0.out.blk.cell 0
  have b1 : w0.cell? ⟨w.heap.size + 1, 1, none⟩ = some (.int .i64 v.i) := HY0.out.blk.cell 1
  have b2 : w0.cell? ⟨w.heap.size + 1, 2, none⟩ = some (.float .f64 v.f) := HY0.out.blk.cell 2
  have b3 : w0.cell? ⟨w.heap.size + 1, 3, none⟩ = some (.string v.t) := HY0.out.blk.cell 3
  have b4 : w0.cell? ⟨w.heap.size + 1, 4, none⟩ = some (.slice A2 v.its.length c2) := HY0.out.blk.cell 4
  have b5 : w0.cell? ⟨w.heap.size + 1, 5, none⟩ = some (.slice B2 v.nms.length d2) := HY0.out.blk.cell 5
  go_region_held3 (fun V => V.cell? ⟨w.heap.size, 0, none⟩ = some (.int .i64 v.k) ∧ V.cell? ⟨w.heap.size, 1, none⟩ = some (.int .i64 v.i) ∧ V.cell? ⟨w.heap.size, 2, none⟩ = some (.float .f64 v.f) ∧ V.cell? ⟨w.heap.size, 3, none⟩ = some (.string v.t) ∧ V.cell? ⟨w.heap.size, 4, none⟩ = some (.slice A1 v.its.length c1) ∧ V.cell? ⟨w.heap.size, 5, none⟩ = some (.slice B1 v.nms.length d1) ∧ V.cell? ⟨w.heap.size + 1, 0, none⟩ = some (.int .i64 v.k) ∧ V.cell? ⟨w.heap.size + 1, 1, none⟩ = some (.int .i64 v.i) ∧ V.cell? ⟨w.heap.size + 1, 2, none⟩ = some (.float .f64 v.f) ∧ V.cell? ⟨w.heap.size + 1, 3, none⟩ = some (.string v.t) ∧ V.cell? ⟨w.heap.size + 1, 4, none⟩ = some (.slice A2 v.its.length c2) ∧ V.cell? ⟨w.heap.size + 1, 5, none⟩ = some (.slice B2 v.nms.length d2)) (first | go_keep | (refine ⟨?_, ?_, ?_, ?_, ?_, ?_, ?_, ?_, ?_, ?_, ?_, ?_⟩ <;> assumption)) (first | (go_at_call 42; refine (c_rOne v.f _).mono ?_; rintro e w' ⟨rfl, rfl⟩))
  rename _ ∧ _ => hh
  clear hh
  clear a0 a1 a2 a3 a4 a5 b0 b1 b2 b3 b4 b5
  generalize hw1 : World.drew _ = w1
  have HX1 : Hid (Box w1 w.heap.size [.int .i64 v.k, .int .i64 v.i, .float .f64 v.f, .string v.t, .slice A1 v.its.length c1, .slice B1 v.nms.length d1]) := by rw [← hw1]; exact ⟨HX0.out.blk.drew, HX0.out.lt⟩
  have HY1 : Hid (Box w1 (w.heap.size + 1) [.int .i64 v.k, .int .i64 v.i, .float .f64 v.f, .string v.t, .slice A2 v.its.length c2, .slice B2 v.nms.length d2]) := by rw [← hw1]; exact ⟨HY0.out.blk.drew, HY0.out.lt⟩
  have HB1 : Hid (Below w.heap.size w w1) := by rw [← hw1]; exact below_drewK HB0.out
  clear hw1 HX0 HY0 HB0
  have b5 : w1.cell? ⟨w.heap.size, 5, none⟩ = some (.slice B1 v.nms.length d1) := HX1.out.blk.cell 5
  go_wp2_with fail
  clear b5
  go_loopw [5] (fun vi wr => ∃ (i k : Nat), vi = .int .i64 i ∧ i ≤ v.nms.length ∧ wr = w1.drewN k) (fun vi _ => v.nms.length - (intOf vi).toNat)
  case atStart => exact ⟨0, 0, rfl, Nat.zero_le _, rfl⟩
  case round =>
    obtain ⟨i, nd, rfl, hi, rfl⟩ := hrel
    have HBr : Hid (Below w.heap.size w (w1.drewN nd)) := below_drewN HB1.out nd
    have HXr : Hid (Box (w1.drewN nd) w.heap.size [.int .i64 v.k, .int .i64 v.i, .float .f64 v.f, .string v.t, .slice A1 v.its.length c1, .slice B1 v.nms.length d1]) := ⟨HX1.out.blk.drewN nd, HX1.out.lt⟩
    have HYr : Hid (Box (w1.drewN nd) (w.heap.size + 1) [.int .i64 v.k, .int .i64 v.i, .float .f64 v.f, .string v.t, .slice A2 v.its.length c2, .slice B2 v.nms.length d2]) := ⟨HY1.out.blk.drewN nd, HY1.out.lt⟩
    have p5 : w1.cell? ⟨w.heap.size, 5, none⟩ = some (.slice B1 v.nms.length d1) := HX1.out.blk.cell 5
    have q5 : w1.cell? ⟨w.heap.size + 1, 5, none⟩ = some (.slice B2 v.nms.length d2) := HY1.out.blk.cell 5
    by_cases hlt : i < v.nms.length
    · obtain ⟨s1, o1, hA, hs11, hs12, hcell1⟩ := (HN1.out.below HB1.out).form (by omega)
      obtain ⟨s2, o2, hA', hs21, hs22, hcell2⟩ := (HN2.out.below HB1.out).form (by omega)
      subst hA hA'
      have p6 := hcell1 i hlt
      have q6 := hcell2 i hlt
      rw [getD_strs hlt] at p6 q6
      generalize v.nms.getD i ⟨#[]⟩ = nm at *
      clear hcell1 hcell2 HN1 HN2
      go_wp2_with fail
      go_quiet (fail)
      go_wp2_with fail
      go_roundw
      case rel => exact ⟨i + 1, nd + nq, by go_num, hlt, rfl⟩
      case measure => simp [intOf]; omega
    · have b4 : w1.cell? ⟨w.heap.size, 4, none⟩ = some (.slice A1 v.its.length c1) := HX1.out.blk.cell 4
      go_wp2_with fail
      clear p5 q5 b4 HX1 HY1 HB1 HN1 HN2
      generalize hw2 : w1.drewN nd = w2 at *
      go_loopw [6] (fun vi wr => ∃ (j : Nat), vi = .int .i64 j ∧ j ≤ v.its.length ∧ Hid (Below w2.heap.size w2 wr)) (fun vi _ => v.its.length - (intOf vi).toNat)
      case atStart => exact ⟨0, rfl, Nat.zero_le _, Below.refl _ _⟩
      case round =>
        obtain ⟨j, rfl, hj, HBj⟩ := hrel
        have HBw := Lib.hid (HBr.out.trans (HBj.out.mono HBr.out.size))
        have HXj := Lib.hid (HXr.out.step HBj.out)
        have HYj := Lib.hid (HYr.out.step HBj.out)
        have b4 : wr.cell? ⟨w.heap.size, 4, none⟩ = some (.slice A1 v.its.length c1) := HXj.out.blk.cell 4
        by_cases hjl : j < v.its.length
        · obtain ⟨r1, f1, hA1, hr1, hit1⟩ := HO1.out (by omega)
          obtain ⟨r2, f2, hA2, hr2, hit2⟩ := HO2.out (by omega)
          obtain ⟨cx, hx, hcx⟩ := hit1 wr HBw.out j hjl
          obtain ⟨cy, hy, hcy⟩ := hit2 wr HBw.out j hjl
          subst hA1 hA2
          obtain ⟨u0, u1, u2, u3, u4, u5, rfl⟩ := lst_six hx.six.1
          obtain ⟨t0, t1, t2, t3, t4, t5, rfl⟩ := lst_six hy.six.1
          have hcl : ∀ W, Below wr.heap.size wr W → W.cell? ⟨w.heap.size, 4, none⟩ = some (.slice (some ⟨r1, f1, none⟩) v.its.length c1) ∧ W.cell? ⟨w.heap.size + 1, 4, none⟩ = some (.slice (some ⟨r2, f2, none⟩) v.its.length c2) ∧ W.cell? ⟨r1, f1 + j * 6, none⟩ = some u0 ∧ W.cell? ⟨r1, f1 + j * 6 + 1, none⟩ = some u1 ∧ W.cell? ⟨r1, f1 + j * 6 + 2, none⟩ = some u2 ∧ W.cell? ⟨r1, f1 + j * 6 + 3, none⟩ = some u3 ∧ W.cell? ⟨r1, f1 + j * 6 + 4, none⟩ = some u4 ∧ W.cell? ⟨r1, f1 + j * 6 + 5, none⟩ = some u5 ∧ W.cell? ⟨r2, f2 + j * 6, none⟩ = some t0 ∧ W.cell? ⟨r2, f2 + j * 6 + 1, none⟩ = some t1 ∧ W.cell? ⟨r2, f2 + j * 6 + 2, none⟩ = some t2 ∧ W.cell? ⟨r2, f2 + j * 6 + 3, none⟩ = some t3 ∧ W.cell? ⟨r2, f2 + j * 6 + 4, none⟩ = some t4 ∧ W.cell? ⟨r2, f2 + j * 6 + 5, none⟩ = some t5 := fun W hb => by
            have hs := HBw.out.size
            refine ⟨(HXj.out.step hb).blk.cell 4, (HYj.out.step hb).blk.cell 4, (hb.cell (p := ⟨r1, f1 + j * 6, none⟩) (by show r1 < wr.heap.size; omega)).trans (hcx 0 _ rfl), (hb.cell (p := ⟨r1, f1 + j * 6 + 1, none⟩) (by show r1 < wr.heap.size; omega)).trans (hcx 1 _ rfl), (hb.cell (p := ⟨r1, f1 + j * 6 + 2, none⟩) (by show r1 < wr.heap.size; omega)).trans (hcx 2 _ rfl), (hb.cell (p := ⟨r1, f1 + j * 6 + 3, none⟩) (by show r1 < wr.heap.size; omega)).trans (hcx 3 _ rfl), (hb.cell (p := ⟨r1, f1 + j * 6 + 4, none⟩) (by show r1 < wr.heap.size; omega)).trans (hcx 4 _ rfl), (hb.cell (p := ⟨r1, f1 + j * 6 + 5, none⟩) (by show r1 < wr.heap.size; omega)).trans (hcx 5 _ rfl), (hb.cell (p := ⟨r2, f2 + j * 6, none⟩) (by show r2 < wr.heap.size; omega)).trans (hcy 0 _ rfl), (hb.cell (p := ⟨r2, f2 + j * 6 + 1, none⟩) (by show r2 < wr.heap.size; omega)).trans (hcy 1 _ rfl), (hb.cell (p := ⟨r2, f2 + j * 6 + 2, none⟩) (by show r2 < wr.heap.size; omega)).trans (hcy 2 _ rfl), (hb.cell (p := ⟨r2, f2 + j * 6 + 3, none⟩) (by show r2 < wr.heap.size; omega)).trans (hcy 3 _ rfl), (hb.cell (p := ⟨r2, f2 + j * 6 + 4, none⟩) (by show r2 < wr.heap.size; omega)).trans (hcy 4 _ rfl), (hb.cell (p := ⟨r2, f2 + j * 6 + 5, none⟩) (by show r2 < wr.heap.size; omega)).trans (hcy 5 _ rfl)⟩
          have HCL := Lib.hid hcl
          obtain ⟨k0, k1, k2, k3, k4, k5, k6, k7, k8, k9, k10, k11, k12, k13⟩ := hcl wr (Below.refl _ _)
          have HV1 := Lib.hid hx
          have HV2 := Lib.hid hy
          clear hcl hit1 hit2 hx hy hcx hcy HO1 HO2 HXj HYj
          go_wp2_with fail
          go_region_held3 (fun V => V.cell? ⟨w.heap.size, 4, none⟩ = some (.slice (some ⟨r1, f1, none⟩) v.its.length c1) ∧ V.cell? ⟨w.heap.size + 1, 4, none⟩ = some (.slice (some ⟨r2, f2, none⟩) v.its.length c2) ∧ V.cell? ⟨r1, f1 + j * 6, none⟩ = some u0 ∧ V.cell? ⟨r1, f1 + j * 6 + 1, none⟩ = some u1 ∧ V.cell? ⟨r1, f1 + j * 6 + 2, none⟩ = some u2 ∧ V.cell? ⟨r1, f1 + j * 6 + 3, none⟩ = some u3 ∧ V.cell? ⟨r1, f1 + j * 6 + 4, none⟩ = some u4 ∧ V.cell? ⟨r1, f1 + j * 6 + 5, none⟩ = some u5 ∧ V.cell? ⟨r2, f2 + j * 6, none⟩ = some t0 ∧ V.cell? ⟨r2, f2 + j * 6 + 1, none⟩ = some t1 ∧ V.cell? ⟨r2, f2 + j * 6 + 2, none⟩ = some t2 ∧ V.cell? ⟨r2, f2 + j * 6 + 3, none⟩ = some t3 ∧ V.cell? ⟨r2, f2 + j * 6 + 4, none⟩ = some t4 ∧ V.cell? ⟨r2, f2 + j * 6 + 5, none⟩ = some t5) (first | go_keep | (refine ⟨?_, ?_, ?_, ?_, ?_, ?_, ?_, ?_, ?_, ?_, ?_, ?_, ?_, ?_⟩ <;> assumption)) (first | (go_at_call 15; refine (HIH.out j hjl _ _ _ (HV1.out.step (below_drewK (Below.refl _ _))) (HV2.out.step (below_drewK (Below.refl _ _)))).mono ?_; rintro e w5 ⟨rfl, hb5⟩; have HB5 : Hid (Below wr.heap.size wr w5) := (below_drewK (Below.refl _ _)).trans hb5; obtain ⟨m0, m1, m2, m3, m4, m5, m6, m7, m8, m9, m10, m11, m12, m13⟩ := HCL.out w5 HB5.out; clear hb5))
          rename _ ∧ _ => hh
          clear hh
          clear k0 k1 k2 k3 k4 k5 k6 k7 k8 k9 k10 k11 k12 k13 m0 m1 m2 m3 m4 m5 m6 m7 m8 m9 m10 m11 m12 m13
          go_wp2_with fail
          go_roundw
          case rel => exact ⟨j + 1, by go_num, hjl, HBj.out.trans (HB5.out.mono HBj.out.size)⟩
          case measure => simp [intOf]; omega
        · go_wp2_with fail
          go_ret
          exact ⟨rfl, HBw.out⟩
end Go.Proofs.YtacnoedhpamdmaaGreatDoor
