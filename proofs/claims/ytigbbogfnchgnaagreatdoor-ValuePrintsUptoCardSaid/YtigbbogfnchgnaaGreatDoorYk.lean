/- Walks over values as trees, the reference's way: are all fields as the kinds say, does a name come twice or fall (quernref23.all, quernref23.rising). Conditions: the value as it reads; its bulk at most 1048576. -/
import Derived.Test.YtigbbogfnchgnaaGreatDoorYh
import Derived.Test.YtigbbogfnchgnaaGreatDoorYj
namespace Go.Proofs.YtigbbogfnchgnaaGreatDoor
open Go.RowKit
set_option linter.unusedVariables false
attribute [local go_sem ↓] Go.wp_at_zero Go.wp_at_succ

set_option maxRecDepth 100000 in
theorem c_all : ∀ (v : Val) (cs : List Value) (w : World), RV w v cs → Calls Tryz.prog 29 #[.agg cs.toArray] w fun e w' => e = .returned (.bool (!anyV (fun v => !flds fone v) v)) ∧ Below w.heap.size w w' := by
  refine Val.ind fun v ih cs w h => ?_
  have HR := Lib.hid h.row
  have hlen : v.its.length < 1048577 := by have := (bnd_len v).1; have := h.bd; omega
  have HB : Hid (Below w.heap.size w (w.alloc (.cells cs.toArray 26))) := (Below.refl w.heap.size w).alloc (Nat.le_refl _) _
  have HK := Lib.hid (Blk.new w 26 cs.toArray)
  have HC := Lib.hid (c_rfields v cs _ (h.step HB.out))
  obtain ⟨A, A', c, c', hvc, _, hop⟩ := h.open_
  have HOP := Lib.hid hop
  have HIH : Hid (∀ (i : Nat) (hi : i < v.its.length) (cs : List Value) (w : World), RV w v.its[i] cs → Calls Tryz.prog 29 #[.agg cs.toArray] w fun e w' => e = .returned (.bool (!anyV (fun v => !flds fone v) v.its[i])) ∧ Below w.heap.size w w') := fun i hi => ih _ (List.getElem_mem hi)
  have HD : Hid (anyV (fun v => !flds fone v) v = ((!flds fone v) || v.its.any (anyV (fun v => !flds fone v)))) := by show _ = _; rw [anyV_eq, anyL_any]
  have K4 : Hid ((w.alloc (.cells cs.toArray 26)).cell? ⟨w.heap.size, 4, none⟩ = some (.slice A v.its.length c)) := by
    show _ = _
    rw [HK.out.cell 4, hvc]; rfl
  have HLT : Hid (w.heap.size < (w.alloc (.cells cs.toArray 26)).heap.size) := HK.out.lt
  clear hop ih h hvc
  generalize v.its = its at *
  go_enter Tryz.func29, Tryz.ntmps29
  go_upto_region 1 with fail
  generalize w.alloc (.cells cs.toArray 26) = w0 at *
  go_wp2_with (refine wpList_load_row rfl 26 (.tmp 1) rfl w.heap.size rfl 26 _ (0, 0) _ HK.out Tryz.underlying26 rfl HR.out ?_)
  refine HC.out.mono ?_; rintro e w1 ⟨rfl, hb1⟩
  have HB1 := Lib.hid (HB.out.trans (hb1.mono HB.out.size))
  have K41 : Hid (w1.cell? ⟨w.heap.size, 4, none⟩ = some (.slice A its.length c)) := (hb1.cell (p := ⟨w.heap.size, 4, none⟩) HLT.out).trans K4.out
  have HLT1 : Hid (w.heap.size < w1.heap.size) := Nat.lt_of_lt_of_le HLT.out hb1.size
  clear hb1 HC HK HR K4 HLT HB
  obtain ⟨p0, hp0⟩ : ∃ q, flds fone v = q := ⟨_, rfl⟩
  rw [hp0]
  rw [hp0] at HD
  clear hp0
  cases p0 with
  | false =>
    have HDT : Hid (anyV (fun v => !flds fone v) v = true) := by show _ = _; rw [HD.out]; rfl
    go_wp2_with fail
    go_ret
    exact ⟨by rw [HDT.out]; rfl, HB1.out⟩
  | true =>
    go_wp2_with fail
    go_loopw [3] (fun vi wr => ∃ i : Nat, vi = .int .i64 i ∧ i ≤ its.length ∧ Hid (∀ j, (h : j < its.length) → j < i → anyV (fun v => !flds fone v) its[j] = false) ∧ Hid (Below w1.heap.size w1 wr)) (fun vi _ => its.length - (intOf vi).toNat)
    case atStart => exact ⟨0, rfl, Nat.zero_le _, fun j _ h0 => absurd h0 (by omega), Below.refl _ _⟩
    case round =>
      obtain ⟨i, rfl, hi, HF, HBr⟩ := hrel
      have HBw := Lib.hid (HB1.out.trans (HBr.out.mono HB1.out.size))
      have k4 : wr.cell? ⟨w.heap.size, 4, none⟩ = some (.slice A its.length c) := (HBr.out.cell (p := ⟨w.heap.size, 4, none⟩) HLT1.out).trans K41.out
      by_cases hlt : i < its.length
      · obtain ⟨b, off, hA, hbl, hr⟩ := HOP.out (by omega)
        subst hA
        obtain ⟨cs', hrv, hcell⟩ := hr wr HBw.out i hlt
        obtain ⟨h6, hone⟩ := hrv.six
        have HRV := Lib.hid hrv
        have HCL := Lib.hid hcell
        clear hr hrv hcell hone
        go_wp2_with (refine wpList_load_at rfl 26 (.tmp 17) rfl b (off + i * 6) rfl cs' _ HCL.out Tryz.underlying26 rfl (by rw [h6]; exact v_info) ?_)
        refine (HIH.out i hlt _ _ HRV.out).mono ?_; rintro e w5 ⟨rfl, hb5⟩
        have HB5 := Lib.hid (HBr.out.trans (hb5.mono HBr.out.size))
        have HB5w := Lib.hid (HBw.out.trans (hb5.mono HBw.out.size))
        clear hb5
        obtain ⟨q, hq⟩ : ∃ q, anyV (fun v => !flds fone v) its[i] = q := ⟨_, rfl⟩
        rw [hq]
        cases q with
        | true =>
          have HDT : Hid (anyV (fun v => !flds fone v) v = true) := by show _ = _; rw [HD.out]; exact List.any_eq_true.2 ⟨_, List.getElem_mem hlt, hq⟩
          clear hq
          go_wp2_with fail
          go_ret
          exact ⟨by rw [HDT.out]; rfl, HB5w.out⟩
        | false =>
          have HF2 : Hid (∀ j, (h : j < its.length) → j < i + 1 → anyV (fun v => !flds fone v) its[j] = false) := fun j h hj => by
            rcases Nat.lt_or_ge j i with h1 | h1
            · exact HF.out j h h1
            · obtain rfl : j = i := by omega
              exact hq
          clear hq
          go_wp2_with fail
          go_roundw
          case rel => first | exact ⟨i + 1, by go_num, hlt, HF2.out, HB5.out⟩ | (refine ⟨_, _, _, _, _, _, _, _, _, _, _, _, _, _, _, _, ?_, rfl⟩; exact ⟨i + 1, by go_num, hlt, HF2.out, HB5.out⟩)
          case measure => simp [intOf]; omega
      · have HDF : Hid (anyV (fun v => !flds fone v) v = false) := by
          show _ = _
          rw [HD.out]
          simp only [Bool.not_true, Bool.false_or]
          rw [List.any_eq_false]
          intro x hx
          obtain ⟨j, hj, rfl⟩ := List.getElem_of_mem hx
          rw [HF.out j hj (by omega)]
          decide
        go_wp2_with fail
        go_ret
        exact ⟨by rw [HDF.out]; rfl, HBw.out⟩
set_option maxRecDepth 100000 in
theorem c_risT : ∀ (v : Val) (cs : List Value) (w : World), RV w v cs → Calls Tryz.prog 30 #[.agg cs.toArray, .bool true] w fun e w' => e = .returned (.bool (anyV (fun v => nbr twin v.nms) v)) ∧ Below w.heap.size w w' := by
  refine Val.ind fun v ih cs w h => ?_
  have HR := Lib.hid h.row
  have hlen : v.its.length < 1048577 := by have := (bnd_len v).1; have := h.bd; omega
  have hnlen : v.nms.length < 1048577 := by have := (bnd_len v).2.1; have := h.bd; omega
  have HB : Hid (Below w.heap.size w (w.alloc (.cells cs.toArray 26))) := (Below.refl w.heap.size w).alloc (Nat.le_refl _) _
  have HK := Lib.hid (Blk.new w 26 cs.toArray)
  obtain ⟨A, A', c, c', hvc, hnm, hop⟩ := h.open_
  have HNM := Lib.hid (hnm.below HB.out)
  have HOP := Lib.hid hop
  have HIH : Hid (∀ (i : Nat) (hi : i < v.its.length) (cs : List Value) (w : World), RV w v.its[i] cs → Calls Tryz.prog 30 #[.agg cs.toArray, .bool true] w fun e w' => e = .returned (.bool (anyV (fun v => nbr twin v.nms) v.its[i])) ∧ Below w.heap.size w w') := fun i hi => ih _ (List.getElem_mem hi)
  have HD : Hid (anyV (fun v => nbr twin v.nms) v = (nbr twin v.nms || v.its.any (anyV (fun v => nbr twin v.nms)))) := by show _ = _; rw [anyV_eq, anyL_any]
  have K4 : Hid ((w.alloc (.cells cs.toArray 26)).cell? ⟨w.heap.size, 4, none⟩ = some (.slice A v.its.length c)) := by
    show _ = _
    rw [HK.out.cell 4, hvc]; rfl
  have K5 : Hid ((w.alloc (.cells cs.toArray 26)).cell? ⟨w.heap.size, 5, none⟩ = some (.slice A' v.nms.length c')) := by
    show _ = _
    rw [HK.out.cell 5, hvc]; rfl
  have HLT : Hid (w.heap.size < (w.alloc (.cells cs.toArray 26)).heap.size) := HK.out.lt
  clear hop ih h hvc hnm
  obtain ⟨C, HC⟩ : ∃ C, Hid (anyV (fun v => nbr twin v.nms) v = C) := ⟨_, Lib.hid rfl⟩
  rw [HC.out] at HD ⊢
  generalize v.its = its at *
  generalize v.nms = nms at *
  go_enter Tryz.func30, Tryz.ntmps30
  go_upto_region 1 with fail
  generalize w.alloc (.cells cs.toArray 26) = w0 at *
  clear HK HR
  go_wp2_with fail
  go_loopw [5] (fun vi wr => ∃ i k : Nat, vi = .int .i64 (i : Int) ∧ i ≤ nms.length ∧ Hid (∀ t, (h : t + 1 < nms.length) → t < i → twin nms[t] nms[t + 1] = false) ∧ wr = w0.drewN k) (fun vi _ => nms.length + 1 - (intOf vi).toNat)
  case atStart => exact ⟨0, 0, rfl, Nat.zero_le _, fun t _ h0 => absurd h0 (by omega), rfl⟩
  case round =>
    obtain ⟨i, kd, rfl, hi, HF, hwr⟩ := hrel
    have HBr0 : Hid (Below w0.heap.size w0 wr) := by rw [hwr]; exact below_drewN (Below.refl _ _) kd
    have HBr : Hid (Below w.heap.size w wr) := by rw [hwr]; exact below_drewN HB.out kd
    have k5 : wr.cell? ⟨w.heap.size, 5, none⟩ = some (.slice A' nms.length c') := by rw [hwr]; exact K5.out
    have HNR : Hid (Reads wr w.heap.size 1 A' nms.length (strs nms)) := by rw [hwr]; exact HNM.out.drewN kd
    have HWR := Lib.hid hwr
    clear hwr
    by_cases hlt : i + 1 < nms.length
    · obtain ⟨b, off, hA, hb1, hb2, hcell⟩ := HNR.out.form (by omega)
      subst hA
      have kn1 := hcell i (by omega)
      have kn2 := hcell (i + 1) hlt
      rw [show (strs nms).getD i undef = .string nms[i] by simp [List.getD, List.getElem?_eq_getElem (show i < nms.length by omega)]] at kn1
      rw [show (strs nms).getD (i + 1) undef = .string nms[i + 1] by simp [List.getD, List.getElem?_eq_getElem hlt]] at kn2
      obtain ⟨x, HX⟩ : ∃ x, Hid (nms[i] = x) := ⟨nms[i], Lib.hid rfl⟩
      obtain ⟨y, HY⟩ : ∃ y, Hid (nms[i + 1] = y) := ⟨nms[i + 1], Lib.hid rfl⟩
      rw [HX.out] at kn1
      rw [HY.out] at kn2
      obtain ⟨q, hq⟩ : ∃ q, (x.toList == y.toList) = q := ⟨_, rfl⟩
      have HQ : Hid (twin x y = q) := hq
      have HQ2 : Hid (twin nms[i] nms[i + 1] = q) := by show _ = _; rw [HX.out, HY.out]; exact HQ.out
      clear hcell
      have d1 : (i : Int) + 1 < (nms.length : Int) := by omega
      have d2 : (i : Int) < (nms.length : Int) := by omega
      have d0 : (0 : Int) ≤ (i : Int) + 1 := by omega
      cases q with
      | true =>
        have HE : Hid (C = true) := by show _ = _; rw [HD.out, nbr_true hlt HQ2.out]; rfl
        
        go_wp2_with fail
        have e1 : IntKind.i64.wrap ((i : Int) + 1) = (i : Int) + 1 := IntWalk.i64_in _ (by omega)
        have e2 : ((i : Int) + 1).toNat = i + 1 := by omega
        go_quiet (fail)
        have HBN := Lib.hid (below_drewN HBr.out nq)
        clear e1 e2 d1 d2 kn1 kn2 k5
        go_wp2_with fail
        go_ret
        exact ⟨by rw [HE.out]; rfl, HBN.out⟩
      | false =>
        have HF2 : Hid (∀ t, (h : t + 1 < nms.length) → t < i + 1 → twin nms[t] nms[t + 1] = false) := fun t h ht => by
          rcases Nat.lt_or_ge t i with h1 | h1
          · exact HF.out t h h1
          · obtain rfl : t = i := by omega
            exact HQ2.out
        
        all_goals
          go_wp2_with fail
          have e1 : IntKind.i64.wrap ((i : Int) + 1) = (i : Int) + 1 := IntWalk.i64_in _ (by omega)
          have e2 : ((i : Int) + 1).toNat = i + 1 := by omega
          go_quiet (fail)
          have HWN : Hid (wr.drewN nq = w0.drewN (kd + nq)) := by show _ = _; rw [HWR.out]; simp [World.drewN, Nat.add_assoc]
          clear e1 e2 d1 d2 kn1 kn2 k5
          go_wp2_with fail
          go_roundw
          case rel => first | exact ⟨i + 1, kd + nq, by go_num, by omega, HF2.out, HWN.out⟩ | (refine ⟨_, _, _, _, _, _, _, _, _, _, _, _, _, _, _, _, _, _, _, _, _, _, _, _, _, _, _, _, _, _, _, _, _, _, _, _, _, _, _, _, _, _, ?_, rfl⟩; exact ⟨i + 1, kd + nq, by go_num, by omega, HF2.out, HWN.out⟩)
          case measure => simp [intOf]; omega
    · have HN : Hid (nbr twin nms = false) := nbr_false fun t h => HF.out t h (by omega)
      have HK4 : Hid (wr.cell? ⟨w.heap.size, 4, none⟩ = some (.slice A its.length c)) := (HBr0.out.cell (p := ⟨w.heap.size, 4, none⟩) HLT.out).trans K4.out
      have HLT1 : Hid (w.heap.size < wr.heap.size) := Nat.lt_of_lt_of_le HLT.out HBr0.out.size
      clear HNR HNM K4 K5 HF
      go_wp2_with fail
      clear k5
      obtain ⟨w1, hw1⟩ : ∃ w1, w1 = wr := ⟨_, rfl⟩
      rw [← hw1] at HBr HK4 HLT1
      go_loopw [6] (fun vi wz => ∃ i : Nat, vi = .int .i64 i ∧ i ≤ its.length ∧ Hid (∀ j, (h : j < its.length) → j < i → anyV (fun v => nbr twin v.nms) its[j] = false) ∧ Hid (Below w1.heap.size w1 wz)) (fun vi _ => its.length - (intOf vi).toNat)
      case atStart => exact ⟨0, rfl, Nat.zero_le _, fun j _ h0 => absurd h0 (by omega), by rw [hw1]; exact Below.refl _ _⟩
      case round =>
        clear hw1
        obtain ⟨i2, rfl, hi2, HF2, HBr2⟩ := hrel
        have HBw := Lib.hid (HBr.out.trans (HBr2.out.mono HBr.out.size))
        have k4 : wr.cell? ⟨w.heap.size, 4, none⟩ = some (.slice A its.length c) := (HBr2.out.cell (p := ⟨w.heap.size, 4, none⟩) HLT1.out).trans HK4.out
        by_cases hlt2 : i2 < its.length
        · obtain ⟨b, off, hA, hbl, hr⟩ := HOP.out (by omega)
          subst hA
          obtain ⟨cs', hrv, hcell⟩ := hr wr HBw.out i2 hlt2
          obtain ⟨h6, hone⟩ := hrv.six
          have HRV := Lib.hid hrv
          have HCL := Lib.hid hcell
          clear hr hrv hcell hone
          go_wp2_with (refine wpList_load_at rfl 26 (.tmp 58) rfl b (off + i2 * 6) rfl cs' _ HCL.out Tryz.underlying26 rfl (by rw [h6]; exact v_info) ?_)
          refine (HIH.out i2 hlt2 _ _ HRV.out).mono ?_; rintro e w5 ⟨rfl, hb5⟩
          have HB5 := Lib.hid (HBr2.out.trans (hb5.mono HBr2.out.size))
          have HB5w := Lib.hid (HBw.out.trans (hb5.mono HBw.out.size))
          clear hb5
          obtain ⟨q, hq⟩ : ∃ q, anyV (fun v => nbr twin v.nms) its[i2] = q := ⟨_, rfl⟩
          rw [hq]
          cases q with
          | true =>
            have HDT : Hid (C = true) := by show _ = _; rw [HD.out, HN.out, Bool.false_or]; exact List.any_eq_true.2 ⟨_, List.getElem_mem hlt2, hq⟩
            clear hq
            go_wp2_with fail
            go_ret
            exact ⟨by rw [HDT.out]; rfl, HB5w.out⟩
          | false =>
            have HF3 : Hid (∀ j, (h : j < its.length) → j < i2 + 1 → anyV (fun v => nbr twin v.nms) its[j] = false) := fun j h hj => by
              rcases Nat.lt_or_ge j i2 with h1 | h1
              · exact HF2.out j h h1
              · obtain rfl : j = i2 := by omega
                exact hq
            clear hq
            go_wp2_with fail
            go_roundw
            case rel => first | exact ⟨i2 + 1, by go_num, hlt2, HF3.out, HB5.out⟩ | (refine ⟨_, _, _, _, _, _, _, _, _, _, _, _, _, _, _, _, ?_, rfl⟩; exact ⟨i2 + 1, by go_num, hlt2, HF3.out, HB5.out⟩)
            case measure => simp [intOf]; omega
        · have HDF : Hid (C = false) := by
            show _ = _
            rw [HD.out, HN.out, Bool.false_or, List.any_eq_false]
            intro x hx
            obtain ⟨j, hj, rfl⟩ := List.getElem_of_mem hx
            rw [HF2.out j hj (by omega)]
            decide
          go_wp2_with fail
          go_ret
          exact ⟨by rw [HDF.out]; rfl, HBw.out⟩
set_option maxRecDepth 100000 in
theorem c_risL : ∀ (v : Val) (cs : List Value) (w : World), RV w v cs → Calls Tryz.prog 30 #[.agg cs.toArray, .bool false] w fun e w' => e = .returned (.bool (anyV (fun v => nbr fall v.nms) v)) ∧ Below w.heap.size w w' := by
  refine Val.ind fun v ih cs w h => ?_
  have HR := Lib.hid h.row
  have hlen : v.its.length < 1048577 := by have := (bnd_len v).1; have := h.bd; omega
  have hnlen : v.nms.length < 1048577 := by have := (bnd_len v).2.1; have := h.bd; omega
  have HB : Hid (Below w.heap.size w (w.alloc (.cells cs.toArray 26))) := (Below.refl w.heap.size w).alloc (Nat.le_refl _) _
  have HK := Lib.hid (Blk.new w 26 cs.toArray)
  obtain ⟨A, A', c, c', hvc, hnm, hop⟩ := h.open_
  have HNM := Lib.hid (hnm.below HB.out)
  have HOP := Lib.hid hop
  have HIH : Hid (∀ (i : Nat) (hi : i < v.its.length) (cs : List Value) (w : World), RV w v.its[i] cs → Calls Tryz.prog 30 #[.agg cs.toArray, .bool false] w fun e w' => e = .returned (.bool (anyV (fun v => nbr fall v.nms) v.its[i])) ∧ Below w.heap.size w w') := fun i hi => ih _ (List.getElem_mem hi)
  have HD : Hid (anyV (fun v => nbr fall v.nms) v = (nbr fall v.nms || v.its.any (anyV (fun v => nbr fall v.nms)))) := by show _ = _; rw [anyV_eq, anyL_any]
  have K4 : Hid ((w.alloc (.cells cs.toArray 26)).cell? ⟨w.heap.size, 4, none⟩ = some (.slice A v.its.length c)) := by
    show _ = _
    rw [HK.out.cell 4, hvc]; rfl
  have K5 : Hid ((w.alloc (.cells cs.toArray 26)).cell? ⟨w.heap.size, 5, none⟩ = some (.slice A' v.nms.length c')) := by
    show _ = _
    rw [HK.out.cell 5, hvc]; rfl
  have HLT : Hid (w.heap.size < (w.alloc (.cells cs.toArray 26)).heap.size) := HK.out.lt
  clear hop ih h hvc hnm
  obtain ⟨C, HC⟩ : ∃ C, Hid (anyV (fun v => nbr fall v.nms) v = C) := ⟨_, Lib.hid rfl⟩
  rw [HC.out] at HD ⊢
  generalize v.its = its at *
  generalize v.nms = nms at *
  go_enter Tryz.func30, Tryz.ntmps30
  go_upto_region 1 with fail
  generalize w.alloc (.cells cs.toArray 26) = w0 at *
  clear HK HR
  go_wp2_with fail
  go_loopw [5] (fun vi wr => ∃ i k : Nat, vi = .int .i64 (i : Int) ∧ i ≤ nms.length ∧ Hid (∀ t, (h : t + 1 < nms.length) → t < i → fall nms[t] nms[t + 1] = false) ∧ wr = w0.drewN k) (fun vi _ => nms.length + 1 - (intOf vi).toNat)
  case atStart => exact ⟨0, 0, rfl, Nat.zero_le _, fun t _ h0 => absurd h0 (by omega), rfl⟩
  case round =>
    obtain ⟨i, kd, rfl, hi, HF, hwr⟩ := hrel
    have HBr0 : Hid (Below w0.heap.size w0 wr) := by rw [hwr]; exact below_drewN (Below.refl _ _) kd
    have HBr : Hid (Below w.heap.size w wr) := by rw [hwr]; exact below_drewN HB.out kd
    have k5 : wr.cell? ⟨w.heap.size, 5, none⟩ = some (.slice A' nms.length c') := by rw [hwr]; exact K5.out
    have HNR : Hid (Reads wr w.heap.size 1 A' nms.length (strs nms)) := by rw [hwr]; exact HNM.out.drewN kd
    have HWR := Lib.hid hwr
    clear hwr
    by_cases hlt : i + 1 < nms.length
    · obtain ⟨b, off, hA, hb1, hb2, hcell⟩ := HNR.out.form (by omega)
      subst hA
      have kn1 := hcell i (by omega)
      have kn2 := hcell (i + 1) hlt
      rw [show (strs nms).getD i undef = .string nms[i] by simp [List.getD, List.getElem?_eq_getElem (show i < nms.length by omega)]] at kn1
      rw [show (strs nms).getD (i + 1) undef = .string nms[i + 1] by simp [List.getD, List.getElem?_eq_getElem hlt]] at kn2
      obtain ⟨x, HX⟩ : ∃ x, Hid (nms[i] = x) := ⟨nms[i], Lib.hid rfl⟩
      obtain ⟨y, HY⟩ : ∃ y, Hid (nms[i + 1] = y) := ⟨nms[i + 1], Lib.hid rfl⟩
      rw [HX.out] at kn1
      rw [HY.out] at kn2
      obtain ⟨q1, hq1⟩ : ∃ q, Go.Op.bytesLess x.toList y.toList = q := ⟨_, rfl⟩
      obtain ⟨q2, hq2⟩ : ∃ q, (x.toList == y.toList) = q := ⟨_, rfl⟩
      obtain ⟨q, hq⟩ : ∃ q, (!(q1 || q2)) = q := ⟨_, rfl⟩
      have HQ : Hid (fall x y = q) := by show (!(Go.Op.bytesLess x.toList y.toList || x.toList == y.toList)) = q; rw [hq1, hq2]; exact hq
      have HQ2 : Hid (fall nms[i] nms[i + 1] = q) := by show _ = _; rw [HX.out, HY.out]; exact HQ.out
      clear hcell
      have d1 : (i : Int) + 1 < (nms.length : Int) := by omega
      have d2 : (i : Int) < (nms.length : Int) := by omega
      have d0 : (0 : Int) ≤ (i : Int) + 1 := by omega
      cases q with
      | true =>
        have HE : Hid (C = true) := by show _ = _; rw [HD.out, nbr_true hlt HQ2.out]; rfl
        obtain ⟨rfl, rfl⟩ : q1 = false ∧ q2 = false := by cases q1 <;> cases q2 <;> simp at hq ⊢
        go_wp2_with fail
        have e1 : IntKind.i64.wrap ((i : Int) + 1) = (i : Int) + 1 := IntWalk.i64_in _ (by omega)
        have e2 : ((i : Int) + 1).toNat = i + 1 := by omega
        go_quiet (fail)
        have HBN := Lib.hid (below_drewN HBr.out nq)
        clear e1 e2 d1 d2 kn1 kn2 k5
        go_wp2_with fail
        go_ret
        exact ⟨by rw [HE.out]; rfl, HBN.out⟩
      | false =>
        have HF2 : Hid (∀ t, (h : t + 1 < nms.length) → t < i + 1 → fall nms[t] nms[t + 1] = false) := fun t h ht => by
          rcases Nat.lt_or_ge t i with h1 | h1
          · exact HF.out t h h1
          · obtain rfl : t = i := by omega
            exact HQ2.out
        rcases (show (q1 = true ∧ q2 = true) ∨ (q1 = true ∧ q2 = false) ∨ (q1 = false ∧ q2 = true) by cases q1 <;> cases q2 <;> simp at hq ⊢) with ⟨rfl, rfl⟩ | ⟨rfl, rfl⟩ | ⟨rfl, rfl⟩
        all_goals
          go_wp2_with fail
          have e1 : IntKind.i64.wrap ((i : Int) + 1) = (i : Int) + 1 := IntWalk.i64_in _ (by omega)
          have e2 : ((i : Int) + 1).toNat = i + 1 := by omega
          go_quiet (fail)
          have HWN : Hid (wr.drewN nq = w0.drewN (kd + nq)) := by show _ = _; rw [HWR.out]; simp [World.drewN, Nat.add_assoc]
          clear e1 e2 d1 d2 kn1 kn2 k5
          go_wp2_with fail
          go_roundw
          case rel => first | exact ⟨i + 1, kd + nq, by go_num, by omega, HF2.out, HWN.out⟩ | (refine ⟨_, _, _, _, _, _, _, _, _, _, _, _, _, _, _, _, _, _, _, _, _, _, _, _, _, _, _, _, _, _, _, _, _, _, _, _, _, _, _, _, _, _, ?_, rfl⟩; exact ⟨i + 1, kd + nq, by go_num, by omega, HF2.out, HWN.out⟩)
          case measure => simp [intOf]; omega
    · have HN : Hid (nbr fall nms = false) := nbr_false fun t h => HF.out t h (by omega)
      have HK4 : Hid (wr.cell? ⟨w.heap.size, 4, none⟩ = some (.slice A its.length c)) := (HBr0.out.cell (p := ⟨w.heap.size, 4, none⟩) HLT.out).trans K4.out
      have HLT1 : Hid (w.heap.size < wr.heap.size) := Nat.lt_of_lt_of_le HLT.out HBr0.out.size
      clear HNR HNM K4 K5 HF
      go_wp2_with fail
      clear k5
      obtain ⟨w1, hw1⟩ : ∃ w1, w1 = wr := ⟨_, rfl⟩
      rw [← hw1] at HBr HK4 HLT1
      go_loopw [6] (fun vi wz => ∃ i : Nat, vi = .int .i64 i ∧ i ≤ its.length ∧ Hid (∀ j, (h : j < its.length) → j < i → anyV (fun v => nbr fall v.nms) its[j] = false) ∧ Hid (Below w1.heap.size w1 wz)) (fun vi _ => its.length - (intOf vi).toNat)
      case atStart => exact ⟨0, rfl, Nat.zero_le _, fun j _ h0 => absurd h0 (by omega), by rw [hw1]; exact Below.refl _ _⟩
      case round =>
        clear hw1
        obtain ⟨i2, rfl, hi2, HF2, HBr2⟩ := hrel
        have HBw := Lib.hid (HBr.out.trans (HBr2.out.mono HBr.out.size))
        have k4 : wr.cell? ⟨w.heap.size, 4, none⟩ = some (.slice A its.length c) := (HBr2.out.cell (p := ⟨w.heap.size, 4, none⟩) HLT1.out).trans HK4.out
        by_cases hlt2 : i2 < its.length
        · obtain ⟨b, off, hA, hbl, hr⟩ := HOP.out (by omega)
          subst hA
          obtain ⟨cs', hrv, hcell⟩ := hr wr HBw.out i2 hlt2
          obtain ⟨h6, hone⟩ := hrv.six
          have HRV := Lib.hid hrv
          have HCL := Lib.hid hcell
          clear hr hrv hcell hone
          go_wp2_with (refine wpList_load_at rfl 26 (.tmp 58) rfl b (off + i2 * 6) rfl cs' _ HCL.out Tryz.underlying26 rfl (by rw [h6]; exact v_info) ?_)
          refine (HIH.out i2 hlt2 _ _ HRV.out).mono ?_; rintro e w5 ⟨rfl, hb5⟩
          have HB5 := Lib.hid (HBr2.out.trans (hb5.mono HBr2.out.size))
          have HB5w := Lib.hid (HBw.out.trans (hb5.mono HBw.out.size))
          clear hb5
          obtain ⟨q, hq⟩ : ∃ q, anyV (fun v => nbr fall v.nms) its[i2] = q := ⟨_, rfl⟩
          rw [hq]
          cases q with
          | true =>
            have HDT : Hid (C = true) := by show _ = _; rw [HD.out, HN.out, Bool.false_or]; exact List.any_eq_true.2 ⟨_, List.getElem_mem hlt2, hq⟩
            clear hq
            go_wp2_with fail
            go_ret
            exact ⟨by rw [HDT.out]; rfl, HB5w.out⟩
          | false =>
            have HF3 : Hid (∀ j, (h : j < its.length) → j < i2 + 1 → anyV (fun v => nbr fall v.nms) its[j] = false) := fun j h hj => by
              rcases Nat.lt_or_ge j i2 with h1 | h1
              · exact HF2.out j h h1
              · obtain rfl : j = i2 := by omega
                exact hq
            clear hq
            go_wp2_with fail
            go_roundw
            case rel => first | exact ⟨i2 + 1, by go_num, hlt2, HF3.out, HB5.out⟩ | (refine ⟨_, _, _, _, _, _, _, _, _, _, _, _, _, _, _, _, ?_, rfl⟩; exact ⟨i2 + 1, by go_num, hlt2, HF3.out, HB5.out⟩)
            case measure => simp [intOf]; omega
        · have HDF : Hid (C = false) := by
            show _ = _
            rw [HD.out, HN.out, Bool.false_or, List.any_eq_false]
            intro x hx
            obtain ⟨j, hj, rfl⟩ := List.getElem_of_mem hx
            rw [HF2.out j hj (by omega)]
            decide
          go_wp2_with fail
          go_ret
          exact ⟨by rw [HDF.out]; rfl, HBw.out⟩
end Go.Proofs.YtigbbogfnchgnaaGreatDoor
