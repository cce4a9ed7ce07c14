/- Walks: tests on neighbouring names (value.neighbours, its closure, value.any1 with it). Conditions: the value as it reads; its bulk at most 1048576. -/
import Derived.Test.YtigbbogfnchgnaaGreatDoorYi
import Derived.BigQuiet
import Derived.Deep.QuietTactic
namespace Go.Proofs.YtigbbogfnchgnaaGreatDoor
open Go.RowKit
set_option linter.unusedVariables false
attribute [local go_sem ↓] Go.wp_at_zero Go.wp_at_succ

/-- A captured function lies in a cell. -/
structure CapF (w : World) (gb : Nat) (f : Value) : Prop where
  cell : w.cell? ⟨gb, 0, none⟩ = some f
  lt : gb < w.heap.size
theorem CapF.keep_ {w w' : World} {gb : Nat} {f : Value} (h : CapF w gb f) (hb : Below w.heap.size w w') : CapF w' gb f := ⟨(hb.cell (p := ⟨gb, 0, none⟩) h.lt).trans h.cell, Nat.lt_of_lt_of_le h.lt hb.size⟩
theorem c_tw (x y : ByteArray) (w : World) : Calls Tryz.prog 21 #[.string x, .string y] w fun e w' => e = .returned (.bool (twin x y)) ∧ w' = w := by
  have H : Hid (twin x y = (x.toList == y.toList)) := rfl
  go_enter Tryz.func21, Tryz.ntmps21
  go_wp2
  go_ret
  exact ⟨by rw [H.out]; rfl, rfl⟩
theorem c_fa (x y : ByteArray) (w : World) : Calls Tryz.prog 22 #[.string x, .string y] w fun e w' => e = .returned (.bool (fall x y)) ∧ w' = w := by
  have H : Hid (fall x y = !(Go.Op.bytesLess x.toList y.toList || x.toList == y.toList)) := rfl
  go_enter Tryz.func22, Tryz.ntmps22
  go_wp2
  go_ret
  exact ⟨by rw [H.out]; refine congrArg (fun b => Ending.returned (Value.bool b)) ?_; first | rfl | (simp; done) | (cases Go.Op.bytesLess x.toList y.toList <;> cases (x.toList == y.toList) <;> rfl), rfl⟩
theorem c_neiT (w : World) : Calls Tryz.prog 20 #[.func (.func 21) #[] #[]] w fun e w' => e = .returned (.func (.func 41) #[] #[.pointer (some ⟨w.heap.size, 0, none⟩)]) ∧ Below w.heap.size w w' ∧ CapF w' w.heap.size (.func (.func 21) #[] #[]) := by
  have hmf : ∀ (fn : Fn) (first cap : Array Value) (w : World), (Instr.makeFunc fn first cap).run Tryz.prog w = .ok (.func fn first cap) w := fun _ _ _ _ => rfl
  have HB := Lib.hid ((Below.refl w.heap.size w).alloc (Nat.le_refl _) (.cells #[.func (.func 21) #[] #[]] 52))
  have HK := Lib.hid (Blk.new w 52 #[.func (.func 21) #[] #[]])
  go_enter Tryz.func20, Tryz.ntmps20
  go_wp2
  go_ret
  exact ⟨rfl, HB.out, HK.out.cell 0, HK.out.lt⟩
set_option maxRecDepth 100000 in
theorem c_nbT (gb : Nat) (v : Val) (cs : List Value) (w : World) (h : RV w v cs) (hg : CapF w gb (.func (.func 21) #[] #[])) : Calls Tryz.prog 41 #[.agg cs.toArray, .pointer (some ⟨gb, 0, none⟩)] w fun e w' => e = .returned (.bool (nbr twin v.nms)) ∧ Below w.heap.size w w' := by
  have hlen : v.nms.length < 1048577 := by have := (bnd_len v).2.1; have := h.bd; omega
  have HB : Hid (Below w.heap.size w (w.alloc (.cells cs.toArray 26))) := (Below.refl w.heap.size w).alloc (Nat.le_refl _) _
  have HK := Lib.hid (Blk.new w 26 cs.toArray)
  have HG0 := Lib.hid (hg.keep_ HB.out)
  obtain ⟨A, A', c, c', hvc, hnm, _⟩ := h.open_
  have HNM := Lib.hid (hnm.below HB.out)
  have K5 : Hid ((w.alloc (.cells cs.toArray 26)).cell? ⟨w.heap.size, 5, none⟩ = some (.slice A' v.nms.length c')) := by
    show _ = _
    rw [HK.out.cell 5, hvc]; rfl
  clear h hvc hg hnm
  obtain ⟨nms0, HNE0⟩ : ∃ l, Hid (v.nms = l) := ⟨v.nms, Lib.hid rfl⟩
  rw [show nbr twin v.nms = nbr twin nms0 by rw [HNE0.out]]
  generalize v.nms = nms at *
  have HNE : Hid (nms = nms0) := HNE0.out
  clear HNE0
  go_enter Tryz.func41, Tryz.ntmps41
  go_upto_region 1 with fail
  generalize w.alloc (.cells cs.toArray 26) = w0 at *
  clear HK
  go_wp2_with fail
  go_loopw [4] (fun vi wr => ∃ i k : Nat, vi = .int .i64 ((i + 1 : Nat) : Int) ∧ i ≤ nms.length ∧ Hid (∀ t, (h : t + 1 < nms.length) → t < i → twin nms[t] nms[t + 1] = false) ∧ wr = w0.drewN k) (fun vi _ => nms.length + 1 - (intOf vi).toNat)
  case atStart => exact ⟨0, 0, rfl, Nat.zero_le _, fun t _ h0 => absurd h0 (by omega), rfl⟩
  case round =>
    obtain ⟨i, kd, rfl, hi, HF, hwr⟩ := hrel
    have HBr : Hid (Below w.heap.size w wr) := by rw [hwr]; exact below_drewN HB.out kd
    have HG1 : Hid (CapF wr gb (.func (.func 21) #[] #[])) := by rw [hwr]; exact ⟨HG0.out.cell, HG0.out.lt⟩
    have k5 : wr.cell? ⟨w.heap.size, 5, none⟩ = some (.slice A' nms.length c') := by rw [hwr]; exact K5.out
    have HNR : Hid (Reads wr w.heap.size 1 A' nms.length (strs nms)) := by rw [hwr]; exact HNM.out.drewN kd
    have HWR := Lib.hid hwr
    clear hwr
    by_cases hlt : i + 1 < nms.length
    · obtain ⟨b, off, hA, hb1, hb2, hcell⟩ := HNR.out.form (by omega)
      subst hA
      have kg := HG1.out.cell
      have kn1 := hcell i (by omega)
      have kn2 := hcell (i + 1) hlt
      rw [show (strs nms).getD i undef = .string nms[i] by simp [List.getD, List.getElem?_eq_getElem (show i < nms.length by omega)]] at kn1
      rw [show (strs nms).getD (i + 1) undef = .string nms[i + 1] by simp [List.getD, List.getElem?_eq_getElem hlt]] at kn2
      obtain ⟨q, hq⟩ : ∃ q, twin nms[i] nms[i + 1] = q := ⟨_, rfl⟩
      have HC := Lib.hid (fun W => c_tw nms[i] nms[i + 1] W)
      rw [hq] at HC
      have HQ := Lib.hid hq
      clear hcell hq
      obtain ⟨x, HX⟩ : ∃ x, Hid (nms[i] = x) := ⟨nms[i], Lib.hid rfl⟩
      obtain ⟨y, HY⟩ : ∃ y, Hid (nms[i + 1] = y) := ⟨nms[i + 1], Lib.hid rfl⟩
      rw [HX.out] at HC HQ kn1
      rw [HY.out] at HC HQ kn2
      have d1 : ((i + 1 : Nat) : Int) < (nms.length : Int) := by omega
      have d2 : (i : Int) < (nms.length : Int) := by omega
      have d3 : (i : Int) + 1 < (nms.length : Int) := by omega
      go_wp2_with fail
      have e1 : IntKind.i64.wrap ((i : Int) + 1 - 1) = (i : Int) := by rw [show (i : Int) + 1 - 1 = i by omega]; exact IntWalk.i64_in _ (by omega)
      have e2 : ((i : Int) + 1).toNat = i + 1 := by omega
      go_quiet ((go_at_call 21; exact Calls.quiet_of_same (HC.out _)))
      have HBN := Lib.hid (below_drewN HBr.out nq)
      have HWN : Hid (wr.drewN nq = w0.drewN (kd + nq)) := by show _ = _; rw [HWR.out]; simp [World.drewN, Nat.add_assoc]
      clear e1 e2 d1 d2 d3 kg kn1 kn2 k5
      cases q with
      | true =>
        have HE : Hid (nbr twin nms0 = true) := by
          show _ = _
          rw [← HNE.out]
          exact nbr_true hlt (by rw [← HX.out, ← HY.out] at HQ; exact HQ.out)
        go_wp2_with fail
        go_ret
        exact ⟨by rw [HE.out]; rfl, HBN.out⟩
      | false =>
        have HF2 : Hid (∀ t, (h : t + 1 < nms.length) → t < i + 1 → twin nms[t] nms[t + 1] = false) := fun t h ht => by
          rcases Nat.lt_or_ge t i with h1 | h1
          · exact HF.out t h h1
          · obtain rfl : t = i := by omega
            rw [← HX.out, ← HY.out] at HQ
            exact HQ.out
        go_wp2_with fail
        go_roundw
        case rel => first | exact ⟨i + 1, kd + nq, by go_num, by omega, HF2.out, HWN.out⟩ | (refine ⟨_, _, _, _, _, _, _, _, _, _, _, _, _, _, _, _, _, _, _, _, _, ?_, rfl⟩; exact ⟨i + 1, kd + nq, by go_num, by omega, HF2.out, HWN.out⟩)
        case measure => simp [intOf]; omega
    · have HE : Hid (nbr twin nms0 = false) := by
        show _ = _
        rw [← HNE.out]
        exact nbr_false fun t h => HF.out t h (by omega)
      go_wp2_with fail
      go_ret
      exact ⟨by rw [HE.out]; rfl, HBr.out⟩
theorem c_neiL (w : World) : Calls Tryz.prog 20 #[.func (.func 22) #[] #[]] w fun e w' => e = .returned (.func (.func 41) #[] #[.pointer (some ⟨w.heap.size, 0, none⟩)]) ∧ Below w.heap.size w w' ∧ CapF w' w.heap.size (.func (.func 22) #[] #[]) := by
  have hmf : ∀ (fn : Fn) (first cap : Array Value) (w : World), (Instr.makeFunc fn first cap).run Tryz.prog w = .ok (.func fn first cap) w := fun _ _ _ _ => rfl
  have HB := Lib.hid ((Below.refl w.heap.size w).alloc (Nat.le_refl _) (.cells #[.func (.func 22) #[] #[]] 52))
  have HK := Lib.hid (Blk.new w 52 #[.func (.func 22) #[] #[]])
  go_enter Tryz.func20, Tryz.ntmps20
  go_wp2
  go_ret
  exact ⟨rfl, HB.out, HK.out.cell 0, HK.out.lt⟩
set_option maxRecDepth 100000 in
theorem c_nbL (gb : Nat) (v : Val) (cs : List Value) (w : World) (h : RV w v cs) (hg : CapF w gb (.func (.func 22) #[] #[])) : Calls Tryz.prog 41 #[.agg cs.toArray, .pointer (some ⟨gb, 0, none⟩)] w fun e w' => e = .returned (.bool (nbr fall v.nms)) ∧ Below w.heap.size w w' := by
  have hlen : v.nms.length < 1048577 := by have := (bnd_len v).2.1; have := h.bd; omega
  have HB : Hid (Below w.heap.size w (w.alloc (.cells cs.toArray 26))) := (Below.refl w.heap.size w).alloc (Nat.le_refl _) _
  have HK := Lib.hid (Blk.new w 26 cs.toArray)
  have HG0 := Lib.hid (hg.keep_ HB.out)
  obtain ⟨A, A', c, c', hvc, hnm, _⟩ := h.open_
  have HNM := Lib.hid (hnm.below HB.out)
  have K5 : Hid ((w.alloc (.cells cs.toArray 26)).cell? ⟨w.heap.size, 5, none⟩ = some (.slice A' v.nms.length c')) := by
    show _ = _
    rw [HK.out.cell 5, hvc]; rfl
  clear h hvc hg hnm
  obtain ⟨nms0, HNE0⟩ : ∃ l, Hid (v.nms = l) := ⟨v.nms, Lib.hid rfl⟩
  rw [show nbr fall v.nms = nbr fall nms0 by rw [HNE0.out]]
  generalize v.nms = nms at *
  have HNE : Hid (nms = nms0) := HNE0.out
  clear HNE0
  go_enter Tryz.func41, Tryz.ntmps41
  go_upto_region 1 with fail
  generalize w.alloc (.cells cs.toArray 26) = w0 at *
  clear HK
  go_wp2_with fail
  go_loopw [4] (fun vi wr => ∃ i k : Nat, vi = .int .i64 ((i + 1 : Nat) : Int) ∧ i ≤ nms.length ∧ Hid (∀ t, (h : t + 1 < nms.length) → t < i → fall nms[t] nms[t + 1] = false) ∧ wr = w0.drewN k) (fun vi _ => nms.length + 1 - (intOf vi).toNat)
  case atStart => exact ⟨0, 0, rfl, Nat.zero_le _, fun t _ h0 => absurd h0 (by omega), rfl⟩
  case round =>
    obtain ⟨i, kd, rfl, hi, HF, hwr⟩ := hrel
    have HBr : Hid (Below w.heap.size w wr) := by rw [hwr]; exact below_drewN HB.out kd
    have HG1 : Hid (CapF wr gb (.func (.func 22) #[] #[])) := by rw [hwr]; exact ⟨HG0.out.cell, HG0.out.lt⟩
    have k5 : wr.cell? ⟨w.heap.size, 5, none⟩ = some (.slice A' nms.length c') := by rw [hwr]; exact K5.out
    have HNR : Hid (Reads wr w.heap.size 1 A' nms.length (strs nms)) := by rw [hwr]; exact HNM.out.drewN kd
    have HWR := Lib.hid hwr
    clear hwr
    by_cases hlt : i + 1 < nms.length
    · obtain ⟨b, off, hA, hb1, hb2, hcell⟩ := HNR.out.form (by omega)
      subst hA
      have kg := HG1.out.cell
      have kn1 := hcell i (by omega)
      have kn2 := hcell (i + 1) hlt
      rw [show (strs nms).getD i undef = .string nms[i] by simp [List.getD, List.getElem?_eq_getElem (show i < nms.length by omega)]] at kn1
      rw [show (strs nms).getD (i + 1) undef = .string nms[i + 1] by simp [List.getD, List.getElem?_eq_getElem hlt]] at kn2
      obtain ⟨q, hq⟩ : ∃ q, fall nms[i] nms[i + 1] = q := ⟨_, rfl⟩
      have HC := Lib.hid (fun W => c_fa nms[i] nms[i + 1] W)
      rw [hq] at HC
      have HQ := Lib.hid hq
      clear hcell hq
      obtain ⟨x, HX⟩ : ∃ x, Hid (nms[i] = x) := ⟨nms[i], Lib.hid rfl⟩
      obtain ⟨y, HY⟩ : ∃ y, Hid (nms[i + 1] = y) := ⟨nms[i + 1], Lib.hid rfl⟩
      rw [HX.out] at HC HQ kn1
      rw [HY.out] at HC HQ kn2
      have d1 : ((i + 1 : Nat) : Int) < (nms.length : Int) := by omega
      have d2 : (i : Int) < (nms.length : Int) := by omega
      have d3 : (i : Int) + 1 < (nms.length : Int) := by omega
      go_wp2_with fail
      have e1 : IntKind.i64.wrap ((i : Int) + 1 - 1) = (i : Int) := by rw [show (i : Int) + 1 - 1 = i by omega]; exact IntWalk.i64_in _ (by omega)
      have e2 : ((i : Int) + 1).toNat = i + 1 := by omega
      go_quiet ((go_at_call 22; exact Calls.quiet_of_same (HC.out _)))
      have HBN := Lib.hid (below_drewN HBr.out nq)
      have HWN : Hid (wr.drewN nq = w0.drewN (kd + nq)) := by show _ = _; rw [HWR.out]; simp [World.drewN, Nat.add_assoc]
      clear e1 e2 d1 d2 d3 kg kn1 kn2 k5
      cases q with
      | true =>
        have HE : Hid (nbr fall nms0 = true) := by
          show _ = _
          rw [← HNE.out]
          exact nbr_true hlt (by rw [← HX.out, ← HY.out] at HQ; exact HQ.out)
        go_wp2_with fail
        go_ret
        exact ⟨by rw [HE.out]; rfl, HBN.out⟩
      | false =>
        have HF2 : Hid (∀ t, (h : t + 1 < nms.length) → t < i + 1 → fall nms[t] nms[t + 1] = false) := fun t h ht => by
          rcases Nat.lt_or_ge t i with h1 | h1
          · exact HF.out t h h1
          · obtain rfl : t = i := by omega
            rw [← HX.out, ← HY.out] at HQ
            exact HQ.out
        go_wp2_with fail
        go_roundw
        case rel => first | exact ⟨i + 1, kd + nq, by go_num, by omega, HF2.out, HWN.out⟩ | (refine ⟨_, _, _, _, _, _, _, _, _, _, _, _, _, _, _, _, _, _, _, _, _, ?_, rfl⟩; exact ⟨i + 1, kd + nq, by go_num, by omega, HF2.out, HWN.out⟩)
        case measure => simp [intOf]; omega
    · have HE : Hid (nbr fall nms0 = false) := by
        show _ = _
        rw [← HNE.out]
        exact nbr_false fun t h => HF.out t h (by omega)
      go_wp2_with fail
      go_ret
      exact ⟨by rw [HE.out]; rfl, HBr.out⟩
set_option maxRecDepth 100000 in
theorem c_any1T (gb : Nat) : ∀ (v : Val) (cs : List Value) (w : World), RV w v cs → CapF w gb (.func (.func 21) #[] #[]) → Calls Tryz.prog 17 #[.agg cs.toArray, .func (.func 41) #[] #[.pointer (some ⟨gb, 0, none⟩)]] w fun e w' => e = .returned (.bool (anyV (fun v => nbr twin v.nms) v)) ∧ Below w.heap.size w w' := by
  refine Val.ind fun v ih cs w h hg => ?_
  have HR := Lib.hid h.row
  have hlen : v.its.length < 1048577 := by have := (bnd_len v).1; have := h.bd; omega
  have HB : Hid (Below w.heap.size w (w.alloc (.cells cs.toArray 26))) := (Below.refl w.heap.size w).alloc (Nat.le_refl _) _
  have HK := Lib.hid (Blk.new w 26 cs.toArray)
  have HG0 : Hid (CapF (w.alloc (.cells cs.toArray 26)) gb (.func (.func 21) #[] #[])) := hg.keep_ HB.out
  have HC := Lib.hid (c_nbT gb v cs _ (h.step HB.out) HG0.out)
  obtain ⟨A, A', c, c', hvc, _, hop⟩ := h.open_
  have HOP := Lib.hid hop
  have HIH : Hid (∀ (i : Nat) (hi : i < v.its.length) (cs : List Value) (w : World), RV w v.its[i] cs → CapF w gb (.func (.func 21) #[] #[]) → Calls Tryz.prog 17 #[.agg cs.toArray, .func (.func 41) #[] #[.pointer (some ⟨gb, 0, none⟩)]] w fun e w' => e = .returned (.bool (anyV (fun v => nbr twin v.nms) v.its[i])) ∧ Below w.heap.size w w') := fun i hi => ih _ (List.getElem_mem hi)
  have HD : Hid (anyV (fun v => nbr twin v.nms) v = ((nbr twin v.nms) || v.its.any (anyV (fun v => nbr twin v.nms)))) := by show _ = _; rw [anyV_eq, anyL_any]
  have K4 : Hid ((w.alloc (.cells cs.toArray 26)).cell? ⟨w.heap.size, 4, none⟩ = some (.slice A v.its.length c)) := by
    show _ = _
    rw [HK.out.cell 4, hvc]; rfl
  have HLT : Hid (w.heap.size < (w.alloc (.cells cs.toArray 26)).heap.size) := HK.out.lt
  have HGW := Lib.hid hg
  clear hop ih h hvc hg
  generalize v.its = its at *
  go_enter Tryz.func17, Tryz.ntmps17
  go_upto_region 1 with fail
  generalize w.alloc (.cells cs.toArray 26) = w0 at *
  go_wp2_with (refine wpList_load_row rfl 26 (.tmp 2) rfl w.heap.size rfl 26 _ (0, 0) _ HK.out Tryz.underlying26 rfl HR.out ?_)
  refine HC.out.mono ?_; rintro e w1 ⟨rfl, hb1⟩
  have HB1 := Lib.hid (HB.out.trans (hb1.mono HB.out.size))
  have k4 : w1.cell? ⟨w.heap.size, 4, none⟩ = some (.slice A its.length c) := (hb1.cell (p := ⟨w.heap.size, 4, none⟩) HLT.out).trans K4.out
  clear hb1 HC HK HR K4 HLT HB HG0
  obtain ⟨p0, hp0⟩ : ∃ q, (nbr twin v.nms) = q := ⟨_, rfl⟩
  rw [hp0]
  rw [hp0] at HD
  clear hp0
  cases p0 with
  | true =>
    have HDT : Hid (anyV (fun v => nbr twin v.nms) v = true) := by show _ = _; rw [HD.out]; rfl
    go_wp2_with fail
    go_ret
    exact ⟨by rw [HDT.out]; rfl, HB1.out⟩
  | false =>
    go_wp2_with fail
    clear k4
    go_loopw [13] (fun vi wr => ∃ i : Nat, vi = .int .i64 i ∧ i ≤ its.length ∧ Hid (∀ j, (h : j < its.length) → j < i → anyV (fun v => nbr twin v.nms) its[j] = false) ∧ Hid (Below w.heap.size w wr)) (fun vi _ => its.length - (intOf vi).toNat)
    case atStart => exact ⟨0, rfl, Nat.zero_le _, fun j _ h0 => absurd h0 (by omega), HB1.out⟩
    case round =>
      obtain ⟨i, rfl, hi, HF, HBr⟩ := hrel
      by_cases hlt : i < its.length
      · obtain ⟨b, off, hA, hbl, hr⟩ := HOP.out (by omega)
        subst hA
        obtain ⟨cs', hrv, hcell⟩ := hr wr HBr.out i hlt
        obtain ⟨h6, hone⟩ := hrv.six
        have h6a : cs'.toArray.size = 6 := by simpa using h6
        have HRV := Lib.hid hrv
        have HCL := Lib.hid hcell
        have HB8 := Lib.hid (Blk.new wr 26 vz)
        have HBA : Hid (Below wr.heap.size wr (wr.alloc (.cells vz 26))) := (Below.refl _ _).alloc (Nat.le_refl _) _
        clear hr hrv hcell
        go_wp2_with (first
          | (refine wpList_load_at rfl 26 (.tmp 15) rfl b (off + i * 6) rfl cs' _ HCL.out Tryz.underlying26 rfl (by rw [h6]; exact v_info) ?_)
          | (refine wpList_storeB rfl 26 (.tmp 6) (.tmp 16) rfl rfl wr.heap.size cs'.toArray rfl rfl HB8.out (by rw [h6a]; exact v_info) (by rw [h6a]; rfl) hone ?_; intro w4 hB4 hg4 hz4)
          | (refine wpList_load_row rfl 26 (.tmp 6) rfl wr.heap.size rfl 26 _ (0, 0) _ hB4 Tryz.underlying26 rfl (by rw [h6a]; exact v_info) ?_))
        have hb4 : Below wr.heap.size wr w4 := HBA.out.grown hg4 (by simp) (fun _ h => by injection h with h; omega)
        have HB4 := Lib.hid (below_step HBr.out hb4)
        have HRV4 := Lib.hid (HRV.out.step hb4)
        clear hB4 hg4 hz4 hb4 HBA HB8 HCL
        refine (HIH.out i hlt _ _ HRV4.out (HGW.out.keep_ HB4.out)).mono ?_; rintro e w5 ⟨rfl, hb5⟩
        have HB5 := Lib.hid (below_step HB4.out hb5)
        clear hb5
        obtain ⟨q, hq⟩ : ∃ q, anyV (fun v => nbr twin v.nms) its[i] = q := ⟨_, rfl⟩
        rw [hq]
        cases q with
        | true =>
          have HDT : Hid (anyV (fun v => nbr twin v.nms) v = true) := by show _ = _; rw [HD.out]; exact List.any_eq_true.2 ⟨_, List.getElem_mem hlt, hq⟩
          clear hq
          go_wp2_with fail
          go_ret
          exact ⟨by rw [HDT.out]; rfl, HB5.out⟩
        | false =>
          have HF2 : Hid (∀ j, (h : j < its.length) → j < i + 1 → anyV (fun v => nbr twin v.nms) its[j] = false) := fun j h hj => by
            rcases Nat.lt_or_ge j i with h1 | h1
            · exact HF.out j h h1
            · obtain rfl : j = i := by omega
              exact hq
          clear hq
          go_wp2_with fail
          go_roundw
          case rel => first | exact ⟨i + 1, by go_num, hlt, HF2.out, HB5.out⟩ | (refine ⟨_, _, _, _, _, _, _, _, _, _, _, ?_, rfl⟩; exact ⟨i + 1, by go_num, hlt, HF2.out, HB5.out⟩)
          case measure => simp [intOf]; omega
      · have HDF : Hid (anyV (fun v => nbr twin v.nms) v = false) := by
          show _ = _
          rw [HD.out, Bool.false_or, List.any_eq_false]
          intro x hx
          obtain ⟨j, hj, rfl⟩ := List.getElem_of_mem hx
          rw [HF.out j hj (by omega)]
          decide
        go_wp2_with fail
        go_ret
        exact ⟨by rw [HDF.out]; rfl, HBr.out⟩
set_option maxRecDepth 100000 in
theorem c_any1L (gb : Nat) : ∀ (v : Val) (cs : List Value) (w : World), RV w v cs → CapF w gb (.func (.func 22) #[] #[]) → Calls Tryz.prog 17 #[.agg cs.toArray, .func (.func 41) #[] #[.pointer (some ⟨gb, 0, none⟩)]] w fun e w' => e = .returned (.bool (anyV (fun v => nbr fall v.nms) v)) ∧ Below w.heap.size w w' := by
  refine Val.ind fun v ih cs w h hg => ?_
  have HR := Lib.hid h.row
  have hlen : v.its.length < 1048577 := by have := (bnd_len v).1; have := h.bd; omega
  have HB : Hid (Below w.heap.size w (w.alloc (.cells cs.toArray 26))) := (Below.refl w.heap.size w).alloc (Nat.le_refl _) _
  have HK := Lib.hid (Blk.new w 26 cs.toArray)
  have HG0 : Hid (CapF (w.alloc (.cells cs.toArray 26)) gb (.func (.func 22) #[] #[])) := hg.keep_ HB.out
  have HC := Lib.hid (c_nbL gb v cs _ (h.step HB.out) HG0.out)
  obtain ⟨A, A', c, c', hvc, _, hop⟩ := h.open_
  have HOP := Lib.hid hop
  have HIH : Hid (∀ (i : Nat) (hi : i < v.its.length) (cs : List Value) (w : World), RV w v.its[i] cs → CapF w gb (.func (.func 22) #[] #[]) → Calls Tryz.prog 17 #[.agg cs.toArray, .func (.func 41) #[] #[.pointer (some ⟨gb, 0, none⟩)]] w fun e w' => e = .returned (.bool (anyV (fun v => nbr fall v.nms) v.its[i])) ∧ Below w.heap.size w w') := fun i hi => ih _ (List.getElem_mem hi)
  have HD : Hid (anyV (fun v => nbr fall v.nms) v = ((nbr fall v.nms) || v.its.any (anyV (fun v => nbr fall v.nms)))) := by show _ = _; rw [anyV_eq, anyL_any]
  have K4 : Hid ((w.alloc (.cells cs.toArray 26)).cell? ⟨w.heap.size, 4, none⟩ = some (.slice A v.its.length c)) := by
    show _ = _
    rw [HK.out.cell 4, hvc]; rfl
  have HLT : Hid (w.heap.size < (w.alloc (.cells cs.toArray 26)).heap.size) := HK.out.lt
  have HGW := Lib.hid hg
  clear hop ih h hvc hg
  generalize v.its = its at *
  go_enter Tryz.func17, Tryz.ntmps17
  go_upto_region 1 with fail
  generalize w.alloc (.cells cs.toArray 26) = w0 at *
  go_wp2_with (refine wpList_load_row rfl 26 (.tmp 2) rfl w.heap.size rfl 26 _ (0, 0) _ HK.out Tryz.underlying26 rfl HR.out ?_)
  refine HC.out.mono ?_; rintro e w1 ⟨rfl, hb1⟩
  have HB1 := Lib.hid (HB.out.trans (hb1.mono HB.out.size))
  have k4 : w1.cell? ⟨w.heap.size, 4, none⟩ = some (.slice A its.length c) := (hb1.cell (p := ⟨w.heap.size, 4, none⟩) HLT.out).trans K4.out
  clear hb1 HC HK HR K4 HLT HB HG0
  obtain ⟨p0, hp0⟩ : ∃ q, (nbr fall v.nms) = q := ⟨_, rfl⟩
  rw [hp0]
  rw [hp0] at HD
  clear hp0
  cases p0 with
  | true =>
    have HDT : Hid (anyV (fun v => nbr fall v.nms) v = true) := by show _ = _; rw [HD.out]; rfl
    go_wp2_with fail
    go_ret
    exact ⟨by rw [HDT.out]; rfl, HB1.out⟩
  | false =>
    go_wp2_with fail
    clear k4
    go_loopw [13] (fun vi wr => ∃ i : Nat, vi = .int .i64 i ∧ i ≤ its.length ∧ Hid (∀ j, (h : j < its.length) → j < i → anyV (fun v => nbr fall v.nms) its[j] = false) ∧ Hid (Below w.heap.size w wr)) (fun vi _ => its.length - (intOf vi).toNat)
    case atStart => exact ⟨0, rfl, Nat.zero_le _, fun j _ h0 => absurd h0 (by omega), HB1.out⟩
    case round =>
      obtain ⟨i, rfl, hi, HF, HBr⟩ := hrel
      by_cases hlt : i < its.length
      · obtain ⟨b, off, hA, hbl, hr⟩ := HOP.out (by omega)
        subst hA
        obtain ⟨cs', hrv, hcell⟩ := hr wr HBr.out i hlt
        obtain ⟨h6, hone⟩ := hrv.six
        have h6a : cs'.toArray.size = 6 := by simpa using h6
        have HRV := Lib.hid hrv
        have HCL := Lib.hid hcell
        have HB8 := Lib.hid (Blk.new wr 26 vz)
        have HBA : Hid (Below wr.heap.size wr (wr.alloc (.cells vz 26))) := (Below.refl _ _).alloc (Nat.le_refl _) _
        clear hr hrv hcell
        go_wp2_with (first
          | (refine wpList_load_at rfl 26 (.tmp 15) rfl b (off + i * 6) rfl cs' _ HCL.out Tryz.underlying26 rfl (by rw [h6]; exact v_info) ?_)
          | (refine wpList_storeB rfl 26 (.tmp 6) (.tmp 16) rfl rfl wr.heap.size cs'.toArray rfl rfl HB8.out (by rw [h6a]; exact v_info) (by rw [h6a]; rfl) hone ?_; intro w4 hB4 hg4 hz4)
          | (refine wpList_load_row rfl 26 (.tmp 6) rfl wr.heap.size rfl 26 _ (0, 0) _ hB4 Tryz.underlying26 rfl (by rw [h6a]; exact v_info) ?_))
        have hb4 : Below wr.heap.size wr w4 := HBA.out.grown hg4 (by simp) (fun _ h => by injection h with h; omega)
        have HB4 := Lib.hid (below_step HBr.out hb4)
        have HRV4 := Lib.hid (HRV.out.step hb4)
        clear hB4 hg4 hz4 hb4 HBA HB8 HCL
        refine (HIH.out i hlt _ _ HRV4.out (HGW.out.keep_ HB4.out)).mono ?_; rintro e w5 ⟨rfl, hb5⟩
        have HB5 := Lib.hid (below_step HB4.out hb5)
        clear hb5
        obtain ⟨q, hq⟩ : ∃ q, anyV (fun v => nbr fall v.nms) its[i] = q := ⟨_, rfl⟩
        rw [hq]
        cases q with
        | true =>
          have HDT : Hid (anyV (fun v => nbr fall v.nms) v = true) := by show _ = _; rw [HD.out]; exact List.any_eq_true.2 ⟨_, List.getElem_mem hlt, hq⟩
          clear hq
          go_wp2_with fail
          go_ret
          exact ⟨by rw [HDT.out]; rfl, HB5.out⟩
        | false =>
          have HF2 : Hid (∀ j, (h : j < its.length) → j < i + 1 → anyV (fun v => nbr fall v.nms) its[j] = false) := fun j h hj => by
            rcases Nat.lt_or_ge j i with h1 | h1
            · exact HF.out j h h1
            · obtain rfl : j = i := by omega
              exact hq
          clear hq
          go_wp2_with fail
          go_roundw
          case rel => first | exact ⟨i + 1, by go_num, hlt, HF2.out, HB5.out⟩ | (refine ⟨_, _, _, _, _, _, _, _, _, _, _, ?_, rfl⟩; exact ⟨i + 1, by go_num, hlt, HF2.out, HB5.out⟩)
          case measure => simp [intOf]; omega
      · have HDF : Hid (anyV (fun v => nbr fall v.nms) v = false) := by
          show _ = _
          rw [HD.out, Bool.false_or, List.any_eq_false]
          intro x hx
          obtain ⟨j, hj, rfl⟩ := List.getElem_of_mem hx
          rw [HF.out j hj (by omega)]
          decide
        go_wp2_with fail
        go_ret
        exact ⟨by rw [HDF.out]; rfl, HBr.out⟩
end Go.Proofs.YtigbbogfnchgnaaGreatDoor
