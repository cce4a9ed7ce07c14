/- Walks over values as trees: does a test say so of the value or of a part (value.any1 with the test on fields). Conditions: the value as it reads; its bulk at most 1048576. -/
import Derived.Test.YtigbbogfnchgnaaGreatDoorYg
namespace Go.Proofs.YtigbbogfnchgnaaGreatDoor
open Go.RowKit
set_option linter.unusedVariables false
attribute [local go_sem ↓] Go.wp_at_zero Go.wp_at_succ

/-- A value's cells in a block of the call's own. -/
theorem RV.row {w : World} {v : Val} {cs : List Value} (h : RV w v cs) : (Tryz.prog.info? 26).map (·.size) = some cs.toArray.size := by
  have := h.six.1
  rw [show cs.toArray.size = 6 by simpa using this]
  exact v_info
theorem c_Check1 (v : Val) (cs : List Value) (w : World) (h : RV w v cs) : Calls Tryz.prog 18 #[.agg cs.toArray] w fun e w' => e = .returned (.bool (!flds fone v)) ∧ Below w.heap.size w w' := by
  have HB : Hid (Below w.heap.size w (w.alloc (.cells cs.toArray 26))) := (Below.refl _ _).alloc (Nat.le_refl _) _
  have HF := Lib.hid (c_fields v cs _ (h.step HB.out))
  have HK := Lib.hid (Blk.new w 26 cs.toArray)
  have HR := Lib.hid h.row
  clear h
  go_enter Tryz.func18, Tryz.ntmps18
  go_wp2_with (refine wpList_load_row rfl 26 (.tmp 1) rfl w.heap.size rfl 26 _ (0, 0) _ HK.out Tryz.underlying26 rfl HR.out ?_)
  refine HF.out.mono ?_; rintro e w2 ⟨rfl, hb⟩
  have HB2 := Lib.hid (below_step HB.out hb)
  clear hb
  go_wp2_with fail
  go_ret
  exact ⟨rfl, HB2.out⟩
set_option maxRecDepth 100000 in
theorem c_any1F : ∀ (v : Val) (cs : List Value) (w : World), RV w v cs → Calls Tryz.prog 17 #[.agg cs.toArray, .func (.func 18) #[] #[]] w fun e w' => e = .returned (.bool (anyV (fun v => !flds fone v) v)) ∧ Below w.heap.size w w' := by
  refine Val.ind fun v ih cs w h  => ?_
  have HR := Lib.hid h.row
  have hlen : v.its.length < 1048577 := by have := (bnd_len v).1; have := h.bd; omega
  have HB : Hid (Below w.heap.size w (w.alloc (.cells cs.toArray 26))) := (Below.refl w.heap.size w).alloc (Nat.le_refl _) _
  have HK := Lib.hid (Blk.new w 26 cs.toArray)

  have HC := Lib.hid (c_Check1 v _ _ (h.step HB.out))
  obtain ⟨A, A', c, c', hvc, _, hop⟩ := h.open_
  have HOP := Lib.hid hop
  have HIH : Hid (∀ (i : Nat) (hi : i < v.its.length) (cs : List Value) (w : World), RV w v.its[i] cs → Calls Tryz.prog 17 #[.agg cs.toArray, .func (.func 18) #[] #[]] w fun e w' => e = .returned (.bool (anyV (fun v => !flds fone v) v.its[i])) ∧ Below w.heap.size w w') := fun i hi => ih _ (List.getElem_mem hi)
  have HD : Hid (anyV (fun v => !flds fone v) v = ((!flds fone v) || v.its.any (anyV (fun v => !flds fone v)))) := by show _ = _; rw [anyV_eq, anyL_any]
  have K4 : Hid ((w.alloc (.cells cs.toArray 26)).cell? ⟨w.heap.size, 4, none⟩ = some (.slice A v.its.length c)) := by
    show _ = _
    rw [HK.out.cell 4, hvc]; rfl
  have HLT : Hid (w.heap.size < (w.alloc (.cells cs.toArray 26)).heap.size) := HK.out.lt
  
  clear hop ih h hvc 
  generalize v.its = its at *
  go_enter Tryz.func17, Tryz.ntmps17
  go_upto_region 1 with fail
  generalize w.alloc (.cells cs.toArray 26) = w0 at *
  go_wp2_with (refine wpList_load_row rfl 26 (.tmp 2) rfl w.heap.size rfl 26 _ (0, 0) _ HK.out Tryz.underlying26 rfl HR.out ?_)
  refine HC.out.mono ?_; rintro e w1 ⟨rfl, hb1⟩
  have HB1 := Lib.hid (HB.out.trans (hb1.mono HB.out.size))
  have k4 : w1.cell? ⟨w.heap.size, 4, none⟩ = some (.slice A its.length c) := (hb1.cell (p := ⟨w.heap.size, 4, none⟩) HLT.out).trans K4.out
  clear hb1 HC HK HR K4 HLT HB 
  obtain ⟨p0, hp0⟩ : ∃ q, (!flds fone v) = q := ⟨_, rfl⟩
  rw [hp0]
  rw [hp0] at HD
  clear hp0
  cases p0 with
  | true =>
    have HDT : Hid (anyV (fun v => !flds fone v) v = true) := by show _ = _; rw [HD.out]; rfl
    go_wp2_with fail
    go_ret
    exact ⟨by rw [HDT.out]; rfl, HB1.out⟩
  | false =>
    go_wp2_with fail
    clear k4
    go_loopw [13] (fun vi wr => ∃ i : Nat, vi = .int .i64 i ∧ i ≤ its.length ∧ Hid (∀ j, (h : j < its.length) → j < i → anyV (fun v => !flds fone v) its[j] = false) ∧ Hid (Below w.heap.size w wr)) (fun vi _ => its.length - (intOf vi).toNat)
    case atStart => exact ⟨0, rfl, Nat.zero_le _, fun j _ h0 => absurd h0 (by omega), HB1.out⟩
    case round =>
      obtain ⟨i, rfl, hi, HF, HBr⟩ := hrel
      by_cases hlt : i < its.length
      · obtain ⟨b, off, hA, hbl, hr⟩ := HOP.out (by omega)
        subst hA
        obtain ⟨cs', hrv, hcell⟩ := hr wr HBr.out i hlt
        obtain ⟨h6, hone⟩ := hrv.six
        have h6a : cs'.toArray.size = 6 := by simpa using h6
        have HRV := Lib.hid hrv
        have HCL := Lib.hid hcell
        have HB8 := Lib.hid (Blk.new wr 26 vz)
        have HBA : Hid (Below wr.heap.size wr (wr.alloc (.cells vz 26))) := (Below.refl _ _).alloc (Nat.le_refl _) _
        clear hr hrv hcell
        go_wp2_with (first
          | (refine wpList_load_at rfl 26 (.tmp 15) rfl b (off + i * 6) rfl cs' _ HCL.out Tryz.underlying26 rfl (by rw [h6]; exact v_info) ?_)
          | (refine wpList_storeB rfl 26 (.tmp 6) (.tmp 16) rfl rfl wr.heap.size cs'.toArray rfl rfl HB8.out (by rw [h6a]; exact v_info) (by rw [h6a]; rfl) hone ?_; intro w4 hB4 hg4 hz4)
          | (refine wpList_load_row rfl 26 (.tmp 6) rfl wr.heap.size rfl 26 _ (0, 0) _ hB4 Tryz.underlying26 rfl (by rw [h6a]; exact v_info) ?_))
        have hb4 : Below wr.heap.size wr w4 := HBA.out.grown hg4 (by simp) (fun _ h => by injection h with h; omega)
        have HB4 := Lib.hid (below_step HBr.out hb4)
        have HRV4 := Lib.hid (HRV.out.step hb4)
        clear hB4 hg4 hz4 hb4 HBA HB8 HCL
        refine (HIH.out i hlt _ _ HRV4.out ).mono ?_; rintro e w5 ⟨rfl, hb5⟩
        have HB5 := Lib.hid (below_step HB4.out hb5)
        clear hb5
        obtain ⟨q, hq⟩ : ∃ q, anyV (fun v => !flds fone v) its[i] = q := ⟨_, rfl⟩
        rw [hq]
        cases q with
        | true =>
          have HDT : Hid (anyV (fun v => !flds fone v) v = true) := by show _ = _; rw [HD.out]; exact List.any_eq_true.2 ⟨_, List.getElem_mem hlt, hq⟩
          clear hq
          go_wp2_with fail
          go_ret
          exact ⟨by rw [HDT.out]; rfl, HB5.out⟩
        | false =>
          have HF2 : Hid (∀ j, (h : j < its.length) → j < i + 1 → anyV (fun v => !flds fone v) its[j] = false) := fun j h hj => by
            rcases Nat.lt_or_ge j i with h1 | h1
            · exact HF.out j h h1
            · obtain rfl : j = i := by omega
              exact hq
          clear hq
          go_wp2_with fail
          go_roundw
          case rel => first | exact ⟨i + 1, by go_num, hlt, HF2.out, HB5.out⟩ | (refine ⟨_, _, _, _, _, _, _, _, _, _, _, ?_, rfl⟩; exact ⟨i + 1, by go_num, hlt, HF2.out, HB5.out⟩)
          case measure => simp [intOf]; omega
      · have HDF : Hid (anyV (fun v => !flds fone v) v = false) := by
          show _ = _
          rw [HD.out, Bool.false_or, List.any_eq_false]
          intro x hx
          obtain ⟨j, hj, rfl⟩ := List.getElem_of_mem hx
          rw [HF.out j hj (by omega)]
          decide
        go_wp2_with fail
        go_ret
        exact ⟨by rw [HDF.out]; rfl, HBr.out⟩
end Go.Proofs.YtigbbogfnchgnaaGreatDoor
