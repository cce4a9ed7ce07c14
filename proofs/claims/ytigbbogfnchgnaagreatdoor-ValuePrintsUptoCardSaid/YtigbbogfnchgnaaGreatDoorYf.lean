/- Walks over values as trees: how deep, how many (quernref23.tall, quernref23.many, value.count). Conditions: the value as it reads; its bulk at most 1048576. -/
import Derived.Test.YtigbbogfnchgnaaGreatDoorYe
namespace Go.Proofs.YtigbbogfnchgnaaGreatDoor
open Go.RowKit
set_option linter.unusedVariables false
attribute [local go_sem ↓] Go.wp_at_zero Go.wp_at_succ

set_option maxHeartbeats 1000000 in
theorem c_tall : ∀ n : Nat, n ≤ 64 → ∀ (v : Val) (cs : List Value) (w : World), RV w v cs → Calls Tryz.prog 27 #[.agg cs.toArray, .int .i64 (n : Int)] w fun e w' => (∃ m : Nat, e = .returned (.int .i64 (m : Int)) ∧ m ≤ n + 1 ∧ (n < m ↔ deep n v = true)) ∧ Below w.heap.size w w' := by
  intro n
  induction n with
  | zero =>
    intro _ v cs w h
    obtain ⟨A, A', c, c', rfl, _, _⟩ := h.open_
    have HB := Lib.hid ((Below.refl w.heap.size w).alloc (Nat.le_refl _) (.cells (vcs v A A' c c').toArray 26))
    unfold vcs at HB ⊢
    clear h
    have HD : Hid (deep 0 v = true) := rfl
    go_enter Tryz.func27, Tryz.ntmps27
    go_wp2
    go_ret
    exact ⟨⟨1, rfl, Nat.le_refl _, fun _ => HD.out, fun _ => Nat.zero_lt_one⟩, HB.out⟩
  | succ n ih =>
    intro hn v cs w h
    obtain ⟨A, A', c, c', rfl, _, hop⟩ := h.open_
    have HB := Lib.hid ((Below.refl w.heap.size w).alloc (Nat.le_refl _) (.cells (vcs v A A' c c').toArray 26))
    have HK := Lib.hid (Blk.new w 26 (vcs v A A' c c').toArray)
    have HOP := Lib.hid hop
    have HIH := Lib.hid (ih (by omega))
    have hlen : v.its.length < 1048577 := by have := (bnd_len v).1; have := h.bd; omega
    have HD : Hid (deep (n + 1) v = v.its.any (deep n)) := any_deep n v
    clear hop ih h
    have K4 : Hid ((w.alloc (.cells (vcs v A A' c c').toArray 26)).cell? ⟨w.heap.size, 4, none⟩ = some (.slice A v.its.length c)) := HK.out.cell 4
    have HLT : Hid (w.heap.size < (w.alloc (.cells (vcs v A A' c c').toArray 26)).heap.size) := HK.out.lt
    unfold vcs at K4 HB HK HLT ⊢
    generalize v.its = its at *
    go_enter Tryz.func27, Tryz.ntmps27
    go_wp2_with fail
    generalize w.alloc (.cells #[.int .i64 v.k, .int .i64 v.i, .float .f64 v.f, .string v.t, .slice A its.length c, .slice A' v.nms.length c'] 26) = w0 at *
    clear HK
    go_loopw [5, 6] (fun vm vi wr => ∃ (i m : Nat), vm = .int .i64 (m : Int) ∧ vi = .int .i64 i ∧ i ≤ its.length ∧ m ≤ n + 1 ∧ Hid (m = n + 1 ↔ ∃ j, ∃ h : j < its.length, j < i ∧ deep n its[j] = true) ∧ Hid (Below w0.heap.size w0 wr)) (fun _ vi _ => its.length - (intOf vi).toNat)
    case atStart => exact ⟨0, 0, rfl, rfl, Nat.zero_le _, Nat.zero_le _, ⟨fun h => absurd h (by omega), fun ⟨j, _, h, _⟩ => absurd h (by omega)⟩, Below.refl _ _⟩
    case round =>
      obtain ⟨i, m, rfl, rfl, hi, hm, HF, HBr⟩ := hrel
      have HBw := Lib.hid (HB.out.trans (HBr.out.mono HB.out.size))
      have k4 : wr.cell? ⟨w.heap.size, 4, none⟩ = some (.slice A its.length c) := (HBr.out.cell (p := ⟨w.heap.size, 4, none⟩) HLT.out).trans K4.out
      by_cases hlt : i < its.length
      · by_cases hmn : m < n + 1
        · obtain ⟨b, off, hA, hbl, hr⟩ := HOP.out (by omega)
          subst hA
          obtain ⟨cs', hrv, hcell⟩ := hr wr HBw.out i hlt
          obtain ⟨h6, hone⟩ := hrv.six
          have HRV := Lib.hid hrv
          have HCL := Lib.hid hcell
          clear hr hrv hcell hone
          have c1 : (m : Int) < (n : Int) + 1 := by omega
          go_wp2_with (refine wpList_load_at rfl 26 (.tmp 25) rfl b (off + i * 6) rfl cs' _ HCL.out Tryz.underlying26 rfl (by rw [h6]; exact v_info) ?_)
          refine (HIH.out _ _ _ HRV.out).mono ?_; rintro e w5 ⟨⟨m2, rfl, hm2, hd⟩, hb5⟩
          have HD2 := Lib.hid hd
          have HB5 := Lib.hid (HBr.out.trans (hb5.mono HBr.out.size))
          clear hb5 hd
          by_cases hgt : m < m2
          · have HF2 : Hid (m2 = n + 1 ↔ ∃ j, ∃ h : j < its.length, j < i + 1 ∧ deep n its[j] = true) := by
              show _ ↔ _
              constructor
              · intro e; exact ⟨i, hlt, by omega, HD2.out.1 (by omega)⟩
              · rintro ⟨j, h, hj, hdj⟩
                rcases Nat.lt_or_ge j i with h1 | h1
                · have := HF.out.2 ⟨j, h, h1, hdj⟩; omega
                · obtain rfl : j = i := by omega
                  have := HD2.out.2 hdj; omega
            have c2 : (m : Int) < (m2 : Int) := by omega
            go_wp2_with fail
            go_roundw
            case rel => (refine ⟨_, _, _, _, _, _, _, _, _, _, _, _, _, _, _, _, _, _, _, _, _, _, _, _, _, _, _, ?_, rfl⟩; exact ⟨i + 1, m2, rfl, by go_num, hlt, hm2, HF2.out, HB5.out⟩)
            case measure => simp [intOf]; omega
          · have HF2 : Hid (m = n + 1 ↔ ∃ j, ∃ h : j < its.length, j < i + 1 ∧ deep n its[j] = true) := by
              show _ ↔ _
              constructor
              · intro e; omega
              · rintro ⟨j, h, hj, hdj⟩
                rcases Nat.lt_or_ge j i with h1 | h1
                · exact HF.out.2 ⟨j, h, h1, hdj⟩
                · obtain rfl : j = i := by omega
                  have := HD2.out.2 hdj; omega
            have c2 : ¬ (m : Int) < (m2 : Int) := by omega
            go_wp2_with fail
            go_roundw
            case rel => (refine ⟨_, _, _, _, _, _, _, _, _, _, _, _, _, _, _, _, _, _, _, _, _, _, _, _, _, _, _, ?_, rfl⟩; exact ⟨i + 1, m, rfl, by go_num, hlt, hm, HF2.out, HB5.out⟩)
            case measure => simp [intOf]; omega
        · have hme : m = n + 1 := by omega
          have HDT : Hid (deep (n + 1) v = true) := by
            obtain ⟨j, h, _, hd⟩ := HF.out.1 hme
            show _ = _
            rw [HD.out]; exact List.any_eq_true.2 ⟨_, List.getElem_mem h, hd⟩
          have c1 : ¬ (m : Int) < (n : Int) + 1 := by omega
          go_wp2_with fail
          go_ret
          exact ⟨⟨m + 1, by first | rfl | go_num, by omega, fun _ => HDT.out, fun _ => by omega⟩, HBw.out⟩
      · have HDI : Hid (m = n + 1 ↔ deep (n + 1) v = true) := by
          show _ ↔ _
          rw [HF.out, HD.out, List.any_eq_true]
          constructor
          · rintro ⟨j, h, _, hd⟩; exact ⟨_, List.getElem_mem h, hd⟩
          · rintro ⟨x, hx, hd⟩
            obtain ⟨j, hj, rfl⟩ := List.getElem_of_mem hx
            exact ⟨j, hj, by omega, hd⟩
        go_wp2_with fail
        go_ret
        exact ⟨⟨m + 1, by first | rfl | go_num, by omega, fun h => HDI.out.1 (by omega), fun h => by have := HDI.out.2 h; omega⟩, HBw.out⟩
set_option maxHeartbeats 1000000 in
theorem c_count : ∀ (v : Val) (m : Int) (cs : List Value) (w : World), 0 ≤ m → m ≤ 65536 → RV w v cs → Calls Tryz.prog 16 #[.agg cs.toArray, .int .i64 m] w fun e w' => e = .returned (.int .i64 (cntB v m)) ∧ Below w.heap.size w w' := by
  refine Val.ind fun v ih m cs w hm0 hm1 h => ?_
  obtain ⟨A, A', c, c', rfl, _, hop⟩ := h.open_
  have HB := Lib.hid ((Below.refl w.heap.size w).alloc (Nat.le_refl _) (.cells (vcs v A A' c c').toArray 26))
  have HK := Lib.hid (Blk.new w 26 (vcs v A A' c c').toArray)
  have HOP := Lib.hid hop
  have HIH : Hid (∀ (i : Nat) (hi : i < v.its.length) (m : Int) (cs : List Value) (w : World), 0 ≤ m → m ≤ 65536 → RV w v.its[i] cs → Calls Tryz.prog 16 #[.agg cs.toArray, .int .i64 m] w fun e w' => e = .returned (.int .i64 (cntB v.its[i] m)) ∧ Below w.heap.size w w') := fun i hi => ih _ (List.getElem_mem hi)
  have hlen : v.its.length < 1048577 := by have := (bnd_len v).1; have := h.bd; omega
  have HD : Hid (cntB v m = cntL v.its m 1) := cntB_eq v m
  clear hop ih h
  have K4 : Hid ((w.alloc (.cells (vcs v A A' c c').toArray 26)).cell? ⟨w.heap.size, 4, none⟩ = some (.slice A v.its.length c)) := HK.out.cell 4
  have HLT : Hid (w.heap.size < (w.alloc (.cells (vcs v A A' c c').toArray 26)).heap.size) := HK.out.lt
  unfold vcs at K4 HB HK HLT ⊢
  generalize v.its = its at *
  go_enter Tryz.func16, Tryz.ntmps16
  go_wp2_with fail
  generalize w.alloc (.cells #[.int .i64 v.k, .int .i64 v.i, .float .f64 v.f, .string v.t, .slice A its.length c, .slice A' v.nms.length c'] 26) = w0 at *
  clear HK
  go_loopw [5, 6] (fun vn vi wr => ∃ (i : Nat) (n : Int), vn = .int .i64 n ∧ vi = .int .i64 i ∧ i ≤ its.length ∧ 1 ≤ n ∧ n ≤ m + 1 ∧ Hid (cntB v m = cntL (its.drop i) m n) ∧ Hid (Below w0.heap.size w0 wr)) (fun _ vi _ => its.length - (intOf vi).toNat)
  case atStart => exact ⟨0, 1, rfl, rfl, Nat.zero_le _, by omega, by omega, HD.out, Below.refl _ _⟩
  case round =>
    obtain ⟨i, n, rfl, rfl, hi, hn0, hn1, HF, HBr⟩ := hrel
    have HBw := Lib.hid (HB.out.trans (HBr.out.mono HB.out.size))
    have k4 : wr.cell? ⟨w.heap.size, 4, none⟩ = some (.slice A its.length c) := (HBr.out.cell (p := ⟨w.heap.size, 4, none⟩) HLT.out).trans K4.out
    by_cases hlt : i < its.length
    · by_cases hmn : n ≤ m
      · obtain ⟨b, off, hA, hbl, hr⟩ := HOP.out (by omega)
        subst hA
        obtain ⟨cs', hrv, hcell⟩ := hr wr HBw.out i hlt
        obtain ⟨h6, hone⟩ := hrv.six
        have HRV := Lib.hid hrv
        have HCL := Lib.hid hcell
        have HST : Hid (cntL (its.drop i) m n = cntL (its.drop (i + 1)) m (n + cntB its[i] (m - n))) := cntL_step hlt hmn
        have hcr := cnt_range its[i] (m - n) (by omega)
        have HCALL := Lib.hid (HIH.out i hlt (m - n) cs' wr (by omega) (by omega) HRV.out)
        clear hr hrv hcell hone
        generalize cntB its[i] (m - n) = q at *
        go_wp2_with (refine wpList_load_at rfl 26 (.tmp 23) rfl b (off + i * 6) rfl cs' _ HCL.out Tryz.underlying26 rfl (by rw [h6]; exact v_info) ?_)
        refine HCALL.out.mono ?_; rintro e w5 ⟨rfl, hb5⟩
        have HB5 := Lib.hid (HBr.out.trans (hb5.mono HBr.out.size))
        have HF2 : Hid (cntB v m = cntL (its.drop (i + 1)) m (n + q)) := by show _ = _; rw [HF.out, HST.out]
        clear hb5
        go_wp2_with fail
        go_roundw
        case rel => exact ⟨i + 1, n + q, rfl, by go_num, hlt, by omega, by omega, HF2.out, HB5.out⟩
        case measure => simp [intOf]; omega
      · have HE : Hid (cntB v m = n) := by show _ = _; rw [HF.out]; exact cntL_stop hmn
        go_wp2_with fail
        go_ret
        exact ⟨by rw [HE.out]; rfl, HBw.out⟩
    · have HE : Hid (cntB v m = n) := by
        show _ = _
        rw [HF.out, List.drop_eq_nil_of_le (by omega), cntL]
      go_wp2_with fail
      go_ret
      exact ⟨by rw [HE.out]; rfl, HBw.out⟩
set_option maxHeartbeats 1000000 in
theorem c_many : ∀ (v : Val) (m : Int) (cs : List Value) (w : World), 0 ≤ m → m ≤ 65536 → RV w v cs → Calls Tryz.prog 28 #[.agg cs.toArray, .int .i64 m] w fun e w' => e = .returned (.int .i64 (cntB v m)) ∧ Below w.heap.size w w' := by
  refine Val.ind fun v ih m cs w hm0 hm1 h => ?_
  obtain ⟨A, A', c, c', rfl, _, hop⟩ := h.open_
  have HB := Lib.hid ((Below.refl w.heap.size w).alloc (Nat.le_refl _) (.cells (vcs v A A' c c').toArray 26))
  have HK := Lib.hid (Blk.new w 26 (vcs v A A' c c').toArray)
  have HOP := Lib.hid hop
  have HIH : Hid (∀ (i : Nat) (hi : i < v.its.length) (m : Int) (cs : List Value) (w : World), 0 ≤ m → m ≤ 65536 → RV w v.its[i] cs → Calls Tryz.prog 28 #[.agg cs.toArray, .int .i64 m] w fun e w' => e = .returned (.int .i64 (cntB v.its[i] m)) ∧ Below w.heap.size w w') := fun i hi => ih _ (List.getElem_mem hi)
  have hlen : v.its.length < 1048577 := by have := (bnd_len v).1; have := h.bd; omega
  have HD : Hid (cntB v m = cntL v.its m 1) := cntB_eq v m
  clear hop ih h
  have K4 : Hid ((w.alloc (.cells (vcs v A A' c c').toArray 26)).cell? ⟨w.heap.size, 4, none⟩ = some (.slice A v.its.length c)) := HK.out.cell 4
  have HLT : Hid (w.heap.size < (w.alloc (.cells (vcs v A A' c c').toArray 26)).heap.size) := HK.out.lt
  unfold vcs at K4 HB HK HLT ⊢
  generalize v.its = its at *
  go_enter Tryz.func28, Tryz.ntmps28
  go_wp2_with fail
  generalize w.alloc (.cells #[.int .i64 v.k, .int .i64 v.i, .float .f64 v.f, .string v.t, .slice A its.length c, .slice A' v.nms.length c'] 26) = w0 at *
  clear HK
  go_loopw [5, 6] (fun vn vi wr => ∃ (i : Nat) (n : Int), vn = .int .i64 n ∧ vi = .int .i64 i ∧ i ≤ its.length ∧ 1 ≤ n ∧ n ≤ m + 1 ∧ Hid (cntB v m = cntL (its.drop i) m n) ∧ Hid (Below w0.heap.size w0 wr)) (fun _ vi _ => its.length - (intOf vi).toNat)
  case atStart => exact ⟨0, 1, rfl, rfl, Nat.zero_le _, by omega, by omega, HD.out, Below.refl _ _⟩
  case round =>
    obtain ⟨i, n, rfl, rfl, hi, hn0, hn1, HF, HBr⟩ := hrel
    have HBw := Lib.hid (HB.out.trans (HBr.out.mono HB.out.size))
    have k4 : wr.cell? ⟨w.heap.size, 4, none⟩ = some (.slice A its.length c) := (HBr.out.cell (p := ⟨w.heap.size, 4, none⟩) HLT.out).trans K4.out
    by_cases hlt : i < its.length
    · by_cases hmn : n ≤ m
      · obtain ⟨b, off, hA, hbl, hr⟩ := HOP.out (by omega)
        subst hA
        obtain ⟨cs', hrv, hcell⟩ := hr wr HBw.out i hlt
        obtain ⟨h6, hone⟩ := hrv.six
        have HRV := Lib.hid hrv
        have HCL := Lib.hid hcell
        have HST : Hid (cntL (its.drop i) m n = cntL (its.drop (i + 1)) m (n + cntB its[i] (m - n))) := cntL_step hlt hmn
        have hcr := cnt_range its[i] (m - n) (by omega)
        have HCALL := Lib.hid (HIH.out i hlt (m - n) cs' wr (by omega) (by omega) HRV.out)
        clear hr hrv hcell hone
        generalize cntB its[i] (m - n) = q at *
        go_wp2_with (refine wpList_load_at rfl 26 (.tmp 23) rfl b (off + i * 6) rfl cs' _ HCL.out Tryz.underlying26 rfl (by rw [h6]; exact v_info) ?_)
        refine HCALL.out.mono ?_; rintro e w5 ⟨rfl, hb5⟩
        have HB5 := Lib.hid (HBr.out.trans (hb5.mono HBr.out.size))
        have HF2 : Hid (cntB v m = cntL (its.drop (i + 1)) m (n + q)) := by show _ = _; rw [HF.out, HST.out]
        clear hb5
        go_wp2_with fail
        go_roundw
        case rel => exact ⟨i + 1, n + q, rfl, by go_num, hlt, by omega, by omega, HF2.out, HB5.out⟩
        case measure => simp [intOf]; omega
      · have HE : Hid (cntB v m = n) := by show _ = _; rw [HF.out]; exact cntL_stop hmn
        go_wp2_with fail
        go_ret
        exact ⟨by rw [HE.out]; rfl, HBw.out⟩
    · have HE : Hid (cntB v m = n) := by
        show _ = _
        rw [HF.out, List.drop_eq_nil_of_le (by omega), cntL]
      go_wp2_with fail
      go_ret
      exact ⟨by rw [HE.out]; rfl, HBw.out⟩
end Go.Proofs.YtigbbogfnchgnaaGreatDoor
