/- Walk: how many bytes a value's bytes are, the reference's way (quernref23.weight). Conditions: the value as it reads, its fields as the kinds say; its bulk at most 1048576. -/
import Derived.Test.YtigbbogfnchgnaaGreatDoorYg
namespace Go.Proofs.YtigbbogfnchgnaaGreatDoor
open Go.RowKit
set_option linter.unusedVariables false
attribute [local go_sem ↓] Go.wp_at_zero Go.wp_at_succ

theorem wtL_step {b : Bool} {its : List Val} {nms : List ByteArray} {i : Nat} (hi : i < its.length) :
    wtL b (its.drop i) (nms.drop i) = (if b then 4 + (nms.getD i ⟨#[]⟩).size else 0) + wt its[i] + wtL b (its.drop (i + 1)) (nms.drop (i + 1)) := by
  rw [List.drop_eq_getElem_cons hi, wtL]
  have h1 : (nms.drop i).headD ⟨#[]⟩ = nms.getD i ⟨#[]⟩ := by
    rw [List.headD_eq_head?_getD, List.head?_drop, List.getD_eq_getElem?_getD]
  have h2 : (nms.drop i).tail = nms.drop (i + 1) := by rw [List.tail_drop]
  rw [h1, h2]
/-- The bytes of a kind alone. -/
def leafK (k : Int) (n : Nat) : Nat := if k = 1 then 2 else if k = 2 ∨ k = 3 then 9 else if k = 4 ∨ k = 5 ∨ k = 8 then 5 + n else if k = 6 ∨ k = 7 then 5 else 1
/-- What 'all fields are as the kinds say' gives. -/
structure Good (v : Val) : Prop where
  k : v.k = 0 ∨ v.k = 1 ∨ v.k = 2 ∨ v.k = 3 ∨ v.k = 4 ∨ v.k = 5 ∨ v.k = 8 ∨ v.k = 6 ∨ v.k = 7
  leaf : v.k ≠ 6 → v.k ≠ 7 → v.its.length = 0
  nm : v.k = 7 → v.nms.length = v.its.length
  it : ∀ w ∈ v.its, anyV (fun v => !flds fone v) w = false
theorem good_of {v : Val} (h : anyV (fun v => !flds fone v) v = false) : Good v := by
  rw [anyV_eq, Bool.or_eq_false_iff] at h
  obtain ⟨hf, hl⟩ := h
  rw [anyL_any] at hl
  simp only [flds, Bool.not_eq_false', Bool.and_eq_true, decide_eq_true_eq] at hf
  obtain ⟨⟨⟨⟨⟨⟨h1, h2⟩, h3⟩, h4⟩, h5⟩, h6⟩, h7⟩ := hf
  refine ⟨by omega, fun n6 n7 => ?_, fun h => ?_, fun w hw => ?_⟩
  · simp only [Bool.or_eq_true, beq_iff_eq] at h6
    rcases h6 with (h6 | h6) | h6
    · exact h6
    · exact absurd h6 n6
    · exact absurd h6 n7
  · simp only [beq_iff_eq, h, if_true] at h7
    exact h7
  · have := List.any_eq_false.1 hl w hw
    simpa using this
theorem wt_leaf {v : Val} (h : v.its.length = 0) : wt v = leafK v.k v.t.size := by
  have h0 : v.its = [] := List.eq_nil_of_length_eq_zero h
  rw [wt_eq, h0, wtL]; rfl
theorem wt_node {v : Val} (h : v.k = 6 ∨ v.k = 7) : wt v = 5 + wtL (v.k = 7) v.its v.nms := by
  rw [wt_eq]
  congr 1
  unfold leafN
  show (if v.k = 1 then 2 else if v.k = 2 ∨ v.k = 3 then 9 else if v.k = 4 ∨ v.k = 5 ∨ v.k = 8 then 5 + v.t.size else if v.k = 6 ∨ v.k = 7 then 5 else 1) = 5
  rcases h with h | h <;> rw [h] <;> rfl
set_option maxRecDepth 100000 in
set_option maxHeartbeats 2000000 in
theorem c_weight : ∀ (v : Val) (cs : List Value) (w : World), RV w v cs → anyV (fun v => !flds fone v) v = false → Calls Tryz.prog 31 #[.agg cs.toArray] w fun e w' => e = .returned (.int .i64 ((wt v : Nat) : Int)) ∧ Below w.heap.size w w' := by
  refine Val.ind fun v ih cs w h hf => ?_
  have hgd := good_of hf
  have hlen : v.its.length < 1048577 := by have := (bnd_len v).1; have := h.bd; omega
  have hnlen : v.nms.length < 1048577 := by have := (bnd_len v).2.1; have := h.bd; omega
  have htl : v.t.size < 1048577 := by have := (bnd_len v).2.2; have := h.bd; omega
  have HWB : Hid (wt v ≤ 13 * 1048576) := by have := wt_bnd v; have := h.bd; show _ ≤ _; omega
  have HB : Hid (Below w.heap.size w (w.alloc (.cells cs.toArray 26))) := (Below.refl w.heap.size w).alloc (Nat.le_refl _) _
  have HK := Lib.hid (Blk.new w 26 cs.toArray)
  obtain ⟨A, A', c, c', hvc, hnm, hop⟩ := h.open_
  have HNM := Lib.hid (hnm.below HB.out)
  have HOP := Lib.hid hop
  have HIH : Hid (∀ (i : Nat) (hi : i < v.its.length) (cs : List Value) (w : World), RV w v.its[i] cs → Calls Tryz.prog 31 #[.agg cs.toArray] w fun e w' => e = .returned (.int .i64 ((wt v.its[i] : Nat) : Int)) ∧ Below w.heap.size w w') := fun i hi cs w hr => ih _ (List.getElem_mem hi) cs w hr (hgd.it _ (List.getElem_mem hi))
  have K0 : Hid ((w.alloc (.cells cs.toArray 26)).cell? ⟨w.heap.size, 0, none⟩ = some (.int .i64 v.k)) := by show _ = _; rw [HK.out.cell 0, hvc]; rfl
  have K3 : Hid ((w.alloc (.cells cs.toArray 26)).cell? ⟨w.heap.size, 3, none⟩ = some (.string v.t)) := by show _ = _; rw [HK.out.cell 3, hvc]; rfl
  have K4 : Hid ((w.alloc (.cells cs.toArray 26)).cell? ⟨w.heap.size, 4, none⟩ = some (.slice A v.its.length c)) := by show _ = _; rw [HK.out.cell 4, hvc]; rfl
  have K5 : Hid ((w.alloc (.cells cs.toArray 26)).cell? ⟨w.heap.size, 5, none⟩ = some (.slice A' v.nms.length c')) := by show _ = _; rw [HK.out.cell 5, hvc]; rfl
  have HLT : Hid (w.heap.size < (w.alloc (.cells cs.toArray 26)).heap.size) := HK.out.lt
  have HGN : Hid (v.k = 7 → v.nms.length = v.its.length) := hgd.nm
  have HGL : Hid (v.k ≠ 6 → v.k ≠ 7 → v.its.length = 0) := hgd.leaf
  have HWL : Hid (v.its.length = 0 → wt v = leafK v.k v.t.size) := wt_leaf
  have HWN : Hid (v.k = 6 ∨ v.k = 7 → wt v = 5 + wtL (v.k = 7) v.its v.nms) := wt_node
  have HKK := hgd.k
  clear hop ih h hvc hnm hf hgd
  generalize wt v = W at *
  generalize v.its = its at *
  generalize v.nms = nms at *
  generalize v.k = k at *
  generalize v.t = t at *
  rcases HKK with hk | hk | hk | hk | hk | hk | hk | hk | hk
  · subst hk
    have hil : its.length = 0 := HGL.out (by decide) (by decide)
    have HE := Lib.hid (HWL.out hil)
    have k0 := K0.out
    have k3 := K3.out
    have k4 := K4.out
    rw [hil] at k4
    clear HIH HOP HNM HGN HGL HWL HWN K0 K3 K4 K5 HK hlen hil
    go_enter Tryz.func31, Tryz.ntmps31
    go_upto_region 1 with fail
    generalize w.alloc (.cells cs.toArray 26) = w0 at *
    go_wp2_with fail
    go_loopw [3, 4] (fun vn vi wr => vn = .int .i64 (W : Int) ∧ vi = .int .i64 0 ∧ wr = w0) (fun _ vi _ => 0)
    case atStart => exact ⟨by rw [HE.out]; first | rfl | (unfold leafK; simp; done), rfl, rfl⟩
    case round =>
      obtain ⟨rfl, rfl, rfl⟩ := hrel
      go_wp2_with fail
      go_ret
      exact ⟨rfl, HB.out⟩
  · subst hk
    have hil : its.length = 0 := HGL.out (by decide) (by decide)
    have HE := Lib.hid (HWL.out hil)
    have k0 := K0.out
    have k3 := K3.out
    have k4 := K4.out
    rw [hil] at k4
    clear HIH HOP HNM HGN HGL HWL HWN K0 K3 K4 K5 HK hlen hil
    go_enter Tryz.func31, Tryz.ntmps31
    go_upto_region 1 with fail
    generalize w.alloc (.cells cs.toArray 26) = w0 at *
    go_wp2_with fail
    go_loopw [3, 4] (fun vn vi wr => vn = .int .i64 (W : Int) ∧ vi = .int .i64 0 ∧ wr = w0) (fun _ vi _ => 0)
    case atStart => exact ⟨by rw [HE.out]; first | rfl | (unfold leafK; simp; done), rfl, rfl⟩
    case round =>
      obtain ⟨rfl, rfl, rfl⟩ := hrel
      go_wp2_with fail
      go_ret
      exact ⟨rfl, HB.out⟩
  · subst hk
    have hil : its.length = 0 := HGL.out (by decide) (by decide)
    have HE := Lib.hid (HWL.out hil)
    have k0 := K0.out
    have k3 := K3.out
    have k4 := K4.out
    rw [hil] at k4
    clear HIH HOP HNM HGN HGL HWL HWN K0 K3 K4 K5 HK hlen hil
    go_enter Tryz.func31, Tryz.ntmps31
    go_upto_region 1 with fail
    generalize w.alloc (.cells cs.toArray 26) = w0 at *
    go_wp2_with fail
    go_loopw [3, 4] (fun vn vi wr => vn = .int .i64 (W : Int) ∧ vi = .int .i64 0 ∧ wr = w0) (fun _ vi _ => 0)
    case atStart => exact ⟨by rw [HE.out]; first | rfl | (unfold leafK; simp; done), rfl, rfl⟩
    case round =>
      obtain ⟨rfl, rfl, rfl⟩ := hrel
      go_wp2_with fail
      go_ret
      exact ⟨rfl, HB.out⟩
  · subst hk
    have hil : its.length = 0 := HGL.out (by decide) (by decide)
    have HE := Lib.hid (HWL.out hil)
    have k0 := K0.out
    have k3 := K3.out
    have k4 := K4.out
    rw [hil] at k4
    clear HIH HOP HNM HGN HGL HWL HWN K0 K3 K4 K5 HK hlen hil
    go_enter Tryz.func31, Tryz.ntmps31
    go_upto_region 1 with fail
    generalize w.alloc (.cells cs.toArray 26) = w0 at *
    go_wp2_with fail
    go_loopw [3, 4] (fun vn vi wr => vn = .int .i64 (W : Int) ∧ vi = .int .i64 0 ∧ wr = w0) (fun _ vi _ => 0)
    case atStart => exact ⟨by rw [HE.out]; first | rfl | (unfold leafK; simp; done), rfl, rfl⟩
    case round =>
      obtain ⟨rfl, rfl, rfl⟩ := hrel
      go_wp2_with fail
      go_ret
      exact ⟨rfl, HB.out⟩
  · subst hk
    have hil : its.length = 0 := HGL.out (by decide) (by decide)
    have HE := Lib.hid (HWL.out hil)
    have k0 := K0.out
    have k3 := K3.out
    have k4 := K4.out
    rw [hil] at k4
    clear HIH HOP HNM HGN HGL HWL HWN K0 K3 K4 K5 HK hlen hil
    go_enter Tryz.func31, Tryz.ntmps31
    go_upto_region 1 with fail
    generalize w.alloc (.cells cs.toArray 26) = w0 at *
    go_wp2_with fail
    go_loopw [3, 4] (fun vn vi wr => vn = .int .i64 (W : Int) ∧ vi = .int .i64 0 ∧ wr = w0) (fun _ vi _ => 0)
    case atStart => exact ⟨by rw [HE.out]; first | rfl | (unfold leafK; simp; done), rfl, rfl⟩
    case round =>
      obtain ⟨rfl, rfl, rfl⟩ := hrel
      go_wp2_with fail
      go_ret
      exact ⟨rfl, HB.out⟩
  · subst hk
    have hil : its.length = 0 := HGL.out (by decide) (by decide)
    have HE := Lib.hid (HWL.out hil)
    have k0 := K0.out
    have k3 := K3.out
    have k4 := K4.out
    rw [hil] at k4
    clear HIH HOP HNM HGN HGL HWL HWN K0 K3 K4 K5 HK hlen hil
    go_enter Tryz.func31, Tryz.ntmps31
    go_upto_region 1 with fail
    generalize w.alloc (.cells cs.toArray 26) = w0 at *
    go_wp2_with fail
    go_loopw [3, 4] (fun vn vi wr => vn = .int .i64 (W : Int) ∧ vi = .int .i64 0 ∧ wr = w0) (fun _ vi _ => 0)
    case atStart => exact ⟨by rw [HE.out]; first | rfl | (unfold leafK; simp; done), rfl, rfl⟩
    case round =>
      obtain ⟨rfl, rfl, rfl⟩ := hrel
      go_wp2_with fail
      go_ret
      exact ⟨rfl, HB.out⟩
  · subst hk
    have hil : its.length = 0 := HGL.out (by decide) (by decide)
    have HE := Lib.hid (HWL.out hil)
    have k0 := K0.out
    have k3 := K3.out
    have k4 := K4.out
    rw [hil] at k4
    clear HIH HOP HNM HGN HGL HWL HWN K0 K3 K4 K5 HK hlen hil
    go_enter Tryz.func31, Tryz.ntmps31
    go_upto_region 1 with fail
    generalize w.alloc (.cells cs.toArray 26) = w0 at *
    go_wp2_with fail
    go_loopw [3, 4] (fun vn vi wr => vn = .int .i64 (W : Int) ∧ vi = .int .i64 0 ∧ wr = w0) (fun _ vi _ => 0)
    case atStart => exact ⟨by rw [HE.out]; first | rfl | (unfold leafK; simp; done), rfl, rfl⟩
    case round =>
      obtain ⟨rfl, rfl, rfl⟩ := hrel
      go_wp2_with fail
      go_ret
      exact ⟨rfl, HB.out⟩
  · subst hk
    have HE : Hid (W = 5 + wtL false its nms) := HWN.out (.inl rfl)
    have k0 := K0.out
    clear HGL HWL HWN HK
    go_enter Tryz.func31, Tryz.ntmps31
    go_upto_region 1 with fail
    generalize w.alloc (.cells cs.toArray 26) = w0 at *
    go_wp2_with fail
    clear k0
    go_loopw [3, 4] (fun vn vi wr => ∃ i n : Nat, vn = .int .i64 (n : Int) ∧ vi = .int .i64 i ∧ i ≤ its.length ∧ n ≤ W ∧ Hid (W = n + wtL false (its.drop i) (nms.drop i)) ∧ Hid (Below w0.heap.size w0 wr)) (fun _ vi _ => its.length - (intOf vi).toNat)
    case atStart => exact ⟨0, 5, rfl, rfl, Nat.zero_le _, by have := HE.out; omega, HE.out, Below.refl _ _⟩
    case round =>
      obtain ⟨i, n, rfl, rfl, hi, hnW, HF, HBr⟩ := hrel
      have HBw := Lib.hid (HB.out.trans (HBr.out.mono HB.out.size))
      have k0 : wr.cell? ⟨w.heap.size, 0, none⟩ = some (.int .i64 6) := (HBr.out.cell (p := ⟨w.heap.size, 0, none⟩) HLT.out).trans K0.out
      have k4 : wr.cell? ⟨w.heap.size, 4, none⟩ = some (.slice A its.length c) := (HBr.out.cell (p := ⟨w.heap.size, 4, none⟩) HLT.out).trans K4.out
      have k5 : wr.cell? ⟨w.heap.size, 5, none⟩ = some (.slice A' nms.length c') := (HBr.out.cell (p := ⟨w.heap.size, 5, none⟩) HLT.out).trans K5.out
      by_cases hlt : i < its.length
      · obtain ⟨b, off, hA, hbl, hr⟩ := HOP.out (by omega)
        subst hA
        obtain ⟨cs', hrv, hcell⟩ := hr wr HBw.out i hlt
        obtain ⟨h6, hone⟩ := hrv.six
        have HRV := Lib.hid hrv
        have HCL := Lib.hid hcell
        clear hr hrv hcell hone
        have HST := Lib.hid (wtL_step (b := false) (nms := nms) hlt)
        have HCALL := Lib.hid (HIH.out i hlt cs' wr HRV.out)
        obtain ⟨wi, hwi⟩ : ∃ wi, wt its[i] = wi := ⟨_, rfl⟩
        rw [hwi] at HST HCALL
        clear hwi
        have hWW : W ≤ 13 * 1048576 := HWB.out
        obtain ⟨sz, hsz⟩ : ∃ s, (nms.getD i ⟨#[]⟩).size = s := ⟨_, rfl⟩
        rw [hsz] at HST
        have HS2 : Hid (W = n + wi + wtL false (its.drop (i + 1)) (nms.drop (i + 1))) := by
          have h1 := HF.out
          have h2 := HST.out
          simp only [Bool.false_eq_true, if_false] at h2
          show _ = _
          omega
        have hb3 : n + wi ≤ W := by have := HS2.out; omega
        
        clear hsz
        
        go_wp2_with (refine wpList_load_at rfl 26 (.tmp 46) rfl b (off + i * 6) rfl cs' _ HCL.out Tryz.underlying26 rfl (by rw [h6]; exact v_info) ?_)
        refine HCALL.out.mono ?_; rintro e w5 ⟨rfl, hb5⟩
        have HB5 := Lib.hid (HBr.out.trans (hb5.mono HBr.out.size))
        clear hb5
        go_wp2_with fail
        go_roundw
        case rel => first | exact ⟨i + 1, n + wi, by go_num, by go_num, hlt, hb3, HS2.out, HB5.out⟩
        case measure => simp [intOf]; omega
      · have HEW : Hid (W = n) := by
          have := HF.out
          rw [List.drop_eq_nil_of_le (show its.length ≤ i by omega), wtL] at this
          exact this
        go_wp2_with fail
        go_ret
        exact ⟨by rw [HEW.out]; rfl, HBw.out⟩
  · subst hk
    have HE : Hid (W = 5 + wtL true its nms) := HWN.out (.inr rfl)
    have k0 := K0.out
    clear HGL HWL HWN HK
    go_enter Tryz.func31, Tryz.ntmps31
    go_upto_region 1 with fail
    generalize w.alloc (.cells cs.toArray 26) = w0 at *
    go_wp2_with fail
    clear k0
    go_loopw [3, 4] (fun vn vi wr => ∃ i n : Nat, vn = .int .i64 (n : Int) ∧ vi = .int .i64 i ∧ i ≤ its.length ∧ n ≤ W ∧ Hid (W = n + wtL true (its.drop i) (nms.drop i)) ∧ Hid (Below w0.heap.size w0 wr)) (fun _ vi _ => its.length - (intOf vi).toNat)
    case atStart => exact ⟨0, 5, rfl, rfl, Nat.zero_le _, by have := HE.out; omega, HE.out, Below.refl _ _⟩
    case round =>
      obtain ⟨i, n, rfl, rfl, hi, hnW, HF, HBr⟩ := hrel
      have HBw := Lib.hid (HB.out.trans (HBr.out.mono HB.out.size))
      have k0 : wr.cell? ⟨w.heap.size, 0, none⟩ = some (.int .i64 7) := (HBr.out.cell (p := ⟨w.heap.size, 0, none⟩) HLT.out).trans K0.out
      have k4 : wr.cell? ⟨w.heap.size, 4, none⟩ = some (.slice A its.length c) := (HBr.out.cell (p := ⟨w.heap.size, 4, none⟩) HLT.out).trans K4.out
      have k5 : wr.cell? ⟨w.heap.size, 5, none⟩ = some (.slice A' nms.length c') := (HBr.out.cell (p := ⟨w.heap.size, 5, none⟩) HLT.out).trans K5.out
      by_cases hlt : i < its.length
      · obtain ⟨b, off, hA, hbl, hr⟩ := HOP.out (by omega)
        subst hA
        obtain ⟨cs', hrv, hcell⟩ := hr wr HBw.out i hlt
        obtain ⟨h6, hone⟩ := hrv.six
        have HRV := Lib.hid hrv
        have HCL := Lib.hid hcell
        clear hr hrv hcell hone
        have hnl : nms.length = its.length := by first | exact HGN.out rfl | exact HGN.out trivial
        obtain ⟨bn, offn, hAn, hbn1, hbn2, hcelln⟩ := (HNM.out.below (Below.mono HBr.out (by have := HLT.out; omega))).form (by omega)
        subst hAn
        have kn := hcelln i (by omega)
        rw [show (strs nms).getD i undef = .string (nms.getD i ⟨#[]⟩) by simp [List.getD, List.getElem?_eq_getElem (show i < nms.length by omega)]] at kn
        have dn : (i : Int) < (nms.length : Int) := by omega
        clear hcelln
        have HST := Lib.hid (wtL_step (b := true) (nms := nms) hlt)
        have HCALL := Lib.hid (HIH.out i hlt cs' wr HRV.out)
        obtain ⟨wi, hwi⟩ : ∃ wi, wt its[i] = wi := ⟨_, rfl⟩
        rw [hwi] at HST HCALL
        clear hwi
        have hWW : W ≤ 13 * 1048576 := HWB.out
        obtain ⟨sz, hsz⟩ : ∃ s, (nms.getD i ⟨#[]⟩).size = s := ⟨_, rfl⟩
        rw [hsz] at HST
        have HS2 : Hid (W = n + 4 + sz + wi + wtL true (its.drop (i + 1)) (nms.drop (i + 1))) := by
          have h1 := HF.out
          have h2 := HST.out
          simp only [if_true] at h2
          show _ = _
          omega
        have hb3 : n + 4 + sz + wi ≤ W := by have := HS2.out; omega
        have hszi : ((nms.getD i ⟨#[]⟩).size : Int) = (sz : Int) := by rw [hsz]
        clear hsz
        generalize nms.getD i ⟨#[]⟩ = nmi at *
        go_wp2_with (refine wpList_load_at rfl 26 (.tmp 46) rfl b (off + i * 6) rfl cs' _ HCL.out Tryz.underlying26 rfl (by rw [h6]; exact v_info) ?_)
        refine HCALL.out.mono ?_; rintro e w5 ⟨rfl, hb5⟩
        have HB5 := Lib.hid (HBr.out.trans (hb5.mono HBr.out.size))
        clear hb5
        go_wp2_with fail
        go_roundw
        case rel => first | exact ⟨i + 1, n + 4 + sz + wi, by go_num, by go_num, hlt, hb3, HS2.out, HB5.out⟩
        case measure => simp [intOf]; omega
      · have HEW : Hid (W = n) := by
          have := HF.out
          rw [List.drop_eq_nil_of_le (show its.length ≤ i by omega), wtL] at this
          exact this
        go_wp2_with fail
        go_ret
        exact ⟨by rw [HEW.out]; rfl, HBw.out⟩
end Go.Proofs.YtigbbogfnchgnaaGreatDoor
