/- Walk: the law ParamEncodes. Conditions: none. -/
import Derived.Test.YtbpbokcglicggaaWd2
import Derived.Test.YtbpbokcglicggaaLfld
namespace Go.Proofs.Ytbpbokcglicggaa
open Go.RowKit
set_option linter.unusedVariables false

theorem encA_bd {k : Int} {p : Pm} : (encA k p).length ≤ 140737488351232 := by have := encA_le k p; omega
theorem wrdA_le (k : Int) (p : Pm) : (wrdA k p).length ≤ 8 := by
  unfold wrdA; split
  · rw [wdL_len]; exact Nat.le_refl _
  · simp
theorem getD_u64s {xs : List Int} {k : Nat} (h : k < xs.length) : (u64s xs).getD k undef = .int .u64 (xs.getD k 0) := by
  simp [List.getD, List.getElem?_eq_getElem h]
set_option maxRecDepth 100000 in
set_option maxHeartbeats 2000000 in
theorem L_Encodes (W : World) (k : Int) (p : Pm) (sa : Option Addr) (sc : Nat) (ta : Option Addr) (tc : Nat) (h : RdP W p sa sc ta tc) (ho : PmOk p) (hs : ∀ z ∈ p.s, 0 ≤ z ∧ z < 256) (ht : ∀ z ∈ p.t, 0 ≤ z ∧ z < 256) :
    Calls Try.prog 7 #[.int .i64 k, pvS p sa sc ta tc] W fun e W' => e = .returned (.bool true) ∧ Below W.heap.size W W' := by
  have hb0 := (Below.refl W.heap.size W).alloc (Nat.le_refl _) (.cells (pvC p sa sc ta tc) 31)
  have hB0 := Blk.new W 31 (pvC p sa sc ta tc)
  have h0 := h.step hb0
  have HS := Lib.hid hs
  have HT := Lib.hid ht
  have hcp := fun w h => c_copied p sa sc ta tc w h
  have HCP := Lib.hid hcp
  have HE1 : Hid (∀ sa sc ta tc w, RdP w p sa sc ta tc → Calls Try.prog 33 #[.int .i64 k, pvS p sa sc ta tc] w (EncGives w k p)) := fun sa sc ta tc w h => c_Encode k p sa sc ta tc w h ho
  have HE2 : Hid (∀ w, RdP w p sa sc ta tc → Calls Try.prog 34 #[.int .i64 k, pvS p sa sc ta tc] w (EncGives w k p)) := fun w h => c_rEncode k p sa sc ta tc w h ho
  have HW1 : Hid (∀ sa sc ta tc w, RdP w p sa sc ta tc → Calls Try.prog 35 #[.int .i64 k, pvS p sa sc ta tc] w (WdGives w k p)) := fun sa sc ta tc w h => c_Words k p sa sc ta tc w h ho hs ht
  have HW2 : Hid (∀ w, RdP w p sa sc ta tc → Calls Try.prog 36 #[.int .i64 k, pvS p sa sc ta tc] w (WdGives w k p)) := fun w h => c_rWords k p sa sc ta tc w h ho hs ht
  have bs := h.bs
  have bt := h.bt
  have hzl := encA_bd (k := k) (p := p)
  have hwl := wrdA_le k p
  have K0 := Lib.hid hB0
  have B0 := Lib.hid hb0
  clear hB0 hb0 h hs ht ho hcp
  simp only [pvS, pv]
  go_enter Try.func7, Try.ntmps7
  -- a, e := Encode(k, copied(p))
  go_wp2_with fail
  refine (HCP.out _ h0).mono ?_
  rintro e w1 ⟨sa1, sc1, ta1, tc1, rfl, o1, o2, hb1⟩
  have r1 := own_rd o1 o2 bs bt
  have h1 := h0.step hb1
  have K1 := Lib.hid (K0.out.below hb1 (by simp))
  have B1 := Lib.hid (below_step B0.out hb1)
  have z1 := hb1.size
  simp only [World.size_alloc] at z1
  clear hb1 o1 o2 h0
  go_wp2_with fail
  refine (HE1.out _ _ _ _ _ r1).mono ?_
  rintro e w2 ⟨A2, c2, rfl, o2, hb2⟩
  obtain ⟨A2', c2', e2', _, ra⟩ := own_reads o2
  injection e2' with e2' _ e2''
  subst e2'; subst e2''
  have h2 := h1.step hb2
  have K2 := Lib.hid (K1.out.below hb2 (by omega))
  have B2 := Lib.hid (below_step B1.out hb2)
  have z2 := hb2.size
  clear hb2 o2 h1
  -- b, f := quernref02.Encode(k, p)
  go_wp2_with (refine wpList_load_row rfl 31 (.tmp 3) rfl W.heap.size rfl 31 _ (0, 0) _ K2.out Try.underlying31 rfl (by kernel_rfl) ?_)
  refine (HE2.out _ h2).mono ?_
  rintro e w3 ⟨A3, c3, rfl, o3, hb3⟩
  obtain ⟨A3', c3', e3', _, rb⟩ := own_reads o3
  injection e3' with e3' _ e3''
  subst e3'; subst e3''
  have ra3 := ra.step hb3
  have h3 := h2.step hb3
  have K3 := Lib.hid (K2.out.below hb3 (by omega))
  have B3 := Lib.hid (below_step B2.out hb3)
  have z3 := hb3.size
  clear hb3 o3 h2 ra
  generalize encA k p = zs at *
  generalize chkP k p = E at *
  go_wp2_with fail
  refine (c_same _ _ _ _ _ _ zs zs _ w3.heap.size ra3 rb hzl).mono ?_
  rintro e w4 ⟨rfl, hb4⟩
  rw [decide_eq_true rfl]
  have h4 := h3.step hb4
  have K4 := Lib.hid (K3.out.below hb4 (by omega))
  have B4 := Lib.hid (below_step B3.out hb4)
  have z4 := hb4.size
  clear hb4 h3 ra3 rb
  -- v, e := Words(k, copied(p))
  go_wp2_with (refine wpList_load_row rfl 31 (.tmp 3) rfl W.heap.size rfl 31 _ (0, 0) _ K4.out Try.underlying31 rfl (by kernel_rfl) ?_)
  refine (HCP.out _ h4).mono ?_
  rintro e w5 ⟨sa5, sc5, ta5, tc5, rfl, o1, o2, hb5⟩
  have r5 := own_rd o1 o2 bs bt
  have h5 := h4.step hb5
  have K5 := Lib.hid (K4.out.below hb5 (by omega))
  have B5 := Lib.hid (below_step B4.out hb5)
  have z5 := hb5.size
  clear hb5 o1 o2 h4
  go_wp2_with fail
  refine (HW1.out _ _ _ _ _ r5).mono ?_
  rintro e w6 ⟨A6, c6, rfl, o6, hb6⟩
  obtain ⟨A6', c6', e6', _, rv⟩ := own_reads o6
  injection e6' with e6' _ e6''
  subst e6'; subst e6''
  have h6 := h5.step hb6
  have K6 := Lib.hid (K5.out.below hb6 (by omega))
  have B6 := Lib.hid (below_step B5.out hb6)
  have z6 := hb6.size
  clear hb6 o6 h5
  go_wp2_with (refine wpList_load_row rfl 31 (.tmp 3) rfl W.heap.size rfl 31 _ (0, 0) _ K6.out Try.underlying31 rfl (by kernel_rfl) ?_)
  refine (HW2.out _ h6).mono ?_
  rintro e w7 ⟨A7, c7, rfl, o7, hb7⟩
  obtain ⟨A7', c7', e7', _, rw7⟩ := own_reads o7
  injection e7' with e7' _ e7''
  subst e7'; subst e7''
  have rv7 := rv.step hb7
  have B7 := Lib.hid (below_step B6.out hb7)
  clear hb7 o7 h6 rv
  generalize wrdA k p = ws at *
  obtain ⟨n, hn⟩ : ∃ n, ws.length = n := ⟨_, rfl⟩
  rw [hn] at rv7 rw7 hwl ⊢
  have HNL := Lib.hid hn
  clear hn
  go_wp2_with fail
  go_loopw [11] (fun i wr => ∃ j d : Nat, j ≤ n ∧ i = .int .i64 j ∧ wr = w7.drewN d) (fun i _ => n - (intOf i).toNat)
  case atStart => exact ⟨0, 0, Nat.zero_le _, rfl, rfl⟩
  case round =>
    obtain ⟨j, d, hj, rfl, rfl⟩ := hrel
    by_cases hlt : j < n
    · obtain ⟨b, off, rfl, hbB, hbw, hcells⟩ := rv7.form (by omega)
      obtain ⟨b', off', rfl, hbB', hbw', hcells'⟩ := rw7.form (by omega)
      have hcell := hcells j hlt
      have hcell' := hcells' j hlt
      rw [getD_u64s (by rw [HNL.out]; exact hlt)] at hcell hcell'
      clear hcells hcells'
      generalize ws.getD j 0 = z at *
      go_wp2_with fail
      go_quiet (fail)
      go_wp2_with fail
      go_roundw
      case rel => exact ⟨j + 1, _, by omega, by go_num, rfl⟩
      case measure => simp [intOf]; omega
    · go_wp2_with fail
      go_ret
      exact ⟨rfl, below_drewN B7.out d⟩
theorem l_ParamEncodes (W : World) (k : Int) (wk : (Lit.int .i64 k).wf = true) (d : Int) (wd : (Lit.int .i64 d).wf = true) (key : Int) (wkey : (Lit.int .i64 key).wf = true) (fo : Int) (wfo : (Lit.int .i64 fo).wf = true) (de : Int) (wde : (Lit.int .i64 de).wf = true)
    (leaf : Int) (wleaf : (Lit.int .u32 leaf).wf = true) (off : Int) (woff : (Lit.int .u64 off).wf = true) (xof : Int) (wxof : (Lit.int .u32 xof).wf = true) (nd : Int) (wnd : (Lit.int .i64 nd).wf = true) (inn : Int) (winn : (Lit.int .i64 inn).wf = true)
    (sa : Option Addr) (sn sc : Nat) (xs : List Int) (hr : RdInts W .u8 1 sa sn sc xs) (ta : Option Addr) (tn tc : Nat) (ys : List Int) (hr' : RdInts W .u8 1 ta tn tc ys) :
    Calls Try.prog 7 #[.int .i64 k, .agg #[.int .i64 d, .int .i64 key, .int .i64 fo, .int .i64 de, .int .u32 leaf, .int .u64 off, .int .u32 xof, .int .i64 nd, .int .i64 inn, .slice sa sn sc, .slice ta tn tc]] W fun e W' => e = .returned (.bool true) ∧ Below W.heap.size W W' := by
  obtain ⟨hc, hm, hwf, hrd⟩ := hr
  obtain ⟨hc', hm', hwf', hrd'⟩ := hr'
  have hl : xs.length = sn := by simpa using hrd.1
  have hl' : ys.length = tn := by simpa using hrd'.1
  subst hl; subst hl'
  have b1 := bounds_u32 wleaf
  have b2 := bounds_u64 woff
  have b3 := bounds_u32 wxof
  exact L_Encodes W k ⟨d, key, fo, de, leaf, off, xof, nd, inn, xs, ys⟩ sa sc ta tc ⟨hc, hc', by simp only; omega, by simp only; omega, hrd, hrd'⟩ ⟨by simp only; omega, by simp only; omega, by simp only; omega⟩ (u8_wf hwf) (u8_wf hwf')
end Go.Proofs.Ytbpbokcglicggaa
