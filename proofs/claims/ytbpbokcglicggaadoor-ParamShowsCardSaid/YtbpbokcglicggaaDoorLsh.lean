/- Walk: the law ParamShows. Conditions: the library's table of tens as laid. -/
import Derived.Test.YtbpbokcglicggaaDoorSx
import Derived.Test.YtbpbokcglicggaaDoorLaw
import Derived.OpenShut
namespace Go.Proofs.YtbpbokcglicggaaDoor
open Go.RowKit
set_option linter.unusedVariables false

theorem u8_wfS {xs : List Int} (h : ∀ z ∈ xs, (Lit.int .u8 z).wf = true) : ∀ z ∈ xs, 0 ≤ z ∧ z < 256 := fun z hz => by have := bounds_u8 (h z hz); omega
set_option maxRecDepth 100000 in
set_option maxHeartbeats 2000000 in
theorem L_Shows (W : World) (k : Int) (p : Pm) (sa : Option Addr) (sc : Nat) (ta : Option Addr) (tc : Nat) (h : RdP W p sa sc ta tc) (ho : PmOk p) (hs : ∀ z ∈ p.s, 0 ≤ z ∧ z < 256) (ht : ∀ z ∈ p.t, 0 ≤ z ∧ z < 256) (htab : Lib.TabIs Tryd.prog W "internal/strconv.uint64pow10" .u64 Lib.pow10Tab) :
    Calls Tryd.prog 3 #[.int .i64 k, pvS p sa sc ta tc] W fun e W' => e = .returned (.bool true) ∧ Below W.heap.size W W' := by
  have hb0 := (Below.refl W.heap.size W).alloc (Nat.le_refl _) (.cells (pvC p sa sc ta tc) 26)
  have hB0 := Blk.new W 26 (pvC p sa sc ta tc)
  have h0 := h.step hb0
  have HTB : Hid (∀ w, Below W.heap.size W w → Lib.TabIs Tryd.prog w "internal/strconv.uint64pow10" .u64 Lib.pow10Tab) := fun w hb => Lib.tabBelow_of_tabIs htab w hb
  have hcp := fun w h => c_copied p sa sc ta tc w h
  have HCP := Lib.hid hcp
  have HE1 : Hid (∀ sa sc ta tc w, RdP w p sa sc ta tc → Lib.TabIs Tryd.prog w "internal/strconv.uint64pow10" .u64 Lib.pow10Tab → Calls Tryd.prog 5 #[.int .i64 k, pvS p sa sc ta tc] w fun e w' => e = .returned (.tuple #[bstr (if chkP k p = 0 then pline k p.norm else []), .int .i64 (chkP k p)]) ∧ Below w.heap.size w w') := fun sa sc ta tc w h hb => c_Show k p sa sc ta tc w h ho hb hs ht
  have HE2 : Hid (∀ w, RdP w p sa sc ta tc → Calls Tryd.prog 7 #[.int .i64 k, pvS p sa sc ta tc] w fun e w' => e = .returned (.tuple #[bstr (if chkP k p = 0 then pline k p.norm else []), .int .i64 (chkP k p)]) ∧ Below w.heap.size w w') := fun w h => c_rShow k p sa sc ta tc w h ho hs ht
  have bs := h.bs
  have bt := h.bt
  have K0 := Lib.hid hB0
  have B0 := Lib.hid hb0
  clear hB0 hb0 h hs ht ho hcp htab
  generalize (if chkP k p = 0 then pline k p.norm else []) = ln at *
  generalize chkP k p = E at *
  simp only [pvS, pv]
  go_enter Tryd.func3, Tryd.ntmps3
  go_wp2_with fail
  refine (HCP.out _ h0).mono ?_
  rintro e w1 ⟨sa1, sc1, ta1, tc1, rfl, o1, o2, hb1⟩
  have r1 := own_rd o1 o2 bs bt
  have h1 := h0.step hb1
  have K1 := Lib.hid (K0.out.below hb1 (by simp))
  have B1 := Lib.hid (below_step B0.out hb1)
  have z1 := hb1.size
  simp only [World.size_alloc] at z1
  clear hb1 o1 o2 h0
  go_wp2_with fail
  refine (HE1.out _ _ _ _ _ r1 (HTB.out _ B1.out)).mono ?_
  rintro e w2 ⟨rfl, hb2⟩
  have h2 := h1.step hb2
  have K2 := Lib.hid (K1.out.below hb2 (by omega))
  have B2 := Lib.hid (below_step B1.out hb2)
  clear hb2 h1
  go_wp2_with (refine wpList_load_row rfl 26 (.tmp 3) rfl W.heap.size rfl 26 _ (0, 0) _ K2.out Tryd.underlying26 rfl (by kernel_rfl) ?_)
  refine (HE2.out _ h2).mono ?_
  rintro e w3 ⟨rfl, hb3⟩
  have B3 := Lib.hid (below_step B2.out hb3)
  clear hb3 h2
  go_wp2
  go_ret
  exact ⟨rfl, B3.out⟩
theorem l_ParamShows (W : World) (htab : Lib.TabIs Tryd.prog W "internal/strconv.uint64pow10" .u64 Lib.pow10Tab) (k : Int) (wk : (Lit.int .i64 k).wf = true) (d : Int) (wd : (Lit.int .i64 d).wf = true) (key : Int) (wkey : (Lit.int .i64 key).wf = true) (fo : Int) (wfo : (Lit.int .i64 fo).wf = true) (de : Int) (wde : (Lit.int .i64 de).wf = true)
    (leaf : Int) (wleaf : (Lit.int .u32 leaf).wf = true) (off : Int) (woff : (Lit.int .u64 off).wf = true) (xof : Int) (wxof : (Lit.int .u32 xof).wf = true) (nd : Int) (wnd : (Lit.int .i64 nd).wf = true) (inn : Int) (winn : (Lit.int .i64 inn).wf = true)
    (sa : Option Addr) (sn sc : Nat) (xs : List Int) (hr : RdInts W .u8 1 sa sn sc xs) (ta : Option Addr) (tn tc : Nat) (ys : List Int) (hr' : RdInts W .u8 1 ta tn tc ys) :
    Calls Tryd.prog 3 #[.int .i64 k, .agg #[.int .i64 d, .int .i64 key, .int .i64 fo, .int .i64 de, .int .u32 leaf, .int .u64 off, .int .u32 xof, .int .i64 nd, .int .i64 inn, .slice sa sn sc, .slice ta tn tc]] W fun e W' => e = .returned (.bool true) ∧ Below W.heap.size W W' := by
  obtain ⟨hc, hm, hwf, hrd⟩ := hr
  obtain ⟨hc', hm', hwf', hrd'⟩ := hr'
  have hl : xs.length = sn := by simpa using hrd.1
  have hl' : ys.length = tn := by simpa using hrd'.1
  subst hl; subst hl'
  have b1 := bounds_u32 wleaf
  have b2 := bounds_u64 woff
  have b3 := bounds_u32 wxof
  exact L_Shows W k ⟨d, key, fo, de, leaf, off, xof, nd, inn, xs, ys⟩ sa sc ta tc ⟨hc, hc', by simp only; omega, by simp only; omega, hrd, hrd'⟩ ⟨by simp only; omega, by simp only; omega, by simp only; omega⟩ (u8_wfS hwf) (u8_wfS hwf') htab
end Go.Proofs.YtbpbokcglicggaaDoor
