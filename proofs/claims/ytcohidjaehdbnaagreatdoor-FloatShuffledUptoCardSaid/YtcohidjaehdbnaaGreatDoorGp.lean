/- Walks: the program's exact sum of finite floats (math.Signbit, float.total). Conditions: at most 2^44 floats, all finite. -/
import Derived.Test.YtcohidjaehdbnaaGreatDoorGm
import Derived.Test.YtcohidjaehdbnaaGreatDoorGn
import Derived.Test.YtcohidjaehdbnaaGreatDoorGo
namespace Go.Proofs.YtcohidjaehdbnaaGreatDoor
open Go.RowKit
set_option linter.unusedVariables false
attribute [local go_sem ↓] Go.wp_at_zero Go.wp_at_succ

theorem c_whole2 (b : Nat) (hb : b < 18446744073709551616) (w : World) : Calls Tryz.prog 19 #[.float .f64 b] w fun e w' => e = .returned (.tuple #[.int .u64 (psig (fmag b)), .int .i64 (((kx (fmag b) : Nat) : Int) - 1074)]) ∧ w = w' :=
  (c_whole b hb w).mono fun _ _ h => ⟨by rw [h.1, mman_psig, mexp_kx]; rfl, h.2⟩
theorem c_Signbit (b : Nat) (hb : b < 18446744073709551616) (w : World) : Calls Tryz.prog 39 #[.float .f64 b] w fun e w' => e = .returned (.bool (fsgn b)) ∧ w = w' := by
  have hc := call_bits b
  have hw : IntKind.i64.wrap (b : Int) = if b < 9223372036854775808 then (b : Int) else (b : Int) - 18446744073709551616 := by
    rw [IntKind.wrap_i64]
    split <;> omega
  by_cases h : b < 9223372036854775808
  · have HF : Hid (fsgn b = false) := by show fsgn b = false; unfold fsgn; rw [decide_eq_true h]; rfl
    rw [if_pos h] at hw
    go_enter Tryz.func39, Tryz.ntmps39
    go_wp2
    go_ret
    exact ⟨by rw [HF.out]; simp, rfl⟩
  · have HF : Hid (fsgn b = true) := by show fsgn b = true; unfold fsgn; rw [decide_eq_false h]; rfl
    rw [if_neg h] at hw
    have hlt : (b : Int) - 18446744073709551616 < 0 := by omega
    go_enter Tryz.func39, Tryz.ntmps39
    go_wp2
    go_ret
    exact ⟨by rw [HF.out]; simp, rfl⟩
/-- What holds ahead of a round of the total: i floats are in. -/
structure TotR (w wr : World) (xs : List Nat) (i : Nat) (A : Option Addr) (c : Nat) (l : List Nat) (A' : Option Addr) (c' : Nat) (l' : List Nat) : Prop where
  blk : Blk wr w.heap.size 65 #[.slice A l.length c, .slice A' l'.length c']
  pos : IsN wr wr.heap.size .u64 18446744073709551616 A c l (posN (xs.take i))
  neg : IsN wr wr.heap.size .u64 18446744073709551616 A' c' l' (negN (xs.take i))
  bel : Below w.heap.size w wr
set_option maxRecDepth 100000 in
set_option maxHeartbeats 4000000 in
theorem c_total (A0 : Option Addr) (n c0 : Nat) (xs : List Nat) (w : World) (h : Reads w w.heap.size 1 A0 n (f64s xs)) (hb : Bit xs) (hn : n ≤ 17592186044416) (hf : ∀ b ∈ xs, ffin b = true) :
    Calls Tryz.prog 24 #[.slice A0 n c0] w fun e w' => ∃ A c l, e = .returned (.tuple #[.slice A l.length c, .bool (decide (posN xs < negN xs))]) ∧ IsN w' w'.heap.size .u64 18446744073709551616 A c l (totN xs) ∧ Below w.heap.size w w' := by
  have HRD := Lib.hid h
  have HXL : Hid (xs.length = n) := Lib.hid (by simpa using h.1)
  have HBT := Lib.hid hb
  have HFT := Lib.hid hf
  clear h hb hf
  go_enter Tryz.func24, Tryz.ntmps24
  go_wp2_with fail
  go_loopw [12] (fun vi wr => ∃ (i : Nat) (A : Option Addr) (c : Nat) (l : List Nat) (A' : Option Addr) (c' : Nat) (l' : List Nat), vi = .int .i64 i ∧ i ≤ n ∧ TotR w wr xs i A c l A' c' l') (fun vi _ => n - (intOf vi).toNat)
  case atStart => exact ⟨0, none, 0, [], none, 0, [], rfl, Nat.zero_le _, ⟨Blk.new w _ _, IsN.nil, IsN.nil, (Below.refl _ _).alloc (Nat.le_refl _) _⟩⟩
  case round =>
    obtain ⟨i, A, c, l, A', c', l', rfl, hi, HS⟩ := hrel
    by_cases hlt : i < n
    · obtain ⟨bb, off, rfl, hbB, hbw, hcells⟩ := HRD.out.form (by omega)
      have hc1 : wr.cell? ⟨bb, off + i, none⟩ = some (.float .f64 (xs.getD i 0)) := by
        rw [(bcell HS.bel).1 _ _ hbw, hcells i hlt, f64_get (by rw [HXL.out]; exact hlt)]
      have hbb := HBT.out.get i
      have HT := Lib.hid (take_one xs (i := i) (by rw [HXL.out]; exact hlt))
      have HFB : Hid (ffin (xs.getD i 0) = true) := HFT.out _ (by
        have := HXL.out
        rw [List.getD, List.getElem?_eq_getElem (show i < xs.length by omega)]
        exact List.getElem_mem _)
      clear hcells
      generalize xs.getD i 0 = b at *
      have HWH := Lib.hid (c_whole2 b hbb)
      have HSG := Lib.hid (c_Signbit b hbb)
      have hmb : fmag b < 9223372036854775808 := Nat.mod_lt _ (by decide)
      obtain ⟨m, hm⟩ : ∃ m, fmag b = m := ⟨_, rfl⟩
      rw [hm] at HWH hmb
      have HKM := Lib.hid hm
      clear hm
      have HKS : Hid (kv m < nbig) := by
        have h2 := kv_sml HFB.out
        rw [HKM.out] at h2
        exact nsml_big h2
      have HSM := Lib.hid (tot_sml (len_take_le xs i (by rw [HXL.out]; exact hn)))
      have HKV := Lib.hid (kv_psig m)
      have hpm := psig_lt (m := m)
      have hkx := kx_le hmb
      generalize psig m = p at *
      generalize kx m = k at *
      have hp64 : p < 18446744073709551616 := by omega
      have HPB := Lib.hid (word_big hp64)
      have k0 : wr.cell? ⟨w.heap.size, 0, none⟩ = some (.slice A l.length c) := by rw [HS.blk.cell 0]; rfl
      have k1 : wr.cell? ⟨w.heap.size, 1, none⟩ = some (.slice A' l'.length c') := by rw [HS.blk.cell 1]; rfl
      have f0 := HS.blk.frozen 0
      have f1 := HS.blk.frozen 1
      have hgz := HS.blk.lt
      rcases hsg : fsgn b with _ | _
      · rw [hsg] at HSG
        have HSS := Lib.hid hsg
        clear hsg
        go_wp2_with fail
        refine (HWH.out _).mono ?_; rintro e1 w1 ⟨rfl, rfl⟩
        go_wp2_with fail
        refine (HSG.out _).mono ?_; rintro e1 w1 ⟨rfl, rfl⟩
        go_wp2_with fail
        have HRA := Lib.hid (reads_one wr 22 (.int .u64 (p : Int))).drew
        have HTP := Lib.hid (isN_trim (k := .u64) (B := 18446744073709551616) (l := [p]) (c := 1) HRA.out rfl (by simp) (by intro x hx; rw [List.mem_singleton.1 hx]; exact hp64))
        have hct := c_trim (some ⟨wr.heap.size, 0, none⟩) 1 [p] _ _ HRA.out (by simp) (by simp)
        rw [show [p].length = 1 from rfl] at hct
        have HCT := Lib.hid hct
        clear hct
        have HTW : Hid (IsN ((wr.alloc (.cells #[.int .u64 (p : Int)] 22)).drew) ((wr.alloc (.cells #[.int .u64 (p : Int)] 22)).drew).heap.size .u64 18446744073709551616 (some ⟨wr.heap.size, 0, none⟩) 1 (trimN [p]) p) := by
          have := HTP.out
          rw [nval_one] at this
          exact this.more (by simp)
        have hb0 := (Below.refl wr.heap.size wr).alloc (Nat.le_refl _) (.cells #[.int .u64 (p : Int)] 22)
        have HB0 : Hid (Below wr.heap.size wr (wr.alloc (.cells #[.int .u64 (p : Int)] 22)).drew) := ⟨hb0.os, hb0.tape, hb0.output, hb0.size, hb0.block⟩
        clear hb0
        have hsum : IntKind.i64.wrap (k : Int) = (k : Int) := by rw [IntKind.wrap_i64]; omega
        have ka : (wr.alloc (.cells #[.int .u64 (p : Int)] 22)).cell? ⟨w.heap.size, 0, none⟩ = some (.slice A l.length c) := by rw [World.cell?_alloc_lt wr _ _ hgz]; exact k0
        go_region_with (first
          | (go_at_call 20; (with_reducible refine HCT.out.mono ?_); rintro e w1 ⟨rfl, rfl⟩)
          | (go_at_call 21; (with_reducible refine (c_shl _ _ _ k p _ HTW.out HPB.out (by omega)).mono ?_); rintro e w2 ⟨A2, c2, l2, rfl, h2, hb2⟩; have HBB := Lib.hid (below_step HB0.out hb2); have H2 := Lib.hid h2; have HK := Lib.hid (HS.blk.below HBB.out hgz); have HO := Lib.hid (HS.pos.below HBB.out); have kb : w2.cell? ⟨w.heap.size, 0, none⟩ = some (.slice A l.length c) := HK.out.cell 0; clear h2 hb2)
          | (go_at_call 22; rw [← HKV.out] at H2; (with_reducible refine (c_add _ _ _ _ _ _ _ _ _ HO.out H2.out (nsml_big HSM.out.1) HKS.out).mono ?_); rintro e w3 ⟨A3, c3, l3, rfl, h3, hb3⟩; have HBB := Lib.hid (below_step HBB.out hb3); have H3 := Lib.hid h3; have HK := Lib.hid (HS.blk.below HBB.out hgz); have HOT := Lib.hid (HS.neg.below HBB.out); have f0 := HK.out.frozen 0; have kc : w3.cell? ⟨w.heap.size, 0, none⟩ = some (.slice A l.length c) := HK.out.cell 0; clear h3 hb3))
        all_goals
          go_wp2
          go_roundw
          case rel => exact ⟨i + 1, A3, c3, l3, A', c', l', by go_num, hlt, ⟨HK.out.set_ 0 _, by rw [HT.out, (posN_plus HFB.out HSS.out).1, HKM.out]; exact H3.out.setCell HK.out rfl _ _, by rw [HT.out, (posN_plus HFB.out HSS.out).2]; exact HOT.out.setCell HK.out rfl _ _, (below_step HS.bel HBB.out).setCell (Nat.le_refl _) _⟩⟩
          case measure => simp [intOf]; omega
      · rw [hsg] at HSG
        have HSS := Lib.hid hsg
        clear hsg
        go_wp2_with fail
        refine (HWH.out _).mono ?_; rintro e1 w1 ⟨rfl, rfl⟩
        go_wp2_with fail
        refine (HSG.out _).mono ?_; rintro e1 w1 ⟨rfl, rfl⟩
        go_wp2_with fail
        have HRA := Lib.hid (reads_one wr 22 (.int .u64 (p : Int))).drew
        have HTP := Lib.hid (isN_trim (k := .u64) (B := 18446744073709551616) (l := [p]) (c := 1) HRA.out rfl (by simp) (by intro x hx; rw [List.mem_singleton.1 hx]; exact hp64))
        have hct := c_trim (some ⟨wr.heap.size, 0, none⟩) 1 [p] _ _ HRA.out (by simp) (by simp)
        rw [show [p].length = 1 from rfl] at hct
        have HCT := Lib.hid hct
        clear hct
        have HTW : Hid (IsN ((wr.alloc (.cells #[.int .u64 (p : Int)] 22)).drew) ((wr.alloc (.cells #[.int .u64 (p : Int)] 22)).drew).heap.size .u64 18446744073709551616 (some ⟨wr.heap.size, 0, none⟩) 1 (trimN [p]) p) := by
          have := HTP.out
          rw [nval_one] at this
          exact this.more (by simp)
        have hb0 := (Below.refl wr.heap.size wr).alloc (Nat.le_refl _) (.cells #[.int .u64 (p : Int)] 22)
        have HB0 : Hid (Below wr.heap.size wr (wr.alloc (.cells #[.int .u64 (p : Int)] 22)).drew) := ⟨hb0.os, hb0.tape, hb0.output, hb0.size, hb0.block⟩
        clear hb0
        have hsum : IntKind.i64.wrap (k : Int) = (k : Int) := by rw [IntKind.wrap_i64]; omega
        have ka : (wr.alloc (.cells #[.int .u64 (p : Int)] 22)).cell? ⟨w.heap.size, 1, none⟩ = some (.slice A' l'.length c') := by rw [World.cell?_alloc_lt wr _ _ hgz]; exact k1
        go_region_with (first
          | (go_at_call 20; (with_reducible refine HCT.out.mono ?_); rintro e w1 ⟨rfl, rfl⟩)
          | (go_at_call 21; (with_reducible refine (c_shl _ _ _ k p _ HTW.out HPB.out (by omega)).mono ?_); rintro e w2 ⟨A2, c2, l2, rfl, h2, hb2⟩; have HBB := Lib.hid (below_step HB0.out hb2); have H2 := Lib.hid h2; have HK := Lib.hid (HS.blk.below HBB.out hgz); have HO := Lib.hid (HS.neg.below HBB.out); have kb : w2.cell? ⟨w.heap.size, 1, none⟩ = some (.slice A' l'.length c') := HK.out.cell 1; clear h2 hb2)
          | (go_at_call 22; rw [← HKV.out] at H2; (with_reducible refine (c_add _ _ _ _ _ _ _ _ _ HO.out H2.out (nsml_big HSM.out.2.1) HKS.out).mono ?_); rintro e w3 ⟨A3, c3, l3, rfl, h3, hb3⟩; have HBB := Lib.hid (below_step HBB.out hb3); have H3 := Lib.hid h3; have HK := Lib.hid (HS.blk.below HBB.out hgz); have HOT := Lib.hid (HS.pos.below HBB.out); have f0 := HK.out.frozen 1; have kc : w3.cell? ⟨w.heap.size, 1, none⟩ = some (.slice A' l'.length c') := HK.out.cell 1; clear h3 hb3))
        all_goals
          go_wp2
          go_roundw
          case rel => exact ⟨i + 1, A, c, l, A3, c3, l3, by go_num, hlt, ⟨HK.out.set_ 1 _, by rw [HT.out, (posN_less HFB.out HSS.out).1]; exact HOT.out.setCell HK.out rfl _ _, by rw [HT.out, (posN_less HFB.out HSS.out).2, HKM.out]; exact H3.out.setCell HK.out rfl _ _, (below_step HS.bel HBB.out).setCell (Nat.le_refl _) _⟩⟩
          case measure => simp [intOf]; omega
    · have HIK : Hid (xs.take i = xs) := by
        have := HXL.out
        show _ = _
        rw [List.take_of_length_le (by omega)]
      have HP := Lib.hid HS.pos
      have HG := Lib.hid HS.neg
      rw [HIK.out] at HP HG
      have HSM := Lib.hid (tot_sml (l := xs) (by have := HXL.out; omega))
      have k0 : wr.cell? ⟨w.heap.size, 0, none⟩ = some (.slice A l.length c) := by rw [HS.blk.cell 0]; rfl
      have k1 : wr.cell? ⟨w.heap.size, 1, none⟩ = some (.slice A' l'.length c') := by rw [HS.blk.cell 1]; rfl
      have HB := Lib.hid HS.bel
      have HBK := Lib.hid HS.blk
      have hl1 := len_big HP.out.lb (by decide) (nsml_big HSM.out.1)
      have hl2 := len_big HG.out.lb (by decide) (nsml_big HSM.out.2.1)
      have HC := Lib.hid (c_cmp A A' c c' l l' _ _ wr _ HP.out HG.out (by omega) (by omega))
      clear HS HIK
      rcases Nat.lt_or_ge (posN xs) (negN xs) with hpn | hpn
      · have HD : Hid (decide (posN xs < negN xs) = true) := decide_eq_true hpn
        have HTN : Hid (totN xs = negN xs - posN xs) := totN_lt hpn
        have HLE : Hid (posN xs ≤ negN xs) := by show _ ≤ _; omega
        have HNE : Hid (¬ negN xs ≤ posN xs) := by show ¬ _; omega
        clear hpn
        go_wp2_with fail
        refine HC.out.mono ?_; rintro e1 w1 ⟨z, rfl, hz, hb1⟩
        have hzn : ¬ (0 : Int) ≤ z := fun h => HNE.out (hz.1 h)
        have HB1 := Lib.hid hb1
        have HK1 := Lib.hid (HBK.out.below hb1 HBK.out.lt)
        have k0 : w1.cell? ⟨w.heap.size, 0, none⟩ = some (.slice A l.length c) := by rw [HK1.out.cell 0]; rfl
        have k1 : w1.cell? ⟨w.heap.size, 1, none⟩ = some (.slice A' l'.length c') := by rw [HK1.out.cell 1]; rfl
        have H1 := Lib.hid (HP.out.below hb1)
        have H2 := Lib.hid (HG.out.below hb1)
        clear hb1 hz HC HP HG
        go_wp2_with fail
        refine (c_sub _ _ _ _ _ _ _ _ _ H2.out H1.out (nsml_big HSM.out.2.1) HLE.out).mono ?_; rintro e2 w2 ⟨A2, c2, l2, rfl, h2, hb2⟩
        have HB2 := Lib.hid (below_step HB.out (below_step HB1.out hb2))
        have H3 := Lib.hid h2
        clear h2 hb2 H1 H2 HB1 HB
        go_wp2
        go_ret2
        exact ⟨A2, c2, l2, by rw [HD.out]; rfl, by rw [HTN.out]; exact H3.out, HB2.out⟩
      · have HD : Hid (decide (posN xs < negN xs) = false) := decide_eq_false (by omega)
        have HTN : Hid (totN xs = posN xs - negN xs) := totN_ge hpn
        have HLE : Hid (negN xs ≤ posN xs) := hpn
        clear hpn
        go_wp2_with fail
        refine HC.out.mono ?_; rintro e1 w1 ⟨z, rfl, hz, hb1⟩
        have hzn : (0 : Int) ≤ z := hz.2 HLE.out
        have HB1 := Lib.hid hb1
        have HK1 := Lib.hid (HBK.out.below hb1 HBK.out.lt)
        have k0 : w1.cell? ⟨w.heap.size, 0, none⟩ = some (.slice A l.length c) := by rw [HK1.out.cell 0]; rfl
        have k1 : w1.cell? ⟨w.heap.size, 1, none⟩ = some (.slice A' l'.length c') := by rw [HK1.out.cell 1]; rfl
        have H1 := Lib.hid (HP.out.below hb1)
        have H2 := Lib.hid (HG.out.below hb1)
        clear hb1 hz HC HP HG
        go_wp2_with fail
        refine (c_sub _ _ _ _ _ _ _ _ _ H1.out H2.out (nsml_big HSM.out.1) HLE.out).mono ?_; rintro e2 w2 ⟨A2, c2, l2, rfl, h2, hb2⟩
        have HB2 := Lib.hid (below_step HB.out (below_step HB1.out hb2))
        have H3 := Lib.hid h2
        clear h2 hb2 H1 H2 HB1 HB
        go_wp2
        go_ret2
        exact ⟨A2, c2, l2, by rw [HD.out]; rfl, by rw [HTN.out]; exact H3.out, HB2.out⟩
end Go.Proofs.YtcohidjaehdbnaaGreatDoor
