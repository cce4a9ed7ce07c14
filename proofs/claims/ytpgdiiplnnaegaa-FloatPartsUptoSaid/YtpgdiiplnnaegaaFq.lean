/- Walk: the reference's sorted floats (quernref22.Sorted). Conditions: as stated. -/
import Derived.Test.YtpgdiiplnnaegaaFp
namespace Go.Proofs.Ytpgdiiplnnaegaa
open Go.RowKit
set_option linter.unusedVariables false
attribute [local go_sem ↓] Go.wp_at_zero Go.wp_at_succ
attribute [local go_sem] run_store_float

theorem built1 (y : Nat) : Try.prog.builtSlice 23 1 [(0, .float .f64 y)] = some #[.float .f64 y] := by kernel_rfl
theorem fkey_fone (b : Nat) : fkey (fone b) = fkey b := by
  rcases h : fnan b with _ | _
  · rw [fone_no h]
  · rw [fone_yes h]; unfold fkey; rw [if_pos fnan_one, if_pos h]
theorem bit_fone {xs : List Nat} (h : Bit xs) : Bit (xs.map fone) := fun x hx => by
  obtain ⟨y, hy, rfl⟩ := List.mem_map.1 hx
  exact fone_lt (h y hy)
theorem take_one (xs : List Nat) {i : Nat} (h : i < xs.length) : xs.take (i + 1) = xs.take i ++ [xs.getD i 0] := by
  rw [List.take_succ_eq_append_getElem h]; simp [List.getD, List.getElem?_eq_getElem h]
theorem up_push {zs : List Nat} {i : Nat} {y : Nat} (h : Up fkey zs 0 i) (hl : zs.length = i) : Up fkey (zs ++ [y]) 0 i := h.congr fun k _ h2 => by
  simp [List.getD, List.getElem?_append_left (show k < zs.length by omega)]
theorem c_rOrderS (a b : Nat) (ha : a < 18446744073709551616) (hb : b < 18446744073709551616) (w : World) : Calls Try.prog 12 #[.float .f64 a, .float .f64 b] w fun e w' => e = .returned (.int .i64 (fcmp a b)) ∧ w' = w :=
  (c_rOrder a b ha hb w).mono fun e w' ⟨h1, h2⟩ => ⟨h1, h2.symm⟩
set_option maxRecDepth 100000 in
set_option maxHeartbeats 4000000 in
theorem c_rSorted (A : Option Addr) (n c : Nat) (xs : List Nat) (w : World) (h : Reads w w.heap.size 1 A n (f64s xs)) (hx : Bit xs) (hn : n ≤ 17592186044416) :
    Calls Try.prog 24 #[.slice A n c] w fun e w' => ∃ v zs, e = .returned v ∧ Fown w v n zs w' ∧ zs.Perm (xs.map fone) ∧ Up fkey zs 0 n := by
  obtain ⟨i0, hi0, hz0, hz1, hz2⟩ := info_parts f64_info
  have hxl : xs.length = n := by simpa using h.1
  have HXL := Lib.hid hxl
  have HRD := Lib.hid h
  have HXB := Lib.hid (bit_fone hx)
  clear h hxl hx
  go_enter Try.func24, Try.ntmps24
  go_wp2_with fail
  go_loopw [3, 4] (fun vo vi wr => ∃ (i : Nat) (zs : List Nat) (A0 : Option Addr) (c0 : Nat), vo = .slice A0 i c0 ∧ vi = .int .i64 i ∧ i ≤ n ∧ Hid (zs.Perm ((xs.take i).map fone) ∧ Up fkey zs 0 i) ∧ Hid (Fown w (.slice A0 i c0) i zs wr)) (fun _ vi _ => n - (intOf vi).toNat)
  case atStart => exact ⟨0, [], none, 0, rfl, rfl, Nat.zero_le _, ⟨List.Perm.refl _, Up.one _ _ (by omega)⟩, ⟨⟨rfl, .inl ⟨rfl, rfl⟩⟩, Below.refl _ _⟩⟩
  case round =>
    obtain ⟨i, zs, A0, c0, rfl, rfl, hi, HZ, HO⟩ := hrel
    by_cases hlt : i < n
    · obtain ⟨b, off, hA, hb1, hb2, hcell⟩ := (HRD.out.step HO.out.2).form (by omega)
      subst hA
      have hc1 := hcell i hlt
      have hgx : (f64s xs).getD i undef = .float .f64 (xs.getD i 0) := by
        have := HXL.out
        simp [f64s, List.getD, List.getElem?_eq_getElem (show i < xs.length by omega)]
      rw [hgx] at hc1
      have HTK := Lib.hid (take_one xs (i := i) (by rw [HXL.out]; exact hlt))
      clear hcell hgx
      generalize xs.getD i 0 = x at *
      have HP2 : Hid ((zs ++ [fone x]).Perm ((xs.take (i + 1)).map fone)) := by
        show List.Perm _ _
        rw [HTK.out, List.map_append]
        exact HZ.out.1.append_right _
      have HZB : Hid (Bit (zs ++ [fone x])) := fun y hy => by
        obtain ⟨z, hz, rfl⟩ := List.mem_map.1 (HP2.out.mem_iff.1 hy)
        exact HXB.out _ (List.mem_map.2 ⟨z, List.mem_of_mem_take hz, rfl⟩)
      have HZU : Hid (Up fkey (zs ++ [fone x]) 0 i) := up_push HZ.out.2 (by simpa using HO.out.1.1)
      have hbx := call_bits x
      obtain ⟨wo, rfl⟩ : ∃ wo : World, wo = wr := ⟨_, rfl⟩
      have HOA := Lib.hid (HO.out.1.alloc (.cells #[.float .f64 (fone x)] 23))
      have HBA : Hid (Below w.heap.size w (wo.alloc (.cells #[.float .f64 (fone x)] 23))) := HO.out.2.alloc HO.out.2.size _
      have HRA := Lib.hid (reads_one wo 23 (.float .f64 (fone x)))
      have HE : Hid (f64s zs ++ [.float .f64 (fone x)] = f64s (zs ++ [fone x])) := by show _ = _; simp [f64s]
      go_wp2_with (first
        | (go_at_call 19; refine (c_rOf x _).mono ?_; rintro e w' ⟨rfl, rfl⟩)
        | (refine wpList_buildSliceTo rfl 31 23 1 _ rfl wo.heap.size rfl (some 19) rfl Try.underlying31 #[.float .f64 (fone x)] (by exact built1 _) ?_)
        | (at_builtin; refine wpList_append_any _ rfl (.tmp 12) (.tmp 19) _ rfl w.heap.size 23 i0 _ 1 8 Try.underlying31 hi0 hz0 hz1 hz2 rfl (by omega) _ i (f64s zs) rfl HOA.out _ _ 1 1 [.float .f64 (fone x)] rfl HRA.out (by simp [Value.oneCell']) (by simp only [maxLen]; omega) (by omega) HBA.out.size ?_; intro v2 w2 hown2 hg2 _; rw [HE.out] at hown2; have HB2 := Lib.hid (below_own HBA.out HOA.out hg2); obtain ⟨m, hm⟩ : ∃ m, m = i + 1 := ⟨_, rfl⟩; rw [← hm] at hown2; obtain ⟨g, cap, rfl, hgb, hgl⟩ := own_form hown2 (by omega); have HW2 := Lib.hid hown2; clear hown2 hg2 HOA HBA HRA HE))
      clear hc1 hbx HO hb1 hb2
      go_loopw [5] (fun vk wr => ∃ (k : Nat) (us : List Nat), vk = .int .i64 k ∧ k ≤ i ∧ Hid (Ins fkey us 0 i k ∧ us.Perm (zs ++ [fone x])) ∧ Frow wr w.heap.size g m cap us ∧ w2.grownBy wr (some g)) (fun vk _ => (intOf vk).toNat)
      case atStart => exact ⟨i, zs ++ [fone x], intv (by omega), Nat.le_refl _, ⟨Ins.start HZU.out, List.Perm.refl _⟩, HW2.out, World.grownBy.refl _ _⟩
      case round =>
        obtain ⟨j, us, rfl, hji, HJ, hrowj, hgj⟩ := hrel
        have HWj := Lib.hid hrowj
        have HGj := Lib.hid hgj
        have HUL := Lib.hid hrowj.len
        have HUB := Lib.hid (HZB.out.perm HJ.out.2)
        have HOUT : Hid ((j ≤ 0 ∨ fkey (us.getD (j - 1) 0) ≤ fkey (us.getD j 0)) → us.Perm ((xs.take m).map fone) ∧ Up fkey us 0 m) := fun hd => by rw [hm]; exact ⟨HJ.out.2.trans HP2.out, HJ.out.1.done hji hd⟩
        by_cases hja : 0 < j
        · have hc1 := hrowj.cell (i := j) (by omega)
          have hc2 := hrowj.cell (i := j - 1) (by omega)
          have hcp := c_rOrderS (us.getD j 0) (us.getD (j - 1) 0) (HUB.out.get _) (HUB.out.get _)
          have HK : Hid (fcmp (us.getD j 0) (us.getD (j - 1) 0) < 0 ↔ fkey (us.getD j 0) < fkey (us.getD (j - 1) 0)) := fcmp_lt _ _
          have HST : Hid (fkey (us.getD j 0) < fkey (us.getD (j - 1) 0) → Ins fkey (sw us j (j - 1)) 0 i (j - 1) ∧ (sw us j (j - 1)).Perm (zs ++ [fone x])) := fun hl => ⟨HJ.out.1.step hja hji (by rw [HUL.out]; omega) hl, (sw_perm us _ _ (by rw [HUL.out]; omega) (by rw [HUL.out]; omega)).trans HJ.out.2⟩
          clear hrowj hgj
          have d1 : (0 : Int) ≤ (j : Int) - 1 := by omega
          have d2 : (j : Int) - 1 < (m : Int) := by omega
          have d3 : (j : Int) < (m : Int) := by omega
          have dja : (0 : Int) < (j : Int) := by omega
          have HCP := Lib.hid hcp
          clear hcp
          by_cases hk : fkey (us.getD j 0) < fkey (us.getD (j - 1) 0)
          · have hq := HK.out.2 hk
            have HS2 := Lib.hid (HST.out hk)
            clear HK HST hk HOUT
            generalize hx0 : us.getD j 0 = x' at *
            generalize hy0 : us.getD (j - 1) 0 = y at *
            generalize fcmp x' y = q at *
            have HX0 := Lib.hid hx0
            have HY0 := Lib.hid hy0
            clear hx0 hy0
            have hqd : decide (q < 0) = true := by simpa using hq
            go_wp2_with fail
            have e1 : IntKind.i64.wrap ((j : Int) - 1) = (j : Int) - 1 := IntWalk.i64_in _ (by omega)
            have e2 : ((j : Int) - 1).toNat = j - 1 := by omega
            go_quiet ((go_at_call 12; exact Calls.quiet_of_same (HCP.out _)))
            have HW1 := Lib.hid (HWj.out.drewN nq)
            have HG1 := Lib.hid (only_drewN HGj.out nq)
            clear hc1 hc2 e1 e2 HWj HGj HCP hq
            generalize wr.drewN nq = w1 at *
            have hc1 : w1.cell? ⟨g, j, none⟩ = some (.float .f64 x') := HX0.out ▸ HW1.out.cell (i := j) (by omega)
            have hc2 : w1.cell? ⟨g, j - 1, none⟩ = some (.float .f64 y) := HY0.out ▸ HW1.out.cell (i := j - 1) (by omega)
            have hf1 := World.ownsRow.frozenAt HW1.out j
            have hf2 := World.ownsRow.frozenAt HW1.out (j - 1)
            have HSW : Hid (Frow ((w1.setCell ⟨g, j, none⟩ (.float .f64 y)).setCell ⟨g, j - 1, none⟩ (.float .f64 x')) w.heap.size g m cap (sw us j (j - 1)) ∧ w1.grownBy ((w1.setCell ⟨g, j, none⟩ (.float .f64 y)).setCell ⟨g, j - 1, none⟩ (.float .f64 x')) (some g)) := by rw [← HX0.out, ← HY0.out]; exact HW1.out.swapped j (j - 1)
            have hne : ¬ j = j - 1 := by omega
            have hne2 : ¬ j - 1 = j := by omega
            go_wp2_with fail
            have e1 : IntKind.i64.wrap ((j : Int) - 1) = (j : Int) - 1 := IntWalk.i64_in _ (by omega)
            have e2 : ((j : Int) - 1).toNat = j - 1 := by omega
            go_region
            have hW2 : Frow ((w1.setCell ⟨g, j, none⟩ (.float .f64 y)).setCell ⟨g, j - 1, none⟩ (.float .f64 x')).drew w.heap.size g m cap (sw us j (j - 1)) := HSW.out.1.drew
            have hG2 : w2.grownBy ((w1.setCell ⟨g, j, none⟩ (.float .f64 y)).setCell ⟨g, j - 1, none⟩ (.float .f64 x')).drew (some g) := only_drew (only_trans HG1.out HSW.out.2)
            clear e1 e2 hc1 hc2 hf1 hf2 HSW HG1 HW1 hne hne2
            generalize ((w1.setCell ⟨g, j, none⟩ (.float .f64 y)).setCell ⟨g, j - 1, none⟩ (.float .f64 x')).drew = w3 at *
            have HW3 := Lib.hid hW2
            have HG3 := Lib.hid hG2
            clear hW2 hG2
            go_wp2_with fail
            go_roundw
            case rel => exact ⟨j - 1, sw us j (j - 1), intv (by omega), by omega, HS2.out, HW3.out, HG3.out⟩
            case measure => simp [intOf]; omega
          · have hq : ¬ fcmp (us.getD j 0) (us.getD (j - 1) 0) < 0 := fun h => hk (HK.out.1 h)
            have HOO := Lib.hid (HOUT.out (.inr (by omega)))
            clear HK HST hk HOUT
            generalize us.getD j 0 = x' at *
            generalize us.getD (j - 1) 0 = y at *
            generalize fcmp x' y = q at *
            have hqd : decide (q < 0) = false := by simpa using hq
            go_wp2_with fail
            have e1 : IntKind.i64.wrap ((j : Int) - 1) = (j : Int) - 1 := IntWalk.i64_in _ (by omega)
            have e2 : ((j : Int) - 1).toNat = j - 1 := by omega
            go_quiet ((go_at_call 12; exact Calls.quiet_of_same (HCP.out _)))
            have HW1 := Lib.hid (HWj.out.drewN nq)
            have HG1 := Lib.hid (only_drewN HGj.out nq)
            clear hc1 hc2 e1 e2 HWj HGj HCP hq
            generalize wr.drewN nq = w1 at *
            go_wp2_with fail
            go_roundw
            case rel => exact ⟨m, us, _, _, by rw [hm], intv (by omega), by omega, HOO.out, ⟨HW1.out, below_own HB2.out HW2.out HG1.out⟩⟩
            case measure => simp [intOf]; omega
        · have HOO := Lib.hid (HOUT.out (.inl (by omega)))
          have dja : ¬ (0 : Int) < (j : Int) := by omega
          have djd : decide ((0 : Int) < (j : Int)) = false := by simpa using dja
          clear HOUT hrowj hgj
          go_wp2_with fail
          go_quiet (fail)
          have HW1 := Lib.hid (HWj.out.drewN nq)
          have HG1 := Lib.hid (only_drewN HGj.out nq)
          clear HWj HGj
          generalize wr.drewN nq = w1 at *
          go_wp2_with fail
          go_roundw
          case rel => exact ⟨m, us, _, _, by rw [hm], intv (by omega), by omega, HOO.out, ⟨HW1.out, below_own HB2.out HW2.out HG1.out⟩⟩
          case measure => simp [intOf]; omega
    · obtain rfl : i = n := by omega
      have HE : Hid (zs.Perm (xs.map fone) ∧ Up fkey zs 0 i) := by
        have := HZ.out
        rw [List.take_of_length_le (by rw [HXL.out]; exact Nat.le_refl _)] at this
        exact this
      go_wp2_with fail
      go_ret
      exact ⟨_, zs, rfl, HO.out, HE.out⟩
end Go.Proofs.Ytpgdiiplnnaegaa
