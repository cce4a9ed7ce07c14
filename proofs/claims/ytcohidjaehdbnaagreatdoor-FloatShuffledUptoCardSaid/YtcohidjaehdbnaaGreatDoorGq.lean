/- Walks: the sum of a list that has a NaN or an infinity, the nought of a list (float.edges, float.nought, math.Copysign). Conditions: at most 2^44 floats. -/
import Derived.Test.YtcohidjaehdbnaaGreatDoorGp
namespace Go.Proofs.YtcohidjaehdbnaaGreatDoor
open Go.RowKit
set_option linter.unusedVariables false
attribute [local go_sem ↓] Go.wp_at_zero Go.wp_at_succ

theorem read_nan {x : Nat} (h : fnan x = true) : ∃ s t, Ieee.double.read x = .nan s t := by
  have h1 := fnan_yes h
  unfold Ieee.Format.read
  rw [df_sw, df_bin, df_inf, df_least]
  exact ⟨_, _, by rw [if_neg (by omega), if_neg (by omega), if_neg (by omega)]⟩
theorem add_nan_l {x y : Nat} (h : fnan x = true) : Ieee.double.add x y = none := by
  obtain ⟨s, t, e⟩ := read_nan h
  unfold Ieee.Format.add
  rw [e]; rfl
theorem add_nan_r {x y : Nat} (h : fnan y = true) : Ieee.double.add x y = none := by
  obtain ⟨s, t, e⟩ := read_nan h
  unfold Ieee.Format.add
  rw [e]
  cases Ieee.double.read x <;> rfl
theorem add_0p : Ieee.double.add 0 9218868437227405312 = some 9218868437227405312 := by decide +kernel
theorem add_0m : Ieee.double.add 0 18442240474082181120 = some 18442240474082181120 := by decide +kernel
theorem add_pp : Ieee.double.add 9218868437227405312 9218868437227405312 = some 9218868437227405312 := by decide +kernel
theorem add_mm : Ieee.double.add 18442240474082181120 18442240474082181120 = some 18442240474082181120 := by decide +kernel
theorem add_pm : Ieee.double.add 9218868437227405312 18442240474082181120 = none := by decide +kernel
theorem add_mp : Ieee.double.add 18442240474082181120 9218868437227405312 = none := by decide +kernel
theorem run_add_some {x y z : Nat} (h : Ieee.double.add x y = some z) (w : World) : (binOp BinOp.add 24 (.float .f64 x) (.float .f64 y)).run Tryz.prog w = .ok (.float .f64 z) w := by
  have h2 : FloatKind.f64.format.add x y = some z := h
  simp [binOp, Op.floatArith, h2]
theorem nan_cut (t : Nat) : fnan (t % 2 * 9223372036854775808 + 9218868437227405312 + 1 + t / 2 % 4503599627370495) = true := by
  unfold fnan
  rw [decide_eq_true_eq]
  have hu : t % 2 < 2 := Nat.mod_lt _ (by decide)
  have hv : t / 2 % 4503599627370495 < 4503599627370495 := Nat.mod_lt _ (by decide)
  generalize t % 2 = u at *
  generalize t / 2 % 4503599627370495 = v at *
  have : u = 0 ∨ u = 1 := by omega
  rcases this with rfl | rfl <;> omega
theorem run_add_none {x y : Nat} (h : Ieee.double.add x y = none) (w : World) : ∃ z, fnan z = true ∧ (binOp BinOp.add 24 (.float .f64 x) (.float .f64 y)).run Tryz.prog w = .ok (.float .f64 z) w.drew := by
  have h2 : FloatKind.f64.format.add x y = none := h
  refine ⟨_, nan_cut (w.tape w.drawn (.nanBits .f64 x y)), ?_⟩
  simp [binOp, Op.floatArith, h2, choose]
  rfl
/-- What the sum of the edges is so far. -/
structure EdgeZ (z : Nat) (N P L : Bool) : Prop where
  none_ : (N || P && L) = true → fnan z = true
  plus : (N || P && L) = false → P = true → z = 9218868437227405312
  less : (N || P && L) = false → L = true → z = 18442240474082181120
  zero : (N || P || L) = false → z = 0
theorem inf_bits {b : Nat} (hb : b < 18446744073709551616) (h : finf b = true) : (fsgn b = false ∧ b = 9218868437227405312) ∨ (fsgn b = true ∧ b = 18442240474082181120) := by
  have h1 := of_decide_eq_true h
  unfold fmag at h1
  unfold fsgn
  by_cases hs : b < 9223372036854775808
  · left; rw [decide_eq_true hs]; exact ⟨rfl, by omega⟩
  · right; rw [decide_eq_false hs]; exact ⟨rfl, by omega⟩
/-- One more edge. -/
theorem edge_step {z b : Nat} {N P L : Bool} (h : EdgeZ z N P L) (hb : b < 18446744073709551616) (he : ffin b = false) :
    (∃ z2, Ieee.double.add z b = some z2 ∧ EdgeZ z2 (N || fnan b) (P || (finf b && !fsgn b)) (L || (finf b && fsgn b))) ∨
    (Ieee.double.add z b = none ∧ ∀ z2, fnan z2 = true → EdgeZ z2 (N || fnan b) (P || (finf b && !fsgn b)) (L || (finf b && fsgn b))) := by
  have nanE : ∀ {N P L : Bool}, (N || P && L) = true → ∀ z2, fnan z2 = true → EdgeZ z2 N P L := fun hn z2 hz =>
    ⟨fun _ => hz, fun h _ => (by rw [hn] at h; cases h), fun h _ => (by rw [hn] at h; cases h), fun h => by
      rename_i N P L
      revert hn h
      cases N <;> cases P <;> cases L <;> simp⟩
  rcases fcases b with ⟨hn, _, hi⟩ | ⟨hn, _, hi⟩ | ⟨_, hf, _⟩
  · right
    rw [hn, hi]
    exact ⟨add_nan_r hn, nanE (by simp)⟩
  · rw [hn, hi]
    by_cases hall : (N || P && L) = true
    · right
      refine ⟨add_nan_l (h.none_ hall), nanE ?_⟩
      revert hall
      cases N <;> cases P <;> cases L <;> simp
    · have hall' : (N || P && L) = false := by simpa using hall
      rcases inf_bits hb hi with ⟨hs, rfl⟩ | ⟨hs, rfl⟩
      · rw [hs]
        cases P with
        | true =>
          have hL : L = false := by revert hall'; cases N <;> cases L <;> simp
          have hN : N = false := by revert hall'; cases N <;> cases L <;> simp
          subst hL; subst hN
          left
          rw [h.plus rfl rfl]
          exact ⟨_, add_pp, ⟨fun h => (by simp at h), fun _ _ => rfl, fun _ h => (by simp at h), fun h => (by simp at h)⟩⟩
        | false =>
          have hN : N = false := by revert hall'; cases N <;> simp
          subst hN
          cases L with
          | true =>
            right
            rw [h.less rfl rfl]
            exact ⟨add_mp, nanE (by simp)⟩
          | false =>
            left
            rw [h.zero rfl]
            exact ⟨_, add_0p, ⟨fun h => (by simp at h), fun _ _ => rfl, fun _ h => (by simp at h), fun h => (by simp at h)⟩⟩
      · rw [hs]
        cases L with
        | true =>
          have hP : P = false := by revert hall'; cases N <;> cases P <;> simp
          have hN : N = false := by revert hall'; cases N <;> simp
          subst hP; subst hN
          left
          rw [h.less rfl rfl]
          exact ⟨_, add_mm, ⟨fun h => (by simp at h), fun _ h => (by simp at h), fun _ _ => rfl, fun h => (by simp at h)⟩⟩
        | false =>
          have hN : N = false := by revert hall'; cases N <;> simp
          subst hN
          cases P with
          | true =>
            right
            rw [h.plus rfl rfl]
            exact ⟨add_pm, nanE (by simp)⟩
          | false =>
            left
            rw [h.zero rfl]
            exact ⟨_, add_0m, ⟨fun h => (by simp at h), fun _ h => (by simp at h), fun _ _ => rfl, fun h => (by simp at h)⟩⟩
  · rw [hf] at he; cases he
theorem c_One2 (b : Nat) (w : World) : Calls Tryz.prog 15 #[.float .f64 b] w fun e w' => e = .returned (.int .u64 (fone b)) ∧ w = w' := c_One b w
structure EdgR (w wr : World) (xs : List Nat) (i : Nat) (z : Nat) : Prop where
  ez : EdgeZ z (hasNan (xs.take i)) (hasPlus (xs.take i)) (hasLess (xs.take i))
  bel : Below w.heap.size w wr
theorem flags_snoc (xs : List Nat) (b : Nat) : hasNan (xs ++ [b]) = (hasNan xs || fnan b) ∧ hasPlus (xs ++ [b]) = (hasPlus xs || (finf b && !fsgn b)) ∧ hasLess (xs ++ [b]) = (hasLess xs || (finf b && fsgn b)) := by
  unfold hasNan hasPlus hasLess
  rw [any_snoc, any_snoc, any_snoc]
  exact ⟨rfl, rfl, rfl⟩
theorem fclass_edge {b : Nat} : fclass b ≤ 2 ↔ ffin b = false := by
  unfold fclass ffin fmag fnan
  by_cases h1 : 9218868437227405312 < b % 9223372036854775808
  · rw [if_pos (decide_eq_true h1)]; simp; omega
  · rw [if_neg (by simpa using h1)]
    by_cases h2 : b % 9223372036854775808 = 9218868437227405312
    · rw [if_pos h2]; simp; omega
    · rw [if_neg h2]
      have h3 : decide (b % 9223372036854775808 < 9218868437227405312) = true := decide_eq_true (by omega)
      rw [h3]
      split
      · simp
      · split <;> simp
theorem edge_over {xs : List Nat} {z n : Nat} (h : EdgeZ z (hasNan xs) (hasPlus xs) (hasLess xs)) (he : (hasNan xs || hasPlus xs || hasLess xs) = true) : IsOver xs n (fone z) := by
  refine ⟨fun h1 => fone_yes (h.none_ h1), fun h1 h2 => ?_, fun h1 => (by rw [he] at h1; cases h1), fun h1 => (by rw [he] at h1; cases h1)⟩
  rcases hp : hasLess xs with _ | _
  · have hP : hasPlus xs = true := by rw [hp] at h2; simpa using h2
    rw [h.plus h1 hP]
    decide +kernel
  · rw [h.less h1 hp]
    decide +kernel
set_option maxRecDepth 100000 in
set_option maxHeartbeats 2000000 in
theorem c_edges (A0 : Option Addr) (n c0 : Nat) (xs : List Nat) (w : World) (h : Reads w w.heap.size 1 A0 n (f64s xs)) (hb : Bit xs) (hn : n ≤ 17592186044416) :
    Calls Tryz.prog 18 #[.slice A0 n c0] w fun e w' => ∃ z, e = .returned (.tuple #[.float .f64 (fone z), .bool (hasNan xs || hasPlus xs || hasLess xs)]) ∧ EdgeZ z (hasNan xs) (hasPlus xs) (hasLess xs) ∧ Below w.heap.size w w' := by
  have HRD := Lib.hid h
  have HXL : Hid (xs.length = n) := Lib.hid (by simpa using h.1)
  have HBT := Lib.hid hb
  clear h hb
  go_enter Tryz.func18, Tryz.ntmps18
  go_wp2_with fail
  go_loopw [4, 5, 12] (fun vz vs vi wr => ∃ (i z : Nat) (f : Bool), vz = .float .f64 z ∧ vs = .bool f ∧ vi = .int .i64 i ∧ i ≤ n ∧ Hid (f = (hasNan (xs.take i) || hasPlus (xs.take i) || hasLess (xs.take i))) ∧ EdgR w wr xs i z) (fun _ _ vi _ => n - (intOf vi).toNat)
  case atStart => exact ⟨0, 0, false, rfl, rfl, rfl, Nat.zero_le _, rfl, ⟨⟨fun h => (by cases h), fun _ h => (by cases h), fun _ h => (by cases h), fun _ => rfl⟩, Below.refl _ _⟩⟩
  case round =>
    obtain ⟨i, z, f, rfl, rfl, rfl, hi, HFL, HS⟩ := hrel
    by_cases hlt : i < n
    · obtain ⟨bb, off, rfl, hbB, hbw, hcells⟩ := HRD.out.form (by omega)
      have hc1 : wr.cell? ⟨bb, off + i, none⟩ = some (.float .f64 (xs.getD i 0)) := by
        rw [(bcell HS.bel).1 _ _ hbw, hcells i hlt, f64_get (by rw [HXL.out]; exact hlt)]
      have hbb := HBT.out.get i
      have HT := Lib.hid (take_one xs (i := i) (by rw [HXL.out]; exact hlt))
      clear hcells
      generalize xs.getD i 0 = b at *
      have HCL := Lib.hid (c_Class b hbb)
      have HFS := Lib.hid (flags_snoc (xs.take i) b)
      rcases hf : ffin b with _ | _
      · have hcl : fclass b ≤ 2 := fclass_edge.2 hf
        have HED := Lib.hid (edge_step HS.ez hbb hf)
        have HFT : Hid (true = (hasNan (xs.take (i + 1)) || hasPlus (xs.take (i + 1)) || hasLess (xs.take (i + 1)))) := by
          show _ = _
          rw [HT.out, HFS.out.1, HFS.out.2.1, HFS.out.2.2]
          rcases fcases b with ⟨h, _, _⟩ | ⟨_, _, h⟩ | ⟨_, h, _⟩
          · rw [h]; simp
          · rw [h]; cases fsgn b <;> simp
          · rw [h] at hf; cases hf
        clear hf
        generalize fclass b = cl at *
        generalize fneg b = ng at *
        rcases HED.out with ⟨z2, ha, hz⟩ | ⟨ha, hz⟩
        · have hrun := run_add_some ha
          have HZ := Lib.hid hz
          clear ha hz HED
          go_wp2_with fail
          refine (HCL.out _).mono ?_; rintro e1 w1 ⟨rfl, rfl⟩
          go_wp2
          go_roundw
          case rel => exact ⟨i + 1, z2, true, rfl, rfl, by go_num, hlt, HFT.out, ⟨by rw [HT.out, HFS.out.1, HFS.out.2.1, HFS.out.2.2]; exact HZ.out, HS.bel⟩⟩
          case measure => simp [intOf]; omega
        · obtain ⟨z2, hzn, hrun⟩ := run_add_none ha wr
          have HZ := Lib.hid (hz z2 hzn)
          clear ha hz HED hzn
          go_wp2_with fail
          refine (HCL.out _).mono ?_; rintro e1 w1 ⟨rfl, rfl⟩
          go_wp2
          go_roundw
          case rel => exact ⟨i + 1, z2, true, rfl, rfl, by go_num, hlt, HFT.out, ⟨by rw [HT.out, HFS.out.1, HFS.out.2.1, HFS.out.2.2]; exact HZ.out, below_drewN HS.bel 1⟩⟩
          case measure => simp [intOf]; omega
      · have hcl : ¬ fclass b ≤ 2 := fun h => by have := fclass_edge.1 h; rw [hf] at this; cases this
        have HFN : Hid (fnan b = false ∧ finf b = false) := by
          rcases fcases b with ⟨_, h, _⟩ | ⟨_, h, _⟩ | ⟨h1, _, h2⟩
          · rw [h] at hf; cases hf
          · rw [h] at hf; cases hf
          · exact ⟨h1, h2⟩
        have HFT : Hid (hasNan (xs.take (i + 1)) = hasNan (xs.take i) ∧ hasPlus (xs.take (i + 1)) = hasPlus (xs.take i) ∧ hasLess (xs.take (i + 1)) = hasLess (xs.take i)) := by
          show _ ∧ _ ∧ _
          rw [HT.out, HFS.out.1, HFS.out.2.1, HFS.out.2.2, HFN.out.1, HFN.out.2]
          simp
        clear hf
        generalize fclass b = cl at *
        generalize fneg b = ng at *
        go_wp2_with fail
        refine (HCL.out _).mono ?_; rintro e1 w1 ⟨rfl, rfl⟩
        go_wp2
        go_roundw
        case rel => exact ⟨i + 1, z, f, rfl, rfl, by go_num, hlt, by show _ = _; rw [HFT.out.1, HFT.out.2.1, HFT.out.2.2]; exact HFL.out, ⟨by rw [HFT.out.1, HFT.out.2.1, HFT.out.2.2]; exact HS.ez, HS.bel⟩⟩
        case measure => simp [intOf]; omega
    · have HIK : Hid (xs.take i = xs) := by
        have := HXL.out
        show _ = _
        rw [List.take_of_length_le (by omega)]
      have HZ := Lib.hid HS.ez
      rw [HIK.out] at HZ HFL
      have HB := Lib.hid HS.bel
      have HON := Lib.hid (c_One2 z)
      have hof := c_Of (fone z)
      have hff : fone (fone z) = fone z := fone_fone z
      rw [hff] at hof
      have HOF := Lib.hid hof
      clear HS HIK hof hff
      generalize hzz : fone z = zz at *
      have HZZ := Lib.hid hzz
      clear hzz
      go_wp2_with (first | (go_at_call 15; refine (HON.out _).mono ?_; rintro e w' ⟨rfl, rfl⟩) | (go_at_call 17; refine (HOF.out _).mono ?_; rintro e w' ⟨rfl, rfl⟩))
      go_ret2
      exact ⟨z, by rw [HZZ.out, ← HFL.out]; rfl, HZ.out, HB.out⟩
end Go.Proofs.YtcohidjaehdbnaaGreatDoor
