/- Walks: the nought of a list (float.nought, math.Copysign). Conditions: at most 2^44 floats. -/
import Derived.Test.YtcohidjaehdbnaaGreatDoorGq
namespace Go.Proofs.YtcohidjaehdbnaaGreatDoor
open Go.RowKit
set_option linter.unusedVariables false
attribute [local go_sem ↓] Go.wp_at_zero Go.wp_at_succ

theorem read_neg {a : Nat} (ha : a < 9218868437227405312) : Ieee.double.read (a + 9223372036854775808) = .number true (psig a) (-1074 + ((kx a : Nat) : Int)) := by
  unfold Ieee.Format.read
  rw [df_sw, df_bin, df_inf, df_least]
  have e0 : (a + 9223372036854775808) / 9223372036854775808 = 1 := by omega
  have e1 : (a + 9223372036854775808) % 9223372036854775808 = a := by omega
  simp only [e0, e1]
  unfold psig kx
  by_cases h : a < 4503599627370496
  · rw [if_pos h, if_pos h, show a / 4503599627370496 - 1 = 0 from by omega]; rfl
  · rw [if_neg h, if_pos ha, if_neg h]; rfl
theorem ord_neg0 {a : Nat} (ha : a < 9218868437227405312) (h0 : 0 < a) : (FloatKind.f64.format.order (a + 9223372036854775808) 0 == some .eq) = false := by
  show (Ieee.double.order (a + 9223372036854775808) 0 == some .eq) = false
  unfold Ieee.Format.order
  rw [read_neg ha, read_pos (show 0 < 9218868437227405312 by decide)]
  unfold Ieee.Datum.order
  simp only []
  have hp : 0 < psig a := by
    unfold psig
    split <;> omega
  have hk0 : kx 0 = 0 := by decide
  have hps0 : psig 0 = 0 := by decide
  rw [hk0, hps0]
  have hmin : min (-1074 + ((kx a : Nat) : Int)) (-1074 + ((0 : Nat) : Int)) = -1074 := by omega
  rw [hmin]
  have e1 : (-1074 + ((kx a : Nat) : Int) - (-1074)).toNat = kx a := by omega
  have e2 : (-1074 + ((0 : Nat) : Int) - (-1074)).toNat = 0 := by decide
  rw [e1, e2]
  unfold Ieee.signed
  simp only [Bool.false_eq_true, if_false, Nat.shiftLeft_eq]
  have hx : 0 < psig a * 2 ^ kx a := Nat.mul_pos hp (Nat.pow_pos (by decide))
  generalize psig a * 2 ^ kx a = x at *
  rw [cmp_lt (by simp; omega)]
  rfl
theorem ord_neg00 : (FloatKind.f64.format.order 9223372036854775808 0 == some .eq) = true := by decide +kernel
theorem c_Copysign0 (w : World) : Calls Tryz.prog 60 #[.float .f64 0, .float .f64 13830554455654793216] w fun e w' => e = .returned (.float .f64 9223372036854775808) ∧ w = w' := by
  have h1 : ∀ w, (callFunc 35 #[.float .f64 0]).run Tryz.prog w = .ok (.value (.int .u64 0)) w := fun w => call_bits 0 w
  have h2 : ∀ w, (callFunc 35 #[.float .f64 13830554455654793216]).run Tryz.prog w = .ok (.value (.int .u64 13830554455654793216)) w := fun w => call_bits 13830554455654793216 w
  have h3 : ∀ w, (callFunc 7 #[.int .u64 9223372036854775808]).run Tryz.prog w = .ok (.value (.float .f64 9223372036854775808)) w := fun w => call_frombits 9223372036854775808 w
  have hb1 : bits BinOp.andNot .u64 0 9223372036854775808 = 0 := by decide +kernel
  have hb2 : bits BinOp.and .u64 13830554455654793216 9223372036854775808 = 9223372036854775808 := by decide +kernel
  have hb3 : bits BinOp.or .u64 0 9223372036854775808 = 9223372036854775808 := by decide +kernel
  go_enter Tryz.func60, Tryz.ntmps60
  go_wp2
  go_ret
  exact ⟨rfl, rfl⟩
theorem fsgn_neg {b : Nat} (hb : b < 18446744073709551616) (hf : ffin b = true) (hs : fsgn b = true) : ∃ a, a < 9218868437227405312 ∧ b = a + 9223372036854775808 := by
  have h1 := of_decide_eq_true hf
  unfold fmag at h1
  unfold fsgn at hs
  have h2 : ¬ b < 9223372036854775808 := by
    intro h
    rw [decide_eq_true h] at hs; cases hs
  exact ⟨b - 9223372036854775808, by omega, by omega⟩
theorem getD_mem {xs : List Nat} {i : Nat} (hi : i < xs.length) : xs.getD i 0 ∈ xs := by
  have : xs.getD i 0 = xs[i] := by simp [hi]
  rw [this]; exact List.getElem_mem hi
theorem all_take {xs : List Nat} {i : Nat} (p : Nat → Bool) (hi : i < xs.length) (h : (xs.take i).all p = true) (hb : p (xs.getD i 0) = true) : (xs.take (i + 1)).all p = true := by
  rw [take_one xs hi]
  rw [List.all_append, h, Bool.true_and, List.all_cons, hb]; rfl
theorem all_not {xs : List Nat} {i : Nat} (p : Nat → Bool) (hi : i < xs.length) (hb : p (xs.getD i 0) = false) : xs.all p = false := by
  rw [Bool.eq_false_iff]
  intro h
  rw [List.all_eq_true] at h
  have := h (xs.getD i 0) (getD_mem hi)
  rw [hb] at this; cases this
set_option maxRecDepth 100000 in
set_option maxHeartbeats 2000000 in
theorem c_nought (A0 : Option Addr) (n c0 : Nat) (xs : List Nat) (w : World) (h : Reads w w.heap.size 1 A0 n (f64s xs)) (hb : Bit xs) (hn : n ≤ 17592186044416) (hf : ∀ b ∈ xs, ffin b = true) :
    Calls Tryz.prog 36 #[.slice A0 n c0] w fun e w' => e = .returned (.float .f64 (sgnd 0 (allNought xs))) ∧ w = w' := by
  have HRD := Lib.hid h
  have HXL : Hid (xs.length = n) := Lib.hid (by simpa using h.1)
  have HBT := Lib.hid hb
  have HFT := Lib.hid hf
  clear h hb hf
  go_enter Tryz.func36, Tryz.ntmps36
  go_wp2_with fail
  go_loopw [2, 7] (fun vr vi wr => ∃ i : Nat, vr = .float .f64 0 ∧ vi = .int .i64 i ∧ i ≤ n ∧ w = wr ∧ Hid ((xs.take i).all (fun b => b == 9223372036854775808) = true)) (fun _ vi _ => n - (intOf vi).toNat)
  case atStart => exact ⟨0, rfl, rfl, Nat.zero_le _, rfl, rfl⟩
  case round =>
    obtain ⟨i, rfl, rfl, hi, rfl, HAL⟩ := hrel
    by_cases hlt : i < n
    · obtain ⟨bb, off, rfl, hbB, hbw, hcells⟩ := HRD.out.form (by omega)
      have hc1 : w.cell? ⟨bb, off + i, none⟩ = some (.float .f64 (xs.getD i 0)) := by
        rw [hcells i hlt, f64_get (by rw [HXL.out]; exact hlt)]
      have hbb := HBT.out.get i
      have hmem : xs.getD i 0 ∈ xs := getD_mem (by rw [HXL.out]; exact hlt)
      have hfin := HFT.out _ hmem
      have HN1 : Hid (∀ p : Nat → Bool, p (xs.getD i 0) = false → xs.all p = false) := Lib.hid (fun p => all_not p (by rw [HXL.out]; exact hlt))
      have HN2 : Hid ((xs.getD i 0 == 9223372036854775808) = true → (xs.take (i + 1)).all (fun b => b == 9223372036854775808) = true) := Lib.hid (fun h => all_take _ (by rw [HXL.out]; exact hlt) HAL.out h)
      clear hcells hmem
      generalize xs.getD i 0 = b at *
      have HSG := Lib.hid (c_Signbit b hbb)
      rcases hs : fsgn b with _ | _
      · have HNB : Hid (xs.all (fun b => b == 9223372036854775808) = false) := Lib.hid (HN1.out _ (by
          simp only [beq_eq_false_iff_ne, ne_eq]
          rintro rfl
          revert hs; decide))
        clear HN1 HN2 hfin
        rw [hs] at HSG
        go_wp2_with ((go_at_call 39; refine (HSG.out _).mono ?_; rintro e w' ⟨rfl, rfl⟩))
        go_ret
        exact ⟨by unfold allNought; rw [HNB.out]; simp [sgnd], rfl⟩
      · obtain ⟨a, ha, rfl⟩ := fsgn_neg hbb hfin hs
        rw [hs] at HSG
        by_cases h0 : a = 0
        · subst h0
          have ho := ord_neg00
          have HNX := Lib.hid (HN2.out (by simp))
          clear HN1 HN2 hfin
          rw [Nat.zero_add] at HSG
          go_wp2_with ((go_at_call 39; refine (HSG.out _).mono ?_; rintro e w' ⟨rfl, rfl⟩))
          go_roundw
          case rel => exact ⟨i + 1, rfl, by go_num, hlt, trivial, HNX.out⟩
          case measure => simp [intOf]; omega
        · have ho := ord_neg0 ha (by omega)
          have HNB : Hid (xs.all (fun b => b == 9223372036854775808) = false) := Lib.hid (HN1.out _ (by
            simp only [beq_eq_false_iff_ne, ne_eq]
            omega))
          clear HN1 HN2 hfin
          generalize a + 9223372036854775808 = b at *
          clear ha h0
          have ho2 : (FloatKind.f64.format.order b 0 != some Ordering.eq) = true := by unfold bne; rw [ho]; rfl
          go_wp2_with ((go_at_call 39; refine (HSG.out _).mono ?_; rintro e w' ⟨rfl, rfl⟩))
          go_ret
          exact ⟨by unfold allNought; rw [HNB.out]; simp [sgnd], rfl⟩
    · have HIK : Hid (xs.take i = xs) := by
        have := HXL.out
        show _ = _
        rw [List.take_of_length_le (by omega)]
      rw [HIK.out] at HAL
      by_cases hn0 : n = 0
      · subst hn0
        have HE : Hid (xs = []) := Lib.hid (List.eq_nil_of_length_eq_zero HXL.out)
        clear HIK HAL
        go_wp2_with fail
        go_ret
        exact ⟨by rw [HE.out]; rfl, rfl⟩
      · have HE : Hid (xs.isEmpty = false) := by
          have := HXL.out
          show xs.isEmpty = false
          cases xs with
          | nil => simp at this; omega
          | cons => rfl
        have HCP := Lib.hid c_Copysign0
        clear HIK
        go_wp2_with ((go_at_call 60; refine (HCP.out _).mono ?_; rintro e w' ⟨rfl, rfl⟩))
        go_ret
        exact ⟨by unfold allNought; rw [HAL.out, HE.out]; rfl, rfl⟩
end Go.Proofs.YtcohidjaehdbnaaGreatDoor
