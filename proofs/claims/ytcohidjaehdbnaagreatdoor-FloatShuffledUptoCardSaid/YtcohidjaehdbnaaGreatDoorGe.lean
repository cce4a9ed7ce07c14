/- Walks: the bits of a number, one by one and in words; its length in bits (float.nat's bits, shr). Conditions: as stated. -/
import Derived.Test.YtcohidjaehdbnaaGreatDoorGd
import Derived.Test.YtcohidjaehdbnaaGreatDoorPlain
import Derived.Test.YtcohidjaehdbnaaGreatDoorNi
namespace Go.Proofs.YtcohidjaehdbnaaGreatDoor
open Go.RowKit
set_option linter.unusedVariables false

theorem u64_and_one {a : Nat} (ha : a < 18446744073709551616) : bits .and .u64 (a : Int) 1 = ((a % 2 : Nat) : Int) := by
  have := u64_and_nat a 1 ha (by decide)
  rw [Nat.and_one_is_mod] at this
  exact this
/-- The bit at a place. -/
def bitN (N i : Nat) : Nat := N / 2 ^ i % 2
theorem c_bit (A : Option Addr) (c : Nat) (l : List Nat) (N : Nat) (i : Nat) (g : Nat) (w : World) (Bk : Nat) (h : IsN w Bk .u64 18446744073709551616 A c l N) (hg : Blk w g 39 #[.slice A l.length c]) (hl : l.length ≤ 65536) (hi : i ≤ 1000000000) :
    Calls Tryz.prog 63 #[.int .i64 (i : Int), .pointer (some ⟨g, 0, none⟩)] w fun e w' => e = .returned (.int .u64 ((bitN N i : Nat) : Int)) ∧ w = w' := by
  have hcg := hg.cell 0
  have hcg' : w.cell? ⟨g, 0, none⟩ = some (.slice A l.length c) := by rw [hcg]; rfl
  have HB : Hid (bitN N i = l.getD (i / 64) 0 / 2 ^ (i % 64) % 2) := h.lb.bit i
  have hq : (i : Int) / 64 = ((i / 64 : Nat) : Int) := by omega
  have hr : (i : Int) % 64 = ((i % 64 : Nat) : Int) := by omega
  have hr2 : i % 64 < 64 := Nat.mod_lt _ (by decide)
  have hnn : ¬ (i : Int) < 0 := by omega
  have HI := Lib.hid h
  have hql : i / 64 < l.length ∨ l.length ≤ i / 64 := Nat.lt_or_ge _ _
  clear h hg hcg
  obtain ⟨q, hq2⟩ : ∃ q, i / 64 = q := ⟨_, rfl⟩
  obtain ⟨r, hr3⟩ : ∃ r, i % 64 = r := ⟨_, rfl⟩
  rw [hq2] at hq HB hql
  rw [hr3] at hr HB hr2
  clear hq2 hr3
  rcases hql with hql | hql
  · obtain ⟨b1, o1, hA1, _, hb1, hcell1⟩ := HI.out.at_ hql
    subst hA1
    have hd := HI.out.dig (by decide) q
    generalize l.getD q 0 = x at *
    obtain ⟨n, hL⟩ : ∃ n, l.length = n := ⟨_, rfl⟩
    rw [hL] at hcg' hl hql
    clear hL
    have hqlI : ¬ (n : Int) ≤ (q : Int) := by omega
    go_enter Tryz.func63, Tryz.ntmps63
    go_wp2_with fail
    go_ret
    refine ⟨?_, rfl⟩
    rw [HB.out]
    have hx2 : x / 2 ^ r < 18446744073709551616 := Nat.lt_of_le_of_lt (Nat.div_le_self _ _) hd
    have e1 : ((x : Int) / 2 ^ r) = ((x / 2 ^ r : Nat) : Int) := by rw [Int.natCast_ediv, Int.natCast_pow]; rfl
    have e2 := u64_and_one hx2
    rw [← e1] at e2
    simp [e2]
  · have HZ := Lib.hid (getD_big hql)
    obtain ⟨n, hL⟩ : ∃ n, l.length = n := ⟨_, rfl⟩
    rw [hL] at hcg' hl hql
    clear hL
    have hqlI : (n : Int) ≤ (q : Int) := by omega
    go_enter Tryz.func63, Tryz.ntmps63
    go_wp2
    go_ret
    exact ⟨by rw [HB.out, HZ.out, Nat.zero_div]; rfl, rfl⟩
/-- How many bits a number has. -/
def nlen (N : Nat) : Nat := if N = 0 then 0 else N.log2 + 1
theorem bitLenAux_log : ∀ (f x : Nat), x < 2 ^ f → Lib.bitLenAux f x = nlen x
  | 0, x, h => by
    have : x = 0 := by simpa using h
    subst this; rfl
  | f + 1, x, h => by
    unfold Lib.bitLenAux nlen
    by_cases h0 : x = 0
    · rw [if_pos h0, if_pos h0]
    · rw [if_neg h0, if_neg h0, bitLenAux_log f (x / 2) (by rw [Nat.pow_succ] at h; omega)]
      unfold nlen
      by_cases h1 : x / 2 = 0
      · have : x = 1 := by omega
        subst this; decide
      · rw [if_neg h1]
        conv => rhs; rw [Nat.log2_def, if_pos (by omega)]
        omega
theorem bitLen_log {x : Nat} (h : x < 18446744073709551616) : Lib.bitLen x = nlen x := bitLenAux_log 64 x (by simpa using h)
theorem nlen_le {x : Nat} (h : x < 18446744073709551616) : nlen x ≤ 64 := by
  unfold nlen
  split
  · omega
  · rename_i h0
    have := log2_lt (k := 64) h0 (by simpa using h)
    omega
set_option maxRecDepth 100000 in
theorem c_bits (A : Option Addr) (c : Nat) (l : List Nat) (N : Nat) (w : World) (Bk : Nat) (h : IsN w Bk .u64 18446744073709551616 A c l N) (hN : N < nbig) :
    Calls Tryz.prog 43 #[.slice A l.length c] w fun e w' => e = .returned (.int .i64 ((nlen N : Nat) : Int)) ∧ w = w' := by
  have hl := len_big h.lb (by decide) hN
  by_cases h0 : l = []
  · subst h0
    have HN : Hid (nlen N = 0) := by
      have := (h.lb.zero (by decide)).1 rfl
      show nlen N = 0
      rw [this]; rfl
    clear h hN
    go_enter Tryz.func43, Tryz.ntmps43
    go_wp2
    go_ret
    exact ⟨by rw [HN.out]; rfl, rfl⟩
  · have hp : 0 < l.length := List.length_pos_iff.2 h0
    obtain ⟨b1, o1, hA1, _, hb1, hcell1⟩ := h.at_ (show l.length - 1 < l.length by omega)
    subst hA1
    have hd := h.dig (by decide) (l.length - 1)
    obtain ⟨g1, g2, g3⟩ := h.lb.bits h0 rfl
    have HN : Hid (nlen N = 64 * (l.length - 1) + nlen (l.getD (l.length - 1) 0)) := by
      show nlen N = _
      unfold nlen
      rw [if_neg g1, if_neg g2, g3]; omega
    clear h h0 hN g1 g2 g3
    obtain ⟨n, hL⟩ : ∃ n, l.length = n + 1 := ⟨l.length - 1, by omega⟩
    rw [hL] at hcell1 hd hl hp HN ⊢
    rw [Nat.add_sub_cancel] at hcell1 hd HN
    clear hL
    generalize l.getD n 0 = x at *
    have HC := Lib.hid (c_Len64 x hd)
    rw [bitLen_log hd] at HC
    have hx := nlen_le hd
    obtain ⟨y, hy⟩ : ∃ y, nlen x = y := ⟨_, rfl⟩
    rw [hy] at HC HN hx
    clear hy
    go_enter Tryz.func43, Tryz.ntmps43
    go_wp2_with ((go_at_call 62; refine (HC.out _).mono ?_; rintro e w' ⟨rfl, rfl⟩))
    go_ret
    exact ⟨by rw [HN.out]; simp, rfl⟩
theorem u64_shl_or {v b : Nat} (hv : v < 9223372036854775808) (hb : b < 2) : bits .or .u64 ((v : Int) * 2) (b : Int) = ((v * 2 + b : Nat) : Int) := by
  have h := u64_or_nat (v * 2) b (by omega) (by omega)
  have e : v * 2 ||| b = v * 2 + b := by
    have := Nat.shiftLeft_add_eq_or_of_lt (a := v) (show b < 2 ^ 1 from hb)
    rw [Nat.shiftLeft_eq] at this
    exact this.symm
  rw [e] at h
  rw [← h]; simp
set_option maxRecDepth 100000 in
set_option maxHeartbeats 1000000 in
theorem c_shr (A : Option Addr) (c : Nat) (l : List Nat) (k : Nat) (N : Nat) (w : World) (h : IsN w w.heap.size .u64 18446744073709551616 A c l N) (hN : N < nbig) (hk1 : 1 ≤ k) (hk2 : k ≤ 100000000) :
    Calls Tryz.prog 44 #[.slice A l.length c, .int .i64 k] w fun e w' => e = .returned (.tuple #[.int .u64 ((N / 2 ^ k % 18446744073709551616 : Nat) : Int), .bool ((bitN N (k - 1) : Int) == 1), .bool (decide (N % 2 ^ (k - 1) ≠ 0))]) ∧ Below w.heap.size w w' := by
  have hl := len_big h.lb (by decide) hN
  have HB := Lib.hid ((Below.refl w.heap.size w).alloc (Nat.le_refl _) (.cells #[.slice A l.length c] 39))
  have HG := Lib.hid (Blk.new w 39 #[.slice A l.length c])
  have HI := Lib.hid (h.below HB.out)
  have HC := Lib.hid (fun (i : Nat) (hi : i ≤ 1000000000) => c_bit A c l N i w.heap.size (w.alloc (.cells #[.slice A l.length c] 39)) _ HI.out HG.out hl hi)
  clear hN h HI HG
  generalize l.length = n at *
  go_enter Tryz.func44, Tryz.ntmps44
  go_wp2_with fail
  go_loop [8, 9] (fun vv vi => ∃ j v : Nat, j ≤ 64 ∧ vi = .int .i64 ((j : Int) - 1) ∧ vv = .int .u64 v ∧ Hid (v = N / 2 ^ (k + j) % 2 ^ (64 - j))) (fun _ vi => (intOf vi + 1).toNat)
  case atStart => exact ⟨64, 0, Nat.le_refl _, rfl, rfl, by show _ = _; simp [Nat.mod_one]⟩
  case round =>
    obtain ⟨j, v, hj, rfl, rfl, HV⟩ := hrel
    by_cases h0 : 0 < j
    · obtain ⟨i, rfl⟩ : ∃ i, j = i + 1 := ⟨j - 1, by omega⟩
      rw [show (((i + 1 : Nat) : Int) - 1) = (i : Int) from by omega]
      have hv : v < 9223372036854775808 := by
        have := HV.out
        rw [this]
        refine Nat.lt_of_lt_of_le (Nat.mod_lt _ (Nat.pow_pos (by decide))) ?_
        have : 2 ^ (64 - (i + 1)) ≤ 2 ^ 63 := Nat.pow_le_pow_right (by decide) (by omega)
        simpa using this
      have hCi := HC.out (k + i) (by omega)
      rw [Int.natCast_add] at hCi
      have HCi := Lib.hid hCi
      clear hCi
      have hb : bitN N (k + i) < 2 := Nat.mod_lt _ (by decide)
      have HN : Hid (v * 2 + bitN N (k + i) = N / 2 ^ (k + i) % 2 ^ (64 - i)) := by
        show _ = _
        rw [HV.out]
        unfold bitN
        rw [bits_step, ← Nat.pow_succ, show (64 - (i + 1)).succ = 64 - i from by omega]
      generalize bitN N (k + i) = b at *
      have hor := u64_shl_or hv hb
      go_wp2_with ((go_at_call 63; refine HCi.out.mono ?_; rintro e w' ⟨rfl, rfl⟩))
      go_round
      case rel => exact ⟨i, v * 2 + b, by omega, rfl, by go_num, HN.out⟩
      case measure => simp [intOf]
    · obtain rfl : j = 0 := by omega
      have HW : Hid (v = N / 2 ^ k % 18446744073709551616) := by
        have := HV.out
        rw [Nat.add_zero] at this
        exact this
      clear HV
      have hneg : ¬ (0 : Int) ≤ ((0 : Nat) : Int) - 1 := by omega
      go_wp2_with fail
      go_loop [10, 11] (fun vs vi => ∃ (i : Nat) (s : Bool), i ≤ k - 1 ∧ vi = .int .i64 i ∧ vs = .bool s ∧ Hid (s = decide (N % 2 ^ i ≠ 0))) (fun _ vi => k - 1 - (intOf vi).toNat)
      case atStart => exact ⟨0, false, Nat.zero_le _, rfl, rfl, by show _ = _; simp [Nat.mod_one]⟩
      case round =>
        obtain ⟨i, s, hi, rfl, rfl, HS⟩ := hrel
        by_cases hlt : i < k - 1
        · have hik : (i : Int) < (k : Int) - 1 := by omega
          have HL := Lib.hid (low_step N i)
          have HCi := Lib.hid (HC.out i (by omega))
          have hb : bitN N i < 2 := Nat.mod_lt _ (by decide)
          cases s with
          | true =>
            have HN : Hid (true = decide (N % 2 ^ (i + 1) ≠ 0)) := by
              have := of_decide_eq_true HS.out.symm
              exact (decide_eq_true (HL.out.2 (.inl this))).symm
            clear HL
            go_wp2
            go_round
            case rel => exact ⟨i + 1, true, by omega, by go_num, rfl, HN.out⟩
            case measure => simp [intOf]; omega
          | false =>
            have HN : Hid (decide (bitN N i = 1) = decide (N % 2 ^ (i + 1) ≠ 0)) := by
              have h0 := of_decide_eq_false HS.out.symm
              show _ = _
              rw [decide_eq_decide]
              constructor
              · intro h; exact HL.out.2 (.inr h)
              · intro h
                rcases HL.out.1 h with h | h
                · exact absurd h h0
                · exact h
            clear HL
            generalize bitN N i = b at *
            have hb2 : b = 0 ∨ b = 1 := by omega
            rcases hb2 with rfl | rfl
            · go_wp2_with ((go_at_call 63; refine HCi.out.mono ?_; rintro e w' ⟨rfl, rfl⟩))
              go_round
              case rel => exact ⟨i + 1, false, by omega, by go_num, rfl, HN.out⟩
              case measure => simp [intOf]; omega
            · go_wp2_with ((go_at_call 63; refine HCi.out.mono ?_; rintro e w' ⟨rfl, rfl⟩))
              go_round
              case rel => exact ⟨i + 1, true, by omega, by go_num, rfl, HN.out⟩
              case measure => simp [intOf]; omega
        · have HIK : Hid (i = k - 1) := by show _ = _; omega
          have hik : ¬ (i : Int) < (k : Int) - 1 := by omega
          have hCi := HC.out (k - 1) (by omega)
          rw [show ((k - 1 : Nat) : Int) = (k : Int) - 1 from by omega] at hCi
          have HCi := Lib.hid hCi
          clear hCi
          have HF : Hid (s = decide (N % 2 ^ (k - 1) ≠ 0)) := by
            have := HS.out
            rw [HIK.out] at this
            exact this
          clear HS HIK
          go_wp2_with ((go_at_call 63; refine HCi.out.mono ?_; rintro e w' ⟨rfl, rfl⟩))
          go_ret3
          exact ⟨by rw [← HW.out, ← HF.out]; rfl, HB.out⟩
end Go.Proofs.YtcohidjaehdbnaaGreatDoor
