/- Plain facts on sums of floats and of their negatives, on a list of one float; Go's own minus (no program). Conditions: bits below 2^64. -/
import Derived.Test.YtcohidjaehdbnaaGreatDoorHa
namespace Go.Proofs.YtcohidjaehdbnaaGreatDoor
set_option linter.unusedVariables false

/-- The same float with the other sign. -/
def fopp (b : Nat) : Nat := b ^^^ 9223372036854775808
theorem xorP {x : Nat} (h : x < 2 ^ 63) : x ^^^ 2 ^ 63 = 2 ^ 63 + x := by
  refine Nat.eq_of_testBit_eq fun i => ?_
  rw [Nat.testBit_xor, Nat.testBit_two_pow]
  rcases Nat.lt_trichotomy i 63 with hi | hi | hi
  · rw [Nat.testBit_two_pow_add_gt hi, decide_eq_false (show ¬ 63 = i by omega), Bool.xor_false]
  · subst hi
    rw [Nat.testBit_two_pow_add_eq, decide_eq_true rfl, Bool.xor_true]
  · have hp : (2 : Nat) ^ 64 ≤ 2 ^ i := Nat.pow_le_pow_right (by decide) (by omega)
    have hq : (2 : Nat) ^ 64 = 2 ^ 63 + 2 ^ 63 := by decide
    have h1 : x.testBit i = false := Nat.testBit_lt_two_pow (by omega)
    have h2 : (2 ^ 63 + x).testBit i = false := Nat.testBit_lt_two_pow (by omega)
    rw [h1, h2, decide_eq_false (show ¬ 63 = i by omega)]; rfl
theorem xor63 {x : Nat} (h : x < 9223372036854775808) : x ^^^ 9223372036854775808 = x + 9223372036854775808 := by
  have e : (2 : Nat) ^ 63 = 9223372036854775808 := by decide
  have := xorP (x := x) (by rw [e]; exact h)
  rw [e] at this
  omega
theorem fopp_lo {b : Nat} (h : b < 9223372036854775808) : fopp b = b + 9223372036854775808 := xor63 h
theorem fopp_hi {b : Nat} (h : 9223372036854775808 ≤ b) (h2 : b < 18446744073709551616) : fopp b = b - 9223372036854775808 := by
  have e : b = (b - 9223372036854775808) ^^^ 9223372036854775808 := by rw [xor63 (by omega)]; omega
  unfold fopp
  generalize b - 9223372036854775808 = x at *
  rw [e, Nat.xor_assoc, Nat.xor_self, Nat.xor_zero]
theorem fopp_lt {b : Nat} (h : b < 18446744073709551616) : fopp b < 18446744073709551616 := by
  by_cases h1 : b < 9223372036854775808
  · rw [fopp_lo h1]; omega
  · rw [fopp_hi (by omega) h]; omega
theorem fopp_mag {b : Nat} (h : b < 18446744073709551616) : fmag (fopp b) = fmag b := by
  unfold fmag
  by_cases h1 : b < 9223372036854775808
  · rw [fopp_lo h1]; omega
  · rw [fopp_hi (by omega) h]; omega
theorem fopp_sgn {b : Nat} (h : b < 18446744073709551616) : fsgn (fopp b) = !fsgn b := by
  unfold fsgn
  by_cases h1 : b < 9223372036854775808
  · rw [fopp_lo h1, decide_eq_true h1, decide_eq_false (by omega)]; rfl
  · rw [fopp_hi (by omega) h, decide_eq_false h1, decide_eq_true (by omega)]; rfl
theorem fopp_fin {b : Nat} (h : b < 18446744073709551616) : ffin (fopp b) = ffin b := by unfold ffin; rw [fopp_mag h]
/-- A float less itself. -/
theorem write_zero (place : Int) : Ieee.double.write (.number false 0 place) = 0 := by
  show Ieee.double.nearest false 0 place = 0
  unfold Ieee.Format.nearest
  rw [if_pos rfl]
  simp [Ieee.Format.word]
theorem sub_fin {b : Nat} (hb : b < 18446744073709551616) (h : ffin b = true) : Ieee.double.sub b b = some 0 := by
  unfold Ieee.Format.sub
  rw [rd_fin hb h]
  unfold Ieee.Datum.opposite Ieee.Datum.sum
  simp only []
  have hz : ∀ (s : Bool) (m k : Nat), Ieee.signed s m k + Ieee.signed (!s) m k = 0 := fun s m k => by
    unfold Ieee.signed
    cases s <;> simp <;> omega
  rw [hz, if_pos rfl]
  have e : (fsgn b && !fsgn b) = false := by cases fsgn b <;> rfl
  rw [e]
  show some (Ieee.double.write (.number false 0 _)) = some 0
  rw [write_zero]
theorem sub_non {b : Nat} (hb : b < 18446744073709551616) (h : ffin b = false) : Ieee.double.sub b b = none := by
  unfold Ieee.Format.sub
  rcases fcases b with ⟨hn, _, hi⟩ | ⟨hn, _, hi⟩ | ⟨_, hf, _⟩
  · obtain ⟨s, t, e⟩ := rd_nan hn
    rw [e]; rfl
  · rw [rd_inf hb hi]
    unfold Ieee.Datum.opposite Ieee.Datum.sum
    cases fsgn b <;> rfl
  · rw [hf] at h; cases h
theorem order_nan_l {z c : Nat} (h : fnan z = true) : Ieee.double.order z c = none := by
  obtain ⟨s, t, e⟩ := rd_nan h
  unfold Ieee.Format.order
  rw [e]; rfl
theorem near_exact {m : Nat} (h : m < 9218868437227405312) : Near (kv m) 1 m := by
  refine ⟨by omega, ?_, .inr (.inl ?_)⟩
  · rcases Nat.eq_zero_or_pos m with h0 | h0
    · exact .inl h0
    · have := kv_strict (show m - 1 < m by omega)
      exact .inr (.inl (by omega))
  · have := kv_lt_succ m
    omega
theorem near_nil {D : Nat} (h : 0 < D) : Near 0 D 0 := by
  refine ⟨by decide, .inl rfl, .inr (.inl ?_)⟩
  have : 0 < kv 0 + kv (0 + 1) := by decide
  rw [Nat.mul_zero]
  exact Nat.mul_pos this h
theorem one_num {b : Nat} (h : fnan b = false) : fone b = b := by unfold fone; rw [h]; rfl
theorem sgnd_of {b : Nat} (hb : b < 18446744073709551616) : sgnd (fmag b) (fsgn b) = b := by
  unfold sgnd fmag fsgn
  by_cases h1 : b < 9223372036854775808
  · rw [decide_eq_true h1]; simp; omega
  · rw [decide_eq_false h1]; simp; omega
/-- The sum of one float is the float. -/
theorem over_one {x b : Nat} (hx : x < 18446744073709551616) (h : IsOver [x] 1 b) : b = fone x := by
  have e1 : hasNan [x] = fnan x := by simp [hasNan]
  have e2 : hasPlus [x] = (finf x && !fsgn x) := by simp [hasPlus]
  have e3 : hasLess [x] = (finf x && fsgn x) := by simp [hasLess]
  rcases fcases x with ⟨hn, _, hi⟩ | ⟨hn, _, hi⟩ | ⟨hn, hf, hi⟩
  · rw [h.none_ (by rw [e1, hn]; rfl)]
    unfold fone; rw [hn]; rfl
  · rw [h.inf_ (by rw [e1, e2, e3, hn, hi]; cases fsgn x <;> rfl) (by rw [e2, e3, hi]; cases fsgn x <;> rfl), e3, hi, one_num hn]
    have hm : fmag x = 9218868437227405312 := of_decide_eq_true hi
    rw [← hm]
    exact sgnd_of hx
  · have hm : fmag x < 9218868437227405312 := of_decide_eq_true hf
    have a1 : (hasNan [x] || hasPlus [x] || hasLess [x]) = false := by rw [e1, e2, e3, hn, hi]; rfl
    have ht : totN [x] = kv (fmag x) := by
      unfold totN
      rw [posN_one, negN_one, hf]
      cases fsgn x <;> simp
    rw [one_num hn]
    by_cases h0 : totN [x] = 0
    · rw [h.nought a1 h0]
      have hz : fmag x = 0 := by
        rcases Nat.eq_zero_or_pos (fmag x) with e | e
        · exact e
        · have := kv_pos_iff.2 e; omega
      have hs : allNought [x] = fsgn x := by
        unfold allNought fsgn
        unfold fmag at hz
        by_cases h1 : x < 9223372036854775808
        · have : x = 0 := by omega
          subst this; rfl
        · have : x = 9223372036854775808 := by omega
          subst this; rfl
      have := sgnd_of hx
      rw [hz] at this
      rw [hs]; exact this
    · obtain ⟨r, hr, e⟩ := h.some_ a1 h0
      rw [ht] at hr h0
      have hrm : r = fmag x := hr.one (by decide) (near_exact hm)
      rw [e, hrm]
      have hs : decide (posN [x] < negN [x]) = fsgn x := by
        rw [posN_one, negN_one, hf]
        have := kv_pos_iff (a := fmag x)
        cases fsgn x
        · simp
        · simp; omega
      rw [hs]
      exact sgnd_of hx
theorem spread_one {x b : Nat} (hf : ffin x = true) (h : IsSpread [x] b) : b = 0 := by
  have e1 : hasNan [x] = fnan x := by simp [hasNan]
  have e2 : hasPlus [x] = (finf x && !fsgn x) := by simp [hasPlus]
  have e3 : hasLess [x] = (finf x && fsgn x) := by simp [hasLess]
  have hn : fnan x = false ∧ finf x = false := by
    rcases fcases x with ⟨_, h2, _⟩ | ⟨_, h2, _⟩ | ⟨h1, _, h3⟩
    · rw [h2] at hf; cases hf
    · rw [h2] at hf; cases hf
    · exact ⟨h1, h3⟩
  have hr := h.some_ (by rw [e1, e2, e3, hn.1, hn.2]; rfl)
  have ht : totN [x] = kv (fmag x) := by
    unfold totN
    rw [posN_one, negN_one, hf]
    cases fsgn x <;> simp
  rw [ht, sqN_one] at hr
  have e0 : [x].length * (kv (fmag x) * kv (fmag x)) - kv (fmag x) * kv (fmag x) = 0 := by
    show 1 * _ - _ = 0
    rw [Nat.one_mul, Nat.sub_self]
  rw [e0] at hr
  have hD : 0 < [x].length * [x].length * 2 ^ K74 := Nat.mul_pos (by simp) (Nat.pow_pos (by decide))
  exact hr.one hD (near_nil hD)
/-- Each float behind its negative. -/
def pairs : List Nat → List Nat
  | [] => []
  | x :: l => fopp x :: x :: pairs l
theorem pairs_app (a b : List Nat) : pairs (a ++ b) = pairs a ++ pairs b := by
  induction a with
  | nil => rfl
  | cons x l ih => simp only [List.cons_append, pairs, ih]
theorem pairs_len (l : List Nat) : (pairs l).length = 2 * l.length := by
  induction l with
  | nil => rfl
  | cons x l ih => simp only [pairs, List.length_cons, ih]; omega
theorem pairs_mem {l : List Nat} {z : Nat} (h : z ∈ pairs l) : ∃ x ∈ l, z = fopp x ∨ z = x := by
  induction l with
  | nil => simp [pairs] at h
  | cons x l ih =>
    simp only [pairs, List.mem_cons] at h
    rcases h with h | h | h
    · exact ⟨x, List.mem_cons_self, .inl h⟩
    · exact ⟨x, List.mem_cons_self, .inr h⟩
    · obtain ⟨y, hy, hz⟩ := ih h
      exact ⟨y, List.mem_cons_of_mem _ hy, hz⟩
theorem pairs_even {l : List Nat} (hb : ∀ z ∈ l, z < 18446744073709551616) : posN (pairs l) = negN (pairs l) := by
  induction l with
  | nil => rfl
  | cons x l ih =>
    have hx := hb x List.mem_cons_self
    have := ih fun z hz => hb z (List.mem_cons_of_mem _ hz)
    simp only [pairs, posN, negN, fopp_fin hx, fopp_sgn hx, fopp_mag hx, this]
    cases ffin x <;> cases fsgn x <;> simp
theorem fin_flags {l : List Nat} (h : ∀ z ∈ l, ffin z = true) : (hasNan l || hasPlus l || hasLess l) = false := by
  have key : ∀ z ∈ l, fnan z = false ∧ finf z = false := fun z hz => by
    rcases fcases z with ⟨_, h2, _⟩ | ⟨_, h2, _⟩ | ⟨h1, _, h3⟩
    · rw [h z hz] at h2; cases h2
    · rw [h z hz] at h2; cases h2
    · exact ⟨h1, h3⟩
  have a1 : hasNan l = false := by unfold hasNan; rw [List.any_eq_false]; intro z hz; rw [(key z hz).1]; decide
  have a2 : hasPlus l = false := by unfold hasPlus; rw [List.any_eq_false]; intro z hz; rw [(key z hz).2]; simp
  have a3 : hasLess l = false := by unfold hasLess; rw [List.any_eq_false]; intro z hz; rw [(key z hz).2]; simp
  rw [a1, a2, a3]; rfl
/-- Floats and their negatives come to nought. -/
theorem pairs_nought {l : List Nat} {b : Nat} (hb : ∀ z ∈ l, z < 18446744073709551616) (hf : ∀ z ∈ l, ffin z = true) (h : IsOver (pairs l) 1 b) : b = 0 ∨ b = 9223372036854775808 := by
  have h1 := fin_flags (l := pairs l) fun z hz => by
    obtain ⟨x, hx, e | e⟩ := pairs_mem hz
    · rw [e, fopp_fin (hb x hx)]; exact hf x hx
    · rw [e]; exact hf x hx
  have ht : totN (pairs l) = 0 := by unfold totN; rw [pairs_even hb]; omega
  rw [h.nought h1 ht]
  unfold sgnd
  cases allNought (pairs l)
  · exact .inl rfl
  · exact .inr rfl
end Go.Proofs.YtcohidjaehdbnaaGreatDoor
