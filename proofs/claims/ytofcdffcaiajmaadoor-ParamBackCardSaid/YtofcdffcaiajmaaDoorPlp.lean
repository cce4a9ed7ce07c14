/- Plain facts: what was put into a block is read there, the rest as it was (no program). Conditions: none. -/
import Derived.Test.YtofcdffcaiajmaaDoorPut
namespace Go.Proofs.YtofcdffcaiajmaaDoor
set_option linter.unusedVariables false

theorem layL_get (xs : List Int) (a : Nat) (V : Int) (k : Nat) (i : Nat) (h : a + k ≤ xs.length) :
    (layL xs a V k).getD i 0 = if a ≤ i ∧ i < a + k then V / 2 ^ (8 * (i - a)) % 256 else xs.getD i 0 := by
  induction k with
  | zero => simp [layL]; omega
  | succ k ih =>
    have hl := layL_length xs a V k
    have ih' := ih (by omega)
    simp only [List.getD] at ih' ⊢
    unfold layL
    rw [List.getElem?_set]
    by_cases h1 : a + k = i
    · subst h1
      rw [if_pos rfl, if_pos (by omega), if_pos (by omega), Nat.add_sub_cancel_left]
      rfl
    · rw [if_neg h1, ih']
      by_cases h2 : a ≤ i ∧ i < a + k
      · rw [if_pos h2, if_pos (by omega)]
      · rw [if_neg h2, if_neg (by omega)]
theorem seg_get (xs : List Int) (a k i : Nat) (h : a + k ≤ xs.length) (hi : i < k) : ((xs.drop a).take k).getD i 0 = xs.getD (a + i) 0 := by
  simp only [List.getD, List.getElem?_take, if_pos hi, List.getElem?_drop]
theorem seg_ext {xs ys : List Int} {a k : Nat} (hx : a + k ≤ xs.length) (hy : a + k ≤ ys.length) (h : ∀ i, i < k → xs.getD (a + i) 0 = ys.getD (a + i) 0) : (xs.drop a).take k = (ys.drop a).take k := by
  apply List.ext_getElem?
  intro i
  by_cases hi : i < k
  · have h1 := h i hi
    simp only [List.getElem?_take, if_pos hi, List.getElem?_drop]
    simp only [List.getD] at h1
    rw [List.getElem?_eq_getElem (by omega), List.getElem?_eq_getElem (by omega)] at h1 ⊢
    simpa using h1
  · simp [List.getElem?_take, hi]
theorem seg_far (xs : List Int) (a k b m : Nat) (V : Int) (h : a + k ≤ xs.length) (hb : b + m ≤ xs.length) (hd : a + k ≤ b ∨ b + m ≤ a) : ((layL xs a V k).drop b).take m = (xs.drop b).take m := by
  refine seg_ext (by rw [layL_length]; omega) hb fun i hi => ?_
  rw [layL_get xs a V k _ h, if_neg (by omega)]
theorem emod_step (v : Nat) (k : Nat) : (v : Int) % 256 ^ k + (v : Int) / 2 ^ (8 * k) % 256 * 256 ^ k = (v : Int) % 256 ^ (k + 1) := by
  have e : (2 : Int) ^ (8 * k) = 256 ^ k := by rw [Int.pow_mul]; rfl
  have h := Nat.mod_mul (x := v) (a := 256 ^ k) (b := 256)
  rw [e, Int.pow_succ]
  have : ((v % (256 ^ k * 256) : Nat) : Int) = ((v % 256 ^ k + 256 ^ k * (v / 256 ^ k % 256) : Nat) : Int) := by rw [h]
  simp only [Int.natCast_emod, Int.natCast_mul, Int.natCast_add, Int.natCast_ediv, Int.natCast_pow] at this
  rw [Int.mul_comm (_ % 256)]
  exact this.symm
theorem seg_own (xs : List Int) (a : Nat) (v : Nat) (k : Nat) (h : a + k ≤ xs.length) : ∀ j, j ≤ k → le (((layL xs a (v : Int) k).drop a).take j) = (v : Int) % 256 ^ j
  | 0, _ => by simp [le]
  | j + 1, hj => by
    rw [drop_take_snoc _ _ _ (by rw [layL_length]; omega), le_snoc, seg_own xs a v k h j (by omega), layL_get xs a v k _ h, if_pos (by omega), Nat.add_sub_cancel_left]
    rw [show (((layL xs a (v : Int) k).drop a).take j).length = j from by simp [layL_length]; omega]
    exact emod_step v j
theorem put_get {xs : List Int} {a k : Nat} {V : Int} (h : a + k ≤ xs.length) (h0 : 0 ≤ V) (hV : V < 256 ^ k) : le (((layL xs a V k).drop a).take k) = V := by
  obtain ⟨v, rfl⟩ := Int.eq_ofNat_of_zero_le h0
  rw [seg_own xs a v k h k (Nat.le_refl _)]
  exact Int.emod_eq_of_lt h0 hV
theorem fields_apart (k : Int) (hk : k = 1 ∨ k = 2) (i j : Nat) (hi : i < 9) (hj : j < 9) (hne : i ≠ j) (h : ¬(i + j = 11 ∧ (j = 5 ∨ j = 6))) : fatN k i + fszN k i ≤ fatN k j ∨ fatN k j + fszN k j ≤ fatN k i := by
  have key : ∀ i j : Fin 9, i.val ≠ j.val → ¬(i.val + j.val = 11 ∧ (j.val = 5 ∨ j.val = 6)) → (fatN 1 i.val + fszN 1 i.val ≤ fatN 1 j.val ∨ fatN 1 j.val + fszN 1 j.val ≤ fatN 1 i.val) ∧ (fatN 2 i.val + fszN 2 i.val ≤ fatN 2 j.val ∨ fatN 2 j.val + fszN 2 j.val ≤ fatN 2 i.val) := by decide +kernel
  rcases hk with rfl | rfl
  · exact (key ⟨i, hi⟩ ⟨j, hj⟩ hne h).1
  · exact (key ⟨i, hi⟩ ⟨j, hj⟩ hne h).2
theorem small_of {V : Int} {s : Nat} (h0 : 0 ≤ V) (h1 : V < 18446744073709551616) (h : ¬(s < 8 ∧ V / 2 ^ (8 * s) ≠ 0)) (hs : s ≤ 8) : V < 256 ^ s := by
  have e : (2 : Int) ^ (8 * s) = 256 ^ s := by rw [Int.pow_mul]; rfl
  by_cases h8 : s < 8
  · have hz : V / 2 ^ (8 * s) = 0 := Classical.byContradiction fun hn => h ⟨h8, hn⟩
    rw [e] at hz
    have hP : (0 : Int) < 256 ^ s := Int.pow_pos (by omega)
    have a := Int.mul_ediv_add_emod V (256 ^ s)
    have b := Int.emod_lt_of_pos V hP
    rw [hz] at a
    omega
  · obtain rfl : s = 8 := by omega
    exact h1
end Go.Proofs.YtofcdffcaiajmaaDoor
