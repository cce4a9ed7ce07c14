/- Walk: the document's exact sum of floats (quernref22.sum). Conditions: at most 2^44 floats. -/
import Derived.Test.YtcohidjaehdbnaaGreatDoorGj
import Derived.Test.YtcohidjaehdbnaaGreatDoorFz
namespace Go.Proofs.YtcohidjaehdbnaaGreatDoor
open Go.RowKit
set_option linter.unusedVariables false
attribute [local go_sem ↓] Go.wp_at_zero Go.wp_at_succ

/-- How great a finite magnitude may be. -/
def K98 : Nat := 2098
theorem kv_lt {m : Nat} (h : m < 9218868437227405312) : kv m < 2 ^ K98 := by
  rw [kv_psig]
  have h1 : psig m < 2 ^ 53 := by
    have : psig m < 9007199254740992 := by unfold psig; split <;> omega
    simpa using this
  have h2 : kx m ≤ 2045 := by unfold kx; omega
  have h3 : psig m * 2 ^ kx m < 2 ^ 53 * 2 ^ kx m := (Nat.mul_lt_mul_right (Nat.pow_pos (by decide))).2 h1
  rw [← Nat.pow_add] at h3
  exact Nat.lt_of_lt_of_le h3 (Nat.pow_le_pow_right (by decide) (by unfold K98; omega))
/-- A bound on all finite magnitudes, and on the numbers made of them. -/
theorem big_P : ∃ P, (∀ b, ffin b = true → kv (fmag b) ≤ P) ∧ 0 < P ∧ 35184372088832 * P < nsml ∧ 309485009821345068724781056 * (P * P) < nsml := by
  refine ⟨2 ^ K98, fun b h => Nat.le_of_lt (kv_lt (of_decide_eq_true h)), Nat.pow_pos (by decide), ?_, ?_⟩
  · rw [show (35184372088832 : Nat) = 2 ^ 45 from by decide, ← Nat.pow_add]
    exact Nat.pow_lt_pow_right (by decide) (by unfold K98 sexp; decide)
  · rw [show (309485009821345068724781056 : Nat) = 2 ^ 88 from by decide, ← Nat.pow_add, ← Nat.pow_add]
    exact Nat.pow_lt_pow_right (by decide) (by unfold K98 sexp; decide)
theorem posN_le {P : Nat} (hP : ∀ b, ffin b = true → kv (fmag b) ≤ P) : ∀ l : List Nat, posN l ≤ l.length * P
  | [] => Nat.zero_le _
  | b :: l => by
    have ih := posN_le hP l
    have h1 : (if ffin b && !fsgn b then kv (fmag b) else 0) ≤ P := by
      split
      · rename_i h
        have hf : ffin b = true := by revert h; cases ffin b <;> simp
        exact hP b hf
      · exact Nat.zero_le _
    show (if ffin b && !fsgn b then kv (fmag b) else 0) + posN l ≤ (l.length + 1) * P
    rw [Nat.add_mul]; omega
theorem negN_le {P : Nat} (hP : ∀ b, ffin b = true → kv (fmag b) ≤ P) : ∀ l : List Nat, negN l ≤ l.length * P
  | [] => Nat.zero_le _
  | b :: l => by
    have ih := negN_le hP l
    have h1 : (if ffin b && fsgn b then kv (fmag b) else 0) ≤ P := by
      split
      · rename_i h
        have hf : ffin b = true := by revert h; cases ffin b <;> simp
        exact hP b hf
      · exact Nat.zero_le _
    show (if ffin b && fsgn b then kv (fmag b) else 0) + negN l ≤ (l.length + 1) * P
    rw [Nat.add_mul]; omega
theorem tot_sml {l : List Nat} (h : l.length ≤ 17592186044416) : posN l < nsml ∧ negN l < nsml ∧ totN l < nsml := by
  obtain ⟨P, h1, h2, h3, _⟩ := big_P
  have a := posN_le h1 l
  have b := negN_le h1 l
  have c : l.length * P ≤ 17592186044416 * P := Nat.mul_le_mul_right _ h
  unfold totN
  omega
theorem kv_sml {b : Nat} (h : ffin b = true) : kv (fmag b) < nsml := by
  obtain ⟨P, h1, h2, h3, _⟩ := big_P
  have := h1 b h
  omega
theorem psig_lt {m : Nat} : psig m < 9007199254740992 := by unfold psig; split <;> omega
theorem kx_le {m : Nat} (h : m < 9223372036854775808) : kx m ≤ 2047 := by unfold kx; omega
/-- Are all of the first floats -0? -/
def nghts (n : Nat) (l : List Nat) : Bool := decide (0 < n) && l.all fun b => b == 9223372036854775808
theorem nghts_snoc (n : Nat) (l : List Nat) (b : Nat) : nghts n (l ++ [b]) = (nghts n l && (b == 9223372036854775808)) := by
  unfold nghts; rw [List.all_append, Bool.and_assoc]; simp
theorem nghts_all (l : List Nat) : nghts l.length l = allNought l := by
  unfold nghts allNought
  cases l <;> simp
theorem any_snoc (p : Nat → Bool) (l : List Nat) (b : Nat) : (l ++ [b]).any p = (l.any p || p b) := by simp
/-- The cells of a sum. -/
def tcs (A : Option Addr) (n c : Nat) (minus : Bool) (xs : List Nat) (k : Nat) : Array Value := #[.slice A n c, .bool minus, .bool (hasNan xs), .bool (hasPlus xs), .bool (hasLess xs), .bool (nghts k xs)]
theorem blk_new2 (w : World) (o : Obj) (t : TypeId) (cs : Array Value) : Blk ((w.alloc o).alloc (.cells cs t)) (w.heap.size + 1) t cs := by
  have h := Blk.new (w.alloc o) t cs
  have e : (w.alloc o).heap.size = w.heap.size + 1 := by simp
  rw [e] at h
  exact h
/-- A number's cells do not lie in a block that holds none but other values. -/
theorem IsN.keep {w w' : World} {Bk : Nat} {k : IntKind} {B : Nat} {A : Option Addr} {c : Nat} {l : List Nat} {N : Nat} (h : IsN w Bk k B A c l N) {g : Nat} {t : TypeId} {cs : Array Value} (hg : Blk w g t cs) (hcs : cs.toList.all (fun u => match u with | .int _ _ => false | _ => true) = true)
    (hk : ∀ p : Addr, p.block ≠ g → w'.cell? p = w.cell? p) : IsN w' Bk k B A c l N := by
  refine ⟨h.cap, h.lb, h.rd.1, fun h0 => ?_⟩
  obtain ⟨ad, rfl, hb, hc⟩ := h.rd.2 h0
  refine ⟨ad, rfl, hb, fun j u hu => ?_⟩
  have hj := hc j u hu
  refine (hk _ ?_).trans hj
  intro hbg
  obtain ⟨b1, o1, spot⟩ := ad
  rw [block_of_add] at hbg
  obtain rfl : b1 = g := hbg
  have hlen : j < l.length := by
    rcases Nat.lt_or_ge j l.length with hx | hx
    · exact hx
    · rw [List.getElem?_eq_none (by rw [digs_len]; exact hx)] at hu; cases hu
  obtain ⟨b2, o2, e2, _, _, hcell⟩ := h.at_ hlen
  injection e2 with e2
  injection e2 with e2 e3 e4
  subst e2; subst e3; subst e4
  rw [hg.cell] at hcell
  have hm : Value.int k ((l.getD j 0 : Nat) : Int) ∈ cs.toList := by
    have := List.mem_of_getElem? (l := cs.toList) (i := o1 + j) (by rw [Array.getElem?_toList]; exact hcell)
    exact this
  have := List.all_eq_true.1 hcs _ hm
  simp at this
theorem IsN.keep2 {w w' : World} {Bk : Nat} {k : IntKind} {B : Nat} {A : Option Addr} {c : Nat} {l : List Nat} {N : Nat} (h : IsN w Bk k B A c l N) {g : Nat} {t : TypeId} {cs : Array Value} (hg : Blk w g t cs) (hcs : cs.toList.all (fun u => match u with | .int _ _ => false | _ => true) = true)
    (hk : ∀ p : Addr, p.block ≠ g → p.block < w.heap.size → w'.cell? p = w.cell? p) : IsN w' Bk k B A c l N := by
  refine ⟨h.cap, h.lb, h.rd.1, fun h0 => ?_⟩
  obtain ⟨ad, rfl, hb, hc⟩ := h.rd.2 h0
  refine ⟨ad, rfl, hb, fun j u hu => ?_⟩
  have hj := hc j u hu
  obtain ⟨b1, o1, spot⟩ := ad
  have hlen : j < l.length := by
    rcases Nat.lt_or_ge j l.length with hx | hx
    · exact hx
    · rw [List.getElem?_eq_none (by rw [digs_len]; exact hx)] at hu; cases hu
  obtain ⟨b2, o2, e2, _, hb2, hcell⟩ := h.at_ hlen
  injection e2 with e2
  injection e2 with e2 e3 e4
  subst e2; subst e3; subst e4
  refine (hk _ ?_ (by rw [block_of_add]; exact hb2)).trans hj
  intro hbg
  rw [block_of_add] at hbg
  obtain rfl : b1 = g := hbg
  rw [hg.cell] at hcell
  have hm : Value.int k ((l.getD j 0 : Nat) : Int) ∈ cs.toList := List.mem_of_getElem? (l := cs.toList) (i := o1 + j) (by rw [Array.getElem?_toList]; exact hcell)
  have := List.all_eq_true.1 hcs _ hm
  simp at this
theorem size_setCell (w : World) (p : Addr) (u : Value) : (w.setCell p u).heap.size = w.heap.size := by simp [World.setCell]
theorem IsN.setCell {w : World} {k : IntKind} {B : Nat} {A : Option Addr} {c : Nat} {l : List Nat} {N : Nat} (h : IsN w w.heap.size k B A c l N) {g : Nat} {t : TypeId} {cs : Array Value} (hg : Blk w g t cs) (hcs : cs.toList.all (fun u => match u with | .int _ _ => false | _ => true) = true) (j : Nat) (u : Value) :
    IsN (w.setCell ⟨g, j, none⟩ u) (w.setCell ⟨g, j, none⟩ u).heap.size k B A c l N :=
  (h.keep hg hcs fun p hp => World.cell?_setCell_other w _ p u (fun e => hp (by rw [← e]))).more (Nat.le_of_eq (size_setCell w _ u).symm)
theorem tcs_noint (A : Option Addr) (n c : Nat) (mi : Bool) (xs : List Nat) (k : Nat) : (tcs A n c mi xs k).toList.all (fun u => match u with | .int _ _ => false | _ => true) = true := rfl
theorem tcs_noint2 (A : Option Addr) (n c : Nat) (mi : Bool) (xs : List Nat) (k j : Nat) (v : Bool) (hj : j = 2 ∨ j = 3 ∨ j = 4) : ((tcs A n c mi xs k).setIfInBounds j (.bool v)).toList.all (fun u => match u with | .int _ _ => false | _ => true) = true := by
  rcases hj with rfl | rfl | rfl <;> rfl
theorem tcs_new (A : Option Addr) (n c : Nat) (mi : Bool) (xs : List Nat) (k : Nat) (b : Nat) : tcs A n c mi (xs ++ [b]) k = #[.slice A n c, .bool mi, .bool (hasNan xs || fnan b), .bool (hasPlus xs || (finf b && !fsgn b)), .bool (hasLess xs || (finf b && fsgn b)), .bool (nghts k xs && (b == 9223372036854775808))] := by
  unfold tcs hasNan hasPlus hasLess
  rw [any_snoc, any_snoc, any_snoc, nghts_snoc]
theorem len_take_le (xs : List Nat) (i : Nat) (h : xs.length ≤ 17592186044416) : (xs.take i).length ≤ 17592186044416 := by
  rw [List.length_take]; omega
section
variable {A : Option Addr} {n c : Nat} {mi : Bool} {xs : List Nat} {k b : Nat} {v : Bool}
theorem tcs_nan (hf : fnan b = true) (hi : finf b = false) (hz : (nghts k xs && (b == 9223372036854775808)) = v) : ((tcs A n c mi xs k).setIfInBounds 2 (.bool true)).setIfInBounds 5 (.bool v) = tcs A n c mi (xs ++ [b]) k := by
  rw [tcs_new, hf, hi, hz]; simp [tcs]
theorem tcs_plus (hf : fnan b = false) (hi : finf b = true) (hs : fsgn b = false) (hz : (nghts k xs && (b == 9223372036854775808)) = v) : ((tcs A n c mi xs k).setIfInBounds 3 (.bool true)).setIfInBounds 5 (.bool v) = tcs A n c mi (xs ++ [b]) k := by
  rw [tcs_new, hf, hi, hs, hz]; simp [tcs]
theorem tcs_less (hf : fnan b = false) (hi : finf b = true) (hs : fsgn b = true) (hz : (nghts k xs && (b == 9223372036854775808)) = v) : ((tcs A n c mi xs k).setIfInBounds 4 (.bool true)).setIfInBounds 5 (.bool v) = tcs A n c mi (xs ++ [b]) k := by
  rw [tcs_new, hf, hi, hs, hz]; simp [tcs]
theorem tcs_fin (hf : fnan b = false) (hi : finf b = false) (hz : (nghts k xs && (b == 9223372036854775808)) = v) : (tcs A n c mi xs k).setIfInBounds 5 (.bool v) = tcs A n c mi (xs ++ [b]) k := by
  rw [tcs_new, hf, hi, hz]; simp [tcs]
theorem posN_skip (h : ffin b = false) : posN (xs ++ [b]) = posN xs ∧ negN (xs ++ [b]) = negN xs := by
  rw [posN_app, negN_app, posN_one, negN_one, h]; simp
theorem posN_plus (h : ffin b = true) (hs : fsgn b = false) : posN (xs ++ [b]) = posN xs + kv (fmag b) ∧ negN (xs ++ [b]) = negN xs := by
  rw [posN_app, negN_app, posN_one, negN_one, h, hs]; simp
theorem posN_less (h : ffin b = true) (hs : fsgn b = true) : posN (xs ++ [b]) = posN xs ∧ negN (xs ++ [b]) = negN xs + kv (fmag b) := by
  rw [posN_app, negN_app, posN_one, negN_one, h, hs]; simp
end
end Go.Proofs.YtcohidjaehdbnaaGreatDoor
