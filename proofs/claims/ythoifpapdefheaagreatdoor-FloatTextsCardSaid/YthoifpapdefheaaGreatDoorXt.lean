/- Plain law: the text of digits with an exponent, as strconv prints it in the form 'e', taken apart and put together, is the document's text (no program). Conditions: as stated. -/
import Derived.Test.YthoifpapdefheaaGreatDoorXf
import Derived.Lib.IndexLaws
import Derived.Lib.Atoi
import Derived.Lib.Repeat
namespace Go.Proofs.YthoifpapdefheaaGreatDoor
set_option linter.unusedVariables false

theorem dig_range (d : Nat) : ∀ b ∈ Lib.decDigits d, 48 ≤ b.toNat ∧ b.toNat ≤ 57 := by
  induction d using Nat.strongRecOn with
  | _ d ih =>
    intro b hb
    by_cases h : d < 10
    · rw [Lib.decDigits_one h, List.mem_singleton] at hb
      subst hb
      rw [UInt8.toNat_ofNat']; omega
    · rw [Lib.decDigits, dif_neg h, List.mem_append, List.mem_singleton] at hb
      rcases hb with hb | hb
      · exact ih _ (by omega) b hb
      · subst hb
        rw [UInt8.toNat_ofNat']; omega
theorem dig_ne (d : Nat) (c : UInt8) (hc : c.toNat < 48 ∨ 57 < c.toNat) : ∀ b ∈ Lib.decDigits d, b ≠ c := fun b hb e => by
  have := dig_range d b hb
  subst e
  omega
theorem idx_skip (c : UInt8) (r : List UInt8) : ∀ a : List UInt8, (∀ b ∈ a, b ≠ c) → Lib.indexByte (a ++ c :: r) c = (a.length : Int)
  | [], _ => by simp [Lib.indexByte]
  | b :: a, h => by
    have ih := idx_skip c r a (fun x hx => h x (List.mem_cons_of_mem _ hx))
    have hb : (b == c) = false := beq_eq_false_iff_ne.2 (h b (List.mem_cons_self ..))
    rw [List.cons_append, Lib.indexByte, hb, ih]
    simp
/-- Digits, a point behind the first. -/
def ptT (d : Nat) : List UInt8 := if lenD d = 1 then Lib.decDigits d else (Lib.decDigits d).take 1 ++ 46 :: (Lib.decDigits d).drop 1
/-- An exponent: its sign, two digits at least. -/
def expT (x : Int) : List UInt8 := (if x < 0 then 45 else 43) :: (if x.natAbs < 10 then 48 :: Lib.decDigits x.natAbs else Lib.decDigits x.natAbs)
def eTxt (d : Nat) (x : Int) : List UInt8 := ptT d ++ 101 :: expT x
theorem ptT_one {d : Nat} (h : lenD d = 1) : ptT d = Lib.decDigits d := by unfold ptT; rw [if_pos h]
theorem ptT_more {d : Nat} (h : ¬ lenD d = 1) : ptT d = (Lib.decDigits d).take 1 ++ 46 :: (Lib.decDigits d).drop 1 := by unfold ptT; rw [if_neg h]
theorem ptT_len {d : Nat} : (ptT d).length = if lenD d = 1 then 1 else lenD d + 1 := by
  have hp := lenD_pos d
  by_cases h : lenD d = 1
  · rw [ptT_one h, if_pos h]; exact h
  · rw [ptT_more h, if_neg h]
    unfold lenD at *
    simp only [List.length_append, List.length_take, List.length_cons, List.length_drop]
    omega
theorem eTxt_idx (d : Nat) (x : Int) : Lib.indexByte (eTxt d x) 101 = ((ptT d).length : Int) := by
  unfold eTxt
  refine idx_skip 101 _ _ fun b hb => ?_
  have hd := dig_ne d 101 (.inr (by decide))
  by_cases h : lenD d = 1
  · rw [ptT_one h] at hb
    exact hd b hb
  · rw [ptT_more h, List.mem_append, List.mem_cons] at hb
    rcases hb with hb | hb | hb
    · exact hd b (List.mem_of_mem_take hb)
    · subst hb; decide
    · exact hd b (List.mem_of_mem_drop hb)
theorem ptT_cnt0 {d : Nat} (h : lenD d = 1) : Lib.countByte (ptT d) 46 = 0 := by
  rw [ptT_one h]
  exact List.count_eq_zero.2 fun hm => dig_ne d 46 (.inl (by decide)) 46 hm rfl
theorem ptT_cnt1 {d : Nat} (h : ¬ lenD d = 1) : Lib.countByte (ptT d) 46 = 1 := by
  have hd := dig_ne d 46 (.inl (by decide))
  rw [ptT_more h]
  unfold Lib.countByte
  rw [List.count_append, List.count_cons_self, List.count_eq_zero.2 (fun hm => hd 46 (List.mem_of_mem_take hm) rfl), List.count_eq_zero.2 (fun hm => hd 46 (List.mem_of_mem_drop hm) rfl)]
theorem ptT_idx {d : Nat} (h : ¬ lenD d = 1) : Lib.indexByte (ptT d) 46 = 1 := by
  have hp := lenD_pos d
  have hd := dig_ne d 46 (.inl (by decide))
  rw [ptT_more h, idx_skip 46 _ _ (fun b hb => hd b (List.mem_of_mem_take hb)), List.length_take]
  unfold lenD at *
  omega
theorem ptT_cut {d : Nat} (h : ¬ lenD d = 1) : (ptT d).take 1 ++ (ptT d).drop 2 = Lib.decDigits d := by
  have hp := lenD_pos d
  have hl : ((Lib.decDigits d).take 1).length = 1 := by rw [List.length_take]; unfold lenD at *; omega
  rw [ptT_more h, List.take_append_of_le_length (by omega), List.drop_append, hl, List.take_take, List.drop_eq_nil_of_le (by omega)]
  show List.take (min 1 1) (Lib.decDigits d) ++ ([] ++ (Lib.decDigits d).drop 1) = _
  rw [List.nil_append]
  exact List.take_append_drop 1 _
def atoiOk (k : Nat) : Bool := Lib.atoi (expT ((k : Int) - 400)) == some ((k : Int) - 400) && decide ((expT ((k : Int) - 400)).length ≤ 5)
theorem atoi_all : (List.range 801).all atoiOk = true := by decide +kernel
theorem expT_atoi {x : Int} (h1 : -400 ≤ x) (h2 : x ≤ 400) : Lib.atoi (expT x) = some x ∧ (expT x).length ≤ 5 := by
  have := List.all_eq_true.1 atoi_all (x + 400).toNat (List.mem_range.2 (by omega))
  unfold atoiOk at this
  rw [show (((x + 400).toNat : Nat) : Int) - 400 = x from by omega, Bool.and_eq_true, beq_iff_eq, decide_eq_true_eq] at this
  exact this
theorem repeat48 (c : Nat) : Lib.repeatL [48] c = List.replicate c 48 := by
  induction c with
  | zero => rfl
  | succ c ih => rw [Lib.repeatL, ih, List.replicate_succ]; rfl
/-- The document's text, way by way. -/
theorem numT_e {d : Nat} {x : Int} (h : x < -7 ∨ 20 < x) : numT d x = ptT d ++ 101 :: Lib.itoa x := by
  unfold numT ptT Lib.itoa lenD
  simp only [if_pos h]
  congr 2
  by_cases hx : x < 0
  · rw [if_pos hx, if_pos hx]; rfl
  · rw [if_neg hx, if_neg hx, show x.natAbs = x.toNat from by omega]; rfl
theorem numT_small {d : Nat} {x : Int} (h : ¬ (x < -7 ∨ 20 < x)) (h2 : x < 0) : numT d x = 48 :: 46 :: (List.replicate (-x - 1).toNat 48 ++ Lib.decDigits d) := by
  unfold numT
  simp only [if_neg h, if_pos h2]
theorem numT_whole {d : Nat} {x : Int} (h : ¬ (x < -7 ∨ 20 < x)) (h2 : ¬ x < 0) (h3 : (lenD d : Int) ≤ x + 1) : numT d x = Lib.decDigits d ++ List.replicate (x + 1 - lenD d).toNat 48 := by
  unfold numT lenD at *
  simp only [if_neg h, if_neg h2, if_pos h3]
theorem numT_point {d : Nat} {x : Int} (h : ¬ (x < -7 ∨ 20 < x)) (h2 : ¬ x < 0) (h3 : ¬ (lenD d : Int) ≤ x + 1) : numT d x = (Lib.decDigits d).take (x + 1).toNat ++ 46 :: (Lib.decDigits d).drop (x + 1).toNat := by
  unfold numT lenD at *
  simp only [if_neg h, if_neg h2, if_neg h3]
end Go.Proofs.YthoifpapdefheaaGreatDoor
