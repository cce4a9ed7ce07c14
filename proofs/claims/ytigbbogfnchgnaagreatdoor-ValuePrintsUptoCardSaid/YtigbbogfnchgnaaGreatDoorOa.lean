/- Plain words: the order of two values (compare, order), by kinds, ints, floats, texts, then names and items. Conditions: none. -/
import Derived.Test.YtigbbogfnchgnaaGreatDoorYo
import Derived.Lib.Bytealg
import Derived.Lib.Strings
namespace Go.Proofs.YtigbbogfnchgnaaGreatDoor
open Go.RowKit
set_option linter.unusedVariables false

/-- The order of two ints; of two texts; a sign. -/
def icmp (a b : Int) : Int := if a < b then -1 else if b < a then 1 else 0
def scmp (a b : ByteArray) : Int := Lib.compareBytes a.data.toList b.data.toList
def sg1 (b : Bool) : Int := if b then -1 else 1
def sg2 (a b : Bool) : Int := if a then -1 else if b then 1 else 0
theorem cb_less : ∀ x y : List UInt8, Op.bytesLess x y = true → Lib.compareBytes x y = -1
  | [], [] => fun h => by simp [Op.bytesLess] at h
  | [], _ :: _ => fun _ => rfl
  | _ :: _, [] => fun h => by simp [Op.bytesLess] at h
  | a :: x, b :: y => fun h => by
    unfold Op.bytesLess at h
    unfold Lib.compareBytes
    by_cases h1 : a < b
    · rw [if_pos h1]
    · simp only [h1, decide_false, Bool.false_or, Bool.and_eq_true, beq_iff_eq] at h
      obtain ⟨rfl, h⟩ := h
      rw [if_neg h1, if_neg h1]
      exact cb_less x y h
theorem cb_self : ∀ x : List UInt8, Lib.compareBytes x x = 0
  | [] => rfl
  | a :: x => by
    unfold Lib.compareBytes
    rw [if_neg (UInt8.lt_irrefl a), if_neg (UInt8.lt_irrefl a)]
    exact cb_self x
theorem cb_else : ∀ x y : List UInt8, Op.bytesLess x y = false → x ≠ y → Lib.compareBytes x y = 1
  | [], [] => fun _ h => absurd rfl h
  | [], _ :: _ => fun h => by simp [Op.bytesLess] at h
  | _ :: _, [] => fun _ _ => rfl
  | a :: x, b :: y => fun h hne => by
    unfold Op.bytesLess at h
    unfold Lib.compareBytes
    by_cases h1 : a < b
    · simp [h1] at h
    · rw [if_neg h1]
      by_cases h2 : b < a
      · rw [if_pos h2]
      · have : a = b := by
          refine UInt8.toNat_inj.1 ?_
          simp only [UInt8.lt_iff_toNat_lt] at h1 h2
          omega
        subst this
        simp only [h1, decide_false, Bool.false_or, BEq.rfl, Bool.true_and] at h
        rw [if_neg h2]
        exact cb_else x y h (fun e => hne (by rw [e]))
theorem sg2_str (a b : ByteArray) : sg2 (Op.bytesLess a.toList b.toList) (!(Op.bytesLess a.toList b.toList || a.toList == b.toList)) = scmp a b := by
  unfold sg2 scmp
  rw [ByteArray.toList_eq, ByteArray.toList_eq]
  generalize a.data.toList = x
  generalize b.data.toList = y
  cases h : Op.bytesLess x y with
  | true => simp [cb_less x y h]
  | false =>
    by_cases he : x = y
    · subst he; simp [cb_self]
    · simp [cb_else x y h he, he]
theorem sg2_int (a b : Int) : sg2 (decide (a < b)) (decide (b < a)) = icmp a b := by
  unfold sg2 icmp
  simp only [decide_eq_true_eq]
theorem sg1_int {a b : Int} (h : a ≠ b) : sg1 (decide (a < b)) = icmp a b := by
  unfold sg1 icmp
  simp only [decide_eq_true_eq]
  by_cases h1 : a < b
  · rw [if_pos h1, if_pos h1]
  · rw [if_neg h1, if_neg h1, if_pos (by omega)]
theorem icmp_self (a : Int) : icmp a a = 0 := by unfold icmp; rw [if_neg (by omega), if_neg (by omega)]
theorem icmp_zero {a b : Int} (h : icmp a b = 0) : a = b := by
  unfold icmp at h
  split at h
  · omega
  · split at h <;> omega
theorem icmp_ne {a b : Int} (h : a ≠ b) : icmp a b ≠ 0 := fun e => h (icmp_zero e)
/-- The first of two answers that is not 0. -/
def thn (c r : Int) : Int := if c = 0 then r else c
theorem thn_zero (r : Int) : thn 0 r = r := if_pos rfl
theorem thn_ne {c : Int} (h : c ≠ 0) (r : Int) : thn c r = c := if_neg h
mutual
/-- The order of two values. -/
def ord : Val → Val → Int
  | .mk k i f t its nms, .mk k' i' f' t' its' nms' => thn (icmp k k') (thn (icmp i i') (thn (fcmp f f') (thn (scmp t t') (ordL (k == 7) nms its nms' its'))))
def ordL : Bool → List ByteArray → List Val → List ByteArray → List Val → Int
  | _, _, [], _, [] => 0
  | _, _, [], _, _ :: _ => -1
  | _, _, _ :: _, _, [] => 1
  | m, nms, v :: its, nms', w :: its' => thn (bif m then scmp (nms.headD ⟨#[]⟩) (nms'.headD ⟨#[]⟩) else 0) (thn (ord v w) (ordL m nms.tail its nms'.tail its'))
end
theorem ord_eq (a b : Val) : ord a b = thn (icmp a.k b.k) (thn (icmp a.i b.i) (thn (fcmp a.f b.f) (thn (scmp a.t b.t) (ordL (a.k == 7) a.nms a.its b.nms b.its)))) := by
  cases a; cases b; rw [ord]; rfl
theorem ordL_nil (m : Bool) (n n' : List ByteArray) (l l' : List Val) (h : l.length = 0 ∨ l'.length = 0) : ordL m n l n' l' = icmp l.length l'.length := by
  cases l with
  | nil =>
    cases l' with
    | nil => rw [ordL]; rfl
    | cons b l' => rw [ordL]; simp only [icmp, List.length_nil, List.length_cons]; rw [if_pos (by omega)]
  | cons a l =>
    cases l' with
    | nil => rw [ordL]; simp only [icmp, List.length_nil, List.length_cons]; rw [if_neg (by omega), if_pos (by omega)]
    | cons b l' => simp at h
/-- One item more. -/
theorem ordL_step {m : Bool} {n n' : List ByteArray} {l l' : List Val} {i : Nat} (h : i < l.length) (h' : i < l'.length) :
    ordL m (n.drop i) (l.drop i) (n'.drop i) (l'.drop i) = thn (bif m then scmp (n.getD i ⟨#[]⟩) (n'.getD i ⟨#[]⟩) else 0) (thn (ord l[i] l'[i]) (ordL m (n.drop (i + 1)) (l.drop (i + 1)) (n'.drop (i + 1)) (l'.drop (i + 1)))) := by
  rw [List.drop_eq_getElem_cons h, List.drop_eq_getElem_cons h', ordL]
  have e : ∀ x : List ByteArray, (x.drop i).headD ⟨#[]⟩ = x.getD i ⟨#[]⟩ := fun x => by
    rw [List.headD_eq_head?_getD, List.head?_drop, List.getD_eq_getElem?_getD]
  rw [e, e, List.tail_drop, List.tail_drop]
theorem ordL_last {m : Bool} {n n' : List ByteArray} {l l' : List Val} {i : Nat} (h : i = l.length ∨ i = l'.length) (h1 : i ≤ l.length) (h2 : i ≤ l'.length) :
    ordL m (n.drop i) (l.drop i) (n'.drop i) (l'.drop i) = icmp l.length l'.length := by
  rw [ordL_nil _ _ _ _ _ (by simp only [List.length_drop]; omega), List.length_drop, List.length_drop]
  have e : ∀ x y p q : Int, (x < y ↔ p < q) → (y < x ↔ q < p) → icmp x y = icmp p q := fun x y p q h1 h2 => by
    unfold icmp
    simp only [h1, h2]
  exact e _ _ _ _ (by omega) (by omega)
theorem wfV_f {v : Val} (h : wfV v) : v.f < 18446744073709551616 := by
  cases v with | mk k i f t its nms =>
  rw [wfV] at h
  have := h.2.2.1
  simpa [Lit.wf, Val.f] using this
/-- All values in a value have their fields as their kinds say. -/
def okV (v : Val) : Prop := anyV (fun v => !flds fone v) v = false
theorem okV_self {v : Val} (h : okV v) : flds fone v = true := by
  unfold okV at h
  rw [anyV_eq, Bool.or_eq_false_iff] at h
  simpa using h.1
theorem okV_item {v w : Val} (h : okV v) (hw : w ∈ v.its) : okV w := by
  unfold okV at *
  rw [anyV_eq, Bool.or_eq_false_iff, anyL_any, List.any_eq_false] at h
  simpa using h.2 w hw
theorem okV_nms {v : Val} (h : okV v) (hk : v.k = 7) : v.nms.length = v.its.length := by
  have := okV_self h
  unfold flds at this
  simp only [Bool.and_eq_true] at this
  have h2 := this.2
  rw [if_pos (by simpa using hk)] at h2
  simpa using h2
theorem okV_chk {v : Val} (h : chk fone v = 0) : okV v := by
  rw [chk_eq] at h
  unfold okV
  cases h2 : anyV (fun v => !flds fone v) v with
  | false => rfl
  | true =>
    rw [if_pos h2] at h
    split at h
    · omega
    · split at h <;> omega
end Go.Proofs.YtigbbogfnchgnaaGreatDoor
