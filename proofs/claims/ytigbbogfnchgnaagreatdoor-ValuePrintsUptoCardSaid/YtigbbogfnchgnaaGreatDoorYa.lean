/- Plain words for values as trees: how deep, how many, whether fields, names and sizes may be; what Check answers (no program). Conditions: none. -/
import Derived.WalkKit
namespace Go.Proofs.YtigbbogfnchgnaaGreatDoor
set_option linter.unusedVariables false

/-- A value: kind, int, float's bits, text, items, names. -/
inductive Val where
  | mk (k i : Int) (f : Nat) (t : ByteArray) (its : List Val) (nms : List ByteArray) : Val
def Val.k : Val → Int | .mk k _ _ _ _ _ => k
def Val.i : Val → Int | .mk _ i _ _ _ _ => i
def Val.f : Val → Nat | .mk _ _ f _ _ _ => f
def Val.t : Val → ByteArray | .mk _ _ _ t _ _ => t
def Val.its : Val → List Val | .mk _ _ _ _ l _ => l
def Val.nms : Val → List ByteArray | .mk _ _ _ _ _ n => n
theorem Val.its_lt {v w : Val} (h : w ∈ v.its) : SizeOf.sizeOf w < SizeOf.sizeOf v := by
  cases v with
  | mk k i f t its nms =>
    have := List.sizeOf_lt_of_mem (show w ∈ its from h)
    simp only [Val.mk.sizeOf_spec]
    omega
/-- A rule for all values: if it holds of all items, it holds of the value. -/
theorem Val.ind {P : Val → Prop} (step : ∀ v, (∀ w ∈ v.its, P w) → P v) : ∀ v, P v := by
  have : ∀ n v, SizeOf.sizeOf v < n → P v := by
    intro n
    induction n with
    | zero => intro v h; omega
    | succ n ih => exact fun v h => step v fun w hw => ih w (by have := Val.its_lt hw; omega)
  exact fun v => this _ v (Nat.lt_succ_self _)
/-- Do values lie more than n within one another? -/
def deep : Nat → Val → Bool
  | 0, _ => true
  | n + 1, v => v.its.any (deep n)
mutual
/-- How many values, as far as most. -/
def cntB : Val → Int → Int
  | .mk _ _ _ _ its _, m => cntL its m 1
def cntL : List Val → Int → Int → Int
  | [], _, n => n
  | v :: l, m, n => if n ≤ m then cntL l m (n + cntB v (m - n)) else n
end
mutual
/-- Does p say so of the value, or of a part? -/
def anyV (p : Val → Bool) : Val → Bool
  | .mk k i f t its nms => p (.mk k i f t its nms) || anyL p its
def anyL (p : Val → Bool) : List Val → Bool
  | [] => false
  | v :: l => anyV p v || anyL p l
end
theorem anyV_eq (p : Val → Bool) (v : Val) : anyV p v = (p v || anyL p v.its) := by cases v; rw [anyV]; rfl
theorem anyL_any (p : Val → Bool) (l : List Val) : anyL p l = l.any (anyV p) := by
  induction l with
  | nil => rw [anyL]; rfl
  | cons v l ih => rw [anyL, ih]; rfl
theorem cntB_eq (v : Val) (m : Int) : cntB v m = cntL v.its m 1 := by cases v; rw [cntB]; rfl
theorem cnt_range : ∀ v : Val, ∀ m : Int, 0 ≤ m → 1 ≤ cntB v m ∧ cntB v m ≤ m + 1 := by
  refine Val.ind fun v ih m hm => ?_
  rw [cntB_eq]
  have key : ∀ l : List Val, (∀ w ∈ l, w ∈ v.its) → ∀ n : Int, 1 ≤ n → n ≤ m + 1 → 1 ≤ cntL l m n ∧ cntL l m n ≤ m + 1 := by
    intro l
    induction l with
    | nil => intro _ n h1 h2; rw [cntL]; exact ⟨h1, h2⟩
    | cons w l il =>
      intro hl n h1 h2
      rw [cntL]
      by_cases hn : n ≤ m
      · rw [if_pos hn]
        have hw := ih w (hl w List.mem_cons_self) (m - n) (by omega)
        exact il (fun x hx => hl x (List.mem_cons_of_mem _ hx)) _ (by omega) (by omega)
      · rw [if_neg hn]; exact ⟨h1, h2⟩
  exact key v.its (fun _ h => h) 1 (by omega) (by omega)
theorem cntL_range {m : Int} (hm : 0 ≤ m) : ∀ (l : List Val) (n : Int), 1 ≤ n → n ≤ m + 1 → 1 ≤ cntL l m n ∧ cntL l m n ≤ m + 1 := by
  intro l
  induction l with
  | nil => intro n h1 h2; rw [cntL]; exact ⟨h1, h2⟩
  | cons w l il =>
    intro n h1 h2
    rw [cntL]
    by_cases hn : n ≤ m
    · rw [if_pos hn]
      have hw := cnt_range w (m - n) (by omega)
      exact il _ (by omega) (by omega)
    · rw [if_neg hn]; exact ⟨h1, h2⟩
theorem cntL_app {m : Int} : ∀ (a b : List Val) (n : Int), cntL (a ++ b) m n = cntL b m (cntL a m n) := by
  intro a
  induction a with
  | nil => intro b n; rw [List.nil_append, cntL]
  | cons v l ih =>
    intro b n
    rw [List.cons_append, cntL, cntL]
    by_cases h : n ≤ m
    · rw [if_pos h, if_pos h, ih]
    · rw [if_neg h, if_neg h]
      clear ih
      cases b with
      | nil => rw [cntL]
      | cons x b => rw [cntL, if_neg h]
theorem cntL_stop {m : Int} {l : List Val} {n : Int} (h : ¬ n ≤ m) : cntL l m n = n := by
  cases l with
  | nil => rw [cntL]
  | cons v l => rw [cntL, if_neg h]
/-- Are a value's own fields as its kind says? -/
def flds (one : Nat → Nat) (v : Val) : Bool :=
  decide (0 ≤ v.k ∧ v.k ≤ 8) && (v.k == 3 || one v.f == 0) && (v.k == 2 || v.i == 0 || (v.k == 1 && v.i == 1)) && (v.t.size == 0 || v.k == 4 || v.k == 5 || v.k == 8)
    && (v.k != 8 || (decide (1 ≤ v.t.size) && decide (v.t.size ≤ 64))) && (v.its.length == 0 || v.k == 6 || v.k == 7) && (v.nms.length == if v.k == 7 then v.its.length else 0)
/-- Has a list two neighbours that p tells? -/
def nbr (p : ByteArray → ByteArray → Bool) : List ByteArray → Bool
  | a :: b :: l => p a b || nbr p (b :: l)
  | _ => false
theorem nbr_true {p : ByteArray → ByteArray → Bool} {l : List ByteArray} {i : Nat} (h : i + 1 < l.length) (hp : p (l[i]'(by omega)) (l[i + 1]) = true) : nbr p l = true := by
  induction l generalizing i with
  | nil => simp at h
  | cons a l ih =>
    cases l with
    | nil => simp at h
    | cons b l =>
      rw [nbr]
      cases i with
      | zero => simp at hp; simp [hp]
      | succ i =>
        have := ih (i := i) (by simpa using h) (by simpa using hp)
        rw [this]; simp
theorem nbr_false {p : ByteArray → ByteArray → Bool} {l : List ByteArray} (h : ∀ i, (hi : i + 1 < l.length) → p (l[i]'(by omega)) (l[i + 1]) = false) : nbr p l = false := by
  induction l with
  | nil => rfl
  | cons a l ih =>
    cases l with
    | nil => rfl
    | cons b l =>
      rw [nbr]
      have h0 := h 0 (by simp)
      have := ih fun i hi => by have := h (i + 1) (by simpa using hi); simpa using this
      rw [this]
      simp at h0
      simp [h0]
/-- The bytes of a value without items. -/
def leafN (v : Val) : Nat :=
  if v.k = 1 then 2 else if v.k = 2 ∨ v.k = 3 then 9 else if v.k = 4 ∨ v.k = 5 ∨ v.k = 8 then 5 + v.t.size else if v.k = 6 ∨ v.k = 7 then 5 else 1
mutual
/-- How many bytes a value's bytes are. -/
def wt : Val → Nat
  | .mk k i f t its nms => leafN (.mk k i f t [] []) + wtL (k = 7) its nms
def wtL (m : Bool) : List Val → List ByteArray → Nat
  | [], _ => 0
  | v :: l, nms => (if m then 4 + (nms.headD ⟨#[]⟩).size else 0) + wt v + wtL m l nms.tail
end
mutual
/-- The same, as far as most. -/
def szB : Val → Int → Int
  | .mk k i f t its nms, m => if k = 6 ∨ k = 7 then szL (k = 7) its nms m 5 else leafN (.mk k i f t [] [])
def szL (mp : Bool) : List Val → List ByteArray → Int → Int → Int
  | [], _, _, n => n
  | v :: l, nms, m, n =>
    let n1 := n + if mp then 4 + ((nms.headD ⟨#[]⟩).size : Int) else 0
    let n2 := n1 + szB v (m - n1)
    if m < n2 then n2 else szL mp l nms.tail m n2
end
theorem sz_wt (one : Nat → Nat) : ∀ v : Val, anyV (fun v => !flds one v) v = false → ∀ m : Int, (szB v m ≤ m → szB v m = wt v) ∧ (m < szB v m → m < (wt v : Int)) := by
  refine Val.ind fun v ih hv m => ?_
  rw [anyV_eq, Bool.or_eq_false_iff] at hv
  obtain ⟨hf, hl⟩ := hv
  rw [anyL_any] at hl
  have hit : ∀ w ∈ v.its, anyV (fun v => !flds one v) w = false := fun w hw => by
    have := List.any_eq_false.1 hl w hw
    simpa using this
  cases v with
  | mk k i f t its nms =>
    rw [szB, wt]
    by_cases hk : k = 6 ∨ k = 7
    · rw [if_pos hk]
      have hlf : leafN (.mk k i f t [] []) = 5 := by
        unfold leafN Val.k
        rcases hk with rfl | rfl <;> rfl
      rw [hlf]
      have key : ∀ (l : List Val) (ns : List ByteArray), (∀ w ∈ l, w ∈ its) → ∀ n : Int, (szL (k = 7) l ns m n ≤ m → szL (k = 7) l ns m n = n + wtL (k = 7) l ns) ∧ (m < szL (k = 7) l ns m n → m < n + (wtL (k = 7) l ns : Int)) := by
        intro l
        induction l with
        | nil => intro ns _ n; rw [szL, wtL]; exact ⟨fun _ => by omega, fun h => by omega⟩
        | cons w l il =>
          intro ns hw n
          rw [szL, wtL]
          have hi := ih w (hw w List.mem_cons_self) (hit w (hw w List.mem_cons_self))
          have hr := il ns.tail (fun x hx => hw x (List.mem_cons_of_mem _ hx))
          obtain ⟨e, he⟩ : ∃ e : Nat, (if decide (k = 7) = true then 4 + (ns.headD ⟨#[]⟩).size else 0) = e := ⟨_, rfl⟩
          have he2 : (if decide (k = 7) = true then 4 + ((ns.headD ⟨#[]⟩).size : Int) else 0) = (e : Int) := by rw [← he]; split <;> simp
          rw [he, he2]
          have hi2 := hi (m - (n + e))
          generalize szB w (m - (n + e)) = s at *
          by_cases hlt : m < n + e + s
          · rw [if_pos hlt]
            have := hi2.2 (by omega)
            exact ⟨fun h => by omega, fun _ => by omega⟩
          · rw [if_neg hlt]
            have h1 := hi2.1 (by omega)
            have h2 := hr (n + e + s)
            refine ⟨fun h => ?_, fun h => ?_⟩
            · have := h2.1 h; omega
            · have := h2.2 h; omega
      have := key its nms (fun _ h => h) 5
      refine ⟨fun h => ?_, fun h => ?_⟩
      · have := this.1 h; omega
      · have := this.2 h; omega
    · rw [if_neg hk]
      have h0 : its = [] := by
        simp only [flds, Val.k, Val.its, Bool.not_eq_false', Bool.and_eq_true] at hf
        have h6 := hf.1.2
        simp only [Bool.or_eq_true, beq_iff_eq] at h6
        rcases h6 with (h6 | h6) | h6
        · exact List.eq_nil_of_length_eq_zero h6
        · exact absurd (.inl h6) hk
        · exact absurd (.inr h6) hk
      subst h0
      rw [wtL]
      exact ⟨fun _ => by simp, fun h => by simpa using h⟩
/-- Two names that are the same; a name above the next one. -/
def twin (a b : ByteArray) : Bool := a.toList == b.toList
def fall (a b : ByteArray) : Bool := !(Go.Op.bytesLess a.toList b.toList || a.toList == b.toList)
/-- What Check answers. -/
def chk (one : Nat → Nat) (v : Val) : Int :=
  if deep 64 v then 231 else if 65536 < cntB v 65536 then 2 else if anyV (fun v => !flds one v) v then 230 else if anyV (fun v => nbr twin v.nms) v then 232
  else if anyV (fun v => nbr fall v.nms) v then 233 else if 1048576 < (wt v : Int) then 2 else 0
end Go.Proofs.YtigbbogfnchgnaaGreatDoor
