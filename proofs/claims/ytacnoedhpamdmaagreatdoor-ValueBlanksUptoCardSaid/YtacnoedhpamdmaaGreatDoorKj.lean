/- Plain words: a text from a place on; blanks; ints in decimal, what ParseInt makes of them; the text of a list of ints with blanks between (no program). Conditions: none. -/
import Derived.Test.YtacnoedhpamdmaaGreatDoorKa
import Derived.Lib.ItoaNum
import Derived.Lib.ParseIntB
namespace Go.Proofs.YtacnoedhpamdmaaGreatDoor
set_option linter.unusedVariables false

/-- A text from a place on. -/
def rest (S : ByteArray) (a : Nat) : List UInt8 := S.data.toList.drop a
theorem rest_hd {S : ByteArray} {a : Nat} {x : UInt8} {r : List UInt8} (h : rest S a = x :: r) : a < S.size ∧ ∀ hl : a < S.size, (S[a]'hl) = x := by
  unfold rest at h
  have hl : a < S.data.toList.length := by
    rcases Nat.lt_or_ge a S.data.toList.length with h1 | h1
    · exact h1
    · rw [List.drop_eq_nil_of_le h1] at h; cases h
  have hs : a < S.size := by
    have := hl
    simp only [Array.length_toList] at this
    exact this
  refine ⟨hs, fun hl2 => ?_⟩
  rw [List.drop_eq_getElem_cons hl] at h
  exact (List.cons.inj h).1
theorem rest_app {S : ByteArray} {a : Nat} {g r : List UInt8} (h : rest S a = g ++ r) : rest S (a + g.length) = r := by
  unfold rest at *
  rw [← List.drop_drop, h, List.drop_left]
theorem rest_cons {S : ByteArray} {a : Nat} {x : UInt8} {r : List UInt8} (h : rest S a = x :: r) : rest S (a + 1) = r := rest_app (g := [x]) h
theorem rest_nil {S : ByteArray} {a : Nat} (h : rest S a = []) : S.size ≤ a := by
  unfold rest at h
  have := List.drop_eq_nil_iff.1 h
  simpa using this
theorem rest_len {S : ByteArray} {a : Nat} (ha : a ≤ S.size) : (rest S a).length = S.size - a := by
  unfold rest
  rw [List.length_drop]
  simp
/-- A blank; blanks alone; no blank ahead. -/
def isBl (x : UInt8) : Bool := x.toNat == 32 || x.toNat == 9 || x.toNat == 10 || x.toNat == 13
def allBl (g : List UInt8) : Prop := ∀ x ∈ g, isBl x = true
def noBl (r : List UInt8) : Prop := ∀ x t, r = x :: t → isBl x = false
/-- No digit ahead. -/
def noDg (r : List UInt8) : Prop := ∀ x t, r = x :: t → x.toNat < 48 ∨ 57 < x.toNat
theorem allBl_noDg {g r : List UInt8} (h : allBl g) (hr : noDg r) : noDg (g ++ r) := by
  intro x t e
  cases g with
  | nil => exact hr x t e
  | cons y g =>
    injection e with e _
    subst e
    have := h y List.mem_cons_self
    unfold isBl at this
    simp only [Bool.or_eq_true, beq_iff_eq] at this
    omega
theorem dg_ten {u : Nat} (h : 10 ≤ u) : Go.Lib.decDigits u = Go.Lib.decDigits (u / 10) ++ [UInt8.ofNat (48 + u % 10)] := by rw [Go.Lib.decDigits, dif_neg (by omega)]
theorem dg_one {u : Nat} (h : u < 10) : Go.Lib.decDigits u = [UInt8.ofNat (48 + u)] := by rw [Go.Lib.decDigits, dif_pos h]
theorem dg_byte {d : Nat} (h : d < 10) : (UInt8.ofNat (48 + d)).toNat = 48 + d := by
  rw [UInt8.toNat_ofNat']; omega
theorem dg_all : ∀ u : Nat, ∀ c ∈ Go.Lib.decDigits u, 48 ≤ c.toNat ∧ c.toNat ≤ 57 := by
  intro u
  induction u using Nat.strongRecOn with
  | _ u ih =>
    intro c hc
    by_cases h : u < 10
    · rw [dg_one h, List.mem_singleton] at hc
      subst hc
      rw [dg_byte h]; omega
    · rw [dg_ten (by omega), List.mem_append] at hc
      rcases hc with hc | hc
      · exact ih (u / 10) (by omega) c hc
      · rw [List.mem_singleton] at hc
        subst hc
        rw [dg_byte (by omega)]; omega
theorem dg_ne (u : Nat) : Go.Lib.decDigits u ≠ [] := by
  by_cases h : u < 10
  · rw [dg_one h]; simp
  · rw [dg_ten (by omega)]; simp
theorem dg_head : ∀ u : Nat, ∀ c t, Go.Lib.decDigits u = c :: t → t ≠ [] → c.toNat ≠ 48 := by
  intro u
  induction u using Nat.strongRecOn with
  | _ u ih =>
    intro c t e ht
    by_cases h : u < 10
    · rw [dg_one h] at e
      injection e with _ e
      exact absurd e.symm ht
    · by_cases h2 : u < 100
      · rw [dg_ten (by omega), dg_one (u := u / 10) (by omega)] at e
        injection e with e _
        rw [← e, dg_byte (by omega)]; omega
      · rw [dg_ten (by omega)] at e
        obtain ⟨c', t', e'⟩ : ∃ c' t', Go.Lib.decDigits (u / 10) = c' :: t' := by
          cases hd : Go.Lib.decDigits (u / 10) with
          | nil => exact absurd hd (dg_ne _)
          | cons c' t' => exact ⟨_, _, rfl⟩
        rw [e'] at e
        injection e with e _
        subst e
        refine ih (u / 10) (by omega) c' t' e' (fun e2 => ?_)
        rw [dg_ten (by omega), e2] at e'
        have hl := congrArg List.length e'
        rw [List.length_append] at hl
        have hp : 0 < (Go.Lib.decDigits (u / 10 / 10)).length := List.length_pos_iff.2 (dg_ne _)
        simp only [List.length_cons, List.length_nil] at hl
        omega
theorem dg_zero {u : Nat} (h : Go.Lib.decDigits u = [48]) : u = 0 := by
  by_cases h1 : u < 10
  · rw [dg_one h1] at h
    injection h with h _
    have := congrArg UInt8.toNat h
    rw [dg_byte h1] at this
    simp at this
    exact this
  · rw [dg_ten (by omega)] at h
    have := congrArg List.length h
    rw [List.length_append] at this
    have hne : 0 < (Go.Lib.decDigits (u / 10)).length := List.length_pos_iff.2 (dg_ne _)
    simp only [List.length_cons, List.length_nil] at this
    omega
theorem dg_len : ∀ (k u : Nat), u < 10 ^ (k + 1) → (Go.Lib.decDigits u).length ≤ k + 1
  | 0, u, h => by rw [dg_one (by simpa using h)]; simp
  | k + 1, u, h => by
    by_cases h10 : 10 ≤ u
    · rw [dg_ten h10, List.length_append]
      have := dg_len k (u / 10) (by rw [Nat.pow_succ] at h; omega)
      simp only [List.length_cons, List.length_nil]
      omega
    · rw [dg_one (by omega)]; simp
theorem dg_len20 {u : Nat} (h : u < 18446744073709551616) : (Go.Lib.decDigits u).length ≤ 20 := dg_len 19 u (by omega)
theorem pu_dig {M : Nat} (hM : M ≤ 18446744073709551615) : ∀ u : Nat, u ≤ M → ∀ r, Go.Lib.parseUintM M 0 (Go.Lib.decDigits u ++ r) = Go.Lib.parseUintM M u r := by
  intro u
  induction u using Nat.strongRecOn with
  | _ u ih =>
    intro hu r
    by_cases h : u < 10
    · rw [dg_one h, List.singleton_append, Go.Lib.parseUintM]
      rw [if_pos (by rw [dg_byte h]; omega), if_neg (by omega), if_neg (by rw [dg_byte h]; omega), dg_byte h]
      congr 1; omega
    · rw [dg_ten (by omega), List.append_assoc, ih (u / 10) (by omega) (by omega), List.singleton_append, Go.Lib.parseUintM]
      rw [if_pos (by rw [dg_byte (by omega)]; omega), if_neg (by omega), if_neg (by rw [dg_byte (by omega)]; omega), dg_byte (by omega)]
      congr 1; omega
/-- What ParseInt makes of an int in decimal. -/
theorem parse_itoa {z : Int} (h1 : -9223372036854775808 ≤ z) (h2 : z < 9223372036854775808) : Go.Lib.parseIntB 64 (Go.Lib.itoa z) = .ok z := by
  have key : ∀ u : Nat, u ≤ 18446744073709551615 → Go.Lib.parseUintB 64 (Go.Lib.decDigits u) = .ok u := fun u hu => by
    unfold Go.Lib.parseUintB
    rw [if_neg (dg_ne u)]
    have := pu_dig (M := 2 ^ 64 - 1) (by decide) u (by simpa using hu) []
    rw [List.append_nil] at this
    rw [this, Go.Lib.parseUintM]
  unfold Go.Lib.itoa
  by_cases hz : z < 0
  · rw [if_pos hz, Go.Lib.parseIntB]
    have e45 : (45 : UInt8).toNat = 45 := rfl
    simp only [e45, or_true, if_true, key z.natAbs (by omega), not_true_eq_false, false_and, if_false, true_and]
    rw [if_neg (by simp; omega)]
    congr 1; omega
  · rw [if_neg hz]
    obtain ⟨c, t, e⟩ : ∃ c t, Go.Lib.decDigits z.toNat = c :: t := by
      cases hd : Go.Lib.decDigits z.toNat with
      | nil => exact absurd hd (dg_ne _)
      | cons c t => exact ⟨_, _, rfl⟩
    have hc := dg_all z.toNat c (by rw [e]; exact List.mem_cons_self)
    have hk := key z.toNat (by omega)
    rw [e] at hk ⊢
    rw [Go.Lib.parseIntB]
    have h43 : ¬ c.toNat = 43 := by omega
    have h45 : ¬ c.toNat = 45 := by omega
    simp only [h43, h45, or_self, if_false, hk, not_false_eq_true, true_and, false_and]
    rw [if_neg (by simp; omega)]
    congr 1; omega
theorem itoa_len {z : Int} (h1 : -9223372036854775808 ≤ z) (h2 : z < 9223372036854775808) : 1 ≤ (Go.Lib.itoa z).length ∧ (Go.Lib.itoa z).length ≤ 21 := by
  unfold Go.Lib.itoa
  split
  · have := dg_len20 (u := z.natAbs) (by omega)
    simp; omega
  · have := dg_len20 (u := z.toNat) (by omega)
    have hne : 0 < (Go.Lib.decDigits z.toNat).length := List.length_pos_iff.2 (dg_ne _)
    omega
/-- The gaps of the law: a few blanks by a number. -/
def mark (n : Nat) : UInt8 := if n = 1 then 32 else if n = 2 then 9 else if n = 3 then 10 else 13
def gapN (n : Nat) : List UInt8 := if h : n = 0 then [] else (if n % 5 = 0 then [] else [mark (n % 5)]) ++ gapN (n / 5)
termination_by n
decreasing_by omega
theorem gapN_zero : gapN 0 = [] := by rw [gapN, dif_pos rfl]
theorem gapN_step {n : Nat} (h : n ≠ 0) : gapN n = (if n % 5 = 0 then [] else [mark (n % 5)]) ++ gapN (n / 5) := by rw [gapN, dif_neg h]
theorem mark_bl {n : Nat} : isBl (mark n) = true := by
  unfold mark
  repeat' split
  all_goals rfl
theorem gapN_bl (n : Nat) : allBl (gapN n) := by
  induction n using Nat.strongRecOn with
  | _ n ih =>
    by_cases h : n = 0
    · subst h
      rw [gapN_zero]
      intro x hx; simp at hx
    · rw [gapN_step h]
      intro x hx
      rcases List.mem_append.1 hx with hx | hx
      · split at hx
        · simp at hx
        · rw [List.mem_singleton] at hx
          subst hx; exact mark_bl
      · exact ih (n / 5) (by omega) x hx
theorem gapN_len : ∀ k n : Nat, n < 5 ^ k → (gapN n).length ≤ k
  | 0, n, h => by
    have : n = 0 := by simpa using h
    subst this; rw [gapN_zero]; exact Nat.le_refl _
  | k + 1, n, h => by
    by_cases h0 : n = 0
    · subst h0; rw [gapN_zero]; exact Nat.zero_le _
    · rw [gapN_step h0, List.length_append]
      have := gapN_len k (n / 5) (by rw [Nat.pow_succ] at h; omega)
      split
      · simp; omega
      · simp; omega
def gapA (l : List Int) (at_ : Nat) : List UInt8 := if l = [] then [] else gapN (l.getD (at_ % l.length) 0).toNat
theorem gapA_bl (l : List Int) (a : Nat) : allBl (gapA l a) := by
  unfold gapA
  split
  · intro x hx; simp at hx
  · exact gapN_bl _
theorem gapA_len {l : List Int} (h : ∀ z ∈ l, 0 ≤ z ∧ z < 256) (a : Nat) : (gapA l a).length ≤ 4 := by
  unfold gapA
  split
  · simp
  · rename_i hl
    refine gapN_len 4 _ ?_
    have hlt : a % l.length < l.length := Nat.mod_lt _ (List.length_pos_iff.2 hl)
    have := h _ (List.getElem_mem hlt)
    simp only [List.getD, List.getElem?_eq_getElem hlt, Option.getD_some]
    omega
/-- The items' text from item k on. -/
def itx (G : Nat → List UInt8) : Nat → List Int → List UInt8
  | _, [] => []
  | k, z :: l => (if k = 0 then [] else G (2 * k) ++ [44]) ++ (G (2 * k + 1) ++ (Go.Lib.itoa z ++ itx G (k + 1) l))
/-- The whole text. -/
def ltx (G : Nat → List UInt8) (l : List Int) : List UInt8 := G 0 ++ ([91] ++ (itx G 0 l ++ (G 3 ++ ([93] ++ G 4))))
theorem itx_snoc (G : Nat → List UInt8) : ∀ (l : List Int) (k : Nat) (z : Int), itx G k (l ++ [z]) = itx G k l ++ ((if k + l.length = 0 then [] else G (2 * (k + l.length)) ++ [44]) ++ (G (2 * (k + l.length) + 1) ++ Go.Lib.itoa z))
  | [], k, z => by simp [itx]
  | y :: l, k, z => by
    rw [List.cons_append, itx, itx, itx_snoc G l (k + 1) z, List.length_cons, show k + 1 + l.length = k + (l.length + 1) by omega]
    simp only [List.append_assoc]
theorem itx_len {G : Nat → List UInt8} (hG : ∀ k, (G k).length ≤ 4) : ∀ (l : List Int) (k : Nat), (∀ z ∈ l, -9223372036854775808 ≤ z ∧ z < 9223372036854775808) → (itx G k l).length ≤ 30 * l.length
  | [], k, _ => by simp [itx]
  | z :: l, k, h => by
    have h1 := itx_len hG l (k + 1) (fun x hx => h x (List.mem_cons_of_mem _ hx))
    have h2 := (itoa_len (h z List.mem_cons_self).1 (h z List.mem_cons_self).2).2
    have h3 := hG (2 * k)
    have h4 := hG (2 * k + 1)
    rw [itx, List.length_append, List.length_append, List.length_append, List.length_cons]
    split
    · simp only [List.length_nil]; omega
    · simp only [List.length_append, List.length_singleton]; omega
/-- A list of ints as a value. -/
def intV (z : Int) : Val := .mk 2 z 0 ⟨#[]⟩ [] []
def lstV (l : List Int) : Val := .mk 6 0 0 ⟨#[]⟩ (l.map intV) []
theorem lstV_bnd (l : List Int) : bnd (lstV l) = 1 + l.length := by
  have h : ∀ l : List Int, bndL (l.map intV) = l.length := by
    intro l
    induction l with
    | nil => rfl
    | cons z l ih =>
      rw [List.map_cons, bndL, ih, List.length_cons]
      have : bnd (intV z) = 1 := by unfold intV; rw [bnd]; rfl
      omega
  unfold lstV
  rw [bnd, h]
  show 1 + 0 + l.length + 0 = _
  omega
theorem lstV_wf {l : List Int} (h : ∀ z ∈ l, (Lit.int .i64 z).wf = true) : wfV (lstV l) := by
  refine wfV_iff.2 ⟨⟨rfl, rfl, rfl⟩, fun x hx => ?_⟩
  obtain ⟨z, hz, rfl⟩ := List.mem_map.1 (show x ∈ l.map intV from hx)
  exact wfV_iff.2 ⟨⟨rfl, h z hz, rfl⟩, fun y hy => absurd hy (by simp [intV, Val.its])⟩
end Go.Proofs.YtacnoedhpamdmaaGreatDoor
