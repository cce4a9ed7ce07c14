/- Plain facts: a block says the normal form of its parameters, what a block says has that block, one block just if the normal forms are the same (no program). Conditions: as stated. -/
import Derived.Test.YtofcdffcaiajmaaDoorDec
import Derived.Test.YtofcdffcaiajmaaDoorPlp
import Derived.Test.YtofcdffcaiajmaaDoorAlv
namespace Go.Proofs.YtofcdffcaiajmaaDoor
set_option linter.unusedVariables false

theorem rep_getD (n i : Nat) : (List.replicate n (0 : Int)).getD i 0 = 0 := by
  rw [List.getD_eq_getElem?_getD, List.getElem?_replicate]
  by_cases h : i < n
  · rw [if_pos h]; rfl
  · rw [if_neg h]; rfl
theorem ext_getD {xs ys : List Int} (hl : xs.length = ys.length) (h : ∀ i, i < xs.length → xs.getD i 0 = ys.getD i 0) : xs = ys := by
  apply List.ext_getElem hl
  intro i h1 h2
  have := h i h1
  simpa [List.getD, List.getElem?_eq_getElem h1, List.getElem?_eq_getElem h2] using this
theorem getD_out {xs : List Int} {i : Nat} (h : xs.length ≤ i) : xs.getD i 0 = 0 := by simp [List.getD, List.getElem?_eq_none h]
theorem seg_getD (xs : List Int) (a n i : Nat) : (seg xs a n).getD i 0 = if i < n then xs.getD (a + i) 0 else 0 := by
  unfold seg
  simp only [List.getD, List.getElem?_take, List.getElem?_drop]
  split <;> rfl
theorem blit_getD {xs ys : List Int} {a i : Nat} (h : a + ys.length ≤ xs.length) : (blit xs a ys).getD i 0 = if a ≤ i ∧ i < a + ys.length then ys.getD (i - a) 0 else xs.getD i 0 := by
  unfold blit
  have ht : (xs.take a).length = a := by simp; omega
  simp only [List.getD]
  by_cases h1 : i < a
  · rw [List.append_assoc, List.getElem?_append_left (by omega), List.getElem?_take, if_pos h1, if_neg (by omega)]
  · by_cases h2 : i < a + ys.length
    · rw [List.append_assoc, List.getElem?_append_right (by omega), ht, List.getElem?_append_left (by omega), if_pos (by omega)]
    · rw [List.getElem?_append_right (by simp; omega), List.getElem?_drop, if_neg (by omega)]
      congr 2
      simp; omega
theorem keep_zero (xs : List Int) : ∀ n i, keep xs n ≤ i → i < n → xs.getD i 0 = 0
  | 0, _, _, h => absurd h (by omega)
  | n + 1, i, h1, h2 => by
    unfold keep at h1
    split at h1
    · rename_i hz
      by_cases e : i = n
      · subst e; exact hz
      · exact keep_zero xs n i h1 (by omega)
    · omega
theorem keep_last (xs : List Int) : ∀ n, keep xs n = 0 ∨ xs.getD (keep xs n - 1) 0 ≠ 0
  | 0 => .inl rfl
  | n + 1 => by
    unfold keep
    split
    · exact keep_last xs n
    · rename_i h; exact .inr (by simpa using h)
theorem trim_len (xs : List Int) : (trim xs).length = keep xs xs.length := by
  unfold trim; have := keep_le xs xs.length; simp; omega
theorem trim_getD (xs : List Int) (i : Nat) : (trim xs).getD i 0 = xs.getD i 0 := by
  by_cases h : i < keep xs xs.length
  · unfold trim; simp only [List.getD, List.getElem?_take, if_pos h]
  · rw [getD_out (by rw [trim_len]; omega)]
    by_cases h2 : i < xs.length
    · exact (keep_zero xs _ i (by omega) h2).symm
    · exact (getD_out (by omega)).symm
theorem keep_unique {xs ys : List Int} (h : ∀ i, xs.getD i 0 = ys.getD i 0) : keep xs xs.length ≤ keep ys ys.length := by
  rcases keep_last xs xs.length with h0 | h0
  · omega
  · refine Nat.le_of_not_lt fun hlt => h0 ?_
    rw [h]
    by_cases h2 : keep xs xs.length - 1 < ys.length
    · exact keep_zero ys _ _ (by omega) h2
    · exact getD_out (by omega)
theorem trim_ext {xs ys : List Int} (h : ∀ i, xs.getD i 0 = ys.getD i 0) : trim xs = trim ys := by
  have e : keep xs xs.length = keep ys ys.length := Nat.le_antisymm (keep_unique h) (keep_unique fun i => (h i).symm)
  refine ext_getD (by rw [trim_len, trim_len, e]) fun i _ => ?_
  rw [trim_getD, trim_getD, h]
theorem trim_mem {xs : List Int} (h : ∀ z ∈ xs, 0 ≤ z ∧ z < 256) : ∀ z ∈ trim xs, 0 ≤ z ∧ z < 256 := fun z hz => h z (List.mem_of_mem_take hz)
theorem seg_mem {xs : List Int} (h : ∀ z ∈ xs, 0 ≤ z ∧ z < 256) (a n : Nat) : ∀ z ∈ seg xs a n, 0 ≤ z ∧ z < 256 := fun z hz => h z (List.mem_of_mem_drop (List.mem_of_mem_take hz))
/-- Bytes out of a number. -/
theorem le_bytes (xs : List Int) (a : Nat) (v : Nat) (n : Nat) (h : a + n ≤ xs.length) (hb : ∀ i, i < n → xs.getD (a + i) 0 = (v : Int) / 2 ^ (8 * i) % 256) : ∀ j, j ≤ n → le (seg xs a j) = (v : Int) % 256 ^ j
  | 0, _ => by simp [seg, le]
  | j + 1, hj => by
    have ih := le_bytes xs a v n h hb j (by omega)
    have hl := seg_len (xs := xs) (a := a) (n := j) (by omega)
    unfold seg at ih hl ⊢
    rw [drop_take_snoc _ _ _ (by omega), le_snoc, ih, hb j (by omega), hl]
    exact emod_step v j
theorem le_bytesI {xs : List Int} {a n : Nat} {V : Int} (h : a + n ≤ xs.length) (h0 : 0 ≤ V) (h1 : V < 256 ^ n) (hb : ∀ i, i < n → xs.getD (a + i) 0 = V / 2 ^ (8 * i) % 256) : le (seg xs a n) = V := by
  obtain ⟨v, rfl⟩ := Int.eq_ofNat_of_zero_le h0
  rw [le_bytes xs a v n h hb n (Nat.le_refl _)]
  exact Int.emod_eq_of_lt h0 h1
/-- A number's bytes. -/
theorem byte_of_le : ∀ (l : List Int), (∀ z ∈ l, 0 ≤ z ∧ z < 256) → ∀ i, le l / 2 ^ (8 * i) % 256 = l.getD i 0
  | [], _, i => by simp [le]
  | x :: r, h, 0 => by
    have h2 := h x (List.mem_cons_self ..)
    simp [le]
    omega
  | x :: r, h, i + 1 => by
    have h2 := h x (List.mem_cons_self ..)
    have ih := byte_of_le r (fun z hz => h z (List.mem_cons_of_mem _ hz)) i
    have e : (2 : Int) ^ (8 * (i + 1)) = 256 * 2 ^ (8 * i) := by
      rw [Nat.mul_add, Int.pow_add, Int.mul_comm]; rfl
    have e2 : (x + 256 * le r) / 256 = le r := by omega
    rw [le, e, ← Int.ediv_ediv_of_nonneg (by decide), e2, ih]
    simp [List.getD]
theorem encN_get {k : Int} {p : Pm} {j : Nat} (i : Nat) (h : fatN k j + fszN k j ≤ ksz k) :
    (encN k p (j + 1)).getD i 0 = if ¬(j = 6 ∧ p.xof = 0) ∧ fatN k j ≤ i ∧ i < fatN k j + fszN k j then fv p j / 2 ^ (8 * (i - fatN k j)) % 256 else (encN k p j).getD i 0 := by
  show (if j = 6 ∧ p.xof = 0 then encN k p j else layL (encN k p j) (fatN k j) (fv p j) (fszN k j)).getD i 0 = _
  by_cases h6 : j = 6 ∧ p.xof = 0
  · rw [if_pos h6, if_neg (fun x => x.1 h6)]
  · rw [if_neg h6, layL_get _ _ _ _ _ (by rw [encN_len]; exact h)]
    by_cases h7 : fatN k j ≤ i ∧ i < fatN k j + fszN k j
    · rw [if_pos h7, if_pos ⟨h6, h7⟩]
    · rw [if_neg h7, if_neg (fun x => h7 x.2)]
/-- A byte of the fields. -/
def fb (k : Int) (p : Pm) (i : Nat) : Int :=
  if k = 1 then
    if i = 0 then p.d % 256 else if i = 1 then p.key % 256 else if i = 2 then p.fo % 256 else if i = 3 then p.de % 256
    else if i < 8 then p.leaf / 2 ^ (8 * (i - 4)) % 256
    else if i < 12 then p.off / 2 ^ (8 * (i - 8)) % 256
    else if i < 16 then (if p.xof = 0 then p.off / 2 ^ (8 * (i - 8)) % 256 else p.xof / 2 ^ (8 * (i - 12)) % 256)
    else if i = 16 then p.nd % 256 else if i = 17 then p.inn % 256 else 0
  else
    if i = 0 then p.d % 256 else if i = 1 then p.key % 256 else if i = 2 then p.fo % 256 else if i = 3 then p.de % 256
    else if i < 8 then p.leaf / 2 ^ (8 * (i - 4)) % 256
    else if i < 12 then p.off / 2 ^ (8 * (i - 8)) % 256
    else if i < 14 then (if p.xof = 0 then p.off / 2 ^ (8 * (i - 8)) % 256 else p.xof / 2 ^ (8 * (i - 12)) % 256)
    else if i = 14 then p.nd % 256 else if i = 15 then p.inn % 256 else 0
theorem enc9_get {k : Int} (hk : k = 1 ∨ k = 2) (p : Pm) (i : Nat) (hi : i < ksz k) : (encN k p 9).getD i 0 = fb k p i := by
  have hz : (encN k p 0).getD i 0 = 0 := rep_getD _ _
  rcases hk with rfl | rfl
  · rw [encN_get i (by decide), encN_get i (by decide), encN_get i (by decide), encN_get i (by decide), encN_get i (by decide), encN_get i (by decide), encN_get i (by decide), encN_get i (by decide), encN_get i (by decide), hz]
    unfold fb
    simp only [show fatN 1 0 = 0 from rfl, show fatN 1 1 = 1 from rfl, show fatN 1 2 = 2 from rfl, show fatN 1 3 = 3 from rfl, show fatN 1 4 = 4 from rfl, show fatN 1 5 = 8 from rfl, show fatN 1 6 = 12 from rfl, show fatN 1 7 = 16 from rfl, show fatN 1 8 = 17 from rfl, show fszN 1 0 = 1 from rfl, show fszN 1 1 = 1 from rfl, show fszN 1 2 = 1 from rfl, show fszN 1 3 = 1 from rfl, show fszN 1 4 = 4 from rfl, show fszN 1 5 = 8 from rfl, show fszN 1 6 = 4 from rfl, show fszN 1 7 = 1 from rfl, show fszN 1 8 = 1 from rfl,
      show fv p 0 = p.d from rfl, show fv p 1 = p.key from rfl, show fv p 2 = p.fo from rfl, show fv p 3 = p.de from rfl, show fv p 4 = p.leaf from rfl, show fv p 5 = p.off from rfl, show fv p 6 = p.xof from rfl, show fv p 7 = p.nd from rfl, show fv p 8 = p.inn from rfl]
    have hc : i < 18 ∨ 18 ≤ i := by omega
    rcases hc with hc | hc
    · have : i = 0 ∨ i = 1 ∨ i = 2 ∨ i = 3 ∨ i = 4 ∨ i = 5 ∨ i = 6 ∨ i = 7 ∨ i = 8 ∨ i = 9 ∨ i = 10 ∨ i = 11 ∨ i = 12 ∨ i = 13 ∨ i = 14 ∨ i = 15 ∨ i = 16 ∨ i = 17 := by omega
      rcases this with rfl | rfl | rfl | rfl | rfl | rfl | rfl | rfl | rfl | rfl | rfl | rfl | rfl | rfl | rfl | rfl | rfl | rfl <;> by_cases hx : p.xof = 0 <;> simp [hx]
    · repeat rw [if_neg (by omega)]
      rw [if_pos trivial]
      repeat rw [if_neg (by omega)]
  · rw [encN_get i (by decide), encN_get i (by decide), encN_get i (by decide), encN_get i (by decide), encN_get i (by decide), encN_get i (by decide), encN_get i (by decide), encN_get i (by decide), encN_get i (by decide), hz]
    unfold fb
    simp only [show fatN 2 0 = 0 from rfl, show fatN 2 1 = 1 from rfl, show fatN 2 2 = 2 from rfl, show fatN 2 3 = 3 from rfl, show fatN 2 4 = 4 from rfl, show fatN 2 5 = 8 from rfl, show fatN 2 6 = 12 from rfl, show fatN 2 7 = 14 from rfl, show fatN 2 8 = 15 from rfl, show fszN 2 0 = 1 from rfl, show fszN 2 1 = 1 from rfl, show fszN 2 2 = 1 from rfl, show fszN 2 3 = 1 from rfl, show fszN 2 4 = 4 from rfl, show fszN 2 5 = 6 from rfl, show fszN 2 6 = 2 from rfl, show fszN 2 7 = 1 from rfl, show fszN 2 8 = 1 from rfl,
      show fv p 0 = p.d from rfl, show fv p 1 = p.key from rfl, show fv p 2 = p.fo from rfl, show fv p 3 = p.de from rfl, show fv p 4 = p.leaf from rfl, show fv p 5 = p.off from rfl, show fv p 6 = p.xof from rfl, show fv p 7 = p.nd from rfl, show fv p 8 = p.inn from rfl]
    have hc : i < 16 ∨ 16 ≤ i := by omega
    rcases hc with hc | hc
    · have : i = 0 ∨ i = 1 ∨ i = 2 ∨ i = 3 ∨ i = 4 ∨ i = 5 ∨ i = 6 ∨ i = 7 ∨ i = 8 ∨ i = 9 ∨ i = 10 ∨ i = 11 ∨ i = 12 ∨ i = 13 ∨ i = 14 ∨ i = 15 := by omega
      rcases this with rfl | rfl | rfl | rfl | rfl | rfl | rfl | rfl | rfl | rfl | rfl | rfl | rfl | rfl | rfl | rfl <;> by_cases hx : p.xof = 0 <;> simp [hx]
    · repeat rw [if_neg (by omega)]
/-- A byte of the block. -/
theorem encB_get {k : Int} {p : Pm} (h0 : chkP k p = 0) (i : Nat) (hi : i < ksz k) : (encB k p).getD i 0 = if 3 * ksl k ≤ i then p.t.getD (i - 3 * ksl k) 0 else if 2 * ksl k ≤ i then p.s.getD (i - 2 * ksl k) 0 else fb k p i := by
  have hk := (chk_ok h0).1
  have h := (chk_ok h0).2.2.2.2.2.2.2
  have e : kmost k / 4 = (ksl k : Int) := by rcases hk with rfl | rfl <;> rfl
  rw [e] at h
  have h4 := (ksz_bd k).2.2
  have h9 := encN_len k p 9
  have h1 : (blit (encN k p 9) (2 * ksl k) p.s).length = ksz k := by rw [blit_len (by omega), h9]
  have hf : 2 * ksl k ≤ i → fb k p i = 0 := by
    intro hi2
    rcases hk with rfl | rfl
    · have : 32 ≤ i := hi2
      unfold fb
      rw [if_pos rfl]
      repeat rw [if_neg (by omega)]
    · have : 16 ≤ i := hi2
      unfold fb
      repeat rw [if_neg (by omega)]
  unfold encB
  rw [blit_getD (by omega), blit_getD (by omega), enc9_get hk p i hi]
  by_cases h2 : 3 * ksl k ≤ i
  · rw [if_pos h2]
    by_cases h3 : i < 3 * ksl k + p.t.length
    · rw [if_pos ⟨h2, h3⟩]
    · rw [if_neg (fun x => h3 x.2), if_neg (by omega), hf (by omega), getD_out (xs := p.t) (by omega)]
  · rw [if_neg h2, if_neg (fun x => h2 x.1)]
    by_cases h3 : 2 * ksl k ≤ i
    · rw [if_pos h3]
      by_cases h5 : i < 2 * ksl k + p.s.length
      · rw [if_pos ⟨h3, h5⟩]
      · rw [if_neg (fun x => h5 x.2), hf h3, getD_out (xs := p.s) (by omega)]
    · rw [if_neg h3, if_neg (fun x => h3 x.1)]
theorem if_zero {c : Prop} [Decidable c] {a b : Int} (ha : a ≠ 0) (h : (if c then a else b) = 0) : ¬c ∧ b = 0 := by
  by_cases hc : c
  · rw [if_pos hc] at h; exact absurd h ha
  · rw [if_neg hc] at h; exact ⟨hc, h⟩
theorem chk_lens {k : Int} {p q : Pm} (h : chkP k p = 0) (e1 : q.d = p.d) (e2 : q.key = p.key) (e3 : q.fo = p.fo) (e4 : q.de = p.de) (e5 : q.off = p.off) (e6 : q.xof = p.xof) (e7 : q.nd = p.nd) (e8 : q.inn = p.inn)
    (hs : (q.s.length : Int) ≤ kmost k / 4) (ht : (q.t.length : Int) ≤ kmost k / 4) : chkP k q = 0 := by
  unfold chkP chkOf chk at h ⊢
  rw [e1, e2, e3, e4, e5, e6, e7, e8]
  obtain ⟨h1, h⟩ := if_zero (by decide) h
  obtain ⟨h2, h⟩ := if_zero (by decide) h
  obtain ⟨h3, h⟩ := if_zero (by decide) h
  obtain ⟨h4, h⟩ := if_zero (by decide) h
  obtain ⟨h5, h⟩ := if_zero (by decide) h
  obtain ⟨h6, h⟩ := if_zero (by decide) h
  obtain ⟨h7, h⟩ := if_zero (by decide) h
  obtain ⟨h8, h⟩ := if_zero (by decide) h
  obtain ⟨h9, h⟩ := if_zero (by decide) h
  rw [if_neg h1, if_neg h2, if_neg h3, if_neg h4, if_neg h5, if_neg h6, if_neg h7, if_neg h8, if_neg h9, if_neg (by omega), if_neg (by omega)]
theorem chk_more {k : Int} {p : Pm} (h : chkP k p = 0) : (p.xof ≠ 0 → p.off < 4294967296) ∧ (p.xof = 0 → k = 2 → p.off < 281474976710656) ∧ (k = 2 → p.xof ≤ 65535) ∧ p.d ≤ kmost k ∧ p.key ≤ kmost k ∧ p.inn ≤ kmost k := by
  unfold chkP chkOf chk at h
  obtain ⟨h1, h⟩ := if_zero (by decide) h
  obtain ⟨h2, h⟩ := if_zero (by decide) h
  obtain ⟨h3, h⟩ := if_zero (by decide) h
  obtain ⟨h4, h⟩ := if_zero (by decide) h
  obtain ⟨h5, h⟩ := if_zero (by decide) h
  obtain ⟨h6, h⟩ := if_zero (by decide) h
  obtain ⟨h7, h⟩ := if_zero (by decide) h
  obtain ⟨h8, h⟩ := if_zero (by decide) h
  obtain ⟨h9, h⟩ := if_zero (by decide) h
  refine ⟨fun hx => ?_, fun hx hk => ?_, fun hk => ?_, by omega, by omega, by omega⟩
  · refine Int.not_le.1 fun hle => h6 (.inl ⟨by simpa using hx, by simpa using hle⟩)
  · refine Int.not_le.1 fun hle => h6 (.inr ⟨by simpa using hx, hk, by simpa using hle⟩)
  · refine Int.not_lt.1 fun hle => h7 ⟨hk, by simpa using hle⟩
theorem kmost4 {k : Int} (hk : k = 1 ∨ k = 2) : kmost k / 4 = (ksl k : Int) := by rcases hk with rfl | rfl <;> rfl
theorem norm_chk {k : Int} {p : Pm} (h : chkP k p = 0) : chkP k p.norm = 0 := by
  have hk := (chk_ok h).2.2.2.2.2.2.2
  exact chk_lens h rfl rfl rfl rfl rfl rfl rfl rfl (by have := trim_le p.s; show ((trim p.s).length : Int) ≤ _; omega) (by have := trim_le p.t; show ((trim p.t).length : Int) ≤ _; omega)
theorem norm_ok {p : Pm} (h : PmOk p) : PmOk p.norm := ⟨h.leaf, h.off, h.xof⟩
/-- C: the block hangs on the normal form alone. -/
theorem enc_norm {k : Int} {p : Pm} (h : chkP k p = 0) : encB k p.norm = encB k p := by
  have h' := norm_chk h
  refine ext_getD (by rw [encB_len h, encB_len h']) fun i hi => ?_
  rw [encB_len h'] at hi
  rw [encB_get h i hi, encB_get h' i hi]
  show (if 3 * ksl k ≤ i then (trim p.t).getD (i - 3 * ksl k) 0 else if 2 * ksl k ≤ i then (trim p.s).getD (i - 2 * ksl k) 0 else fb k p i) = _
  rw [trim_getD, trim_getD]
theorem mod_small {a : Int} (h : 0 ≤ a ∧ a < 256) : a % 256 = a := by omega
/-- A: the block says the normal form, in its own form. -/
theorem dec_enc {k : Int} {p : Pm} (h : chkP k p = 0) (ho : PmOk p) (ext : Bool) (hx : ext = true ↔ p.xof ≠ 0) : decE k (encB k p) ext = 0 ∧ decA k (encB k p) ext = p.norm := by
  obtain ⟨hk, ⟨a1, a2⟩, ⟨b1, b2⟩, ⟨c1, c2⟩, ⟨d1, d2⟩, ⟨e1, e2⟩, ⟨f1, f2⟩, g1, g2⟩ := chk_ok h
  obtain ⟨m1, m2, m3, _⟩ := chk_more h
  obtain ⟨l1, l2⟩ := ho.leaf
  obtain ⟨o1, o2⟩ := ho.off
  obtain ⟨x1, x2⟩ := ho.xof
  rw [kmost4 hk] at g1 g2
  have hl := encB_len h
  have hg := encB_get h
  have h4 := (ksz_bd k).2.2
  have hsz : szerr k (encB k p).length = 0 := by rw [hl]; rcases hk with rfl | rfl <;> rfl
  have hsg : ∀ i, (seg (encB k p) (2 * ksl k) (ksl k)).getD i 0 = p.s.getD i 0 := fun i => by
    rw [seg_getD]
    by_cases hi : i < ksl k
    · rw [if_pos hi, hg _ (by omega), if_neg (by omega), if_pos (by omega), Nat.add_sub_cancel_left]
    · rw [if_neg hi, getD_out (xs := p.s) (by omega)]
  have htg : ∀ i, (seg (encB k p) (3 * ksl k) (ksl k)).getD i 0 = p.t.getD i 0 := fun i => by
    rw [seg_getD]
    by_cases hi : i < ksl k
    · rw [if_pos hi, hg _ (by omega), if_pos (by omega), Nat.add_sub_cancel_left]
    · rw [if_neg hi, getD_out (xs := p.t) (by omega)]
  have hf : ∀ i, i < 2 * ksl k → (encB k p).getD i 0 = fb k p i := fun i hi => by rw [hg i (by omega), if_neg (by omega), if_neg (by omega)]
  have hk8 : 8 ≤ ksl k := by rcases hk with rfl | rfl <;> decide
  have hleaf : le (seg (encB k p) 4 4) = p.leaf := le_bytesI (by omega) l1 l2 fun i hi => by
    rw [hf _ (by omega)]
    unfold fb
    have : i = 0 ∨ i = 1 ∨ i = 2 ∨ i = 3 := by omega
    rcases hk with rfl | rfl <;> rcases this with rfl | rfl | rfl | rfl <;> simp
  have hoff4 : p.xof ≠ 0 → le (seg (encB k p) 8 4) = p.off := fun hx => le_bytesI (by omega) o1 (m1 hx) fun i hi => by
    rw [hf _ (by omega)]
    unfold fb
    have : i = 0 ∨ i = 1 ∨ i = 2 ∨ i = 3 := by omega
    rcases hk with rfl | rfl <;> rcases this with rfl | rfl | rfl | rfl <;> simp
  have hoff8 : p.xof = 0 → le (seg (encB k p) 8 (fszN k 5)) = p.off := fun hx => by
    rcases hk with rfl | rfl
    · refine le_bytesI (n := 8) (by omega) o1 o2 fun i hi => ?_
      rw [hf _ (by show 8 + i < 32; omega)]
      unfold fb
      have : i = 0 ∨ i = 1 ∨ i = 2 ∨ i = 3 ∨ i = 4 ∨ i = 5 ∨ i = 6 ∨ i = 7 := by omega
      rcases this with rfl | rfl | rfl | rfl | rfl | rfl | rfl | rfl <;> simp [hx]
    · refine le_bytesI (n := 6) (by omega) o1 (m2 hx rfl) fun i hi => ?_
      rw [hf _ (by show 8 + i < 16; omega)]
      unfold fb
      have : i = 0 ∨ i = 1 ∨ i = 2 ∨ i = 3 ∨ i = 4 ∨ i = 5 := by omega
      rcases this with rfl | rfl | rfl | rfl | rfl | rfl <;> simp [hx]
  have hxof : p.xof ≠ 0 → le (seg (encB k p) (fatN k 6) (fszN k 6)) = p.xof := fun hx => by
    rcases hk with rfl | rfl
    · refine le_bytesI (a := 12) (n := 4) (by omega) x1 x2 fun i hi => ?_
      rw [hf _ (by show 12 + i < 32; omega)]
      unfold fb
      have : i = 0 ∨ i = 1 ∨ i = 2 ∨ i = 3 := by omega
      rcases this with rfl | rfl | rfl | rfl <;> simp [hx]
    · refine le_bytesI (a := 12) (n := 2) (by omega) x1 (by have := m3 rfl; show p.xof < 65536; omega) fun i hi => ?_
      rw [hf _ (by show 12 + i < 16; omega)]
      unfold fb
      have : i = 0 ∨ i = 1 := by omega
      rcases this with rfl | rfl <;> simp [hx]
  have hz0 : (encB k p).getD 0 0 = p.d := by rw [hf 0 (by omega)]; unfold fb; rcases hk with rfl | rfl <;> simp <;> omega
  have hz1 : (encB k p).getD 1 0 = p.key := by rw [hf 1 (by omega)]; unfold fb; rcases hk with rfl | rfl <;> simp <;> omega
  have hz2 : (encB k p).getD 2 0 = p.fo := by rw [hf 2 (by omega)]; unfold fb; rcases hk with rfl | rfl <;> simp <;> omega
  have hz3 : (encB k p).getD 3 0 = p.de := by rw [hf 3 (by omega)]; unfold fb; rcases hk with rfl | rfl <;> simp <;> omega
  have hz7 : (encB k p).getD (fatN k 7) 0 = p.nd := by
    rcases hk with rfl | rfl
    · rw [show fatN 1 7 = 16 from rfl, hf 16 (by decide)]; unfold fb; simp; omega
    · rw [show fatN 2 7 = 14 from rfl, hf 14 (by decide)]; unfold fb; simp; omega
  have hz8 : (encB k p).getD (fatN k 8) 0 = p.inn := by
    rcases hk with rfl | rfl
    · rw [show fatN 1 8 = 17 from rfl, hf 17 (by decide)]; unfold fb; simp; omega
    · rw [show fatN 2 8 = 15 from rfl, hf 15 (by decide)]; unfold fb; simp; omega
  have hraw : decRaw k (encB k p) ext = { p with s := seg (encB k p) (2 * ksl k) (ksl k), t := seg (encB k p) (3 * ksl k) (ksl k) } := by
    unfold decRaw
    rw [hz0, hz1, hz2, hz3, hz7, hz8, hleaf]
    by_cases hx0 : p.xof = 0
    · have : ext = false := by cases ext with | false => rfl | true => exact absurd hx0 (hx.1 rfl)
      subst this
      rw [if_neg (by decide), if_neg (by decide), hoff8 hx0, ← hx0]
    · obtain rfl := hx.2 hx0
      rw [if_pos rfl, if_pos rfl, hoff4 hx0, hxof hx0]
  have hsl := seg_len (xs := encB k p) (a := 2 * ksl k) (n := ksl k) (by omega)
  have htl := seg_len (xs := encB k p) (a := 3 * ksl k) (n := ksl k) (by omega)
  have hE : decE k (encB k p) ext = 0 := by
    unfold decE
    rw [if_neg (by rw [hsz]; decide), if_neg, if_neg, hraw]
    · exact chk_lens h rfl rfl rfl rfl rfl rfl rfl rfl (by show ((seg _ _ _).length : Int) ≤ _; rw [hsl, kmost4 hk]; omega) (by show ((seg _ _ _).length : Int) ≤ _; rw [htl, kmost4 hk]; omega)
    · rw [hraw]
      rintro ⟨h1, h2⟩
      exact (hx.1 h1) h2
    · rintro ⟨rfl, h2⟩
      refine h2 (ext_getD (by rw [seg_len (by rw [hl]; decide)]; simp) fun i hi => ?_)
      rw [seg_len (by rw [hl]; decide)] at hi
      rw [seg_getD, if_pos hi, hf _ (by show 18 + i < 32; omega)]
      unfold fb
      rw [if_pos rfl]
      repeat rw [if_neg (by omega)]
      exact (rep_getD _ _).symm
  refine ⟨hE, ?_⟩
  unfold decA
  rw [if_pos hE, hraw]
  unfold Pm.norm
  simp only [trim_ext hsg, trim_ext htg]
/-- B: what a block says has that block. -/
theorem enc_dec {k : Int} {xs : List Int} {ext : Bool} (hb : ∀ z ∈ xs, 0 ≤ z ∧ z < 256) (h : decE k xs ext = 0) :
    chkP k (decA k xs ext) = 0 ∧ PmOk (decA k xs ext) ∧ encB k (decA k xs ext) = xs ∧ (ext = true ↔ (decA k xs ext).xof ≠ 0) := by
  have hA : decA k xs ext = (decRaw k xs ext).norm := if_pos h
  unfold decE at h
  split at h
  · rename_i h1; exact absurd h h1
  rename_i h1
  split at h
  · cases h
  rename_i h2
  split at h
  · cases h
  rename_i h3
  have h1 : szerr k xs.length = 0 := Classical.byContradiction h1
  have hk := (chk_ok h).1
  have hl : xs.length = ksz k := by
    unfold szerr at h1
    rw [if_pos hk] at h1
    have : kmost k = (ksz k : Int) := by rcases hk with rfl | rfl <;> rfl
    rw [this] at h1
    split at h1
    · cases h1
    · split at h1
      · cases h1
      · omega
  have hx : ext = true ↔ (decRaw k xs ext).xof ≠ 0 := by
    cases ext with
    | false => simp [decRaw]
    | true => exact ⟨fun _ h => h3 ⟨rfl, h⟩, fun _ => rfl⟩
  have hsegb : ∀ a n, a + n ≤ xs.length → 0 ≤ le (seg xs a n) ∧ le (seg xs a n) < 256 ^ n := fun a n h => by
    have := le_bound (seg xs a n) (seg_mem hb a n)
    rw [seg_len h] at this
    exact this
  have h4 := (ksz_bd k).2.2
  have hk8 : 8 ≤ ksl k := by rcases hk with rfl | rfl <;> decide
  have hok : PmOk (decRaw k xs ext) := by
    refine ⟨hsegb 4 4 (by omega), ?_, ?_⟩
    · show 0 ≤ (if ext then le (seg xs 8 4) else le (seg xs 8 (fszN k 5))) ∧ (if ext then le (seg xs 8 4) else le (seg xs 8 (fszN k 5))) < _
      have p4 := hsegb 8 4 (by omega)
      have q4 : (256 : Int) ^ 4 ≤ 18446744073709551616 := by decide
      split
      · omega
      · rcases hk with rfl | rfl
        · exact hsegb 8 8 (by omega)
        · have p6 := hsegb 8 6 (by omega)
          have q6 : (256 : Int) ^ 6 ≤ 18446744073709551616 := by decide
          show 0 ≤ le (seg xs 8 6) ∧ le (seg xs 8 6) < _
          omega
    · show 0 ≤ (if ext then le (seg xs (fatN k 6) (fszN k 6)) else 0) ∧ (if ext then le (seg xs (fatN k 6) (fszN k 6)) else 0) < _
      split
      · rcases hk with rfl | rfl
        · exact hsegb 12 4 (by omega)
        · have p6 := hsegb 12 2 (by omega)
          have q6 : (256 : Int) ^ 2 ≤ 4294967296 := by decide
          show 0 ≤ le (seg xs 12 2) ∧ le (seg xs 12 2) < _
          omega
      · omega
  have hbyte : ∀ a n i, i < n → le (seg xs a n) / 2 ^ (8 * i) % 256 = xs.getD (a + i) 0 := fun a n i hi => by
    rw [byte_of_le _ (seg_mem hb a n), seg_getD, if_pos hi]
  rw [hA]
  refine ⟨norm_chk h, norm_ok hok, ?_, hx⟩
  rw [enc_norm h]
  refine ext_getD (by rw [encB_len h, hl]) fun i hi => ?_
  rw [encB_len h] at hi
  rw [encB_get h i hi]
  by_cases i3 : 3 * ksl k ≤ i
  · rw [if_pos i3]
    show (seg xs (3 * ksl k) (ksl k)).getD _ 0 = _
    rw [seg_getD, if_pos (by omega)]
    congr 1; omega
  rw [if_neg i3]
  by_cases i2 : 2 * ksl k ≤ i
  · rw [if_pos i2]
    show (seg xs (2 * ksl k) (ksl k)).getD _ 0 = _
    rw [seg_getD, if_pos (by omega)]
    congr 1; omega
  rw [if_neg i2]
  have hm : ∀ j, xs.getD j 0 % 256 = xs.getD j 0 := fun j => by have := mem_bd hb j; omega
  have hxf : ext = false → (decRaw k xs ext).xof = 0 := fun h => by subst h; rfl
  rcases hk with rfl | rfl
  · have i2 : i < 32 := by have : ksl 1 = 16 := rfl; omega
    have hc : i < 18 ∨ 18 ≤ i := by omega
    rcases hc with hc | hc
    · have : i = 0 ∨ i = 1 ∨ i = 2 ∨ i = 3 ∨ i = 4 ∨ i = 5 ∨ i = 6 ∨ i = 7 ∨ i = 8 ∨ i = 9 ∨ i = 10 ∨ i = 11 ∨ i = 12 ∨ i = 13 ∨ i = 14 ∨ i = 15 ∨ i = 16 ∨ i = 17 := by omega
      cases hext : ext with
      | false =>
        subst hext
        rcases this with rfl | rfl | rfl | rfl | rfl | rfl | rfl | rfl | rfl | rfl | rfl | rfl | rfl | rfl | rfl | rfl | rfl | rfl
        · exact hm 0
        · exact hm 1
        · exact hm 2
        · exact hm 3
        · exact hbyte 4 4 0 (by omega)
        · exact hbyte 4 4 1 (by omega)
        · exact hbyte 4 4 2 (by omega)
        · exact hbyte 4 4 3 (by omega)
        · exact hbyte 8 8 0 (by omega)
        · exact hbyte 8 8 1 (by omega)
        · exact hbyte 8 8 2 (by omega)
        · exact hbyte 8 8 3 (by omega)
        · exact hbyte 8 8 4 (by omega)
        · exact hbyte 8 8 5 (by omega)
        · exact hbyte 8 8 6 (by omega)
        · exact hbyte 8 8 7 (by omega)
        · exact hm 16
        · exact hm 17
      | true =>
        subst hext
        have hx' := hx.1 rfl
        rcases this with rfl | rfl | rfl | rfl | rfl | rfl | rfl | rfl | rfl | rfl | rfl | rfl | rfl | rfl | rfl | rfl | rfl | rfl
        · exact hm 0
        · exact hm 1
        · exact hm 2
        · exact hm 3
        · exact hbyte 4 4 0 (by omega)
        · exact hbyte 4 4 1 (by omega)
        · exact hbyte 4 4 2 (by omega)
        · exact hbyte 4 4 3 (by omega)
        · exact hbyte 8 4 0 (by omega)
        · exact hbyte 8 4 1 (by omega)
        · exact hbyte 8 4 2 (by omega)
        · exact hbyte 8 4 3 (by omega)
        · unfold fb; simp only [if_neg hx']; exact hbyte 12 4 0 (by omega)
        · unfold fb; simp only [if_neg hx']; exact hbyte 12 4 1 (by omega)
        · unfold fb; simp only [if_neg hx']; exact hbyte 12 4 2 (by omega)
        · unfold fb; simp only [if_neg hx']; exact hbyte 12 4 3 (by omega)
        · exact hm 16
        · exact hm 17
    · have hz : seg xs 18 14 = List.replicate 14 0 := Classical.byContradiction fun hn => h2 ⟨rfl, hn⟩
      have hz' : (seg xs 18 14).getD (i - 18) 0 = 0 := by rw [hz]; exact rep_getD _ _
      rw [seg_getD, if_pos (by omega), show 18 + (i - 18) = i from by omega] at hz'
      rw [hz']
      unfold fb
      rw [if_pos rfl]
      repeat rw [if_neg (by omega)]
  · have i2 : i < 16 := by have : ksl 2 = 8 := rfl; omega
    have : i = 0 ∨ i = 1 ∨ i = 2 ∨ i = 3 ∨ i = 4 ∨ i = 5 ∨ i = 6 ∨ i = 7 ∨ i = 8 ∨ i = 9 ∨ i = 10 ∨ i = 11 ∨ i = 12 ∨ i = 13 ∨ i = 14 ∨ i = 15 := by omega
    cases hext : ext with
    | false =>
      subst hext
      rcases this with rfl | rfl | rfl | rfl | rfl | rfl | rfl | rfl | rfl | rfl | rfl | rfl | rfl | rfl | rfl | rfl
      · exact hm 0
      · exact hm 1
      · exact hm 2
      · exact hm 3
      · exact hbyte 4 4 0 (by omega)
      · exact hbyte 4 4 1 (by omega)
      · exact hbyte 4 4 2 (by omega)
      · exact hbyte 4 4 3 (by omega)
      · exact hbyte 8 6 0 (by omega)
      · exact hbyte 8 6 1 (by omega)
      · exact hbyte 8 6 2 (by omega)
      · exact hbyte 8 6 3 (by omega)
      · exact hbyte 8 6 4 (by omega)
      · exact hbyte 8 6 5 (by omega)
      · exact hm 14
      · exact hm 15
    | true =>
      subst hext
      have hx' := hx.1 rfl
      rcases this with rfl | rfl | rfl | rfl | rfl | rfl | rfl | rfl | rfl | rfl | rfl | rfl | rfl | rfl | rfl | rfl
      · exact hm 0
      · exact hm 1
      · exact hm 2
      · exact hm 3
      · exact hbyte 4 4 0 (by omega)
      · exact hbyte 4 4 1 (by omega)
      · exact hbyte 4 4 2 (by omega)
      · exact hbyte 4 4 3 (by omega)
      · exact hbyte 8 4 0 (by omega)
      · exact hbyte 8 4 1 (by omega)
      · exact hbyte 8 4 2 (by omega)
      · exact hbyte 8 4 3 (by omega)
      · unfold fb; simp only [if_neg hx']; exact hbyte 12 2 0 (by omega)
      · unfold fb; simp only [if_neg hx']; exact hbyte 12 2 1 (by omega)
      · exact hm 14
      · exact hm 15
/-- One block just if the normal forms are the same. -/
theorem enc_inj {k : Int} {p q : Pm} (h : chkP k p = 0) (h' : chkP k q = 0) (ho : PmOk p) (ho' : PmOk q) (hx : (p.xof = 0) ↔ (q.xof = 0)) : encB k p = encB k q ↔ p.norm = q.norm := by
  constructor
  · intro e
    have hp := dec_enc h ho (decide (p.xof ≠ 0)) (by simp)
    have hq := dec_enc h' ho' (decide (p.xof ≠ 0)) (by simp [hx])
    rw [← hp.2, ← hq.2, e]
  · intro e
    rw [← enc_norm h, ← enc_norm h', e]
end Go.Proofs.YtofcdffcaiajmaaDoor
