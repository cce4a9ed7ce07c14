/- Plain facts: numbers of a list changed about, ranges turned, two sorted ranges merged by halves (no program). Conditions: as stated. -/
import Derived.Test.YtcohidjaehdbnaaGreatDoorPlain
namespace Go.Proofs.YtcohidjaehdbnaaGreatDoor
set_option linter.unusedVariables false

/-- Two numbers of a list, changed about. -/
def sw (xs : List Nat) (i j : Nat) : List Nat := (xs.set i (xs.getD j 0)).set j (xs.getD i 0)
theorem sw_len (xs : List Nat) (i j : Nat) : (sw xs i j).length = xs.length := by simp [sw]
theorem set_getD (xs : List Nat) (i k : Nat) (v : Nat) (hi : i < xs.length) : (xs.set i v).getD k 0 = if k = i then v else xs.getD k 0 := by
  rw [List.getD_eq_getElem?_getD, List.getElem?_set]
  by_cases h : i = k
  · subst h; rw [if_pos rfl, if_pos hi, if_pos rfl]; rfl
  · rw [if_neg h, if_neg (fun e => h e.symm)]; rfl
theorem sw_get (xs : List Nat) (i j k : Nat) (hi : i < xs.length) (hj : j < xs.length) : (sw xs i j).getD k 0 = if k = j then xs.getD i 0 else if k = i then xs.getD j 0 else xs.getD k 0 := by
  unfold sw
  rw [set_getD _ _ _ _ (by simpa using hj), set_getD _ _ _ _ hi]
theorem sw_perm (xs : List Nat) (i j : Nat) (hi : i < xs.length) (hj : j < xs.length) : (sw xs i j).Perm xs := by
  have h := Array.swap_perm (xs := xs.toArray) (i := i) (j := j) (by simpa using hi) (by simpa using hj)
  have h2 := h.toList
  have e : (xs.toArray.swap i j (by simpa using hi) (by simpa using hj)).toList = sw xs i j := by
    unfold sw
    simp [Array.swap_def, List.getD_eq_getElem?_getD, List.getElem?_eq_getElem hi, List.getElem?_eq_getElem hj]
  rw [e] at h2
  simpa using h2
/-- Numbers changed about within a range. -/
structure Reorg (xs : List Nat) (a b : Nat) (ys : List Nat) : Prop where
  perm : ys.Perm xs
  out : ∀ i, i < a ∨ b ≤ i → ys.getD i 0 = xs.getD i 0
  from_ : ∀ i, a ≤ i → i < b → ∃ j, a ≤ j ∧ j < b ∧ ys.getD i 0 = xs.getD j 0
theorem Reorg.len {xs ys : List Nat} {a b : Nat} (h : Reorg xs a b ys) : ys.length = xs.length := h.perm.length_eq
theorem Reorg.refl (xs : List Nat) (a b : Nat) : Reorg xs a b xs := ⟨List.Perm.refl _, fun _ _ => rfl, fun i h1 h2 => ⟨i, h1, h2, rfl⟩⟩
theorem Reorg.trans {xs ys zs : List Nat} {a b : Nat} (h : Reorg xs a b ys) (k : Reorg ys a b zs) : Reorg xs a b zs :=
  ⟨k.perm.trans h.perm, fun i hi => (k.out i hi).trans (h.out i hi), fun i h1 h2 => by
    obtain ⟨j, j1, j2, e⟩ := k.from_ i h1 h2
    obtain ⟨l, l1, l2, e2⟩ := h.from_ j j1 j2
    exact ⟨l, l1, l2, e.trans e2⟩⟩
theorem Reorg.wide {xs ys : List Nat} {a b a' b' : Nat} (h : Reorg xs a b ys) (h1 : a' ≤ a) (h2 : b ≤ b') : Reorg xs a' b' ys :=
  ⟨h.perm, fun i hi => h.out i (by omega), fun i i1 i2 => by
    by_cases hi : a ≤ i ∧ i < b
    · obtain ⟨j, j1, j2, e⟩ := h.from_ i hi.1 hi.2
      exact ⟨j, by omega, by omega, e⟩
    · exact ⟨i, i1, i2, h.out i (by omega)⟩⟩
theorem Reorg.sw {xs : List Nat} {a b i j : Nat} (hi : a ≤ i ∧ i < b) (hj : a ≤ j ∧ j < b) (hb : b ≤ xs.length) : Reorg xs a b (sw xs i j) :=
  ⟨sw_perm xs i j (by omega) (by omega), fun k hk => by rw [sw_get xs i j k (by omega) (by omega), if_neg (by omega), if_neg (by omega)], fun k k1 k2 => by
    rw [sw_get xs i j k (by omega) (by omega)]
    by_cases e1 : k = j
    · rw [if_pos e1]; exact ⟨i, hi.1, hi.2, rfl⟩
    · rw [if_neg e1]
      by_cases e2 : k = i
      · rw [if_pos e2]; exact ⟨j, hj.1, hj.2, rfl⟩
      · rw [if_neg e2]; exact ⟨k, k1, k2, rfl⟩⟩
/-- Rising by a key within a range. -/
def Up (K : Nat → Nat) (xs : List Nat) (a b : Nat) : Prop := ∀ i j, a ≤ i → i ≤ j → j < b → K (xs.getD i 0) ≤ K (xs.getD j 0)
theorem Up.sub {K : Nat → Nat} {xs : List Nat} {a b a' b' : Nat} (h : Up K xs a b) (h1 : a ≤ a') (h2 : b' ≤ b) : Up K xs a' b' := fun i j i1 i2 i3 => h i j (by omega) i2 (by omega)
theorem Up.congr {K : Nat → Nat} {xs ys : List Nat} {a b : Nat} (h : Up K xs a b) (e : ∀ i, a ≤ i → i < b → ys.getD i 0 = xs.getD i 0) : Up K ys a b := fun i j i1 i2 i3 => by
  rw [e i i1 (by omega), e j (by omega) i3]; exact h i j i1 i2 i3
theorem Up.one (K : Nat → Nat) (xs : List Nat) {a b : Nat} (h : b ≤ a + 1) : Up K xs a b := fun i j i1 i2 i3 => by
  obtain rfl : i = j := by omega
  exact Nat.le_refl _
/-- What sorting a range comes to. -/
structure Srt (K : Nat → Nat) (xs : List Nat) (a b : Nat) (ys : List Nat) : Prop where
  re : Reorg xs a b ys
  up : Up K ys a b
/-! ### one number let down into its place -/
/-- All is in order in [a, i], but for what stands at j: it may be too small for what stands ahead of it. -/
def Ins (K : Nat → Nat) (ys : List Nat) (a i j : Nat) : Prop := ∀ s t, a ≤ s → s < t → t ≤ i → t ≠ j → K (ys.getD s 0) ≤ K (ys.getD t 0)
theorem Ins.start {K : Nat → Nat} {ys : List Nat} {a i : Nat} (h : Up K ys a i) : Ins K ys a i i := fun s t h1 h2 h3 h4 => h s t h1 (by omega) (by omega)
theorem Ins.step {K : Nat → Nat} {ys : List Nat} {a i j : Nat} (h : Ins K ys a i j) (h1 : a < j) (h2 : j ≤ i) (hl : i < ys.length) (hlt : K (ys.getD j 0) < K (ys.getD (j - 1) 0)) : Ins K (sw ys j (j - 1)) a i (j - 1) := by
  intro s t hs hst ht hne
  rw [sw_get ys j (j - 1) s (by omega) (by omega), sw_get ys j (j - 1) t (by omega) (by omega), if_neg hne]
  by_cases e1 : t = j
  · subst e1
    rw [if_pos rfl]
    by_cases e2 : s = t - 1
    · rw [if_pos e2]; omega
    · rw [if_neg e2, if_neg (by omega)]
      exact h s (t - 1) hs (by omega) (by omega) (by omega)
  · rw [if_neg e1]
    by_cases e2 : s = j - 1
    · rw [if_pos e2]
      exact Nat.le_trans (Nat.le_of_lt hlt) (h (j - 1) t (by omega) (by omega) ht e1)
    · rw [if_neg e2]
      by_cases e3 : s = j
      · rw [if_pos e3]; exact h (j - 1) t (by omega) (by omega) ht e1
      · rw [if_neg e3]; exact h s t hs hst ht e1
theorem Ins.done {K : Nat → Nat} {ys : List Nat} {a i j : Nat} (h : Ins K ys a i j) (h2 : j ≤ i) (hd : j ≤ a ∨ K (ys.getD (j - 1) 0) ≤ K (ys.getD j 0)) : Up K ys a (i + 1) := by
  intro s t hs hst ht
  rcases Nat.lt_or_eq_of_le hst with hlt | rfl
  · by_cases e : t = j
    · subst e
      rcases hd with hd | hd
      · omega
      · by_cases e2 : s = t - 1
        · rw [e2]; exact hd
        · exact Nat.le_trans (h s (t - 1) hs (by omega) (by omega) (by omega)) hd
    · exact h s t hs hlt (by omega) e
  · exact Nat.le_refl _
/-! ### ranges changed about; a range turned -/
/-- Two ranges of n numbers, changed about; i of them so far. -/
def Swr (xs : List Nat) (a b i : Nat) (ys : List Nat) : Prop := ys.length = xs.length ∧ ∀ k, ys.getD k 0 = if a ≤ k ∧ k < a + i then xs.getD (k - a + b) 0 else if b ≤ k ∧ k < b + i then xs.getD (k - b + a) 0 else xs.getD k 0
theorem Swr.zero (xs : List Nat) (a b : Nat) : Swr xs a b 0 xs := ⟨rfl, fun k => by rw [if_neg (by omega), if_neg (by omega)]⟩
theorem Swr.step {xs ys : List Nat} {a b i n : Nat} (h : Swr xs a b i ys) (hi : i < n) (hab : a + n ≤ b) (hb : b + n ≤ xs.length) : Swr xs a b (i + 1) (sw ys (a + i) (b + i)) := by
  refine ⟨by rw [sw_len, h.1], fun k => ?_⟩
  have hl := h.1
  rw [sw_get ys _ _ k (by omega) (by omega), h.2 (a + i), h.2 (b + i), h.2 k]
  repeat' split
  all_goals first
    | rfl
    | (exfalso; omega)
    | (congr 1; omega)
/-- What stands at k when [a, m) and [m, b) have changed places. -/
def rv (xs : List Nat) (a m b k : Nat) : Nat := if a ≤ k ∧ k < a + (b - m) then xs.getD (k + (m - a)) 0 else if a + (b - m) ≤ k ∧ k < b then xs.getD (k - (b - m)) 0 else xs.getD k 0
theorem rv_big {xs ys : List Nat} {m i j : Nat} (h : Swr xs (m - i) m j ys) (hij : j < i) (him : i ≤ m) (k : Nat) : rv ys (m - (i - j)) m (m + j) k = rv xs (m - i) m (m + j) k := by
  unfold rv
  simp only [h.2]
  repeat' split
  all_goals first
    | rfl
    | (exfalso; omega)
    | (congr 1; omega)
theorem rv_small {xs ys : List Nat} {m i j : Nat} (h : Swr xs (m - i) (m + j - i) i ys) (hij : i < j) (him : i ≤ m) (k : Nat) : rv ys (m - i) m (m + (j - i)) k = rv xs (m - i) m (m + j) k := by
  unfold rv
  simp only [h.2]
  repeat' split
  all_goals first
    | rfl
    | (exfalso; omega)
    | (congr 1; omega)
theorem rv_even {xs ys : List Nat} {m i : Nat} (h : Swr xs (m - i) m i ys) (him : i ≤ m) (k : Nat) : ys.getD k 0 = rv xs (m - i) m (m + i) k := by
  unfold rv
  rw [h.2]
  repeat' split
  all_goals first
    | rfl
    | (exfalso; omega)
    | (congr 1; omega)
/-! ### one number moved to the right, to the left -/
def MvR (xs : List Nat) (a k : Nat) (ys : List Nat) : Prop := ys.length = xs.length ∧ ∀ t, ys.getD t 0 = if a ≤ t ∧ t < k then xs.getD (t + 1) 0 else if t = k then xs.getD a 0 else xs.getD t 0
theorem MvR.zero (xs : List Nat) (a : Nat) : MvR xs a a xs := ⟨rfl, fun t => by
  repeat' split
  all_goals first
    | rfl
    | (exfalso; omega)
    | (congr 1)⟩
theorem MvR.step {xs ys : List Nat} {a k : Nat} (h : MvR xs a k ys) (hk : a ≤ k) (hl : k + 1 < xs.length) : MvR xs a (k + 1) (sw ys k (k + 1)) := by
  refine ⟨by rw [sw_len, h.1], fun t => ?_⟩
  have hl' := h.1
  rw [sw_get ys _ _ t (by omega) (by omega), h.2 k, h.2 (k + 1), h.2 t]
  repeat' split
  all_goals first
    | rfl
    | (exfalso; omega)
    | (congr 1; omega)
theorem MvR.up {K : Nat → Nat} {xs ys : List Nat} {a b i : Nat} (h : MvR xs a (i - 1) ys) (hu : Up K xs (a + 1) b) (h1 : a + 1 ≤ i) (h2 : i ≤ b) (hlo : ∀ t, a + 1 ≤ t → t < i → K (xs.getD t 0) < K (xs.getD a 0)) (hhi : ∀ t, i ≤ t → t < b → K (xs.getD a 0) ≤ K (xs.getD t 0)) : Up K ys a b := by
  intro s t hs hst ht
  rw [h.2 s, h.2 t]
  by_cases e1 : a ≤ s ∧ s < i - 1
  · rw [if_pos e1]
    by_cases e2 : a ≤ t ∧ t < i - 1
    · rw [if_pos e2]; exact hu _ _ (by omega) (by omega) (by omega)
    · rw [if_neg e2]
      by_cases e3 : t = i - 1
      · rw [if_pos e3]; exact Nat.le_of_lt (hlo _ (by omega) (by omega))
      · rw [if_neg e3]; exact hu _ _ (by omega) (by omega) (by omega)
  · rw [if_neg e1, if_neg (c := a ≤ t ∧ t < i - 1) (by omega)]
    by_cases e3 : s = i - 1
    · rw [if_pos e3]
      by_cases e4 : t = i - 1
      · rw [if_pos e4]; exact Nat.le_refl _
      · rw [if_neg e4]; exact hhi _ (by omega) ht
    · rw [if_neg e3, if_neg (by omega)]; exact hu _ _ (by omega) hst ht
def MvL (xs : List Nat) (k m : Nat) (ys : List Nat) : Prop := ys.length = xs.length ∧ ∀ t, ys.getD t 0 = if k < t ∧ t ≤ m then xs.getD (t - 1) 0 else if t = k then xs.getD m 0 else xs.getD t 0
theorem MvL.zero (xs : List Nat) (m : Nat) : MvL xs m m xs := ⟨rfl, fun t => by
  repeat' split
  all_goals first
    | rfl
    | (exfalso; omega)
    | (congr 1)⟩
theorem MvL.step {xs ys : List Nat} {k m : Nat} (h : MvL xs k m ys) (hk : 0 < k) (hm : k ≤ m) (hl : m < xs.length) : MvL xs (k - 1) m (sw ys k (k - 1)) := by
  refine ⟨by rw [sw_len, h.1], fun t => ?_⟩
  have hl' := h.1
  rw [sw_get ys _ _ t (by omega) (by omega), h.2 k, h.2 (k - 1), h.2 t]
  repeat' split
  all_goals first
    | rfl
    | (exfalso; omega)
    | (congr 1; omega)
theorem MvL.up {K : Nat → Nat} {xs ys : List Nat} {a m i : Nat} (h : MvL xs i m ys) (hu : Up K xs a m) (h1 : a ≤ i) (h2 : i ≤ m) (hlo : ∀ t, a ≤ t → t < i → K (xs.getD t 0) ≤ K (xs.getD m 0)) (hhi : ∀ t, i ≤ t → t < m → K (xs.getD m 0) < K (xs.getD t 0)) : Up K ys a (m + 1) := by
  intro s t hs hst ht
  rw [h.2 s, h.2 t]
  by_cases e1 : i < s ∧ s ≤ m
  · rw [if_pos e1, if_pos (by omega)]; exact hu _ _ (by omega) (by omega) (by omega)
  · rw [if_neg e1]
    by_cases e3 : s = i
    · rw [if_pos e3]
      by_cases e2 : i < t ∧ t ≤ m
      · rw [if_pos e2]; exact Nat.le_of_lt (hhi _ (by omega) (by omega))
      · rw [if_neg e2, if_pos (by omega)]; exact Nat.le_refl _
    · rw [if_neg e3]
      by_cases e2 : i < t ∧ t ≤ m
      · rw [if_pos e2]
        by_cases e4 : s ≤ t - 1
        · exact hu _ _ hs e4 (by omega)
        · omega
      · rw [if_neg e2]
        by_cases e5 : t = i
        · rw [if_pos e5]; exact hlo _ hs (by omega)
        · rw [if_neg e5]; exact hu _ _ hs hst (by omega)
/-! ### two sorted ranges parted at a middle, so that all of the first part is at most all of the second -/
theorem split_up {K : Nat → Nat} {xs ys : List Nat} {a m b st : Nat} (h1 : Up K xs a m) (h2 : Up K xs m b) (hm1 : a < m) (hm2 : m < b)
    (hs1 : a ≤ st) (hs2 : st ≤ m) (hs3 : st ≤ (a + b) / 2) (hs4 : (a + b) / 2 + m - st ≤ b)
    (c1 : st = a ∨ (a + b) / 2 + m - st = b ∨ K (xs.getD (st - 1) 0) ≤ K (xs.getD ((a + b) / 2 + m - st) 0))
    (c2 : st = m ∨ (a + b) / 2 + m - st = m ∨ K (xs.getD ((a + b) / 2 + m - st - 1) 0) < K (xs.getD st 0))
    (hy : ∀ k, ys.getD k 0 = rv xs st m ((a + b) / 2 + m - st) k) :
    Up K ys a st ∧ Up K ys st ((a + b) / 2) ∧ Up K ys ((a + b) / 2) ((a + b) / 2 + m - st) ∧ Up K ys ((a + b) / 2 + m - st) b ∧ ∀ s t, a ≤ s → s < (a + b) / 2 → (a + b) / 2 ≤ t → t < b → K (ys.getD s 0) ≤ K (ys.getD t 0) := by
  generalize hmid : (a + b) / 2 = d at *
  generalize hen : d + m - st = en at *
  have hd1 : a ≤ d := by omega
  have hd2 : d ≤ b := by omega
  have y1 : ∀ k, k < st → ys.getD k 0 = xs.getD k 0 := fun k hk => by rw [hy]; unfold rv; rw [if_neg (by omega), if_neg (by omega)]
  have y2 : ∀ k, st ≤ k → k < d → ys.getD k 0 = xs.getD (k + (m - st)) 0 := fun k g1 g2 => by rw [hy]; unfold rv; rw [if_pos (by omega)]
  have y3 : ∀ k, d ≤ k → k < en → ys.getD k 0 = xs.getD (k - (en - m)) 0 := fun k g1 g2 => by rw [hy]; unfold rv; rw [if_neg (by omega), if_pos (by omega)]
  have y4 : ∀ k, en ≤ k → ys.getD k 0 = xs.getD k 0 := fun k hk => by rw [hy]; unfold rv; rw [if_neg (by omega), if_neg (by omega)]
  refine ⟨fun s t g1 g2 g3 => ?_, fun s t g1 g2 g3 => ?_, fun s t g1 g2 g3 => ?_, fun s t g1 g2 g3 => ?_, fun s t g1 g2 g3 g4 => ?_⟩
  · rw [y1 s (by omega), y1 t g3]; exact h1 _ _ g1 g2 (by omega)
  · rw [y2 s g1 (by omega), y2 t (by omega) g3]; exact h2 _ _ (by omega) (by omega) (by omega)
  · rw [y3 s g1 (by omega), y3 t (by omega) g3]; exact h1 _ _ (by omega) (by omega) (by omega)
  · rw [y4 s g1, y4 t (by omega)]; exact h2 _ _ (by omega) g2 g3
  · have LR : ∀ s, a ≤ s → s < st → ∀ t, en ≤ t → t < b → K (xs.getD s 0) ≤ K (xs.getD t 0) := fun s g1 g2 t g3 g4 => by
      rcases c1 with c | c | c
      · omega
      · omega
      · exact Nat.le_trans (h1 s (st - 1) g1 (by omega) (by omega)) (Nat.le_trans c (h2 en t (by omega) g3 g4))
    have RL : ∀ s, m ≤ s → s < en → ∀ t, st ≤ t → t < m → K (xs.getD s 0) ≤ K (xs.getD t 0) := fun s g1 g2 t g3 g4 => by
      rcases c2 with c | c | c
      · omega
      · omega
      · exact Nat.le_trans (h2 s (en - 1) g1 (by omega) (by omega)) (Nat.le_trans (Nat.le_of_lt c) (h1 st t hs1 g3 g4))
    by_cases e1 : s < st
    · rw [y1 s e1]
      by_cases e2 : t < en
      · rw [y3 t g3 e2]; exact h1 _ _ g1 (by omega) (by omega)
      · rw [y4 t (by omega)]; exact LR s g1 e1 t (by omega) g4
    · rw [y2 s (by omega) g2]
      by_cases e2 : t < en
      · rw [y3 t g3 e2]; exact RL _ (by omega) (by omega) _ (by omega) (by omega)
      · rw [y4 t (by omega)]; exact h2 _ _ (by omega) (by omega) g4
theorem join_up {K : Nat → Nat} {ys zs ws : List Nat} {a d b : Nat} (hd1 : a ≤ d) (hd2 : d ≤ b) (hx : ∀ s t, a ≤ s → s < d → d ≤ t → t < b → K (ys.getD s 0) ≤ K (ys.getD t 0)) (h1 : Reorg ys a d zs) (h2 : Reorg zs d b ws) (u1 : Up K zs a d) (u2 : Up K ws d b) : Srt K ys a b ws := by
  refine ⟨(h1.wide (Nat.le_refl _) hd2).trans (h2.wide hd1 (Nat.le_refl _)), fun s t g1 g2 g3 => ?_⟩
  have wz : ∀ k, k < d → ws.getD k 0 = zs.getD k 0 := fun k hk => h2.out k (.inl hk)
  by_cases e1 : t < d
  · rw [wz s (by omega), wz t e1]; exact u1 _ _ g1 g2 e1
  · by_cases e2 : s < d
    · rw [wz s e2]
      obtain ⟨s', p1, p2, p3⟩ := h1.from_ s g1 e2
      obtain ⟨t', q1, q2, q3⟩ := h2.from_ t (by omega) g3
      rw [p3, q3, h1.out t' (.inr q1)]
      exact hx _ _ p1 p2 q1 q2
    · exact u2 _ _ (by omega) g2 g3
theorem rv_same (xs : List Nat) {st m en : Nat} (h : st = m ∨ en = m) (h1 : st ≤ m) (h2 : m ≤ en) (k : Nat) : xs.getD k 0 = rv xs st m en k := by
  unfold rv
  repeat' split
  all_goals first
    | rfl
    | (exfalso; omega)
    | (congr 1; omega)
/-! ### sorted, twice the same -/
theorem up_unique {K : Nat → Nat} {xs ys : List Nat} (h : xs.Perm ys) (hx : Up K xs 0 xs.length) (hy : Up K ys 0 ys.length) : xs.map K = ys.map K := by
  have mk : ∀ l : List Nat, Up K l 0 l.length → (l.map K).Pairwise (· ≤ ·) := fun l hl => by
    rw [List.pairwise_iff_getElem]
    intro i j hi hj hij
    have := hl i j (Nat.zero_le _) (by omega) (by simpa using hj)
    simp only [List.length_map] at hi hj
    simpa [List.getD_eq_getElem?_getD, List.getElem?_eq_getElem hi, List.getElem?_eq_getElem hj] using this
  exact List.Perm.eq_of_pairwise (le := fun a b : Nat => a ≤ b) (fun a b _ _ h1 h2 => Nat.le_antisymm h1 h2) (mk xs hx) (mk ys hy) (h.map K)
end Go.Proofs.YtcohidjaehdbnaaGreatDoor
