/- Plain words: an entry's line, read, says the entry (both forms); an escaped name says the name; no walk. Conditions: none. -/
import Derived.Test.YtjaohjlddhjgpaaGreatDoorTq
namespace Go.Proofs.YtjaohjlddhjgpaaGreatDoor
open Go.RowKit
set_option linter.unusedVariables false

theorem une_esc (l : List UInt8) : ∀ (i : Nat) (acc : List UInt8), une (esc l) i acc = .inl (acc ++ l) := by
  induction l with
  | nil => intro i acc; simp [esc, une]
  | cons c l ih =>
    intro i acc
    have e : esc (c :: l) = esc1 c ++ esc l := by simp [esc]
    rw [e]
    unfold esc1
    by_cases h1 : c = 92
    · subst h1
      rw [if_pos rfl]
      show une (92 :: 92 :: esc l) i acc = _
      rw [une_cons, if_neg (by decide), if_pos rfl]
      simp only [if_true]
      rw [ih, List.append_assoc]; rfl
    rw [if_neg h1]
    by_cases h2 : c = 10
    · subst h2
      rw [if_pos rfl]
      show une (92 :: 110 :: esc l) i acc = _
      rw [une_cons, if_neg (by decide), if_pos rfl]
      simp only [show ((110 : UInt8) = 92) = False by decide, if_false, if_true]
      rw [ih, List.append_assoc]; rfl
    rw [if_neg h2]
    by_cases h3 : c = 13
    · subst h3
      rw [if_pos rfl]
      show une (92 :: 114 :: esc l) i acc = _
      rw [une_cons, if_neg (by decide), if_pos rfl]
      simp only [show ((114 : UInt8) = 92) = False by decide, show ((114 : UInt8) = 110) = False by decide, if_false, if_true]
      rw [ih, List.append_assoc]; rfl
    rw [if_neg h3]
    show une (c :: esc l) i acc = _
    rw [une_cons, if_neg (by simp [h2, h3]), if_neg h1, ih, List.append_assoc]; rfl
/-- An escaped name's answer. -/
theorem un_esc {t : ByteArray} {l : List UInt8} (ht : t.data.toList = esc l) (hf : fileB l = true) : unN t = l ∧ unI t = 0 ∧ unE t = 0 := by
  have h : uneAt t 0 [] = .inl l := by
    unfold uneAt
    rw [ht, List.drop_zero, une_esc]; rfl
  unfold unN unI unE
  rw [h]
  simp [hf]
theorem toList_eq (s : ByteArray) : s.toList = s.data.toList := toList_data s
/-- The name that a name's own text says. -/
theorem nm_esc {t nm : ByteArray} (ht : t.data.toList = esc nm.data.toList) (hf : fileB nm.data.toList = true) : nmS (escD nm) t = some nm.data.toList := by
  unfold nmS
  cases he : escD nm with
  | true =>
    have := un_esc ht hf
    simp [this.1, this.2.2]
  | false =>
    have h2 : esc nm.data.toList = nm.data.toList := by
      unfold escD at he
      rw [toList_eq] at he
      simpa using he
    rw [h2] at ht
    simp [ht, hf]
theorem hd_low : ∀ k : Fin 16, hP (UInt8.ofNat (hdg (k.val : Int)).toNat) = true ∧ hV (UInt8.ofNat (hdg (k.val : Int)).toNat).toNat = k.val ∧ (UInt8.ofNat (hdg (k.val : Int)).toNat) ≠ 66 ∧ (UInt8.ofNat (hdg (k.val : Int)).toNat) ≠ 92 ∧ (UInt8.ofNat (hdg (k.val : Int)).toNat) ≠ 41 := by decide
/-- A small digit. -/
def lowd (c : UInt8) : Prop := hP c = true ∧ c ≠ 66 ∧ c ≠ 92 ∧ c ≠ 41
theorem hx_cons (c : UInt8) (l : List UInt8) : ∃ a b, hx (c :: l) = a :: b :: hx l ∧ lowd a ∧ lowd b ∧ hV a.toNat = c.toNat / 16 ∧ hV b.toNat = c.toNat % 16 := by
  have hc := c.toNat_lt
  have h1 := hd_low ⟨c.toNat / 16, by omega⟩
  have h2 := hd_low ⟨c.toNat % 16, by omega⟩
  refine ⟨UInt8.ofNat (hdg ((c.toNat / 16 : Nat) : Int)).toNat, UInt8.ofNat (hdg ((c.toNat % 16 : Nat) : Int)).toNat, ?_, ⟨h1.1, h1.2.2⟩, ⟨h2.1, h2.2.2⟩, h1.2.1, h2.2.1⟩
  unfold hx
  rw [List.map_cons, hxs]
  rfl
theorem hx_all (l : List UInt8) : ∀ c ∈ hx l, lowd c := by
  induction l with
  | nil => intro c hc; cases hc
  | cons c l ih =>
    obtain ⟨a, b, e, ha, hb, _⟩ := hx_cons c l
    rw [e]
    intro d hd
    rcases List.mem_cons.1 hd with rfl | hd
    · exact ha
    rcases List.mem_cons.1 hd with rfl | hd
    · exact hb
    · exact ih d hd
theorem getD_cons2 (a b : UInt8) (l : List UInt8) (k : Nat) : (a :: b :: l).getD (k + 2) 0 = l.getD k 0 := by simp [List.getD]
theorem uhk_hx (l : List UInt8) (m : List UInt8) : uhk (hx l ++ m) l.length = l := by
  induction l with
  | nil => rfl
  | cons c l ih =>
    obtain ⟨a, b, e, _, _, h1, h2⟩ := hx_cons c l
    rw [e]
    show uhk (a :: b :: (hx l ++ m)) (l.length + 1) = _
    unfold uhk at ih ⊢
    rw [List.range_succ_eq_map, List.map_cons, List.map_map]
    have e1 : UInt8.ofNat (16 * hV a.toNat + hV b.toNat) = c := by
      rw [h1, h2, show 16 * (c.toNat / 16) + c.toNat % 16 = c.toNat by omega]
      exact UInt8.ofNat_toNat
    have e2 : List.map ((fun j => UInt8.ofNat (16 * hV ((a :: b :: (hx l ++ m)).getD (2 * j) 0).toNat + hV ((a :: b :: (hx l ++ m)).getD (2 * j + 1) 0).toNat)) ∘ Nat.succ) (List.range l.length) = l := by
      refine Eq.trans ?_ ih
      apply List.map_congr_left
      intro j _
      show UInt8.ofNat (16 * hV ((a :: b :: (hx l ++ m)).getD (2 * (j + 1)) 0).toNat + hV ((a :: b :: (hx l ++ m)).getD (2 * (j + 1) + 1) 0).toNat) = _
      rw [show 2 * (j + 1) = 2 * j + 2 by omega, show 2 * j + 2 + 1 = 2 * j + 1 + 2 by omega, getD_cons2, getD_cons2]
    rw [e2]
    exact congrArg (fun x => x :: l) e1
theorem uhp_hx (l : List UInt8) : uhp (hx l) = l := by
  unfold uhp
  rw [hx_len, show 2 * l.length / 2 = l.length by omega]
  have := uhk_hx l []
  rwa [List.append_nil] at this
theorem cnt_all {p : UInt8 → Bool} {l m : List UInt8} (h : ∀ c ∈ l, p c = true) (hm : ∀ c, m.head? = some c → p c = false) : cnt p (l ++ m) = l.length := by
  induction l with
  | nil =>
    cases m with
    | nil => rfl
    | cons c m =>
      show cnt p (c :: m) = 0
      unfold cnt
      rw [if_neg (by rw [hm c rfl]; decide)]
  | cons c l ih =>
    show cnt p (c :: (l ++ m)) = _
    unfold cnt
    rw [if_pos (h c List.mem_cons_self), ih (fun d hd => h d (List.mem_cons_of_mem _ hd))]; rfl
theorem hex_cnt (l m : List UInt8) (hm : ∀ c, m.head? = some c → hP c = false) : cnt hP (hx l ++ m) = 2 * l.length := by
  rw [cnt_all (fun c hc => (hx_all l c hc).1) hm, hx_len]
theorem take_app {α : Type} (l m : List α) {n : Nat} (h : l.length = n) : (l ++ m).take n = l := by subst h; simp
theorem drop_app {α : Type} (l m : List α) {n : Nat} (h : l.length = n) : (l ++ m).drop n = m := by subst h; simp
theorem get_app {α : Type} (l m : List α) {n : Nat} (h : l.length = n) : (l ++ m)[n]? = m[0]? := by subst h; rw [List.getElem?_append_right (Nat.le_refl _), Nat.sub_self]
theorem pre_no66 {w m : List UInt8} (h : w.head? = some 66) (hm : ∀ c, m.head? = some c → c ≠ 66) : w.isPrefixOf m = false := by
  cases w with
  | nil => cases h
  | cons x w =>
    cases m with
    | nil => rfl
    | cons c m =>
      have hx : x = 66 := by simpa using h
      subst hx
      have := hm c rfl
      simp [List.isPrefixOf, Ne.symm this]
theorem swrd_head {a : Int} (h1 : 1 ≤ a) (h4 : a ≤ 4) : (swrd a).head? = some 66 := by
  obtain rfl | rfl | rfl | rfl : a = 1 ∨ a = 2 ∨ a = 3 ∨ a = 4 := by omega
  all_goals decide
theorem ext_all (s : ByteArray) (i : Nat) : (s.extract i s.size).data.toList = s.data.toList.drop i := by
  rcases Nat.lt_or_ge s.size i with h | h
  · have h1 : (s.extract i s.size).data.toList.length = 0 := by
      show (s.extract i s.size).size = 0
      rw [ByteArray.size_extract]; omega
    rw [List.eq_nil_of_length_eq_zero h1, List.drop_eq_nil_of_le (by show s.size ≤ i; omega)]
  · exact ext_drop s i h
theorem smost_le (a : Int) : smost a ≤ 64 := by unfold smost; split; omega; split <;> omega
theorem hp_head {s : ByteArray} {L : List UInt8} (h : s.data.toList = L) : hpB s 92 = (L.head? == some 92) := by unfold hpB; rw [h]
theorem head_app {l m : List UInt8} (h : l ≠ []) : (l ++ m).head? = l.head? := by cases l with | nil => exact absurd rfl h | cons c l => rfl
theorem hx_ne {l : List UInt8} (h : 1 ≤ l.length) : ∃ c m, hx l = c :: m ∧ lowd c := by
  cases l with
  | nil => simp at h
  | cons c l =>
    obtain ⟨a, b, e, ha, _⟩ := hx_cons c l
    exact ⟨a, _, e, ha⟩
/-- A printed line is no longer than a line may be. -/
theorem esc_file {l : List UInt8} (h : fileB l = true) : (esc l).length ≤ 8192 := by
  have := (esc_len l).2
  unfold fileB at h
  simp only [Bool.and_eq_true, decide_eq_true_eq] at h
  omega
theorem ahdL (s : ByteArray) : (ahd s).length = if escD s = true then 1 else 0 := by unfold ahd; split <;> rfl
theorem ba_back (nm : ByteArray) : (⟨nm.data.toList.toArray⟩ : ByteArray) = nm := (ba_eq rfl).symm
theorem smost_some {a : Int} (h : 0 < smost a) : 1 ≤ a ∧ a ≤ 4 := by
  rcases algo_cases a with rfl | rfl | rfl | rfl | ⟨_, _, _, _, e, _⟩
  iterate 4 exact ⟨by decide, by decide⟩
  omega
set_option maxHeartbeats 1000000 in
/-- An entry's line says the entry. -/
theorem rd_plain (e : Sm) (h : rightS e = true) : rdA ⟨(plainS e).toArray⟩ e.a = (e, 0, 0) := by
  unfold rightS at h
  simp only [Bool.and_eq_true, decide_eq_true_eq] at h
  obtain ⟨⟨hd1, hd2⟩, hf⟩ := h
  obtain ⟨s, hs⟩ : ∃ s : ByteArray, (⟨(plainS e).toArray⟩ : ByteArray) = s := ⟨_, rfl⟩
  have hL : s.data.toList = ahd e.nm ++ (hx e.dg ++ (32 :: (if e.st = true then 42 else 32) :: esc e.nm.data.toList)) := by
    rw [← hs, ba_mk]
    unfold plainS
    cases e.st <;> simp
  have hsz : s.size = (ahd e.nm).length + (2 * e.dg.length + (2 + (esc e.nm.data.toList).length)) := by
    show s.data.toList.length = _
    rw [hL]; simp [hx_len]; omega
  have he := esc_file hf
  have hal := ahdL e.nm
  have hmost : smost e.a ≠ 0 := by omega
  have h64 := smost_le e.a
  have hsmall : ¬ 16384 < s.size := by rw [hsz, hal]; split <;> omega
  obtain ⟨c0, m0, hx0, hl0⟩ := hx_ne hd1
  have hmk : hpB s 92 = escD e.nm := by
    rw [hp_head hL]
    unfold ahd
    cases escD e.nm with
    | true => rfl
    | false =>
      rw [hx0]
      show (some c0 == some 92) = false
      simpa using hl0.2.2.1
  have hi : (if hpB s 92 = true then 1 else 0) = (ahd e.nm).length := by rw [hmk, hal]
  have hdr : s.data.toList.drop (ahd e.nm).length = hx e.dg ++ (32 :: (if e.st = true then 42 else 32) :: esc e.nm.data.toList) := by rw [hL, drop_app _ _ rfl]
  have hway : wayAt s (ahd e.nm).length = 0 := wayAt_no s _ fun b h1 h5 => by
    unfold wayB
    rw [hdr, pre_no66 (swrd_head h1 (by omega))]
    · rfl
    · intro c hc
      rw [hx0] at hc
      have : c0 = c := by simpa using hc
      rw [← this]; exact hl0.2.1
  have hN : hexN s (ahd e.nm).length = 2 * e.dg.length := by
    unfold hexN
    rw [hdr, hex_cnt]
    intro c hc
    have : 32 = c := by simpa using hc
    rw [← this]; decide
  have g0 : s.data.toList[(ahd e.nm).length + 2 * e.dg.length]? = some 32 := by
    rw [hL, ← List.append_assoc, get_app _ _ (by simp [hx_len])]; rfl
  have g1 : s.data.toList[(ahd e.nm).length + 2 * e.dg.length + 1]? = some (if e.st = true then 42 else 32) := by
    rw [hL, show ahd e.nm ++ (hx e.dg ++ (32 :: (if e.st = true then 42 else 32) :: esc e.nm.data.toList)) = (ahd e.nm ++ (hx e.dg ++ [32])) ++ ((if e.st = true then 42 else 32) :: esc e.nm.data.toList) by simp, get_app _ _ (by simp [hx_len]; omega)]; rfl
  have hnm : nmS (escD e.nm) (s.extract ((ahd e.nm).length + 2 * e.dg.length + 2) s.size) = some e.nm.data.toList := by
    apply nm_esc _ hf
    rw [ext_all, hL, show ahd e.nm ++ (hx e.dg ++ (32 :: (if e.st = true then 42 else 32) :: esc e.nm.data.toList)) = (ahd e.nm ++ (hx e.dg ++ [32, if e.st = true then 42 else 32])) ++ esc e.nm.data.toList by simp, drop_app _ _ (by simp [hx_len]; omega)]
  rw [hs]
  unfold rdA
  rw [if_neg hmost, if_neg hsmall]
  unfold lineS
  rw [hi, hway, if_neg (by simp), hmk]
  unfold bareS
  rw [hN, if_neg (by omega), if_neg (by omega), if_neg (by rw [g0]; simp), if_neg (by rw [g1]; cases e.st <;> simp), hnm]
  simp only
  rw [hdr, take_app _ _ (hx_len e.dg), uhp_hx, ba_back, g1]
  have hst : (some (if e.st = true then (42 : UInt8) else 32) == some 42) = e.st := by cases e.st <;> rfl
  rw [hst]
theorem dec_val (u : Nat) : dval (Lib.decDigits u) = u ∧ (∀ c ∈ Lib.decDigits u, dP c = true) ∧ 0 < (Lib.decDigits u).length ∧ (0 < u → (Lib.decDigits u)[0]? ≠ some 48) := by
  induction u using Nat.strongRecOn with
  | _ u ih =>
    rw [Lib.decDigits]
    have hb : ∀ k, k < 10 → (UInt8.ofNat (48 + k)).toNat = 48 + k := fun k hk => by simp; omega
    split
    · rename_i h
      refine ⟨?_, ?_, by simp, ?_⟩
      · show 10 * 0 + ((UInt8.ofNat (48 + u)).toNat - 48) = u
        rw [hb u h]; omega
      · intro c hc
        rw [List.mem_singleton.1 hc]
        simp only [dP, Bool.and_eq_true, decide_eq_true_eq]
        rw [hb u h]; omega
      · intro h0 hc
        have h1 : UInt8.ofNat (48 + u) = 48 := by simpa using hc
        have h2 := congrArg UInt8.toNat h1
        rw [hb u h] at h2
        have : (48 : UInt8).toNat = 48 := rfl
        omega
    · rename_i h
      obtain ⟨i1, i2, i3, i4⟩ := ih (u / 10) (by omega)
      refine ⟨?_, ?_, by simp, ?_⟩
      · rw [dval_snoc, i1, hb (u % 10) (by omega)]; omega
      · intro c hc
        rcases List.mem_append.1 hc with hc | hc
        · exact i2 c hc
        · rw [List.mem_singleton.1 hc]
          simp only [dP, Bool.and_eq_true, decide_eq_true_eq]
          rw [hb (u % 10) (by omega)]; omega
      · intro _
        rw [List.getElem?_append_left i3]
        exact i4 (by omega)
theorem wayAt_word {s : ByteArray} {i : Nat} {a : Int} (h1 : 1 ≤ a) (h4 : a ≤ 4) {x : UInt8} {m : List UInt8} (hx : x = 32 ∨ x = 45) (hd : s.data.toList.drop i = swrd a ++ x :: m) : wayAt s i = a := by
  have hg : ∀ k, s.data.toList[i + k]? = (swrd a ++ x :: m)[k]? := fun k => by rw [← hd, List.getElem?_drop]
  obtain rfl | rfl | rfl | rfl : a = 1 ∨ a = 2 ∨ a = 3 ∨ a = 4 := by omega
  all_goals
    refine wayAt_hit s i _ h1 h4 (fun b b1 b2 => ?_) ?_
    · obtain rfl | rfl | rfl : b = 1 ∨ b = 2 ∨ b = 3 := by omega
      all_goals first
        | omega
        | (unfold wayB; rw [hd, hg]; simp [swrd, List.isPrefixOf])
    · unfold wayB
      rw [hd, hg]
      rcases hx with rfl | rfl <;> simp [swrd, List.isPrefixOf]
theorem last_tail {s : ByteArray} {P : List UInt8} {dg : List UInt8} (hL : s.data.toList = P ++ ([41, 32, 61, 32] ++ hx dg)) : Lib.lastIndex s.data.toList [41, 32, 61, 32] = (P.length : Int) := by
  have hsz : s.size = P.length + (4 + (hx dg).length) := by
    show s.data.toList.length = _
    rw [hL]; simp; omega
  refine last_found (by omega) ?_ ?_
  · unfold begB
    rw [hL, drop_app _ _ rfl]; rfl
  · intro q h1 h2
    have hh : (s.data.toList.drop q).head? ≠ some 41 := by
      rw [List.head?_drop, hL, List.getElem?_append_right (by omega)]
      obtain ⟨k, hk⟩ : ∃ k, q - P.length = k + 1 := ⟨q - P.length - 1, by omega⟩
      rw [hk]
      show ([32, 61, 32] ++ hx dg)[k]? ≠ some 41
      intro hc
      have hm := List.mem_of_getElem? hc
      rcases List.mem_append.1 hm with hm | hm
      · revert hm; decide
      · exact (hx_all dg 41 hm).2.2.2 rfl
    unfold begB
    cases hdq : s.data.toList.drop q with
    | nil => rfl
    | cons c m =>
      rw [hdq] at hh
      have hc : c ≠ 41 := by simpa using hh
      simp [List.isPrefixOf, Ne.symm hc]
set_option maxHeartbeats 1000000 in
theorem tail_say {s nm : ByteArray} {j n : Nat} {a : Int} {P dg : List UInt8} (hP : P.length = j) (hL : s.data.toList = P ++ (32 :: 40 :: (esc nm.data.toList ++ ([41, 32, 61, 32] ++ hx dg)))) (hn : dg.length = n) (hf : fileB nm.data.toList = true) :
    tailS s j n a (escD nm) = .inr ⟨a, nm, dg, false⟩ := by
  have hsz : s.size = j + (2 + ((esc nm.data.toList).length + (4 + 2 * n))) := by
    show s.data.toList.length = _
    rw [hL]; simp [hx_len, hP, hn]; omega
  have g0 : s.data.toList[j]? = some 32 := by rw [hL, get_app _ _ hP]; rfl
  have g1 : s.data.toList[j + 1]? = some 40 := by
    rw [hL, show P ++ (32 :: 40 :: (esc nm.data.toList ++ ([41, 32, 61, 32] ++ hx dg))) = (P ++ [32]) ++ (40 :: (esc nm.data.toList ++ ([41, 32, 61, 32] ++ hx dg))) by simp, get_app _ _ (by simp [hP])]; rfl
  have hlast : Lib.lastIndex s.data.toList [41, 32, 61, 32] = ((j + 2 + (esc nm.data.toList).length : Nat) : Int) := by
    rw [last_tail (P := P ++ (32 :: 40 :: esc nm.data.toList)) (dg := dg) (by rw [hL]; simp)]
    simp [hP]; omega
  have hnm : nmS (escD nm) (s.extract (j + 2) (j + 2 + (esc nm.data.toList).length)) = some nm.data.toList := by
    apply nm_esc _ hf
    rw [ext_list, hL, show P ++ (32 :: 40 :: (esc nm.data.toList ++ ([41, 32, 61, 32] ++ hx dg))) = (P ++ [32, 40]) ++ (esc nm.data.toList ++ ([41, 32, 61, 32] ++ hx dg)) by simp, drop_app _ _ (by simp [hP]), take_app _ _ rfl]
  have hdr : s.data.toList.drop (j + 2 + (esc nm.data.toList).length + 4) = hx dg := by
    rw [hL, show P ++ (32 :: 40 :: (esc nm.data.toList ++ ([41, 32, 61, 32] ++ hx dg))) = (P ++ (32 :: 40 :: (esc nm.data.toList ++ [41, 32, 61, 32]))) ++ hx dg by simp, drop_app _ _ (by simp [hP]; omega)]
  have hN : hexN s (j + 2 + (esc nm.data.toList).length + 4) = 2 * n := by
    unfold hexN
    rw [hdr]
    have := hex_cnt dg [] (by intro c hc; cases hc)
    rw [List.append_nil] at this
    rw [this, hn]
  have hto : ((j + 2 + (esc nm.data.toList).length : Nat) : Int).toNat = j + 2 + (esc nm.data.toList).length := Int.toNat_natCast _
  unfold tailS
  rw [hlast, hto, hN, hnm, hdr, if_neg (by rw [g0]; simp), if_neg (by rw [g1]; simp), if_neg (by omega)]
  simp only
  rw [if_neg (by omega), List.take_of_length_le (by rw [hx_len, hn]; exact Nat.le_refl _), uhp_hx, ba_back]
set_option maxHeartbeats 1000000 in
/-- An entry's line in the other form says the entry, without its mark. -/
theorem rd_tagged (e : Sm) (h : rightS e = true) : rdA ⟨(tagS e).toArray⟩ 1 = (⟨e.a, e.nm, e.dg, false⟩, 0, 0) := by
  unfold rightS at h
  simp only [Bool.and_eq_true, decide_eq_true_eq] at h
  obtain ⟨⟨hd1, hd2⟩, hf⟩ := h
  obtain ⟨a1, a4⟩ := smost_some (a := e.a) (by omega)
  obtain ⟨s, hs⟩ : ∃ s : ByteArray, (⟨(tagS e).toArray⟩ : ByteArray) = s := ⟨_, rfl⟩
  have hL : s.data.toList = ahd e.nm ++ (swrd e.a ++ (dsh e ++ (32 :: 40 :: (esc e.nm.data.toList ++ ([41, 32, 61, 32] ++ hx e.dg))))) := by
    rw [← hs, ba_mk]
    unfold tagS
    simp
  have he := esc_file hf
  have hal := ahdL e.nm
  have h64 := smost_le e.a
  have hwl := swrd_len e.a
  have hdv := dec_val (8 * e.dg.length)
  have hdl : (dsh e).length ≤ 4 := by
    unfold dsh
    split
    · have : (Lib.decDigits (8 * e.dg.length)).length ≤ 3 := dig_len 2 (8 * e.dg.length) (by omega)
      simp; omega
    · exact Nat.zero_le _
  have hsz : s.size = (ahd e.nm).length + ((swrd e.a).length + ((dsh e).length + (2 + ((esc e.nm.data.toList).length + (4 + 2 * e.dg.length))))) := by
    show s.data.toList.length = _
    rw [hL]; simp [hx_len]; omega
  have hsmall : ¬ 16384 < s.size := by rw [hsz, hal]; split <;> omega
  have hwne : swrd e.a ≠ [] := by
    intro h
    have := swrd_head a1 a4
    rw [h] at this; cases this
  have hmk : hpB s 92 = escD e.nm := by
    rw [hp_head hL]
    unfold ahd
    cases escD e.nm with
    | true => rfl
    | false =>
      show ((swrd e.a ++ _).head? == some 92) = false
      rw [head_app hwne, swrd_head a1 a4]; rfl
  have hi : (if hpB s 92 = true then 1 else 0) = (ahd e.nm).length := by rw [hmk, hal]
  have hdr : s.data.toList.drop (ahd e.nm).length = swrd e.a ++ (dsh e ++ (32 :: 40 :: (esc e.nm.data.toList ++ ([41, 32, 61, 32] ++ hx e.dg)))) := by rw [hL, drop_app _ _ rfl]
  have hway : wayAt s (ahd e.nm).length = e.a := by
    unfold dsh at hdr
    split at hdr
    · exact wayAt_word a1 a4 (.inr rfl) hdr
    · exact wayAt_word a1 a4 (.inl rfl) hdr
  have hbit : bitS s ((ahd e.nm).length + (swrd e.a).length) (smost e.a) = .inr ((ahd e.nm).length + (swrd e.a).length + (dsh e).length, e.dg.length) := by
    have hL2 : s.data.toList = (ahd e.nm ++ swrd e.a) ++ (dsh e ++ (32 :: 40 :: (esc e.nm.data.toList ++ ([41, 32, 61, 32] ++ hx e.dg)))) := by rw [hL]; simp
    have hpl : (ahd e.nm ++ swrd e.a).length = (ahd e.nm).length + (swrd e.a).length := by simp
    rw [← hpl]
    generalize ahd e.nm ++ swrd e.a = P at *
    unfold bitS dsh
    unfold dsh at hL2
    by_cases hlt : e.dg.length < smost e.a
    · rw [if_pos hlt] at hL2 ⊢
      have g0 : s.data.toList[P.length]? = some 45 := by rw [hL2, get_app _ _ rfl]; rfl
      have hL3 : s.data.toList = (P ++ [45]) ++ (Lib.decDigits (8 * e.dg.length) ++ (32 :: 40 :: (esc e.nm.data.toList ++ ([41, 32, 61, 32] ++ hx e.dg)))) := by rw [hL2]; simp
      have hd3 : s.data.toList.drop (P.length + 1) = Lib.decDigits (8 * e.dg.length) ++ (32 :: 40 :: (esc e.nm.data.toList ++ ([41, 32, 61, 32] ++ hx e.dg))) := by rw [hL3, drop_app _ _ (by simp)]
      have hn3 : digN s (P.length + 1) = (Lib.decDigits (8 * e.dg.length)).length := by
        unfold digN
        rw [hd3, cnt_all hdv.2.1]
        intro c hc
        have : 32 = c := by simpa using hc
        rw [← this]; decide
      have g1 : s.data.toList[P.length + 1]? ≠ some 48 := by
        rw [hL3, get_app _ _ (by simp), List.getElem?_append_left hdv.2.2.1]
        exact hdv.2.2.2 (by omega)
      have hl0 := hdv.2.2.1
      rw [if_pos g0, hn3, hd3, take_app _ _ rfl, hdv.1, if_neg (by rintro (h | h | h | h) <;> first | exact g1 h | omega)]
      congr 1
      ext
      · simp; omega
      · show 8 * e.dg.length / 8 = _
        omega
    · rw [if_neg hlt] at hL2 ⊢
      have g0 : s.data.toList[P.length]? = some 32 := by rw [hL2, get_app _ _ rfl]; rfl
      rw [if_neg (by rw [g0]; decide)]
      congr 1
      ext
      · rfl
      · show smost e.a = _
        omega
  have htail := tail_say (s := s) (nm := e.nm) (a := e.a) (P := ahd e.nm ++ (swrd e.a ++ dsh e)) (dg := e.dg) (j := (ahd e.nm).length + (swrd e.a).length + (dsh e).length) (n := e.dg.length) (by simp; omega) (by rw [hL]; simp) rfl hf
  rw [hs]
  unfold rdA
  rw [if_neg (by decide), if_neg hsmall]
  unfold lineS
  rw [hi, hway, if_pos (by omega), hmk]
  unfold tggS
  rw [hbit]
  simp only
  rw [htail]
end Go.Proofs.YtjaohjlddhjgpaaGreatDoor
