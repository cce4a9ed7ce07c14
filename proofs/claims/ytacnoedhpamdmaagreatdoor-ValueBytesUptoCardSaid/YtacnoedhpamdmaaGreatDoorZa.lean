/- Plain words: what bytes say (Decode): a value, or the place and the reason of the first fault. Conditions: none. -/
import Derived.Test.YtacnoedhpamdmaaGreatDoorOc
import Derived.Laws.BytesArg
namespace Go.Proofs.YtacnoedhpamdmaaGreatDoor
open Go.RowKit
set_option linter.unusedVariables false

/-- A number of bytes, the lowest first. -/
def numL : List Int → Nat
  | [] => 0
  | b :: l => b.toNat + 256 * numL l
def sub (xs : List Int) (at_ n : Nat) : List Int := (xs.drop at_).take n
theorem sub_len {xs : List Int} {a n : Nat} (h : a + n ≤ xs.length) : (sub xs a n).length = n := by
  unfold sub; rw [List.length_take, List.length_drop]; omega
theorem sub_bts {xs : List Int} (h : Bts xs) (a n : Nat) : Bts (sub xs a n) := fun z hz => h z (List.mem_of_mem_drop (List.mem_of_mem_take hz))
theorem numL_lt : ∀ l : List Int, Bts l → numL l < 256 ^ l.length
  | [], _ => by simp [numL]
  | b :: l, h => by
    have h1 := h b List.mem_cons_self
    have h2 := numL_lt l (fun z hz => h z (List.mem_cons_of_mem _ hz))
    rw [numL, List.length_cons, Nat.pow_succ]
    omega
/-- A string of these bytes. -/
abbrev strL (l : List Int) : ByteArray := strOfNums l
theorem strL_size (l : List Int) : (strL l).size = l.length := by
  show (strOfNums l).data.size = _
  unfold strOfNums
  simp
/-- What reading gives: a value, the place behind it, how many so far; or a fault. -/
inductive DR where
  | ok (v : Val) (at_ parts : Nat) : DR
  | bad (at_ : Nat) (why : Int) : DR
inductive NR where
  | ok (s : ByteArray) (at_ : Nat) : NR
  | bad (at_ : Nat) (why : Int) : NR
/-- A name. -/
def nameD (xs : List Int) (at_ : Nat) (nms : List ByteArray) : NR :=
  if xs.length < at_ + 4 then .bad at_ 3
  else if xs.length < at_ + 4 + numL (sub xs at_ 4) then .bad (at_ + 4) 3
  else if nms ≠ [] ∧ strL (sub xs (at_ + 4) (numL (sub xs at_ 4))) = nms.getLastD ⟨#[]⟩ then .bad (at_ + 4) 232
  else if nms ≠ [] ∧ Op.bytesLess (strL (sub xs (at_ + 4) (numL (sub xs at_ 4)))).toList (nms.getLastD ⟨#[]⟩).toList = true then .bad (at_ + 4) 233
  else .ok (strL (sub xs (at_ + 4) (numL (sub xs at_ 4)))) (at_ + 4 + numL (sub xs at_ 4))
/-- Items, so many. -/
def decI (f : Nat → Nat → DR) (xs : List Int) (k : Int) : Nat → Nat → Nat → List Val → List ByteArray → DR
  | 0, at_, parts, its, nms => .ok (.mk k 0 0 ⟨#[]⟩ its nms) at_ parts
  | n + 1, at_, parts, its, nms =>
    match (if k = 7 then nameD xs at_ nms else .ok ⟨#[]⟩ at_) with
    | .bad a e => .bad a e
    | .ok s a =>
      match f a parts with
      | .bad a e => .bad a e
      | .ok v a' p' => decI f xs k n a' p' (its ++ [v]) (if k = 7 then nms ++ [s] else nms)
/-- What stands behind a text's number. -/
def textD (xs : List Int) (k : Int) (at_ parts : Nat) : DR :=
  if xs.length < at_ + 5 then .bad (at_ + 1) 3
  else if k = 8 ∧ (numL (sub xs (at_ + 1) 4) < 1 ∨ 64 < numL (sub xs (at_ + 1) 4)) then .bad (at_ + 1) 4
  else if xs.length < at_ + 5 + numL (sub xs (at_ + 1) 4) then .bad (at_ + 5) 3
  else .ok (.mk k 0 0 (strL (sub xs (at_ + 5) (numL (sub xs (at_ + 1) 4)))) [] []) (at_ + 5 + numL (sub xs (at_ + 1) 4)) parts
/-- A value, with room for so many within one another. -/
def decV (xs : List Int) : Nat → Nat → Nat → DR
  | 0, at_, _ => .bad at_ 231
  | d + 1, at_, parts =>
    if 65536 ≤ parts then .bad at_ 2
    else if xs.length < at_ + 1 then .bad at_ 3
    else if xs.getD at_ 0 = 0 then .ok (.mk 0 0 0 ⟨#[]⟩ [] []) (at_ + 1) (parts + 1)
    else if xs.getD at_ 0 = 1 then
      if xs.length < at_ + 2 then .bad (at_ + 1) 3 else if 1 < xs.getD (at_ + 1) 0 then .bad (at_ + 1) 4
      else .ok (.mk 1 (xs.getD (at_ + 1) 0) 0 ⟨#[]⟩ [] []) (at_ + 2) (parts + 1)
    else if xs.getD at_ 0 = 2 then
      if xs.length < at_ + 9 then .bad (at_ + 1) 3 else .ok (.mk 2 (IntKind.i64.wrap (numL (sub xs (at_ + 1) 8) : Nat)) 0 ⟨#[]⟩ [] []) (at_ + 9) (parts + 1)
    else if xs.getD at_ 0 = 3 then
      if xs.length < at_ + 9 then .bad (at_ + 1) 3 else if fone (numL (sub xs (at_ + 1) 8)) ≠ numL (sub xs (at_ + 1) 8) then .bad (at_ + 1) 4
      else .ok (.mk 3 0 (numL (sub xs (at_ + 1) 8)) ⟨#[]⟩ [] []) (at_ + 9) (parts + 1)
    else if xs.getD at_ 0 = 4 ∨ xs.getD at_ 0 = 5 ∨ xs.getD at_ 0 = 8 then textD xs (xs.getD at_ 0) at_ (parts + 1)
    else if xs.getD at_ 0 = 6 ∨ xs.getD at_ 0 = 7 then
      if xs.length < at_ + 5 then .bad (at_ + 1) 3 else decI (decV xs d) xs (xs.getD at_ 0) (numL (sub xs (at_ + 1) 4)) (at_ + 5) (parts + 1) [] []
    else .bad at_ 4
/-- What is told of what was read. -/
structure DOk (xs : List Int) (at_ at' : Nat) (v : Val) : Prop where
  lo : at_ < at'
  hi : at' ≤ xs.length
  wf : wfV v
  bd : bnd v ≤ at' - at_
theorem wf_i64 (n : Int) : (Lit.int .i64 (IntKind.i64.wrap n)).wf = true := by
  have := IntKind.wrap_i64 n
  simp only [Lit.wf, IntKind.min, IntKind.max, IntKind.bits, IntKind.signed, Bool.and_eq_true, decide_eq_true_eq]
  rw [this]
  simp
  omega
theorem wfV_leaf {k i : Int} {f : Nat} {t : ByteArray} {n : List ByteArray} (h1 : (Lit.int .i64 k).wf = true) (h2 : (Lit.int .i64 i).wf = true) (h3 : f < 18446744073709551616) : wfV (.mk k i f t [] n) := by
  rw [wfV, wfL]
  exact ⟨h1, h2, by simpa [Lit.wf] using h3, trivial⟩
theorem nameD_ok {xs : List Int} {a : Nat} {nms : List ByteArray} {s : ByteArray} {a' : Nat} (h : nameD xs a nms = .ok s a') : a' = a + 4 + s.size ∧ a' ≤ xs.length := by
  unfold nameD at h
  split at h
  · cases h
  · split at h
    · cases h
    · split at h
      · cases h
      · split at h
        · cases h
        · injection h with h1 h2
          subst h1 h2
          rw [strL_size, sub_len (by omega)]
          omega
theorem wfL_snoc : ∀ (l : List Val) {u : Val}, wfL l → wfV u → wfL (l ++ [u])
  | [], u, _, h => by rw [List.nil_append, wfL, wfL]; exact ⟨h, trivial⟩
  | x :: l, u, hl, h => by rw [wfL] at hl; rw [List.cons_append, wfL]; exact ⟨hl.1, wfL_snoc l hl.2 h⟩
theorem bndL_snoc : ∀ (l : List Val) (u : Val), bndL (l ++ [u]) = bndL l + bnd u
  | [], u => by rw [List.nil_append, bndL, bndL, bndL]; omega
  | x :: l, u => by rw [List.cons_append, bndL, bndL, bndL_snoc l u]; omega
theorem decI_ok {f : Nat → Nat → DR} {xs : List Int} {k : Int} (hf : ∀ a p v a' p', a ≤ xs.length → f a p = .ok v a' p' → DOk xs a a' v) (hk : (Lit.int .i64 k).wf = true) :
    ∀ (n a p : Nat) (its : List Val) (nms : List ByteArray) (v : Val) (a' p' : Nat), a ≤ xs.length → wfL its → decI f xs k n a p its nms = .ok v a' p' →
      a ≤ a' ∧ a' ≤ xs.length ∧ wfV v ∧ bnd v ≤ 1 + bndL its + (nms.map fun s => 1 + s.size).sum + (a' - a) := by
  intro n
  induction n with
  | zero =>
    intro a p its nms v a' p' ha hw h
    rw [decI] at h
    injection h with h1 h2 h3
    subst h1 h2
    refine ⟨Nat.le_refl _, ha, by rw [wfV]; exact ⟨hk, by decide, by decide, hw⟩, ?_⟩
    rw [bnd]
    have : (⟨#[]⟩ : ByteArray).size = 0 := rfl
    omega
  | succ n il =>
    intro a p its nms v a' p' ha hw h
    rw [decI] at h
    have step : ∀ (s : ByteArray) (a1 : Nat) (nms' : List ByteArray), a1 ≤ xs.length → (nms'.map fun s => 1 + s.size).sum + a ≤ (nms.map fun s => 1 + s.size).sum + a1 → a ≤ a1 →
        (match f a1 p with | .bad a e => DR.bad a e | .ok v a' p' => decI f xs k n a' p' (its ++ [v]) nms') = .ok v a' p' → a ≤ a' ∧ a' ≤ xs.length ∧ wfV v ∧ bnd v ≤ 1 + bndL its + (nms.map fun s => 1 + s.size).sum + (a' - a) := by
      intro s a1 nms' h1 h2 h3 hm
      cases hfa : f a1 p with
      | bad a e => rw [hfa] at hm; cases hm
      | ok u b q =>
        rw [hfa] at hm
        have hd := hf _ _ _ _ _ h1 hfa
        have hwl : wfL (its ++ [u]) := wfL_snoc its hw hd.wf
        have hbl : bndL (its ++ [u]) = bndL its + bnd u := bndL_snoc its u
        have := il b q (its ++ [u]) nms' v a' p' hd.hi hwl hm
        have hlo := hd.lo
        have hbd := hd.bd
        refine ⟨by omega, this.2.1, this.2.2.1, ?_⟩
        have h4 := this.2.2.2
        rw [hbl] at h4
        omega
    by_cases h7 : k = 7
    · simp only [if_pos h7] at h
      cases hn : nameD xs a nms with
      | bad b e => rw [hn] at h; cases h
      | ok s b =>
        rw [hn] at h
        obtain ⟨e1, e2⟩ := nameD_ok hn
        refine step s b (nms ++ [s]) e2 ?_ (by omega) h
        rw [List.map_append, List.sum_append]
        simp
        omega
    · simp only [if_neg h7] at h
      exact step ⟨#[]⟩ a nms ha (Nat.le_refl _) (Nat.le_refl _) h
theorem getD_bts {xs : List Int} (h : Bts xs) (i : Nat) : 0 ≤ xs.getD i 0 ∧ xs.getD i 0 < 256 := by
  by_cases hi : i < xs.length
  · rw [List.getD_eq_getElem?_getD, List.getElem?_eq_getElem hi]; exact h _ (List.getElem_mem hi)
  · rw [List.getD_eq_getElem?_getD, List.getElem?_eq_none (by omega)]; exact ⟨by decide, by decide⟩
theorem wf_small {z : Int} (h : 0 ≤ z ∧ z < 256) : (Lit.int .i64 z).wf = true := by
  simp only [Lit.wf, IntKind.min, IntKind.max, IntKind.bits, IntKind.signed, Bool.and_eq_true, decide_eq_true_eq]
  simp
  omega
theorem decV_ok {xs : List Int} (hb : Bts xs) : ∀ (d a p : Nat) (v : Val) (a' p' : Nat), a ≤ xs.length → decV xs d a p = .ok v a' p' → DOk xs a a' v := by
  intro d
  induction d with
  | zero => intro a p v a' p' _ h; rw [decV] at h; cases h
  | succ d ih =>
    intro a p v a' p' ha h
    rw [decV] at h
    have hk := wf_small (getD_bts hb a)
    have h8 : ∀ q, numL (sub xs q 8) < 18446744073709551616 := fun q => by
      have h1 := numL_lt _ (sub_bts hb q 8)
      have h2 : (sub xs q 8).length ≤ 8 := by unfold sub; rw [List.length_take]; omega
      have h3 : (256 : Nat) ^ (sub xs q 8).length ≤ 256 ^ 8 := Nat.pow_le_pow_right (by decide) h2
      have h4 : (256 : Nat) ^ 8 = 18446744073709551616 := by decide +kernel
      omega
    have hz : (Lit.int .i64 0).wf = true := by decide
    have hsz : (⟨#[]⟩ : ByteArray).size = 0 := rfl
    have hb0 : ∀ (k i : Int) (f : Nat) (t : ByteArray), bnd (.mk k i f t [] []) = 1 + t.size := fun k i f t => by rw [bnd, bndL]; simp
    split at h
    · cases h
    · split at h
      · cases h
      · split at h
        · injection h with h1 h2 h3
          subst h1 h2
          exact ⟨by omega, by omega, wfV_leaf hz hz (by omega), by rw [hb0, hsz]; omega⟩
        · split at h
          · split at h
            · cases h
            · split at h
              · cases h
              · injection h with h1 h2 h3
                subst h1 h2
                exact ⟨by omega, by omega, wfV_leaf (by decide) (wf_small (getD_bts hb _)) (by omega), by rw [hb0, hsz]; omega⟩
          · split at h
            · split at h
              · cases h
              · injection h with h1 h2 h3
                subst h1 h2
                exact ⟨by omega, by omega, wfV_leaf (by decide) (wf_i64 _) (by omega), by rw [hb0, hsz]; omega⟩
            · split at h
              · split at h
                · cases h
                · split at h
                  · cases h
                  · injection h with h1 h2 h3
                    subst h1 h2
                    exact ⟨by omega, by omega, wfV_leaf (by decide) hz (h8 _), by rw [hb0, hsz]; omega⟩
              · split at h
                · unfold textD at h
                  split at h
                  · cases h
                  · split at h
                    · cases h
                    · split at h
                      · cases h
                      · injection h with h1 h2 h3
                        subst h1 h2
                        refine ⟨by omega, by omega, wfV_leaf hk hz (by omega), ?_⟩
                        rw [hb0, strL_size, sub_len (by omega)]
                        omega
                · split at h
                  · split at h
                    · cases h
                    · have := decI_ok (f := decV xs d) (xs := xs) (fun a p v a' p' => ih a p v a' p') hk _ _ _ _ _ _ _ _ (by omega) (by rw [wfL]; trivial) h
                      refine ⟨by omega, this.2.1, this.2.2.1, ?_⟩
                      have h4 := this.2.2.2
                      rw [bndL] at h4
                      simp only [List.map_nil, List.sum_nil] at h4
                      omega
                  · cases h
theorem decI_parts {f : Nat → Nat → DR} {xs : List Int} {k : Int} (hf : ∀ a p v a' p', p ≤ 65536 → f a p = .ok v a' p' → p' ≤ 65536) :
    ∀ (n a p : Nat) (its : List Val) (nms : List ByteArray) (v : Val) (a' p' : Nat), p ≤ 65536 → decI f xs k n a p its nms = .ok v a' p' → p' ≤ 65536 := by
  intro n
  induction n with
  | zero => intro a p its nms v a' p' hp h; rw [decI] at h; injection h with h1 h2 h3; omega
  | succ n il =>
    intro a p its nms v a' p' hp h
    rw [decI] at h
    split at h
    · cases h
    · split at h
      · cases h
      · rename_i hfa
        exact il _ _ _ _ _ _ _ (hf _ _ _ _ _ hp hfa) h
theorem decV_parts {xs : List Int} : ∀ (d a p : Nat) (v : Val) (a' p' : Nat), p ≤ 65536 → decV xs d a p = .ok v a' p' → p' ≤ 65536 := by
  intro d
  induction d with
  | zero => intro a p v a' p' _ h; rw [decV] at h; cases h
  | succ d ih =>
    intro a p v a' p' hp h
    rw [decV] at h
    unfold textD at h
    repeat' (split at h)
    all_goals first
      | (cases h; done)
      | (injection h with h1 h2 h3; omega)
      | exact decI_parts (fun a p v a' p' => ih a p v a' p') _ _ _ _ _ _ _ _ (by omega) h
end Go.Proofs.YtacnoedhpamdmaaGreatDoor
