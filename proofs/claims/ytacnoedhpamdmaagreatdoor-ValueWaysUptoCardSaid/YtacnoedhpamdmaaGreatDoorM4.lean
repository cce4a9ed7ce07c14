/- Plain words: the value at the end of a way, a value with another one laid there; what stands where afterwards (no program). Conditions: none. Values whose memory is their own: each list in a block that no other part of the value uses; a value with another one laid at a place of it. Conditions: none. Walks: slices.Clone at texts and at values; what a value's copying has laid so far. Conditions: the rows as they read; at most 1048576 elements. Walk: a value with memory of its own (value.copied). Conditions: the value as it reads; its bulk at most 1048576. Walk: the value at the end of a way (value.At). Conditions: the value as it reads, its bulk at most 1048576; the way as it reads. Walks: the errors of two values (value.both, quernref23.both). Conditions: the values as they read; bulk at most 1048576. Walk: one value held against itself, from two places in memory (quernlaw23.alike). Conditions: the value as it reads at both; its bulk at most 1048576. -/
import Derived.Test.YtacnoedhpamdmaaGreatDoorYd
import Derived.Test.YtacnoedhpamdmaaGreatDoorYe
import Derived.Test.YtacnoedhpamdmaaGreatDoorFw1
import Derived.Lib.SliceRun
import Derived.Deep.DeepCutAuto
import Derived.Deep.RegionHeld3
import Derived.Test.YtacnoedhpamdmaaGreatDoorYo
import Derived.BigQuiet
import Derived.Deep.QuietTactic
namespace Go.Proofs.YtacnoedhpamdmaaGreatDoor
set_option linter.unusedVariables false

/-- The value with another item at a place. -/
def setI (v : Val) (j : Nat) (y : Val) : Val := .mk v.k v.i v.f v.t (v.its.set j y) v.nms
/-- The value at the end of a way. -/
def atV : Val → List Int → Option Val
  | v, [] => some v
  | v, i :: r => if i < 0 then none else match v.its[i.toNat]? with | some x => atV x r | none => none
/-- A value with another one at the end of a way. -/
def putV : Val → List Int → Val → Val
  | _, [], y => y
  | v, i :: r, y => match v.its[i.toNat]? with | some x => setI v i.toNat (putV x r y) | none => v
theorem atV_cons {v : Val} {i : Int} {r : List Int} {x : Val} (h : atV v (i :: r) = some x) : ∃ j : Nat, i = (j : Int) ∧ ∃ hj : j < v.its.length, atV v.its[j] r = some x := by
  rw [atV] at h
  by_cases h0 : i < 0
  · rw [if_pos h0] at h; cases h
  · rw [if_neg h0] at h
    refine ⟨i.toNat, by omega, ?_⟩
    cases hg : v.its[i.toNat]? with
    | none => rw [hg] at h; cases h
    | some y =>
      rw [hg] at h
      obtain ⟨hj, rfl⟩ := List.getElem?_eq_some_iff.1 hg
      exact ⟨hj, h⟩
theorem atV_in {v : Val} {j : Nat} (hj : j < v.its.length) (r : List Int) : atV v ((j : Int) :: r) = atV v.its[j] r := by
  rw [atV, if_neg (by omega)]
  simp only [Int.toNat_natCast, List.getElem?_eq_getElem hj]
theorem atV_out {v : Val} {i : Int} (hi : i < 0 ∨ (v.its.length : Int) ≤ i) (r : List Int) : atV v (i :: r) = none := by
  rw [atV]
  by_cases h0 : i < 0
  · rw [if_pos h0]
  · rw [if_neg h0, List.getElem?_eq_none (by omega)]
theorem putV_in {v : Val} {j : Nat} (hj : j < v.its.length) (r : List Int) (y : Val) : putV v ((j : Int) :: r) y = setI v j (putV v.its[j] r y) := by
  rw [putV]
  simp only [Int.toNat_natCast, List.getElem?_eq_getElem hj]
theorem setI_its (v : Val) (j : Nat) (y : Val) : (setI v j y).its = v.its.set j y := rfl
theorem setI_nms (v : Val) (j : Nat) (y : Val) : (setI v j y).nms = v.nms := rfl
/-- What was put stands there. -/
theorem at_put {y : Val} : ∀ {r : List Int} {v x : Val}, atV v r = some x → atV (putV v r y) r = some y := by
  intro r
  induction r with
  | nil => intro v x _; rw [putV, atV]
  | cons i r ih =>
    intro v x h
    obtain ⟨j, rfl, hj, h⟩ := atV_cons h
    rw [putV_in hj, atV_in (by rw [setI_its, List.length_set]; exact hj)]
    simp only [setI_its, List.getElem_set_self]
    exact ih h
/-- Elsewhere all is as it was. -/
theorem at_else {y v x : Val} {i j : Int} {r s : List Int} (h : atV v (i :: r) = some x) (hne : i ≠ j) : atV (putV v (i :: r) y) (j :: s) = atV v (j :: s) := by
  obtain ⟨n, rfl, hn, h⟩ := atV_cons h
  rw [putV_in hn]
  rcases (show j < 0 ∨ 0 ≤ j by omega) with h0 | h0
  · rw [atV_out (.inl h0), atV_out (.inl h0)]
  rcases (show j < v.its.length ∨ (v.its.length : Int) ≤ j by omega) with h1 | h1
  · obtain ⟨m, rfl⟩ : ∃ m : Nat, j = (m : Int) := ⟨j.toNat, by omega⟩
    have hm : m < v.its.length := by omega
    rw [atV_in hm, atV_in (by rw [setI_its, List.length_set]; exact hm)]
    simp only [setI_its]
    rw [List.getElem_set_ne (by omega)]
  · rw [atV_out (.inr h1), atV_out (.inr (by rw [setI_its, List.length_set]; exact h1))]
theorem atV_snoc : ∀ {r : List Int} {v x : Val} {s : List Int}, atV v r = some x → atV v (r ++ s) = atV x s := by
  intro r
  induction r with
  | nil => intro v x s h; rw [atV] at h; injection h with h; rw [h]; rfl
  | cons i r ih =>
    intro v x s h
    obtain ⟨j, rfl, hj, h⟩ := atV_cons h
    rw [List.cons_append, atV_in hj]
    exact ih h
theorem putV_snoc {y : Val} {k : Nat} : ∀ {r : List Int} {v x : Val}, atV v r = some x → k < x.its.length → putV v (r ++ [(k : Int)]) y = putV v r (setI x k y) := by
  intro r
  induction r with
  | nil =>
    intro v x h hk
    rw [atV] at h
    injection h with h
    subst h
    rw [List.nil_append, putV_in hk, putV, putV]
  | cons i r ih =>
    intro v x h hk
    obtain ⟨j, rfl, hj, h⟩ := atV_cons h
    rw [List.cons_append, putV_in hj, putV_in hj, ih h hk]
theorem wfL_iff {l : List Val} : wfL l ↔ ∀ x ∈ l, wfV x := by
  induction l with
  | nil => rw [wfL]; simp
  | cons v l ih => rw [wfL, ih]; simp
theorem wfV_iff {v : Val} : wfV v ↔ ((Lit.int .i64 v.k).wf = true ∧ (Lit.int .i64 v.i).wf = true ∧ (Lit.float .f64 v.f).wf = true) ∧ ∀ x ∈ v.its, wfV x := by
  cases v with
  | mk k i f t its nms =>
    rw [wfV, wfL_iff]
    exact ⟨fun ⟨a, b, c, d⟩ => ⟨⟨a, b, c⟩, d⟩, fun ⟨⟨a, b, c⟩, d⟩ => ⟨a, b, c, d⟩⟩
theorem setI_wf {v y : Val} {j : Nat} (h : wfV v) (hy : wfV y) : wfV (setI v j y) := by
  refine wfV_iff.2 ⟨(wfV_iff.1 h).1, fun x hx => ?_⟩
  rcases List.mem_or_eq_of_mem_set hx with hx | rfl
  · exact (wfV_iff.1 h).2 x hx
  · exact hy
theorem putV_wf {y : Val} (hy : wfV y) : ∀ {r : List Int} {v x : Val}, wfV v → atV v r = some x → wfV (putV v r y) := by
  intro r
  induction r with
  | nil => intro v x _ _; rw [putV]; exact hy
  | cons i r ih =>
    intro v x hv h
    obtain ⟨j, rfl, hj, h⟩ := atV_cons h
    rw [putV_in hj]
    exact setI_wf hv (ih (wfV_item hv (List.getElem_mem hj)) h)
theorem atV_wf : ∀ {r : List Int} {v x : Val}, wfV v → atV v r = some x → wfV x := by
  intro r
  induction r with
  | nil => intro v x hv h; rw [atV] at h; injection h with h; exact h ▸ hv
  | cons i r ih =>
    intro v x hv h
    obtain ⟨j, rfl, hj, h⟩ := atV_cons h
    exact ih (wfV_item hv (List.getElem_mem hj)) h
theorem atV_bnd : ∀ {r : List Int} {v x : Val}, atV v r = some x → bnd x ≤ bnd v := by
  intro r
  induction r with
  | nil => intro v x h; rw [atV] at h; injection h with h; rw [h]; exact Nat.le_refl _
  | cons i r ih =>
    intro v x h
    obtain ⟨j, rfl, hj, h⟩ := atV_cons h
    have := ih h
    have := bnd_item (List.getElem_mem hj)
    omega
theorem bndL_set : ∀ {l : List Val} {j : Nat} {y : Val} (hj : j < l.length), bndL (l.set j y) + bnd l[j] = bndL l + bnd y
  | [], j, y, hj => by simp at hj
  | v :: l, 0, y, hj => by simp only [List.set_cons_zero, bndL, List.getElem_cons_zero]; omega
  | v :: l, j + 1, y, hj => by
    have := bndL_set (l := l) (j := j) (y := y) (by simpa using hj)
    simp only [List.set_cons_succ, bndL, List.getElem_cons_succ]
    omega
theorem putV_bnd {y : Val} : ∀ {r : List Int} {v x : Val}, atV v r = some x → bnd (putV v r y) + bnd x = bnd v + bnd y := by
  intro r
  induction r with
  | nil => intro v x h; rw [atV] at h; injection h with h; rw [putV, h]; omega
  | cons i r ih =>
    intro v x h
    obtain ⟨j, rfl, hj, h⟩ := atV_cons h
    rw [putV_in hj]
    have h1 := ih h
    have h2 := bndL_set (y := putV v.its[j] r y) hj
    rw [bnd_eq v, bnd_eq (setI v j _)]
    show 1 + v.t.size + bndL (v.its.set j _) + _ + _ = _
    have h3 : (setI v j (putV v.its[j] r y)).nms = v.nms := rfl
    rw [h3]
    omega
end Go.Proofs.YtacnoedhpamdmaaGreatDoor
namespace Go.Proofs.YtacnoedhpamdmaaGreatDoor
open Go.RowKit
set_option linter.unusedVariables false

/-- These cells are this value's; its lists lie in blocks of S, each in one of its own. -/
inductive Tr (w : World) : (Nat → Prop) → Val → List Value → Prop
  | mk {S : Nat → Prop} {k i : Int} {f : Nat} {t : ByteArray} {its : List Val} {nms : List ByteArray} {A A' : Option Addr} {c c' : Nat} (F : Nat → Nat → Prop) (cc : Nat → List Value)
      (hn : 0 < nms.length → ∃ g cur, A' = some ⟨g, 0, none⟩ ∧ S g ∧ (∀ j, j < its.length → ¬ F j g) ∧ Blk w g 9 cur ∧ ∀ j, (h : j < nms.length) → cur[j]? = some (.string nms[j]))
      (hi : 0 < its.length → ∃ b cur, A = some ⟨b, 0, none⟩ ∧ S b ∧ (∀ j, j < its.length → ¬ F j b) ∧ Blk w b 30 cur ∧ its.length * 6 ≤ cur.size ∧ ∀ j q u, j < its.length → (cc j)[q]? = some u → cur[j * 6 + q]? = some u)
      (hs : ∀ j, j < its.length → ∀ i, F j i → S i)
      (hd : ∀ j j', j < its.length → j' < its.length → ∀ i, F j i → F j' i → j = j')
      (hk : ∀ j, (h : j < its.length) → Tr w (F j) its[j] (cc j)) :
      Tr w S (.mk k i f t its nms) (vcs (.mk k i f t its nms) A A' c c')
/-- The same, part by part. -/
structure TrI (w : World) (S : Nat → Prop) (v : Val) (A A' : Option Addr) (F : Nat → Nat → Prop) (cc : Nat → List Value) : Prop where
  hn : 0 < v.nms.length → ∃ g cur, A' = some ⟨g, 0, none⟩ ∧ S g ∧ (∀ j, j < v.its.length → ¬ F j g) ∧ Blk w g 9 cur ∧ ∀ j, (h : j < v.nms.length) → cur[j]? = some (.string v.nms[j])
  hi : 0 < v.its.length → ∃ b cur, A = some ⟨b, 0, none⟩ ∧ S b ∧ (∀ j, j < v.its.length → ¬ F j b) ∧ Blk w b 30 cur ∧ v.its.length * 6 ≤ cur.size ∧ ∀ j q u, j < v.its.length → (cc j)[q]? = some u → cur[j * 6 + q]? = some u
  hs : ∀ j, j < v.its.length → ∀ i, F j i → S i
  hd : ∀ j j', j < v.its.length → j' < v.its.length → ∀ i, F j i → F j' i → j = j'
  hk : ∀ j, (h : j < v.its.length) → Tr w (F j) v.its[j] (cc j)
theorem TrI.tr {w : World} {S : Nat → Prop} {v : Val} {A A' : Option Addr} {F : Nat → Nat → Prop} {cc : Nat → List Value} (h : TrI w S v A A' F cc) (c c' : Nat) : Tr w S v (vcs v A A' c c') := by
  cases v with
  | mk k i f t its nms => exact .mk F cc h.hn h.hi h.hs h.hd h.hk
theorem Tr.open_ {w : World} {S : Nat → Prop} {v : Val} {cs : List Value} (h : Tr w S v cs) : ∃ A A' c c' F cc, cs = vcs v A A' c c' ∧ TrI w S v A A' F cc := by
  cases h with
  | mk F cc hn hi hs hd hk => exact ⟨_, _, _, _, F, cc, rfl, ⟨hn, hi, hs, hd, hk⟩⟩
theorem Tr.six {w : World} {S : Nat → Prop} {v : Val} {cs : List Value} (h : Tr w S v cs) : cs.length = 6 := by
  obtain ⟨_, _, _, _, _, _, rfl, _⟩ := h.open_
  rfl
theorem Tr.one {w : World} {S : Nat → Prop} {v : Val} {cs : List Value} (h : Tr w S v cs) : cs.toArray.toList.all (·.oneCell') = true := by
  obtain ⟨_, _, _, _, _, _, rfl, _⟩ := h.open_
  rfl
theorem Tr.keep {w W : World} {S : Nat → Prop} {v : Val} {cs : List Value} (h : Tr w S v cs) : (∀ i, S i → W.heap[i]? = w.heap[i]?) → Tr W S v cs := by
  induction h with
  | mk F cc hn hi hs hd hk ih =>
    intro hK
    refine .mk F cc (fun h0 => ?_) (fun h0 => ?_) hs hd fun j h => ih j h fun i hi => hK i (hs j h i hi)
    · obtain ⟨g, cur, e, hg, hf, hb, hc⟩ := hn h0
      exact ⟨g, cur, e, hg, hf, (hK g hg).trans hb, hc⟩
    · obtain ⟨g, cur, e, hg, hf, hb, hc⟩ := hi h0
      exact ⟨g, cur, e, hg, hf, (hK g hg).trans hb, hc⟩
theorem Tr.wide {w : World} {S S' : Nat → Prop} {v : Val} {cs : List Value} (h : Tr w S v cs) (hS : ∀ i, S i → S' i) : Tr w S' v cs := by
  cases h with
  | mk F cc hn hi hs hd hk =>
    refine .mk F cc (fun h0 => ?_) (fun h0 => ?_) (fun j h i hi => hS i (hs j h i hi)) hd hk
    · obtain ⟨g, cur, e, hg, hr⟩ := hn h0
      exact ⟨g, cur, e, hS g hg, hr⟩
    · obtain ⟨g, cur, e, hg, hr⟩ := hi h0
      exact ⟨g, cur, e, hS g hg, hr⟩
theorem Tr.rd {w : World} {S : Nat → Prop} {v : Val} {cs : List Value} {B : Nat} (h : Tr w S v cs) : (∀ i, S i → i < B) → RdV w B v cs := by
  induction h with
  | @mk S k i f t its nms A A' c c' F cc hn hi hs hd hk ih =>
    intro hB
    refine RdV_iff.2 ⟨A, A', c, c', rfl, ⟨by show (strs nms).length = nms.length * 1; simp, fun h0 => ?_⟩, fun j hj => ?_⟩
    · obtain ⟨g, cur, e, hg, hf, hb, hc⟩ := hn h0
      refine ⟨⟨g, 0, none⟩, e, hB g hg, fun j u hu => ?_⟩
      have hu : (nms.map Value.string)[j]? = some u := hu
      rw [List.getElem?_map] at hu
      obtain ⟨x, hx, rfl⟩ := Option.map_eq_some_iff.1 hu
      obtain ⟨hj', rfl⟩ := List.getElem?_eq_some_iff.1 hx
      rw [Addr.add_lit, Nat.zero_add, hb.cell j]
      exact hc j hj'
    · have hj : j < its.length := hj
      obtain ⟨b, cur, e, hg, hf, hb, hz, hc⟩ := hi (by omega)
      refine ⟨⟨b, 0, none⟩, cc j, e, hB b hg, fun q u hu => ?_, ih j hj fun i hi => hB i (hs j hj i hi)⟩
      rw [Addr.add_lit, Nat.zero_add, hb.cell]
      exact hc j q u hj hu
theorem Tr.leaf (w : World) (S : Nat → Prop) {k i : Int} {f : Nat} {t : ByteArray} : Tr w S (.mk k i f t [] []) [.int .i64 k, .int .i64 i, .float .f64 f, .string t, .slice none 0 0, .slice none 0 0] :=
  .mk (fun _ _ => False) (fun _ => []) (fun h => absurd h (by decide)) (fun h => absurd h (by decide)) (fun j h => absurd h (by simp)) (fun j _ h => absurd h (by simp)) (fun j h => absurd h (by simp))
theorem splice_self {cur : Array Value} {cs : List Value} {o : Nat} (h6 : cs.length = 6) (ho : o + 6 ≤ cur.size) (hc : ∀ q u, cs[q]? = some u → cur[o + q]? = some u) : (cur.toList.take o ++ cs ++ cur.toList.drop (o + 6)).toArray = cur := by
  have hsz : cur.toList.length = cur.size := Array.length_toList
  have : cur.toList.take o ++ cs ++ cur.toList.drop (o + 6) = cur.toList := by
    refine List.ext_getElem? fun n => ?_
    rcases Nat.lt_or_ge n o with h1 | h1
    · rw [List.append_assoc, List.getElem?_append_left (by rw [List.length_take]; omega), List.getElem?_take_of_lt h1]
    · rcases Nat.lt_or_ge n (o + 6) with h2 | h2
      · rw [List.getElem?_append_left (by rw [List.length_append, List.length_take]; omega), List.getElem?_append_right (by rw [List.length_take]; omega), List.length_take, Nat.min_eq_left (by omega)]
        have hl : n - o < cs.length := by omega
        rw [List.getElem?_eq_getElem hl]
        have := hc (n - o) _ (List.getElem?_eq_getElem hl)
        rw [show o + (n - o) = n by omega] at this
        rw [← this, ← Array.getElem?_toList]
      · rw [List.getElem?_append_right (by rw [List.length_append, List.length_take]; omega), List.getElem?_drop]
        congr 1
        rw [List.length_append, List.length_take]; omega
  rw [this]
theorem splice_at {cur : Array Value} {cy : List Value} {k n : Nat} (h6 : cy.length = 6) (hk : k < n) (hn : n * 6 ≤ cur.size) (j q : Nat) (hq : q < 6) (hj : j < n) : (cur.toList.take (k * 6) ++ cy ++ cur.toList.drop (k * 6 + 6)).toArray[j * 6 + q]? = if j = k then cy[q]? else cur[j * 6 + q]? := by
  have hsz : cur.toList.length = cur.size := Array.length_toList
  rw [List.getElem?_toArray]
  rcases Nat.lt_trichotomy j k with h1 | h1 | h1
  · rw [if_neg (by omega), List.append_assoc, List.getElem?_append_left (by rw [List.length_take]; omega), List.getElem?_take_of_lt (by omega), Array.getElem?_toList]
  · subst h1
    rw [if_pos rfl, List.getElem?_append_left (by rw [List.length_append, List.length_take]; omega), List.getElem?_append_right (by rw [List.length_take]; omega), List.length_take, Nat.min_eq_left (by omega), Nat.add_sub_cancel_left]
  · rw [if_neg (by omega), List.getElem?_append_right (by rw [List.length_append, List.length_take]; omega), List.getElem?_drop, Array.getElem?_toList]
    congr 1
    rw [List.length_append, List.length_take]; omega
theorem splice_size {cur : Array Value} {cy : List Value} {o : Nat} (h6 : cy.length = 6) (ho : o + 6 ≤ cur.size) : (cur.toList.take o ++ cy ++ cur.toList.drop (o + 6)).toArray.size = cur.size := by
  have hsz : cur.toList.length = cur.size := Array.length_toList
  simp only [List.size_toArray, List.length_append, List.length_take, List.length_drop]
  omega
/-- An item laid anew, elsewhere all as it was. -/
theorem TrI.set_ {w W : World} {S Sn : Nat → Prop} {v y : Val} {A A' : Option Addr} {F : Nat → Nat → Prop} {cc : Nat → List Value} {cy : List Value} {b k : Nat} {cur : Array Value}
    (h : TrI w S v A A' F cc) (hA : A = some ⟨b, 0, none⟩) (hcur : Blk w b 30 cur) (hk : k < v.its.length)
    (hn : ∀ i, Sn i → ¬ S i) (hf : ∀ i, S i → ¬ F k i → i ≠ b → W.heap[i]? = w.heap[i]?)
    (hb : Blk W b 30 (cur.toList.take (k * 6) ++ cy ++ cur.toList.drop (k * 6 + 6)).toArray) (hy : Tr W (fun i => F k i ∨ Sn i) y cy) :
    TrI W (fun i => S i ∨ Sn i) (setI v k y) A A' (fun j i => if j = k then F k i ∨ Sn i else F j i) (fun j => if j = k then cy else cc j) := by
  have hlen : (setI v k y).its.length = v.its.length := by rw [setI_its, List.length_set]
  obtain ⟨b', cur', e, hS, hF, hB, hz, hc⟩ := h.hi (by omega)
  rw [hA] at e
  injection e with e
  injection e with e
  subst e
  have e2 : cur' = cur := by
    unfold Blk at hB hcur
    rw [hB] at hcur
    injection hcur with hcur
    injection hcur with hcur
  subst e2
  refine ⟨fun h0 => ?_, fun _ => ⟨b, _, hA, .inl hS, fun j hj => ?_, hb, ?_, fun j q u hj hu => ?_⟩, fun j hj i hi => ?_, fun j j' hj hj' i hi hi' => ?_, fun j hj => ?_⟩
  · obtain ⟨g, cu, e, hg, hfg, hgb, hgc⟩ := h.hn h0
    have hne : g ≠ b := hgb.ne_ hB (by decide)
    refine ⟨g, cu, e, .inl hg, fun j hj => ?_, (hf g hg (hfg k hk) hne).trans hgb, hgc⟩
    rw [hlen] at hj
    by_cases hjk : j = k
    · rw [if_pos hjk]
      exact fun hx => hx.elim (hfg k hk) (fun hx => hn g hx hg)
    · rw [if_neg hjk]; exact hfg j hj
  · rw [hlen] at hj
    by_cases hjk : j = k
    · rw [if_pos hjk]
      exact fun hx => hx.elim (hF k hk) (fun hx => hn b hx hS)
    · rw [if_neg hjk]; exact hF j hj
  · rw [hlen, splice_size hy.six (by omega)]; exact hz
  · rw [hlen] at hj
    have hq : q < 6 := by
      by_cases hjk : j = k
      · rw [if_pos hjk] at hu
        have := (List.getElem?_eq_some_iff.1 hu).1
        rw [hy.six] at this; exact this
      · rw [if_neg hjk] at hu
        have := (List.getElem?_eq_some_iff.1 hu).1
        rw [(h.hk j hj).six] at this; exact this
    rw [splice_at hy.six hk hz j q hq hj]
    by_cases hjk : j = k
    · rw [if_pos hjk] at hu ⊢; exact hu
    · rw [if_neg hjk] at hu ⊢; exact hc j q u hj hu
  · rw [hlen] at hj
    by_cases hjk : j = k
    · rw [if_pos hjk] at hi
      exact hi.elim (fun hx => .inl (h.hs k hk i hx)) .inr
    · rw [if_neg hjk] at hi; exact .inl (h.hs j hj i hi)
  · rw [hlen] at hj hj'
    by_cases hjk : j = k
    · by_cases hjk' : j' = k
      · omega
      · rw [if_pos hjk] at hi
        rw [if_neg hjk'] at hi'
        rcases hi with hi | hi
        · have := h.hd k j' hk hj' i hi hi'; omega
        · exact absurd (h.hs j' hj' i hi') (hn i hi)
    · rw [if_neg hjk] at hi
      by_cases hjk' : j' = k
      · rw [if_pos hjk'] at hi'
        rcases hi' with hi' | hi'
        · have := h.hd j k hj hk i hi hi'; omega
        · exact absurd (h.hs j hj i hi) (hn i hi')
      · rw [if_neg hjk'] at hi'
        exact h.hd j j' hj hj' i hi hi'
  · have hj' : j < v.its.length := by rw [hlen] at hj; exact hj
    simp only [setI_its]
    by_cases hjk : j = k
    · subst hjk
      simp only [List.getElem_set_self, if_pos]
      exact hy
    · rw [List.getElem_set_ne (by omega), if_neg hjk]
      rw [show (fun i => if j = k then F k i ∨ Sn i else F j i) = F j by funext i; rw [if_neg hjk]]
      exact (h.hk j hj').keep fun i hi => hf i (h.hs j hj' i hi) (fun hx => hjk (h.hd j k hj' hk i hi hx)) (fun e => hF j hj' (e ▸ hi))
/-- A place in a value's memory at the end of a way: what is laid there stands in the whole value. -/
def Spot (w : World) (g0 : Nat) (S0 : Nat → Prop) (v : Val) (done : List Int) (x : Val) (g o : Nat) : Prop :=
  atV v done = some x ∧ ∃ (cur : Array Value) (cs : List Value) (Sx : Nat → Prop), Blk w g 30 cur ∧ o + 6 ≤ cur.size ∧ (∀ q u, cs[q]? = some u → cur[o + q]? = some u) ∧ Tr w Sx x cs ∧ (∀ i, Sx i → S0 i) ∧ ¬ Sx g ∧ (g = g0 ∨ S0 g) ∧
    ∀ (W : World) (Sn : Nat → Prop) (y : Val) (cy : List Value), (∀ i, Sn i → ¬ S0 i ∧ i ≠ g0) → (∀ i, (S0 i ∨ i = g0) → ¬ Sx i → i ≠ g → W.heap[i]? = w.heap[i]?) →
      Blk W g 30 (cur.toList.take o ++ cy ++ cur.toList.drop (o + 6)).toArray → Tr W (fun i => Sx i ∨ Sn i) y cy →
      ∃ cs0 : List Value, Blk W g0 30 cs0.toArray ∧ Tr W (fun i => S0 i ∨ Sn i) (putV v done y) cs0
theorem Spot.start {w : World} {g0 : Nat} {S0 : Nat → Prop} {v : Val} {cs : List Value} (hb : Blk w g0 30 cs.toArray) (ht : Tr w S0 v cs) (h0 : ¬ S0 g0) : Spot w g0 S0 v [] v g0 0 := by
  have h6 := ht.six
  refine ⟨by rw [atV], cs.toArray, cs, S0, hb, by simp [h6], fun q u h => by rw [Nat.zero_add, List.getElem?_toArray]; exact h, ht, fun i h => h, h0, .inl rfl, fun W Sn y cy hn hf hB hy => ?_⟩
  have e : cs.toArray.toList.take 0 ++ cy ++ cs.toArray.toList.drop (0 + 6) = cy := by simp [h6]
  rw [e] at hB
  rw [putV]
  exact ⟨cy, hB, hy⟩
theorem Spot.head {w : World} {g0 g o : Nat} {S0 : Nat → Prop} {v x : Val} {done : List Int} (h : Spot w g0 S0 v done x g o) : ∃ A c, w.cell? ⟨g, o + 4, none⟩ = some (.slice A x.its.length c) ∧
    (∀ k, k < x.its.length → ∃ b, A = some ⟨b, 0, none⟩) := by
  obtain ⟨_, cur, cs, Sx, hb, hz, hc, ht, _⟩ := h
  obtain ⟨A, A', c, c', F, cc, rfl, hI⟩ := ht.open_
  refine ⟨A, c, by rw [hb.cell]; exact hc 4 _ rfl, fun k hk => ?_⟩
  obtain ⟨b, _, e, _⟩ := hI.hi (by omega)
  exact ⟨b, e⟩
theorem Spot.step {w : World} {g0 g o b k c : Nat} {S0 : Nat → Prop} {v x : Val} {done : List Int} (h : Spot w g0 S0 v done x g o) (hcell : w.cell? ⟨g, o + 4, none⟩ = some (.slice (some ⟨b, 0, none⟩) x.its.length c)) (hk : k < x.its.length) :
    Spot w g0 S0 v (done ++ [(k : Int)]) x.its[k] b (k * 6) := by
  obtain ⟨hat, cur, cs, Sx, hb, hz, hc, ht, hS, hg, hg0, hcl⟩ := h
  have h6 := ht.six
  have hT := ht
  obtain ⟨A, A', c1, c', F, cc, rfl, hI⟩ := ht.open_
  have hA : A = some ⟨b, 0, none⟩ := by
    have := hc 4 (.slice A x.its.length c1) rfl
    rw [← hb.cell, hcell] at this
    injection this with this
    injection this with this
    exact this.symm
  obtain ⟨b', cur', e, hbS, hbF, hbB, hbz, hbc⟩ := hI.hi (by omega)
  rw [hA] at e
  injection e with e
  injection e with e
  subst e
  refine ⟨?_, cur', cc k, F k, hbB, by omega, fun q u hu => hbc k q u hk hu, hI.hk k hk, fun i hi => hS i (hI.hs k hk i hi), hbF k hk, .inr (hS b hbS), fun W Sn y cy hn hf hB hy => ?_⟩
  · rw [atV_snoc hat, atV_in hk, atV]
  · have hgb : g ≠ b := fun e => hg (e ▸ hbS)
    have hI2 := hI.set_ (W := W) (Sn := Sn) (y := y) (cy := cy) hA hbB hk (fun i hi hx => (hn i hi).1 (hS i hx)) (fun i hi hx hne => hf i (.inl (hS i hi)) hx hne) hB hy
    rw [putV_snoc hat hk]
    refine hcl W Sn (setI x k y) (vcs x A A' c1 c') hn (fun i hi hx hne => hf i hi (fun hF => hx (hI.hs k hk i hF)) (fun e => hx (e ▸ hbS))) ?_ ?_
    · rw [splice_self h6 hz hc]
      exact (hf g (hg0.elim .inr .inl) (fun hF => hg (hI.hs k hk g hF)) hgb).trans hb
    · have := hI2.tr c1 c'
      rw [show vcs (setI x k y) A A' c1 c' = vcs x A A' c1 c' by
        show [Value.int .i64 x.k, .int .i64 x.i, .float .f64 x.f, .string x.t, .slice A (x.its.set k y).length c1, .slice A' x.nms.length c'] = _
        rw [List.length_set]; rfl] at this
      exact this
end Go.Proofs.YtacnoedhpamdmaaGreatDoor
namespace Go.Proofs.YtacnoedhpamdmaaGreatDoor
open Go.RowKit
set_option linter.unusedVariables false
attribute [local go_sem ↓] Go.wp_at_zero Go.wp_at_succ

theorem vl_info : (Tryz.prog.info? 30).map (fun i => (i.zero, i.size, i.bytes)) = some (some (.agg vz), 6, 88) := by kernel_rfl
theorem st_info : (Tryz.prog.info? 9).map (fun i => (i.zero, i.size, i.bytes)) = some (some (.string ⟨#[]⟩), 1, 16) := by kernel_rfl
theorem reads_nil {w : World} {B size n : Nat} {xs : List Value} (h : Reads w B size none n xs) : n = 0 ∧ xs = [] := by
  have h0 : n = 0 := by
    rcases Nat.eq_zero_or_pos n with h0 | h0
    · exact h0
    · obtain ⟨ad, e, _⟩ := h.2 h0
      cases e
  refine ⟨h0, List.eq_nil_of_length_eq_zero ?_⟩
  rw [h.1, h0, Nat.zero_mul]
theorem c_cloneV (A : Option Addr) (n c : Nat) (xs : List Value) (w : World) (B : Nat) (hr : Reads w B 6 A n xs) (h1 : ∀ u ∈ xs, u.oneCell' = true) (hn : n ≤ 1048576) (hB : B ≤ w.heap.size) :
    Calls Tryz.prog 78 #[.slice A n c] w fun e w' => ∃ v', e = .returned v' ∧ w'.ownsRow w.heap.size 30 6 v' n xs ∧ Below w.heap.size w w' := by
  have qn : ∀ (w : World) (a : Option Addr) (n c n' c' : Nat), (binOp .eql 27 (.slice a n c) (.slice none n' c')).run Tryz.prog w = .ok (.bool a.isNone) w := fun w a n c n' c' => Lib.run_eql_slice_nil w _ _ a n c n' c' Tryz.underlying27
  rcases A with _ | ad
  · obtain ⟨rfl, rfl⟩ := reads_nil hr
    clear hr h1
    go_enter Tryz.func78, Tryz.ntmps78
    go_wp2
    go_ret
    exact ⟨_, rfl, World.ownsRow_nil _ _ _ _, Below.refl _ _⟩
  · obtain ⟨i0, hi0, hz0, hz1, hz2⟩ := info_parts vl_info
    have HR := Lib.hid (hr.alloc hB (.cells #[] 30))
    have H1 := Lib.hid h1
    have HM : Hid ((w.alloc (.cells #[] 30)).ownsRow w.heap.size 30 6 (.slice (some ⟨w.heap.size, 0, none⟩) 0 0) 0 []) := World.ownsRow_made w #[] 0 (Nat.le_refl _) (Nat.zero_le _) (by simp)
    clear hr h1
    go_enter Tryz.func78, Tryz.ntmps78
    go_wp2_with ((refine wpList_append_any _ rfl (.tmp 5) (.tmp 6) 27 rfl w.heap.size 30 i0 _ 6 88 Tryz.underlying27 hi0 hz0 hz1 hz2 rfl (by omega) (.slice (some ⟨w.heap.size, 0, none⟩) 0 0) 0 [] (by simp [Act.eval]) HM.out B (some ad) n c xs (by simp [Act.eval]) HR.out H1.out (by simp only [maxLen]; omega) (by omega) (by simp) ?_); intro v' w1 hown hgrow _)
    have HO : Hid (w1.ownsRow w.heap.size 30 6 v' n xs) := by
      show World.ownsRow _ _ _ _ _ _ _
      simpa using hown
    have HB : Hid (Below w.heap.size w w1) := ((Below.refl _ w).alloc (Nat.le_refl _) _).grown hgrow (by simp) (by intro k hk; simp [Value.ownBlock] at hk; omega)
    clear hown hgrow
    go_wp2
    go_ret
    exact ⟨v', rfl, HO.out, HB.out⟩
theorem c_cloneS (A : Option Addr) (n c : Nat) (xs : List Value) (w : World) (B : Nat) (hr : Reads w B 1 A n xs) (h1 : ∀ u ∈ xs, u.oneCell' = true) (hn : n ≤ 1048576) (hB : B ≤ w.heap.size) :
    Calls Tryz.prog 77 #[.slice A n c] w fun e w' => ∃ v', e = .returned v' ∧ w'.ownsRow w.heap.size 9 1 v' n xs ∧ Below w.heap.size w w' := by
  have qn : ∀ (w : World) (a : Option Addr) (n c n' c' : Nat), (binOp .eql 28 (.slice a n c) (.slice none n' c')).run Tryz.prog w = .ok (.bool a.isNone) w := fun w a n c n' c' => Lib.run_eql_slice_nil w _ _ a n c n' c' Tryz.underlying28
  rcases A with _ | ad
  · obtain ⟨rfl, rfl⟩ := reads_nil hr
    clear hr h1
    go_enter Tryz.func77, Tryz.ntmps77
    go_wp2
    go_ret
    exact ⟨_, rfl, World.ownsRow_nil _ _ _ _, Below.refl _ _⟩
  · obtain ⟨i0, hi0, hz0, hz1, hz2⟩ := info_parts st_info
    have HR := Lib.hid (hr.alloc hB (.cells #[] 9))
    have H1 := Lib.hid h1
    have HM : Hid ((w.alloc (.cells #[] 9)).ownsRow w.heap.size 9 1 (.slice (some ⟨w.heap.size, 0, none⟩) 0 0) 0 []) := World.ownsRow_made w #[] 0 (Nat.le_refl _) (Nat.zero_le _) (by simp)
    clear hr h1
    go_enter Tryz.func77, Tryz.ntmps77
    go_wp2_with ((refine wpList_append_any _ rfl (.tmp 5) (.tmp 6) 28 rfl w.heap.size 9 i0 _ 1 16 Tryz.underlying28 hi0 hz0 hz1 hz2 rfl (by omega) (.slice (some ⟨w.heap.size, 0, none⟩) 0 0) 0 [] (by simp [Act.eval]) HM.out B (some ad) n c xs (by simp [Act.eval]) HR.out H1.out (by simp only [maxLen]; omega) (by omega) (by simp) ?_); intro v' w1 hown hgrow _)
    have HO : Hid (w1.ownsRow w.heap.size 9 1 v' n xs) := by
      show World.ownsRow _ _ _ _ _ _ _
      simpa using hown
    have HB : Hid (Below w.heap.size w w1) := ((Below.refl _ w).alloc (Nat.le_refl _) _).grown hgrow (by simp) (by intro k hk; simp [Value.ownBlock] at hk; omega)
    clear hown hgrow
    go_wp2
    go_ret
    exact ⟨v', rfl, HO.out, HB.out⟩
/-- What the copying of a value has laid so far. -/
structure CpS (w wr : World) (v : Val) (A A' : Option Addr) (c c' ws i : Nat) (F : Nat → Nat → Prop) (cc : Nat → List Value) : Prop where
  box : Blk wr w.heap.size 30 (vcs v A A' c c').toArray
  res : Blk wr (w.heap.size + 1) 30 vz
  names : 0 < v.nms.length → ∃ g cur, A' = some ⟨g, 0, none⟩ ∧ w.heap.size + 2 ≤ g ∧ g < ws ∧ Blk wr g 9 cur ∧ ∀ j, (h : j < v.nms.length) → cur[j]? = some (.string v.nms[j])
  items : 0 < v.its.length → ∃ r cur, A = some ⟨r, 0, none⟩ ∧ w.heap.size + 2 ≤ r ∧ r < ws ∧ Blk wr r 30 cur ∧ v.its.length * 6 ≤ cur.size ∧ (∀ j q u, j < i → (cc j)[q]? = some u → cur[j * 6 + q]? = some u) ∧
    ∀ j, i ≤ j → (h : j < v.its.length) → ∃ cs0, RV w v.its[j] cs0 ∧ ∀ q u, cs0[q]? = some u → cur[j * 6 + q]? = some u
  kids : ∀ j, j < i → (h : j < v.its.length) → Tr wr (F j) v.its[j] (cc j)
  sub : ∀ j, j < i → ∀ x, F j x → ws ≤ x ∧ x < wr.heap.size
  dis : ∀ j j', j < i → j' < i → ∀ x, F j x → F j' x → j = j'
  lo : w.heap.size + 2 ≤ ws
  hi : ws ≤ wr.heap.size
  kp : Below w.heap.size w wr
theorem CpS.next {w wr w1 w2 : World} {v : Val} {A A' : Option Addr} {c c' ws i r : Nat} {F : Nat → Nat → Prop} {cc : Nat → List Value} {cs' : List Value} {cur : Array Value} (h : CpS w wr v A A' c c' ws i F cc) (hi : i < v.its.length)
    (hA : A = some ⟨r, 0, none⟩) (hcur : Blk wr r 30 cur) (hb1 : Below wr.heap.size wr w1) (ht : Tr w1 (fun x => wr.heap.size ≤ x ∧ x < w1.heap.size) v.its[i] cs')
    (hb2 : Blk w2 r 30 (cur.toList.take (i * 6) ++ cs' ++ cur.toList.drop (i * 6 + 6)).toArray) (hg : w1.grownBy w2 (some r)) (hz : w2.heap.size = w1.heap.size) :
    CpS w w2 v A A' c c' ws (i + 1) (fun j x => if j = i then wr.heap.size ≤ x ∧ x < w1.heap.size else F j x) (fun j => if j = i then cs' else cc j) := by
  obtain ⟨r', cur', e, hr0, hr1, hbr, hsz, hold, hrest⟩ := h.items (by omega)
  rw [hA] at e
  injection e with e
  injection e with e
  subst e
  have e2 : cur' = cur := by
    unfold Blk at hbr hcur
    rw [hbr] at hcur
    injection hcur with hcur
    injection hcur with hcur
  subst e2
  have hws := h.hi
  have hlo := h.lo
  have hstep : ∀ x, x < wr.heap.size → x ≠ r → w2.heap[x]? = wr.heap[x]? := fun x hx hne => (hg.block x (Nat.lt_of_lt_of_le hx hb1.size) (fun e => hne (by injection e))).trans (hb1.block x hx)
  refine ⟨(hstep _ (by omega) (by omega)).trans h.box, (hstep _ (by omega) (by omega)).trans h.res, fun h0 => ?_, fun h0 => ⟨r, _, hA, hr0, hr1, hb2, ?_, fun j q u hj hu => ?_, fun j hj hjl => ?_⟩, fun j hj hjl => ?_, fun j hj x hx => ?_, fun j j' hj hj' x hx hx' => ?_, hlo, by have := hb1.size; omega, ?_⟩
  · obtain ⟨g, cu, e, hg0, hg1, hgb, hgc⟩ := h.names h0
    exact ⟨g, cu, e, hg0, hg1, (hstep g (by omega) (hgb.ne_ hbr (by decide))).trans hgb, hgc⟩
  · rw [splice_size ht.six (by omega)]; exact hsz
  · have hq : q < 6 := by
      by_cases hji : j = i
      · rw [if_pos hji] at hu
        have := (List.getElem?_eq_some_iff.1 hu).1
        rw [ht.six] at this; exact this
      · rw [if_neg hji] at hu
        have := (List.getElem?_eq_some_iff.1 hu).1
        rw [(h.kids j (by omega) (by omega)).six] at this; exact this
    rw [splice_at ht.six hi hsz j q hq (by omega)]
    by_cases hji : j = i
    · rw [if_pos hji] at hu ⊢; exact hu
    · rw [if_neg hji] at hu ⊢; exact hold j q u (by omega) hu
  · obtain ⟨cs0, hv, hc⟩ := hrest j (by omega) hjl
    refine ⟨cs0, hv, fun q u hu => ?_⟩
    have hq : q < 6 := by
      have := (List.getElem?_eq_some_iff.1 hu).1
      rw [hv.six.1] at this; exact this
    rw [splice_at ht.six hi hsz j q hq hjl, if_neg (by omega)]
    exact hc q u hu
  · by_cases hji : j = i
    · subst hji
      simp only [if_pos]
      exact ht.keep fun x hx => hg.block x hx.2 (fun e => by injection e with e; omega)
    · rw [if_neg hji]
      rw [show (fun x => if j = i then wr.heap.size ≤ x ∧ x < w1.heap.size else F j x) = F j by funext x; rw [if_neg hji]]
      exact (h.kids j (by omega) hjl).keep fun x hx => hstep x (h.sub j (by omega) x hx).2 (by have := (h.sub j (by omega) x hx).1; omega)
  · have hb1s := hb1.size
    by_cases hji : j = i
    · rw [if_pos hji] at hx; omega
    · rw [if_neg hji] at hx
      have := h.sub j (by omega) x hx
      omega
  · by_cases hji : j = i
    · by_cases hji' : j' = i
      · omega
      · rw [if_pos hji] at hx
        rw [if_neg hji'] at hx'
        have := h.sub j' (by omega) x hx'
        omega
    · rw [if_neg hji] at hx
      by_cases hji' : j' = i
      · rw [if_pos hji'] at hx'
        have := h.sub j (by omega) x hx
        omega
      · rw [if_neg hji'] at hx'
        exact h.dis j j' (by omega) (by omega) x hx hx'
  · have hb := h.kp.trans (hb1.mono h.kp.size)
    exact hb.grown hg hb.size (fun k e => by injection e with e; omega)
theorem CpS.done {w wr : World} {v : Val} {A A' : Option Addr} {c c' ws : Nat} {F : Nat → Nat → Prop} {cc : Nat → List Value} (h : CpS w wr v A A' c c' ws v.its.length F cc) :
    TrI wr (fun x => w.heap.size + 2 ≤ x ∧ x < wr.heap.size) v A A' F cc := by
  have hws := h.hi
  have hlo := h.lo
  refine ⟨fun h0 => ?_, fun h0 => ?_, fun j hj x hx => ?_, fun j j' hj hj' x hx hx' => h.dis j j' hj hj' x hx hx', fun j hj => h.kids j hj hj⟩
  · obtain ⟨g, cu, e, hg0, hg1, hgb, hgc⟩ := h.names h0
    exact ⟨g, cu, e, ⟨hg0, by omega⟩, fun j hj hx => by have := h.sub j hj g hx; omega, hgb, hgc⟩
  · obtain ⟨r, cu, e, hg0, hg1, hgb, hsz, hgc, _⟩ := h.items h0
    exact ⟨r, cu, e, ⟨hg0, by omega⟩, fun j hj hx => by have := h.sub j hj r hx; omega, hgb, hsz, fun j q u hj hu => hgc j q u hj hu⟩
  · have := h.sub j hj x hx
    omega
/-- Cells of all items, one behind the other. -/
theorem flt_six : ∀ (css : List (List Value)), (∀ c ∈ css, c.length = 6) → css.flatten.length = css.length * 6
  | [], _ => rfl
  | c :: l, h => by
    rw [List.flatten_cons, List.length_append, flt_six l (fun x hx => h x (List.mem_cons_of_mem _ hx)), h c List.mem_cons_self, List.length_cons]; omega
theorem flt_get : ∀ (css : List (List Value)) (j q : Nat) (hj : j < css.length), (∀ c ∈ css, c.length = 6) → q < 6 → css.flatten[j * 6 + q]? = (css[j])[q]?
  | [], j, q, hj, _, _ => by simp at hj
  | c :: l, 0, q, _, h, hq => by
    rw [List.flatten_cons, List.getElem?_append_left (by rw [h c List.mem_cons_self]; omega), Nat.zero_mul, Nat.zero_add]; rfl
  | c :: l, j + 1, q, hj, h, hq => by
    have h6 := h c List.mem_cons_self
    rw [List.flatten_cons, List.getElem?_append_right (by omega), h6, show (j + 1) * 6 + q - 6 = j * 6 + q by omega, flt_get l j q (by simpa using hj) (fun x hx => h x (List.mem_cons_of_mem _ hx)) hq]
    rfl
theorem RV.items {w : World} {v : Val} {cs : List Value} (h : RV w v cs) : ∃ A A' c c' css, cs = vcs v A A' c c' ∧ Reads w w.heap.size 1 A' v.nms.length (strs v.nms) ∧ Reads w w.heap.size 6 A v.its.length (List.flatten css) ∧ css.length = v.its.length ∧ (∀ c ∈ css, c.length = 6) ∧ (∀ u ∈ List.flatten css, u.oneCell' = true) ∧
    ∀ j, (h : j < v.its.length) → (h' : j < css.length) → RV w v.its[j] css[j] := by
  obtain ⟨A, A', c, c', e, hn, hop⟩ := h.open_
  rcases Nat.eq_zero_or_pos v.its.length with h0 | h0
  · exact ⟨A, A', c, c', [], e, hn, by rw [h0]; exact ⟨rfl, fun h => absurd h (by omega)⟩, by rw [h0]; rfl, fun c hc => absurd hc (by simp), fun u hu => absurd hu (by simp), fun j hj => absurd hj (by omega)⟩
  · obtain ⟨b, off, rfl, hb, hr⟩ := hop h0
    have hr0 := hr w (Below.refl _ _)
    have hch : ∃ f : Nat → List Value, ∀ j, (hj : j < v.its.length) → RV w v.its[j] (f j) ∧ ∀ q u, (f j)[q]? = some u → w.cell? ⟨b, off + j * 6 + q, none⟩ = some u := by
      refine ⟨fun j => if hj : j < v.its.length then (hr0 j hj).choose else [], fun j hj => ?_⟩
      simp only [dif_pos hj]
      exact (hr0 j hj).choose_spec
    obtain ⟨f, hf⟩ := hch
    have hl : ((List.range v.its.length).map f).length = v.its.length := by simp
    have hg : ∀ j, (h' : j < ((List.range v.its.length).map f).length) → ((List.range v.its.length).map f)[j] = f j := fun j h' => by simp
    have h6 : ∀ c ∈ (List.range v.its.length).map f, c.length = 6 := fun c hc => by
      obtain ⟨j, hj, rfl⟩ := List.mem_map.1 hc
      exact (hf j (List.mem_range.1 hj)).1.six.1
    refine ⟨_, A', c, c', (List.range v.its.length).map f, e, hn, ⟨by rw [flt_six _ h6, hl], fun _ => ⟨_, rfl, hb, fun j u hu => ?_⟩⟩, hl, h6, fun u hu => ?_, fun j hj h' => by rw [hg]; exact (hf j hj).1⟩
    · have hlen : j < v.its.length * 6 := by
        have := (List.getElem?_eq_some_iff.1 hu).1
        rw [flt_six _ h6, hl] at this; exact this
      have hjd : j / 6 * 6 + j % 6 = j := by omega
      have hq : j / 6 < ((List.range v.its.length).map f).length := by rw [hl]; omega
      rw [← hjd, flt_get _ (j / 6) (j % 6) hq h6 (by omega), hg] at hu
      have := (hf (j / 6) (by omega)).2 (j % 6) u hu
      rw [Addr.add_lit]
      rw [show off + j / 6 * 6 + j % 6 = off + j by omega] at this
      exact this
    · obtain ⟨l, hl2, hu2⟩ := List.mem_flatten.1 hu
      obtain ⟨j, hj, rfl⟩ := List.mem_map.1 hl2
      have := (hf j (List.mem_range.1 hj)).1.six.2
      exact List.all_eq_true.1 this u (by simpa using hu2)
end Go.Proofs.YtacnoedhpamdmaaGreatDoor
namespace Go.Proofs.YtacnoedhpamdmaaGreatDoor
open Go.RowKit
set_option linter.unusedVariables false
set_option linter.unusedSimpArgs false
attribute [local go_sem ↓] Go.wp_at_zero Go.wp_at_succ

theorem step_store_mid6 {P : Program} {ops : Array Oper} {o : Oper} {a : Act} {w : World} {K : Act → World → Prop} {Q : Exit → Act → World → Prop} {E : Prop} (hgd : o.guard = none) (ty : TypeId) (x y : Operand) (ho : o.op = .store ty x y) (hdst : o.dst = none)
    (g off : Nat) (cs' : Array Value) (hx : a.eval x = .pointer (some ⟨g, off, none⟩)) (hy : a.eval y = .agg cs') {t : TypeId} {cs : Array Value} (hg : Blk w g t cs) (hi : (P.info? ty).map (·.size) = some cs'.size) (hs : off + cs'.size ≤ cs.size) (h1' : cs'.toList.all (·.oneCell') = true)
    (h : ∀ w', Blk w' g t (cs.toList.take off ++ cs'.toList ++ cs.toList.drop (off + cs'.size)).toArray → w.grownBy w' (some g) → w'.heap.size = w.heap.size → K a w') : if Region.wanted o (yielded ops a.tmps) = true then Oper.wp P o a w K Q else E := by
  have hw : Region.wanted o (yielded ops a.tmps) = true := by simp [Region.wanted, hgd]
  rw [if_pos hw]
  have hst := run_storeCells_at (P := P) g off t cs'.toList 0 cs w hg (by simpa using hs) (fun v hv => List.all_eq_true.1 h1' v hv)
  simp only [Nat.add_zero, Array.length_toList] at hst
  have hsv : (storeVar ty ⟨g, off, none⟩ (.agg cs')).run P w = .ok () (w.setRow g (cs.toList.take off ++ cs'.toList ++ cs.toList.drop (off + cs'.size)).toArray) := by
    cases hq : P.info? ty with
    | none => simp [hq] at hi
    | some i =>
      have hz : cs'.size = i.size := by simp [hq] at hi; omega
      simp [storeVar, sizeOf, typeInfo, hq, Value.cells, hz, hst]
  unfold Oper.wp execOp
  simp only [ho, hx, hy, Instr.storeAt, Instr.sureAddr, Sem.run_bind, Sem.run_pure, Result.andThen_ok, hsv]
  have := h (w.setRow g (cs.toList.take off ++ cs'.toList ++ cs.toList.drop (off + cs'.size)).toArray) (hg.setRow _) (only_setRow w g _) (by simp)
  simpa [Oper.upon, Act.put, hdst] using this
theorem inf_six {cs : List Value} (h : cs.length = 6) : (Tryz.prog.info? 30).map (·.size) = some cs.toArray.size := by rw [List.size_toArray, h]; exact v_info
theorem lst_six {cs : List Value} (h : cs.length = 6) : ∃ u0 u1 u2 u3 u4 u5, cs = [u0, u1, u2, u3, u4, u5] := by
  match cs, h with
  | [a, b, c, d, e, f], _ => exact ⟨a, b, c, d, e, f, rfl⟩
theorem own_hdr {w : World} {base size n : Nat} {e : TypeId} {v : Value} {xs : List Value} (h : w.ownsRow base e size v n xs) : ∃ A c, v = .slice A n c := by
  rcases h.2 with ⟨rfl, rfl⟩ | ⟨g, cap, cur, rfl, _⟩
  · exact ⟨_, _, rfl⟩
  · exact ⟨_, _, rfl⟩
theorem own_blk {w : World} {base size n c : Nat} {e : TypeId} {A : Option Addr} {xs : List Value} (h : w.ownsRow base e size (.slice A n c) n xs) (h0 : 0 < n) : ∃ (g : Nat) (cur : Array Value), A = some ⟨g, 0, none⟩ ∧ base ≤ g ∧ g < w.heap.size ∧ Blk w g e cur ∧ n * size ≤ cur.size ∧ ∀ (j : Nat) (u : Value), xs[j]? = some u → cur[j]? = some u := by
  have hl := h.1
  rcases h.2 with ⟨h1, h2⟩ | ⟨g, cap, cur, hv, hb, hg, hc, hm, hcs, ht⟩
  · omega
  · injection hv with e1 e2 e3
    have hB : Blk w g e cur := hg
    refine ⟨g, cur, e1, hb, hB.lt, hB, by rw [hcs]; exact Nat.mul_le_mul_right _ hc, fun j u hu => ?_⟩
    have hj := (List.getElem?_eq_some_iff.1 hu).1
    rw [← ht] at hu
    rw [List.getElem?_take_of_lt (by omega), Array.getElem?_toList] at hu
    exact hu
theorem own_low6 {w : World} {base base' n size : Nat} {e : TypeId} {v : Value} {xs : List Value} (h : w.ownsRow base e size v n xs) (hb : base' ≤ base) : w.ownsRow base' e size v n xs := by
  refine ⟨h.1, ?_⟩
  rcases h.2 with h2 | ⟨g, cap, cur, rfl, hb, hg, h3⟩
  · exact .inl h2
  · exact .inr ⟨g, cap, cur, rfl, by omega, hg, h3⟩
theorem own_keep6 {w w' : World} {base n size : Nat} {e : TypeId} {v : Value} {xs : List Value} (h : w.ownsRow base e size v n xs) (hk : ∀ r, v.ownBlock = some r → w'.heap[r]? = w.heap[r]?) : w'.ownsRow base e size v n xs := by
  refine ⟨h.1, ?_⟩
  rcases h.2 with h2 | ⟨g, cap, cur, rfl, hb, hg, h3⟩
  · exact .inl h2
  · exact .inr ⟨g, cap, cur, rfl, hb, (hk g rfl).trans hg, h3⟩
theorem own_at6 {w : World} {base n size : Nat} {e : TypeId} {v : Value} {xs : List Value} (h : w.ownsRow base e size v n xs) {r : Nat} (hr : v.ownBlock = some r) : base ≤ r ∧ r < w.heap.size := by
  rcases h.2 with ⟨rfl, _⟩ | ⟨g, cap, cur, rfl, hb, hg, _⟩
  · cases hr
  · have : g = r := by simpa [Value.ownBlock] using hr
    subst this
    refine ⟨hb, ?_⟩
    rcases Nat.lt_or_ge g w.heap.size with h1 | h1
    · exact h1
    · rw [Array.getElem?_eq_none h1] at hg; cases hg
theorem CpS.start {w wr : World} {v : Val} {A A' : Option Addr} {c c' : Nat} {css : List (List Value)} (hbx : Blk wr w.heap.size 30 (vcs v A A' c c').toArray) (hres : Blk wr (w.heap.size + 1) 30 vz)
    (hn : wr.ownsRow (w.heap.size + 2) 9 1 (.slice A' v.nms.length c') v.nms.length (strs v.nms)) (hi : wr.ownsRow (w.heap.size + 2) 30 6 (.slice A v.its.length c) v.its.length (List.flatten css)) (hcl : css.length = v.its.length) (h6 : ∀ c ∈ css, c.length = 6)
    (hk : ∀ j, (h : j < v.its.length) → (h' : j < css.length) → RV w v.its[j] css[j]) (hb : Below w.heap.size w wr) (hz : w.heap.size + 2 ≤ wr.heap.size) :
    CpS w wr v A A' c c' wr.heap.size 0 (fun _ _ => False) (fun _ => []) := by
  refine ⟨hbx, hres, fun h0 => ?_, fun h0 => ?_, fun j hj => absurd hj (by omega), fun j hj => absurd hj (by omega), fun j _ hj => absurd hj (by omega), hz, Nat.le_refl _, hb⟩
  · obtain ⟨g, cur, e, h1, h2, h3, h4, h5⟩ := own_blk hn h0
    refine ⟨g, cur, e, h1, h2, h3, fun j hj => h5 j _ ?_⟩
    simp [List.getElem?_eq_getElem hj]
  · obtain ⟨g, cur, e, h1, h2, h3, h4, h5⟩ := own_blk hi h0
    refine ⟨g, cur, e, h1, h2, h3, h4, fun j q u hj => absurd hj (by omega), fun j _ hj => ⟨css[j]'(by omega), hk j hj (by omega), fun q u hu => h5 _ u ?_⟩⟩
    have hq : q < 6 := by
      have := (List.getElem?_eq_some_iff.1 hu).1
      rw [h6 _ (List.getElem_mem _)] at this; exact this
    rw [flt_get css j q (by omega) h6 hq]
    exact hu
theorem CpS.drew {w wr : World} {v : Val} {A A' : Option Addr} {c c' ws i : Nat} {F : Nat → Nat → Prop} {cc : Nat → List Value} (h : CpS w wr v A A' c c' ws i F cc) : CpS w wr.drew v A A' c c' ws i F cc :=
  ⟨h.box, h.res, h.names, h.items, fun j hj hl => (h.kids j hj hl).keep fun _ _ => rfl, h.sub, h.dis, h.lo, h.hi, ⟨h.kp.os, h.kp.tape, h.kp.output, h.kp.size, h.kp.block⟩⟩
theorem below_drewK {B : Nat} {a w : World} (h : Below B a w) : Below B a w.drew := ⟨h.os, h.tape, h.output, h.size, h.block⟩
theorem and_by {p q : Prop} (h : p) (k : p → q) : p ∧ q := ⟨h, k h⟩
theorem step_load_at6 {P : Program} {ops : Array Oper} {o : Oper} {a : Act} {w : World} {K : Act → World → Prop} {Q : Exit → Act → World → Prop} {E : Prop} (hgd : o.guard = none) (ty : TypeId) (x : Operand) (ho : o.op = .load ty x)
    (b off : Nat) (hx : a.eval x = .pointer (some ⟨b, off, none⟩)) (cs : List Value) (d : TypeDesc) (hc : ∀ q v, cs[q]? = some v → w.cell? ⟨b, off + q, none⟩ = some v)
    (hu : P.underlying ty = some d) (hd : d.isRow = true) (hi : (P.info? ty).map (·.size) = some cs.toArray.size)
    (h : K (a.put o.dst (.agg cs.toArray)) w) : if Region.wanted o (yielded ops a.tmps) = true then Oper.wp P o a w K Q else E := by
  have hw : Region.wanted o (yielded ops a.tmps) = true := by simp [Region.wanted, hgd]
  rw [if_pos hw]
  unfold Oper.wp execOp
  simp only [ho, hx, Instr.loadAt, Instr.sureAddr, Sem.run_bind, Sem.run_pure, Result.andThen_ok, run_load_at w b off ty cs d hc hu hd (by simpa using hi)]
  exact h
theorem gr_cell {w w' : World} {g : Nat} (h : w.grownBy w' (some g)) {p : Addr} (hp : p.block < w.heap.size) (hne : p.block ≠ g) : w'.cell? p = w.cell? p := World.cell?_of_block (h.block p.block hp (fun e => hne (by injection e)))
set_option maxRecDepth 100000 in
set_option maxHeartbeats 1000000 in
theorem c_copied : ∀ (v : Val) (cs : List Value) (w : World), RV w v cs → Calls Tryz.prog 52 #[.agg cs.toArray] w fun e w' => ∃ cs', e = .returned (.agg cs'.toArray) ∧ Tr w' (fun x => w.heap.size ≤ x ∧ x < w'.heap.size) v cs' ∧ Below w.heap.size w w' := by
  refine Val.ind fun v ih cs w h => ?_
  have hl1 : v.its.length ≤ 1048576 := by have := (bnd_len v).1; have := h.bd; omega
  have hl2 : v.nms.length ≤ 1048576 := by have := (bnd_len v).2.1; have := h.bd; omega
  obtain ⟨A, A', c, c', css, rfl, hnm, hit, hcl, hc6, hone, hkid⟩ := h.items
  have HB0 : Hid (Below w.heap.size w ((w.alloc (.cells (vcs v A A' c c').toArray 30)).alloc (.cells vz 30))) := ((Below.refl w.heap.size w).alloc (Nat.le_refl _) _).alloc (by simp) _
  have HK0 : Hid (Blk ((w.alloc (.cells (vcs v A A' c c').toArray 30)).alloc (.cells vz 30)) w.heap.size 30 (vcs v A A' c c').toArray) := (Blk.new w 30 (vcs v A A' c c').toArray).alloc _
  have HR0 : Hid (Blk ((w.alloc (.cells (vcs v A A' c c').toArray 30)).alloc (.cells vz 30)) (w.heap.size + 1) 30 vz) := by
    have := Blk.new (w.alloc (.cells (vcs v A A' c c').toArray 30)) 30 vz
    rwa [World.size_alloc] at this
  have hz0 : ((w.alloc (.cells (vcs v A A' c c').toArray 30)).alloc (.cells vz 30)).heap.size = w.heap.size + 2 := by rw [World.size_alloc, World.size_alloc]
  have HNM := Lib.hid hnm
  have HIT := Lib.hid hit
  have HCL := Lib.hid hcl
  have HC6 := Lib.hid hc6
  have HON := Lib.hid hone
  have HKD := Lib.hid hkid
  have HIH : Hid (∀ (i : Nat) (hi : i < v.its.length) (cs : List Value) (w : World), RV w v.its[i] cs → Calls Tryz.prog 52 #[.agg cs.toArray] w fun e w' => ∃ cs', e = .returned (.agg cs'.toArray) ∧ Tr w' (fun x => w.heap.size ≤ x ∧ x < w'.heap.size) v.its[i] cs' ∧ Below w.heap.size w w') := fun i hi => ih _ (List.getElem_mem hi)
  clear h hnm hit hcl hc6 hone hkid ih
  unfold vcs at *
  go_enter Tryz.func52, Tryz.ntmps52
  go_upto_region 1 with fail
  generalize World.alloc (w.alloc _) _ = w0 at *
  have k5 : w0.cell? ⟨w.heap.size, 5, none⟩ = some (.slice A' v.nms.length c') := HK0.out.cell 5
  go_wp2_with fail
  refine (c_cloneS A' v.nms.length c' (strs v.nms) _ w.heap.size (HNM.out.below HB0.out) (fun u hu => by obtain ⟨s, _, rfl⟩ := List.mem_map.1 hu; rfl) hl2 HB0.out.size).mono ?_
  rintro e w1 ⟨v1, rfl, ho1, hb1⟩
  obtain ⟨A2', c2', rfl⟩ := own_hdr ho1
  have HO1 := Lib.hid ho1
  have HB1 := Lib.hid (HB0.out.trans (hb1.mono HB0.out.size))
  have HK1 := Lib.hid (HK0.out.below hb1 HK0.out.lt)
  have HR1 := Lib.hid (HR0.out.below hb1 HR0.out.lt)
  have hz1 := hb1.size
  have f5 := HK1.out.frozen 5
  clear k5
  have k5 : w1.cell? ⟨w.heap.size, 5, none⟩ = some (.slice A' v.nms.length c') := HK1.out.cell 5
  clear ho1 hb1 HK0 HR0 HB0
  go_upto_region 2 with fail
  have HK2 : Hid (Blk (w1.setCell ⟨w.heap.size, 5, none⟩ (.slice A2' v.nms.length c2')) w.heap.size 30 (vcs v A A2' c c2').toArray) := HK1.out.set_ 5 _
  have HR2 : Hid (Blk (w1.setCell ⟨w.heap.size, 5, none⟩ (.slice A2' v.nms.length c2')) (w.heap.size + 1) 30 vz) := HR1.out.far (by simp only; omega) _
  have HG2 := Lib.hid (grown_setCell w1 w.heap.size 5 (.slice A2' v.nms.length c2'))
  have HZ2 : Hid ((w1.setCell ⟨w.heap.size, 5, none⟩ (.slice A2' v.nms.length c2')).heap.size = w1.heap.size) := by show _ = _; simp [World.setCell]
  clear k5 f5 HK1 HR1
  generalize w1.setCell ⟨w.heap.size, 5, none⟩ (.slice A2' v.nms.length c2') = w2 at *
  have HB2 : Hid (Below w.heap.size w w2) := HB1.out.grown HG2.out HB1.out.size (fun k e => by injection e with e; omega)
  have HO2 : Hid (w2.ownsRow (w.heap.size + 2) 9 1 (.slice A2' v.nms.length c2') v.nms.length (strs v.nms)) := by
    have := own_keep6 (w' := w2) HO1.out fun r hr => HG2.out.block r (own_at6 HO1.out hr).2 (fun e => by have := (own_at6 HO1.out hr).1; injection e with e; omega)
    rwa [hz0] at this
  have hz2 : w2.heap.size = w1.heap.size := HZ2.out
  clear HO1 HB1 HG2 HZ2
  have k4 : w2.cell? ⟨w.heap.size, 4, none⟩ = some (.slice A v.its.length c) := HK2.out.cell 4
  go_wp2_with fail
  refine (c_cloneV A v.its.length c (List.flatten css) _ w.heap.size (HIT.out.below HB2.out) HON.out hl1 HB2.out.size).mono ?_
  rintro e w3 ⟨v3, rfl, ho3, hb3⟩
  obtain ⟨A2, c2, rfl⟩ := own_hdr ho3
  have HO3 : Hid (w3.ownsRow (w.heap.size + 2) 30 6 (.slice A2 v.its.length c2) v.its.length (List.flatten css)) := own_low6 ho3 (by omega)
  have HN3 := Lib.hid (own_below HO2.out hb3)
  have HB3 := Lib.hid (HB2.out.trans (hb3.mono HB2.out.size))
  have HK3 := Lib.hid (HK2.out.below hb3 HK2.out.lt)
  have HR3 := Lib.hid (HR2.out.below hb3 HR2.out.lt)
  have hz3 := hb3.size
  have f4 := HK3.out.frozen 4
  clear k4
  have k4 : w3.cell? ⟨w.heap.size, 4, none⟩ = some (.slice A v.its.length c) := HK3.out.cell 4
  clear ho3 hb3 HK2 HR2 HB2 HO2
  go_upto_region 3 with fail
  have HK4 : Hid (Blk (w3.setCell ⟨w.heap.size, 4, none⟩ (.slice A2 v.its.length c2)) w.heap.size 30 (vcs v A2 A2' c2 c2').toArray) := HK3.out.set_ 4 _
  have HR4 : Hid (Blk (w3.setCell ⟨w.heap.size, 4, none⟩ (.slice A2 v.its.length c2)) (w.heap.size + 1) 30 vz) := HR3.out.far (by simp only; omega) _
  have HG4 := Lib.hid (grown_setCell w3 w.heap.size 4 (.slice A2 v.its.length c2))
  have HZ4 : Hid ((w3.setCell ⟨w.heap.size, 4, none⟩ (.slice A2 v.its.length c2)).heap.size = w3.heap.size) := by show _ = _; simp [World.setCell]
  clear k4 f4 HK3 HR3
  generalize w3.setCell ⟨w.heap.size, 4, none⟩ (.slice A2 v.its.length c2) = w4 at *
  have HB4 : Hid (Below w.heap.size w w4) := HB3.out.grown HG4.out HB3.out.size (fun k e => by injection e with e; omega)
  have HN4 : Hid (w4.ownsRow (w.heap.size + 2) 9 1 (.slice A2' v.nms.length c2') v.nms.length (strs v.nms)) := own_keep6 HN3.out fun r hr => HG4.out.block r (own_at6 HN3.out hr).2 (fun e => by have := (own_at6 HN3.out hr).1; injection e with e; omega)
  have HO4 : Hid (w4.ownsRow (w.heap.size + 2) 30 6 (.slice A2 v.its.length c2) v.its.length (List.flatten css)) := own_keep6 HO3.out fun r hr => HG4.out.block r (own_at6 HO3.out hr).2 (fun e => by have := (own_at6 HO3.out hr).1; injection e with e; omega)
  have hz4 : w4.heap.size = w3.heap.size := HZ4.out
  have HS4 := Lib.hid (CpS.start HK4.out HR4.out HN4.out HO4.out HCL.out HC6.out HKD.out HB4.out (by omega))
  have k4 : w4.cell? ⟨w.heap.size, 4, none⟩ = some (.slice A2 v.its.length c2) := HK4.out.cell 4
  clear HB3 HO3 HN3 HG4 HZ4 HK4 HR4 HB4 HN4 HO4
  generalize w4.heap.size = ws at *
  go_wp2_with fail
  clear k4
  obtain ⟨len, HLEN⟩ : ∃ n, Hid (v.its.length = n) := ⟨_, Lib.hid rfl⟩
  have hlen := HLEN.out
  rw [hlen] at hl1
  simp only [hlen]
  clear hlen
  go_loopw [15] (fun vi wr => ∃ (i : Nat) (F : Nat → Nat → Prop) (cc : Nat → List Value), vi = .int .i64 i ∧ i ≤ len ∧ Hid (CpS w wr v A2 A2' c2 c2' ws i F cc)) (fun vi _ => len - (intOf vi).toNat)
  case atStart => exact ⟨0, _, _, rfl, Nat.zero_le _, HS4⟩
  case round =>
    obtain ⟨i, F, cc, rfl, hi, HS⟩ := hrel
    by_cases hlt : i < len
    · have hiv : i < v.its.length := by rw [HLEN.out]; exact hlt
      obtain ⟨r, cur, hA, hr0, hr1, hbr, hsz, _, hrest⟩ := HS.out.items (by omega)
      obtain ⟨cs0, hrv, hcell⟩ := hrest i (Nat.le_refl _) hiv
      obtain ⟨u0, u1, u2, u3, u4, u5, rfl⟩ := lst_six hrv.six.1
      subst hA
      have HRV := Lib.hid hrv
      have HBR := Lib.hid hbr
      have HSZ := Lib.hid hsz
      have hgr : w.heap.size < wr.heap.size := HS.out.box.lt
      have hrr : r < wr.heap.size := hbr.lt
      have k4 : wr.cell? ⟨w.heap.size, 4, none⟩ = some (.slice (some ⟨r, 0, none⟩) len c2) := by
        rw [← HLEN.out]; exact HS.out.box.cell 4
      have HCE : Hid (∀ q u, [u0, u1, u2, u3, u4, u5][q]? = some u → wr.drew.cell? ⟨r, i * 6 + q, none⟩ = some u) := fun q u hu => (hbr.cell _).trans (hcell q u hu)
      clear hrest hcell hrv hbr hsz
      go_upto_region 6 with fail
--@region
      refine wp_region_held_drew (S := (fun V => V.cell? ⟨w.heap.size, 4, none⟩ = some (.slice (some ⟨r, 0, none⟩) len c2))) (by kernel_rfl) ?_ (fun hHeld => ?_)
      · (try dsimp only); exact k4
      refine wpAnyH_take (i := 0) (v := ?v0) (by rw [List.getElem?_toArray]; exact rfl) (by kernel_rfl) (by kernel_rfl) (by kernel_rfl) (by exact fun _ _ _ h => h) (Or.inl ⟨by rfl, ?y0⟩) (by assumption) ?r0
      case y0 => (intro w hSw; (try dsimp only at hSw); go_simp; try with_reducible rfl)
      try simp only [Act.put, List.setIfInBounds_toArray, List.set_cons_zero, List.set_cons_succ]
      refine wpAnyH_take (i := 1) (v := ?v1) (by rw [List.getElem?_toArray]; exact rfl) (by kernel_rfl) (by kernel_rfl) (by kernel_rfl) (by exact fun _ _ _ h => h) (Or.inl ⟨by rfl, ?y1⟩) (by assumption) ?r1
      case y1 => (intro w hSw; (try dsimp only at hSw); go_simp; try with_reducible rfl)
      try simp only [Act.put, List.setIfInBounds_toArray, List.set_cons_zero, List.set_cons_succ]
      refine wpAnyH_take (i := 2) (v := ?v2) (by rw [List.getElem?_toArray]; exact rfl) (by kernel_rfl) (by kernel_rfl) (by kernel_rfl) (by exact fun _ _ _ h => h) (Or.inl ⟨by rfl, ?y2⟩) (by assumption) ?r2
      case y2 => (intro w hSw; (try dsimp only at hSw); go_simp; try with_reducible rfl)
      try simp only [Act.put, List.setIfInBounds_toArray, List.set_cons_zero, List.set_cons_succ]
      refine wpAnyH_take (i := 3) (v := ?v3) (by rw [List.getElem?_toArray]; exact rfl) (by kernel_rfl) (by kernel_rfl) (by kernel_rfl) (by exact fun _ _ _ h => h) (Or.inl ⟨by rfl, ?y3⟩) (by assumption) ?r3
      case y3 => (intro w hSw; (try dsimp only at hSw); go_simp; try with_reducible rfl)
      try simp only [Act.put, List.setIfInBounds_toArray, List.set_cons_zero, List.set_cons_succ]
      refine wpAnyH_take (i := 4) (v := ?v4) (by rw [List.getElem?_toArray]; exact rfl) (by kernel_rfl) (by kernel_rfl) (by kernel_rfl) (by exact fun _ _ _ h => h) (Or.inl ⟨by rfl, ?y4⟩) (by assumption) ?r4
      case y4 => (intro w hSw; (try dsimp only at hSw); go_simp; try with_reducible rfl)
      try simp only [Act.put, List.setIfInBounds_toArray, List.set_cons_zero, List.set_cons_succ]
      refine wpAnyH_take (i := 5) (v := ?v5) (by rw [List.getElem?_toArray]; exact rfl) (by kernel_rfl) (by kernel_rfl) (by kernel_rfl) (by exact fun _ _ _ h => h) (Or.inl ⟨by rfl, ?y5⟩) (by assumption) ?r5
      case y5 => (intro w hSw; (try dsimp only at hSw); go_simp; try with_reducible rfl)
      try simp only [Act.put, List.setIfInBounds_toArray, List.set_cons_zero, List.set_cons_succ]
      refine wpAnyH_take (i := 6) (v := ?v6) (by rw [List.getElem?_toArray]; exact rfl) (by kernel_rfl) (by kernel_rfl) (by kernel_rfl) (by exact fun _ _ _ h => h) (Or.inl ⟨by rfl, ?y6⟩) (by assumption) ?r6
      case y6 => (intro w hSw; (try dsimp only at hSw); go_simp; try with_reducible rfl)
      try simp only [Act.put, List.setIfInBounds_toArray, List.set_cons_zero, List.set_cons_succ]
      refine wpAnyH_ready (rs := [7]) (by kernel_rfl) (by simp) ?_
      intro jj hjj
      obtain rfl := List.mem_singleton.1 hjj
      clear hjj
      refine wpOp_step (by rw [List.getElem?_toArray]; exact rfl) (fun K hK => ?_)
      replace hK := Lib.hid hK
      refine step_load_at6 rfl 30 (.tmp 24) rfl r (i * 6) (by simp [Act.eval]) [u0, u1, u2, u3, u4, u5] _ HCE.out Tryz.underlying30 rfl (inf_six rfl) ?_
      refine hK.out _ _ (and_by ?_ (fun hHeld => ?_))
      · (try dsimp only); exact k4
      clear hK K
      try simp only [Act.put, List.setIfInBounds_toArray, List.set_cons_zero, List.set_cons_succ]
      refine wpAnyH_ready (rs := [8]) (by kernel_rfl) (by simp) ?_
      intro jj hjj
      obtain rfl := List.mem_singleton.1 hjj
      clear hjj
      refine wpOp_step (by rw [List.getElem?_toArray]; exact rfl) (fun K hK => ?_)
      replace hK := Lib.hid hK
      go_simp
      refine (HIH.out i hiv _ _ (HRV.out.step (below_drewK HS.out.kp))).mono ?_
      rintro e w5 ⟨cs5, rfl, ht5, hb5⟩
      have HT5 := Lib.hid ht5
      have HB5 := Lib.hid hb5
      have k5 : w5.cell? ⟨w.heap.size, 4, none⟩ = some (.slice (some ⟨r, 0, none⟩) len c2) := (HB5.out.cell (p := ⟨w.heap.size, 4, none⟩) hgr).trans k4
      clear ht5 hb5
      go_wp2_with fail
      refine hK.out _ _ (and_by ?_ (fun hHeld => ?_))
      · (try dsimp only); exact k5
      clear hK K
      try simp only [Act.put, List.setIfInBounds_toArray, List.set_cons_zero, List.set_cons_succ]
      refine wpAnyH_take (i := 9) (v := ?v9) (by rw [List.getElem?_toArray]; exact rfl) (by kernel_rfl) (by kernel_rfl) (by kernel_rfl) (by exact fun _ _ _ h => h) (Or.inl ⟨by rfl, ?y9⟩) (by assumption) ?r9
      case y9 => (intro w hSw; (try dsimp only at hSw); go_simp; try with_reducible rfl)
      try simp only [Act.put, List.setIfInBounds_toArray, List.set_cons_zero, List.set_cons_succ]
      refine wpAnyH_ready (rs := [10]) (by kernel_rfl) (by simp) ?_
      intro jj hjj
      obtain rfl := List.mem_singleton.1 hjj
      clear hjj
      refine wpOp_step (by rw [List.getElem?_toArray]; exact rfl) (fun K hK => ?_)
      replace hK := Lib.hid hK
      refine step_store_mid6 rfl 30 (.tmp 27) (.tmp 26) rfl rfl r (i * 6) cs5.toArray (by simp [Act.eval]) (by simp [Act.eval]) (Blk.below (HBR.out.drew) HB5.out hrr) (inf_six HT5.out.six) (by rw [List.size_toArray, HT5.out.six]; have := HSZ.out; omega) HT5.out.one ?_
      intro w6 hB6 hg6 hz6
      refine hK.out _ _ (and_by ?_ (fun hHeld => ?_))
      · (try dsimp only); exact (gr_cell hg6 (p := ⟨w.heap.size, 4, none⟩) (Nat.lt_of_lt_of_le hgr HB5.out.size) (by simp only; omega)).trans k5
      clear hK K
      try simp only [Act.put, List.setIfInBounds_toArray, List.set_cons_zero, List.set_cons_succ]
      refine wpAnyH_done (by kernel_rfl) ?_ _
      --@end
      have hB6' : Blk w6 r 30 (cur.toList.take (i * 6) ++ cs5 ++ cur.toList.drop (i * 6 + 6)).toArray := by
        have e6 : cs5.toArray.size = 6 := by rw [List.size_toArray]; exact HT5.out.six
        rw [e6] at hB6
        exact hB6
      have HS6 := Lib.hid (HS.out.drew.next hiv rfl HBR.out.drew HB5.out HT5.out hB6' hg6 hz6)
      clear hB6 hB6' hg6 hz6 hHeld k5 HB5 HT5
      go_wp2_with fail
      go_roundw
      case rel => first | exact ⟨i + 1, _, _, by go_num, hlt, HS6⟩ | (refine ⟨_, _, _, _, _, _, _, _, _, _, _, _, _, ?_, rfl⟩; exact ⟨i + 1, _, _, by go_num, hlt, HS6⟩)
      case measure => simp [intOf]; omega
    · obtain rfl : i = len := by omega
      obtain rfl : v.its.length = i := HLEN.out
      have HBX := Lib.hid HS.out.box
      have HRS := Lib.hid HS.out.res
      go_wp2_with (first
        | (refine wpList_load_row rfl 30 (.tmp 1) rfl w.heap.size rfl 30 _ (0, 0) _ HBX.out Tryz.underlying30 rfl v_info ?_)
        | (refine wpList_storeB rfl 30 (.tmp 2) (.tmp 29) rfl rfl (w.heap.size + 1) (vcs v A2 A2' c2 c2').toArray rfl rfl HRS.out v_info rfl rfl ?_; intro w7 hB7 hg7 hz7))
      refine bodyPost_ret (results_cellB (p := 2) rfl _ hB7 _ rfl Tryz.underlying30 rfl v_info) rfl ⟨vcs v A2 A2' c2 c2', rfl, ?_, ?_⟩
      · have hT := (HS.out.done.tr c2 c2').keep (W := w7) fun x hx => hg7.block x hx.2 (fun e => by injection e with e; omega)
        exact hT.wide fun x hx => ⟨by omega, by rw [hz7]; exact hx.2⟩
      · exact HS.out.kp.grown hg7 HS.out.kp.size (fun k e => by injection e with e; omega)
end Go.Proofs.YtacnoedhpamdmaaGreatDoor
namespace Go.Proofs.YtacnoedhpamdmaaGreatDoor
open Go.RowKit
set_option linter.unusedVariables false
set_option linter.unusedSimpArgs false
attribute [local go_sem ↓] Go.wp_at_zero Go.wp_at_succ

/-- The value that is none. -/
abbrev zvV : Val := .mk 0 0 0 ⟨#[]⟩ [] []
abbrev zcs : List Value := [.int .i64 0, .int .i64 0, .float .f64 0, .string ⟨#[]⟩, .slice none 0 0, .slice none 0 0]
/-- What At tells. -/
def atA (v : Val) (way : List Int) : Val × Int := if chk fone v = 0 then (match atV v way with | some x => (x, 0) | none => (zvV, 6)) else (zvV, chk fone v)
theorem atA_no {v : Val} {way : List Int} (h : ¬ chk fone v = 0) : atA v way = (zvV, chk fone v) := by unfold atA; rw [if_neg h]
theorem atA_none {v : Val} {way : List Int} (h : chk fone v = 0) (h2 : atV v way = none) : atA v way = (zvV, 6) := by unfold atA; rw [if_pos h, h2]
theorem atA_some {v x : Val} {way : List Int} (h : chk fone v = 0) (h2 : atV v way = some x) : atA v way = (x, 0) := by unfold atA; rw [if_pos h, h2]
/-- Numbers as cells. -/
abbrev i64s (l : List Int) : List Value := l.map (Value.int .i64)
theorem getD_i64s {l : List Int} {k : Nat} (h : k < l.length) : (i64s l).getD k undef = .int .i64 (l.getD k 0) := by
  simp [List.getD, List.getElem?_eq_getElem h]
theorem atV_drop {x : Val} {way : List Int} {i : Nat} (hi : i < way.length) : atV x (way.drop i) = atV x (way.getD i 0 :: way.drop (i + 1)) := by
  rw [List.drop_eq_getElem_cons hi]
  simp [List.getD, List.getElem?_eq_getElem hi]
/-- An answer of At: new memory, its value, its error. -/
def AtP (w : World) (r : Val × Int) (e : Ending) (w' : World) : Prop := ∃ cs' : List Value, e = .returned (.tuple #[.agg cs'.toArray, .int .i64 r.2]) ∧ Tr w' (fun x => w.heap.size ≤ x ∧ x < w'.heap.size) r.1 cs' ∧ Below w.heap.size w w'
theorem AtP.zero {w w' : World} {n : Int} (h : Below w.heap.size w w') : AtP w (zvV, n) (.returned (.tuple #[.agg zcs.toArray, .int .i64 n])) w' := ⟨zcs, rfl, Tr.leaf _ _, h⟩
set_option maxRecDepth 100000 in
set_option maxHeartbeats 1000000 in
theorem c_At (v : Val) (cs : List Value) (A : Option Addr) (n c : Nat) (way : List Int) (w : World) (h : RV w v cs) (hr : Reads w w.heap.size 1 A n (i64s way)) (hn : n ≤ 1099511627776) :
    Calls Tryz.prog 19 #[.agg cs.toArray, .slice A n c] w fun e w' => AtP w (atA v way) e w' := by
  have HR := Lib.hid h.row
  have hwl : way.length = n := by simpa using hr.1
  have HB0 : Hid (Below w.heap.size w ((w.alloc (.cells cs.toArray 30)).alloc (.cells vz 30))) := ((Below.refl w.heap.size w).alloc (Nat.le_refl _) _).alloc (by simp) _
  have HX0 : Hid (Blk ((w.alloc (.cells cs.toArray 30)).alloc (.cells vz 30)) w.heap.size 30 cs.toArray) := (Blk.new w 30 cs.toArray).alloc _
  have HY0 : Hid (Blk ((w.alloc (.cells cs.toArray 30)).alloc (.cells vz 30)) (w.heap.size + 1) 30 vz) := by
    have := Blk.new (w.alloc (.cells cs.toArray 30)) 30 vz
    rwa [World.size_alloc] at this
  have HRV := Lib.hid h
  have HWY := Lib.hid hr
  have HWL := Lib.hid hwl
  obtain ⟨E, hE⟩ : ∃ E, chk fone v = E := ⟨_, rfl⟩
  have HC1 : Hid (∀ W, RV W v cs → Calls Tryz.prog 18 #[.agg cs.toArray] W fun e w' => e = .returned (.int .i64 E) ∧ Below W.heap.size W w') := by rw [← hE]; exact fun W h => c_Check v cs W h
  have HEE := Lib.hid hE
  clear h hr hE hwl
  go_enter Tryz.func19, Tryz.ntmps19
  go_upto_region 1 with fail
  generalize World.alloc (w.alloc _) _ = w0 at *
  go_wp2_with (refine wpList_load_row rfl 30 (.tmp 2) rfl w.heap.size rfl 30 _ (0, 0) _ HX0.out Tryz.underlying30 rfl HR.out ?_)
  refine (HC1.out _ (HRV.out.step HB0.out)).mono ?_; rintro e w1 ⟨rfl, hb1⟩
  have HX1 := Lib.hid (HX0.out.below hb1 HX0.out.lt)
  have HY1 := Lib.hid (HY0.out.below hb1 HY0.out.lt)
  have HB1 := Lib.hid (HB0.out.trans (hb1.mono HB0.out.size))
  clear hb1 HX0 HY0 HB0 HC1
  by_cases hE0 : E = 0
  rotate_left
  · have hb : (E != 0) = true := by simpa using hE0
    have HQ : Hid (atA v way = (zvV, E)) := by
      show _ = _
      rw [atA_no (by rw [HEE.out]; exact hE0), HEE.out]
    clear hE0
    go_wp2_with (refine wpList_storeB rfl 30 (.tmp 4) (.tmp 13) rfl rfl (w.heap.size + 1) zcs.toArray (by simp [Act.eval]) rfl HY1.out v_info rfl rfl ?_; intro w2 hB2 hg2 hz2)
    refine bodyPost_ret (results_cell_tmpB (p := 4) (u := 5) rfl _ hB2 _ rfl Tryz.underlying30 rfl v_info) rfl ?_
    rw [HQ.out]
    exact AtP.zero (HB1.out.grown hg2 HB1.out.size (fun k e => by injection e with e; omega))
  subst hE0
  go_wp2_with fail
  go_loopw [17] (fun vi wr => ∃ (i : Nat) (x : Val) (cx : List Value), vi = .int .i64 i ∧ i ≤ n ∧ Hid (atV v way = atV x (way.drop i)) ∧ Hid (RV w x cx) ∧ Hid (Blk wr w.heap.size 30 cx.toArray) ∧ Hid (Blk wr (w.heap.size + 1) 30 vz) ∧ Hid (Below w.heap.size w wr)) (fun vi _ => n - (intOf vi).toNat)
  case atStart => exact ⟨0, v, cs, rfl, Nat.zero_le _, rfl, HRV, HX1, HY1, HB1⟩
  case round =>
    obtain ⟨i, x, cx, rfl, hi, HAT, HRX, HX, HY, HB⟩ := hrel
    clear HX1 HY1 HB1
    by_cases hlt : i < n
    · obtain ⟨b, off, hA, hb1, hb2, hcell⟩ := HWY.out.form (by omega)
      subst hA
      have kw : wr.cell? ⟨b, off + i, none⟩ = some (.int .i64 (way.getD i 0)) := by
        rw [HB.out.cell (p := ⟨b, off + i, none⟩) hb1, hcell i hlt, getD_i64s (by rw [HWL.out]; exact hlt)]
      have HAT2 : Hid (atV v way = atV x (way.getD i 0 :: way.drop (i + 1))) := by
        show _ = _
        rw [HAT.out, atV_drop (by rw [HWL.out]; exact hlt)]
      clear hcell HAT
      generalize way.getD i 0 = k at *
      obtain ⟨A2, A2', c2, c2', hcx, hnm, hop⟩ := HRX.out.open_
      have k4 : wr.cell? ⟨w.heap.size, 4, none⟩ = some (.slice A2 x.its.length c2) := by rw [HX.out.cell 4, hcx]; rfl
      have HOP := Lib.hid hop
      have HRC := Lib.hid HRX.out.row
      clear hnm hop hcx
      by_cases hk0 : k < 0
      · have HQ : Hid (atA v way = (zvV, 6)) := atA_none HEE.out (by rw [HAT2.out, atV_out (.inl hk0)])
        go_wp2_with (refine wpList_storeB rfl 30 (.tmp 4) (.tmp 30) rfl rfl (w.heap.size + 1) zcs.toArray (by simp [Act.eval]) rfl HY.out v_info rfl rfl ?_; intro w2 hB2 hg2 hz2)
        refine bodyPost_ret (results_cell_tmpB (p := 4) (u := 5) rfl _ hB2 _ rfl Tryz.underlying30 rfl v_info) rfl ?_
        rw [HQ.out]
        exact AtP.zero (HB.out.grown hg2 HB.out.size (fun k e => by injection e with e; omega))
      obtain ⟨j, rfl⟩ : ∃ j : Nat, k = (j : Int) := ⟨k.toNat, by omega⟩
      by_cases hj : j < x.its.length
      · obtain ⟨b2, off2, hA2, hbl, hit⟩ := HOP.out (by omega)
        subst hA2
        obtain ⟨cy, hrv, hcy0⟩ := hit w (Below.refl _ _) j hj
        have hcy : ∀ q u, cy[q]? = some u → wr.cell? ⟨b2, off2 + j * 6 + q, none⟩ = some u := fun q u hu => (HB.out.cell (p := ⟨b2, off2 + j * 6 + q, none⟩) hbl).trans (hcy0 q u hu)
        have HRY := Lib.hid hrv
        have HCY := Lib.hid hcy
        have h6 := hrv.six.1
        have h6a : cy.toArray.size = 6 := by simpa using h6
        have hx6 : cx.toArray.size = cy.toArray.size := by
          have := HRX.out.six.1
          simp only [List.size_toArray]; omega
        have HAT3 : Hid (atV v way = atV x.its[j] (way.drop (i + 1))) := by
          show _ = _
          rw [HAT2.out, atV_in hj]
        have hone := hrv.six.2
        have hk1 : ¬ (x.its.length : Int) ≤ (j : Int) := by omega
        clear hit hrv hcy hcy0 hk0 HAT2
        go_wp2_with (first
          | (refine wpList_load_at rfl 30 (.tmp 34) rfl b2 (off2 + j * 6) rfl cy _ HCY.out Tryz.underlying30 rfl (by rw [h6]; exact v_info) ?_)
          | (refine wpList_storeB rfl 30 (.tmp 2) (.tmp 35) rfl rfl w.heap.size cy.toArray rfl rfl HX.out (by rw [h6a]; exact v_info) hx6 hone ?_; intro w2 hB2 hg2 hz2))
        have HB2 : Hid (Below w.heap.size w w2) := HB.out.grown hg2 HB.out.size (fun k e => by injection e with e; omega)
        have HY2 : Hid (Blk w2 (w.heap.size + 1) 30 vz) := HY.out.grown hg2 (fun e => by injection e with e; omega)
        have HX2 := Lib.hid hB2
        clear hB2 hg2 hz2 HRX HB HY HX HCY HOP HRC
        go_roundw
        case rel => first | exact ⟨i + 1, x.its[j], cy, by go_num, hlt, HAT3, HRY, HX2, HY2, HB2⟩ | (refine ⟨_, _, _, _, _, _, _, _, _, _, _, _, _, _, _, _, _, ?_, rfl⟩; exact ⟨i + 1, x.its[j], cy, by go_num, hlt, HAT3, HRY, HX2, HY2, HB2⟩)
        case measure => simp [intOf]; omega
      · have HQ : Hid (atA v way = (zvV, 6)) := atA_none HEE.out (by rw [HAT2.out, atV_out (.inr (by omega))])
        have hk1 : (x.its.length : Int) ≤ (j : Int) := by omega
        go_wp2_with (refine wpList_storeB rfl 30 (.tmp 4) (.tmp 30) rfl rfl (w.heap.size + 1) zcs.toArray (by simp [Act.eval]) rfl HY.out v_info rfl rfl ?_; intro w2 hB2 hg2 hz2)
        refine bodyPost_ret (results_cell_tmpB (p := 4) (u := 5) rfl _ hB2 _ rfl Tryz.underlying30 rfl v_info) rfl ?_
        rw [HQ.out]
        exact AtP.zero (HB.out.grown hg2 HB.out.size (fun k e => by injection e with e; omega))
    · have HQ : Hid (atA v way = (x, 0)) := atA_some HEE.out (by rw [HAT.out, List.drop_eq_nil_of_le (by rw [HWL.out]; omega), atV])
      have HRC := Lib.hid HRX.out.row
      go_wp2_with (refine wpList_load_row rfl 30 (.tmp 2) rfl w.heap.size rfl 30 _ (0, 0) _ HX.out Tryz.underlying30 rfl HRC.out ?_)
      refine (c_copied x cx _ (HRX.out.step HB.out)).mono ?_; rintro e w2 ⟨cs2, rfl, ht2, hb2⟩
      have HT2 := Lib.hid ht2
      have HB2 := Lib.hid hb2
      have HY2 := Lib.hid (HY.out.below hb2 HY.out.lt)
      clear ht2 hb2
      have hvz : vz.size = cs2.toArray.size := by rw [show cs2.toArray.size = 6 by simpa using HT2.out.six]; rfl
      go_wp2_with (refine wpList_storeB rfl 30 (.tmp 4) (.tmp 38) rfl rfl (w.heap.size + 1) cs2.toArray (by simp [Act.eval]) rfl HY2.out (inf_six HT2.out.six) hvz HT2.out.one ?_; intro w3 hB3 hg3 hz3)
      refine bodyPost_ret (results_cell_tmpB (p := 4) (u := 5) rfl _ hB3 _ rfl Tryz.underlying30 rfl (inf_six HT2.out.six)) rfl ?_
      rw [HQ.out]
      have hyl := HY.out.lt
      refine ⟨cs2, rfl, ?_, (HB.out.trans (HB2.out.mono HB.out.size)).grown hg3 (Nat.le_trans HB.out.size HB2.out.size) (fun k e => by injection e with e; omega)⟩
      refine (HT2.out.keep (W := w3) fun y hy => hg3.block y hy.2 (fun e => by injection e with e; omega)).wide fun y hy => ⟨?_, by rw [hz3]; exact hy.2⟩
      have := HB.out.size
      omega
end Go.Proofs.YtacnoedhpamdmaaGreatDoor
namespace Go.Proofs.YtacnoedhpamdmaaGreatDoor
open Go.RowKit
set_option linter.unusedVariables false
attribute [local go_sem ↓] Go.wp_at_zero Go.wp_at_succ

/-- Two boxes made one behind the other. -/
theorem two_bx (w : World) (cs cs' : List Value) : Box ((w.alloc (.cells cs.toArray 30)).alloc (.cells cs'.toArray 30)) w.heap.size cs ∧ Box ((w.alloc (.cells cs.toArray 30)).alloc (.cells cs'.toArray 30)) (w.heap.size + 1) cs' ∧
    Below w.heap.size w ((w.alloc (.cells cs.toArray 30)).alloc (.cells cs'.toArray 30)) := by
  have h0 := Box.new w cs
  have h1 := Box.new (w.alloc (.cells cs.toArray 30)) cs'
  rw [World.size_alloc] at h1
  have hb : Below (w.alloc (.cells cs.toArray 30)).heap.size (w.alloc (.cells cs.toArray 30)) ((w.alloc (.cells cs.toArray 30)).alloc (.cells cs'.toArray 30)) := (Below.refl _ _).alloc (Nat.le_refl _) _
  exact ⟨h0.step hb, h1, (((Below.refl _ _).alloc (Nat.le_refl _) _).trans (hb.mono (by simp)))⟩
/-- The first error of two. -/
def bothK (a b : Val) : Int := if chk fone a = 0 then chk fone b else chk fone a
theorem bothK_zero {a b : Val} (h : bothK a b = 0) : chk fone a = 0 ∧ chk fone b = 0 := by
  unfold bothK at h
  split at h
  · rename_i h1; exact ⟨h1, h⟩
  · rename_i h1; exact absurd h h1
set_option maxRecDepth 100000 in
theorem c_bothK (a b : Val) (cs cs' : List Value) (w : World) (h : RV w a cs) (h' : RV w b cs') : Calls Tryz.prog 54 #[.agg cs.toArray, .agg cs'.toArray] w fun e w' => e = .returned (.int .i64 (bothK a b)) ∧ Below w.heap.size w w' := by
  have HTB := two_bx w cs cs'
  have HX1 := Lib.hid HTB.1
  have HX2 := Lib.hid HTB.2.1
  have HB0 := Lib.hid HTB.2.2
  have HRa := Lib.hid h.row
  have HRb := Lib.hid h'.row
  have HV1 := Lib.hid (h.step HTB.2.2)
  have HV2 := Lib.hid (h'.step HTB.2.2)
  have HE : Hid (bothK a b = if chk fone a = 0 then chk fone b else chk fone a) := rfl
  obtain ⟨C, hC⟩ : ∃ C, bothK a b = C := ⟨_, rfl⟩
  obtain ⟨EA, hEA⟩ : ∃ E, chk fone a = E := ⟨_, rfl⟩
  obtain ⟨EB, hEB⟩ : ∃ E, chk fone b = E := ⟨_, rfl⟩
  have HCA : Hid (∀ W, RV W a cs → Calls Tryz.prog 18 #[.agg cs.toArray] W fun e w' => e = .returned (.int .i64 EA) ∧ Below W.heap.size W w') := by rw [← hEA]; exact fun W hr => c_Check a cs W hr
  have HCB : Hid (∀ W, RV W b cs' → Calls Tryz.prog 18 #[.agg cs'.toArray] W fun e w' => e = .returned (.int .i64 EB) ∧ Below W.heap.size W w') := by rw [← hEB]; exact fun W hr => c_Check b cs' W hr
  rw [hC, hEA, hEB] at HE
  rw [hC]
  clear h h' HTB hC hEA hEB
  go_enter Tryz.func54, Tryz.ntmps54
  go_upto_region 1 with fail
  generalize World.alloc (w.alloc _) _ = w0 at *
  go_wp2_with (refine wpList_load_row rfl 30 (.tmp 2) rfl w.heap.size rfl 30 _ (0, 0) _ HX1.out.blk Tryz.underlying30 rfl HRa.out ?_)
  refine (HCA.out _ HV1.out).mono ?_; rintro e w1 ⟨rfl, hb1⟩
  have HX2' := Lib.hid (HX2.out.step hb1)
  have HV2' := Lib.hid (HV2.out.step hb1)
  have HB1 := Lib.hid (HB0.out.trans (hb1.mono HB0.out.size))
  clear hb1
  by_cases h0 : EA = 0
  · have t0 : (EA != 0) = false := by simpa using h0
    have HR : Hid (C = EB) := HE.out.trans (if_pos h0)
    subst h0
    go_wp2_with (refine wpList_load_row rfl 30 (.tmp 3) rfl (w.heap.size + 1) rfl 30 _ (0, 0) _ HX2'.out.blk Tryz.underlying30 rfl HRb.out ?_)
    refine (HCB.out _ HV2'.out).mono ?_; rintro e w2 ⟨rfl, hb2⟩
    have HB2 := Lib.hid (HB1.out.trans (hb2.mono HB1.out.size))
    clear hb2
    go_wp2_with fail
    go_ret
    exact ⟨by rw [HR.out]; rfl, HB2.out⟩
  · have t0 : (EA != 0) = true := by simpa using h0
    have HR : Hid (C = EA) := HE.out.trans (if_neg h0)
    go_wp2_with fail
    go_ret
    exact ⟨by rw [HR.out]; rfl, HB1.out⟩
set_option maxRecDepth 100000 in
theorem c_rbothK (a b : Val) (cs cs' : List Value) (w : World) (h : RV w a cs) (h' : RV w b cs') : Calls Tryz.prog 55 #[.agg cs.toArray, .agg cs'.toArray] w fun e w' => e = .returned (.int .i64 (bothK a b)) ∧ Below w.heap.size w w' := by
  have HTB := two_bx w cs cs'
  have HX1 := Lib.hid HTB.1
  have HX2 := Lib.hid HTB.2.1
  have HB0 := Lib.hid HTB.2.2
  have HRa := Lib.hid h.row
  have HRb := Lib.hid h'.row
  have HV1 := Lib.hid (h.step HTB.2.2)
  have HV2 := Lib.hid (h'.step HTB.2.2)
  have HE : Hid (bothK a b = if chk fone a = 0 then chk fone b else chk fone a) := rfl
  obtain ⟨C, hC⟩ : ∃ C, bothK a b = C := ⟨_, rfl⟩
  obtain ⟨EA, hEA⟩ : ∃ E, chk fone a = E := ⟨_, rfl⟩
  obtain ⟨EB, hEB⟩ : ∃ E, chk fone b = E := ⟨_, rfl⟩
  have HCA : Hid (∀ W, RV W a cs → Calls Tryz.prog 13 #[.agg cs.toArray] W fun e w' => e = .returned (.int .i64 EA) ∧ Below W.heap.size W w') := by rw [← hEA]; exact fun W hr => c_rCheck a cs W hr
  have HCB : Hid (∀ W, RV W b cs' → Calls Tryz.prog 13 #[.agg cs'.toArray] W fun e w' => e = .returned (.int .i64 EB) ∧ Below W.heap.size W w') := by rw [← hEB]; exact fun W hr => c_rCheck b cs' W hr
  rw [hC, hEA, hEB] at HE
  rw [hC]
  clear h h' HTB hC hEA hEB
  go_enter Tryz.func55, Tryz.ntmps55
  go_upto_region 1 with fail
  generalize World.alloc (w.alloc _) _ = w0 at *
  go_wp2_with (refine wpList_load_row rfl 30 (.tmp 2) rfl w.heap.size rfl 30 _ (0, 0) _ HX1.out.blk Tryz.underlying30 rfl HRa.out ?_)
  refine (HCA.out _ HV1.out).mono ?_; rintro e w1 ⟨rfl, hb1⟩
  have HX2' := Lib.hid (HX2.out.step hb1)
  have HV2' := Lib.hid (HV2.out.step hb1)
  have HB1 := Lib.hid (HB0.out.trans (hb1.mono HB0.out.size))
  clear hb1
  by_cases h0 : EA = 0
  · have t0 : (EA != 0) = false := by simpa using h0
    have HR : Hid (C = EB) := HE.out.trans (if_pos h0)
    subst h0
    go_wp2_with (refine wpList_load_row rfl 30 (.tmp 3) rfl (w.heap.size + 1) rfl 30 _ (0, 0) _ HX2'.out.blk Tryz.underlying30 rfl HRb.out ?_)
    refine (HCB.out _ HV2'.out).mono ?_; rintro e w2 ⟨rfl, hb2⟩
    have HB2 := Lib.hid (HB1.out.trans (hb2.mono HB1.out.size))
    clear hb2
    go_wp2_with fail
    go_ret
    exact ⟨by rw [HR.out]; rfl, HB2.out⟩
  · have t0 : (EA != 0) = true := by simpa using h0
    have HR : Hid (C = EA) := HE.out.trans (if_neg h0)
    go_wp2_with fail
    go_ret
    exact ⟨by rw [HR.out]; rfl, HB1.out⟩
end Go.Proofs.YtacnoedhpamdmaaGreatDoor
namespace Go.Proofs.YtacnoedhpamdmaaGreatDoor
open Go.RowKit
set_option linter.unusedVariables false
set_option linter.unusedSimpArgs false
attribute [local go_sem ↓] Go.wp_at_zero Go.wp_at_succ

theorem getD_strs {l : List ByteArray} {k : Nat} (h : k < l.length) : (strs l).getD k undef = .string (l.getD k ⟨#[]⟩) := by
  simp [List.getD, List.getElem?_eq_getElem h]
set_option maxRecDepth 100000 in
set_option maxHeartbeats 2000000 in
theorem c_alike : ∀ (v : Val) (cs cs' : List Value) (w : World), RV w v cs → RV w v cs' → Calls Tryz.prog 15 #[.agg cs.toArray, .agg cs'.toArray] w fun e w' => e = .returned (.bool true) ∧ Below w.heap.size w w' := by
  refine Val.ind fun v ih cs cs' w h h' => ?_
  obtain ⟨A1, B1, c1, d1, hcs, hn1, hop1⟩ := h.open_
  obtain ⟨A2, B2, c2, d2, hcs', hn2, hop2⟩ := h'.open_
  have HTB := two_bx w cs cs'
  have HX0 := Lib.hid HTB.1
  have HY0 := Lib.hid HTB.2.1
  have HB0 := Lib.hid HTB.2.2
  have HIH : Hid (∀ (i : Nat) (hi : i < v.its.length) (cs cs' : List Value) (w : World), RV w v.its[i] cs → RV w v.its[i] cs' → Calls Tryz.prog 15 #[.agg cs.toArray, .agg cs'.toArray] w fun e w' => e = .returned (.bool true) ∧ Below w.heap.size w w') := fun i hi => ih _ (List.getElem_mem hi)
  have hl1 : v.its.length ≤ 1048576 := by have := (bnd_len v).1; have := h.bd; omega
  have hl2 : v.nms.length ≤ 1048576 := by have := (bnd_len v).2.1; have := h.bd; omega
  have HN1 := Lib.hid hn1
  have HN2 := Lib.hid hn2
  have HO1 := Lib.hid hop1
  have HO2 := Lib.hid hop2
  subst hcs hcs'
  clear h h' HTB hn1 hn2 hop1 hop2 ih
  unfold vcs at *
  go_enter Tryz.func15, Tryz.ntmps15
  go_upto_region 1 with fail
  generalize World.alloc (w.alloc _) _ = w0 at *
  have a0 : w0.cell? ⟨w.heap.size, 0, none⟩ = some (.int .i64 v.k) := HX0.out.blk.cell 0
  have a1 : w0.cell? ⟨w.heap.size, 1, none⟩ = some (.int .i64 v.i) := HX0.out.blk.cell 1
  have a2 : w0.cell? ⟨w.heap.size, 2, none⟩ = some (.float .f64 v.f) := HX0.out.blk.cell 2
  have a3 : w0.cell? ⟨w.heap.size, 3, none⟩ = some (.string v.t) := HX0.out.blk.cell 3
  have a4 : w0.cell? ⟨w.heap.size, 4, none⟩ = some (.slice A1 v.its.length c1) := HX0.out.blk.cell 4
  have a5 : w0.cell? ⟨w.heap.size, 5, none⟩ = some (.slice B1 v.nms.length d1) := HX0.out.blk.cell 5
  have b0 : w0.cell? ⟨w.heap.size + 1, 0, none⟩ = some (.int .i64 v.k) := HY0.out.blk.cell 0
  have b1 : w0.cell? ⟨w.heap.size + 1, 1, none⟩ = some (.int .i64 v.i) := HY0.out.blk.cell 1
  have b2 : w0.cell? ⟨w.heap.size + 1, 2, none⟩ = some (.float .f64 v.f) := HY0.out.blk.cell 2
  have b3 : w0.cell? ⟨w.heap.size + 1, 3, none⟩ = some (.string v.t) := HY0.out.blk.cell 3
  have b4 : w0.cell? ⟨w.heap.size + 1, 4, none⟩ = some (.slice A2 v.its.length c2) := HY0.out.blk.cell 4
  have b5 : w0.cell? ⟨w.heap.size + 1, 5, none⟩ = some (.slice B2 v.nms.length d2) := HY0.out.blk.cell 5
  go_region_held3 (fun V => V.cell? ⟨w.heap.size, 0, none⟩ = some (.int .i64 v.k) ∧ V.cell? ⟨w.heap.size, 1, none⟩ = some (.int .i64 v.i) ∧ V.cell? ⟨w.heap.size, 2, none⟩ = some (.float .f64 v.f) ∧ V.cell? ⟨w.heap.size, 3, none⟩ = some (.string v.t) ∧ V.cell? ⟨w.heap.size, 4, none⟩ = some (.slice A1 v.its.length c1) ∧ V.cell? ⟨w.heap.size, 5, none⟩ = some (.slice B1 v.nms.length d1) ∧ V.cell? ⟨w.heap.size + 1, 0, none⟩ = some (.int .i64 v.k) ∧ V.cell? ⟨w.heap.size + 1, 1, none⟩ = some (.int .i64 v.i) ∧ V.cell? ⟨w.heap.size + 1, 2, none⟩ = some (.float .f64 v.f) ∧ V.cell? ⟨w.heap.size + 1, 3, none⟩ = some (.string v.t) ∧ V.cell? ⟨w.heap.size + 1, 4, none⟩ = some (.slice A2 v.its.length c2) ∧ V.cell? ⟨w.heap.size + 1, 5, none⟩ = some (.slice B2 v.nms.length d2)) (first | go_keep | (refine ⟨?_, ?_, ?_, ?_, ?_, ?_, ?_, ?_, ?_, ?_, ?_, ?_⟩ <;> assumption)) (first | (go_at_call 42; refine (c_rOne v.f _).mono ?_; rintro e w' ⟨rfl, rfl⟩))
  rename _ ∧ _ => hh
  clear hh
  clear a0 a1 a2 a3 a4 a5 b0 b1 b2 b3 b4 b5
  generalize hw1 : World.drew _ = w1
  have HX1 : Hid (Box w1 w.heap.size [.int .i64 v.k, .int .i64 v.i, .float .f64 v.f, .string v.t, .slice A1 v.its.length c1, .slice B1 v.nms.length d1]) := by rw [← hw1]; exact ⟨HX0.out.blk.drew, HX0.out.lt⟩
  have HY1 : Hid (Box w1 (w.heap.size + 1) [.int .i64 v.k, .int .i64 v.i, .float .f64 v.f, .string v.t, .slice A2 v.its.length c2, .slice B2 v.nms.length d2]) := by rw [← hw1]; exact ⟨HY0.out.blk.drew, HY0.out.lt⟩
  have HB1 : Hid (Below w.heap.size w w1) := by rw [← hw1]; exact below_drewK HB0.out
  clear hw1 HX0 HY0 HB0
  have b5 : w1.cell? ⟨w.heap.size, 5, none⟩ = some (.slice B1 v.nms.length d1) := HX1.out.blk.cell 5
  go_wp2_with fail
  clear b5
  go_loopw [5] (fun vi wr => ∃ (i k : Nat), vi = .int .i64 i ∧ i ≤ v.nms.length ∧ wr = w1.drewN k) (fun vi _ => v.nms.length - (intOf vi).toNat)
  case atStart => exact ⟨0, 0, rfl, Nat.zero_le _, rfl⟩
  case round =>
    obtain ⟨i, nd, rfl, hi, rfl⟩ := hrel
    have HBr : Hid (Below w.heap.size w (w1.drewN nd)) := below_drewN HB1.out nd
    have HXr : Hid (Box (w1.drewN nd) w.heap.size [.int .i64 v.k, .int .i64 v.i, .float .f64 v.f, .string v.t, .slice A1 v.its.length c1, .slice B1 v.nms.length d1]) := ⟨HX1.out.blk.drewN nd, HX1.out.lt⟩
    have HYr : Hid (Box (w1.drewN nd) (w.heap.size + 1) [.int .i64 v.k, .int .i64 v.i, .float .f64 v.f, .string v.t, .slice A2 v.its.length c2, .slice B2 v.nms.length d2]) := ⟨HY1.out.blk.drewN nd, HY1.out.lt⟩
    have p5 : w1.cell? ⟨w.heap.size, 5, none⟩ = some (.slice B1 v.nms.length d1) := HX1.out.blk.cell 5
    have q5 : w1.cell? ⟨w.heap.size + 1, 5, none⟩ = some (.slice B2 v.nms.length d2) := HY1.out.blk.cell 5
    by_cases hlt : i < v.nms.length
    · obtain ⟨s1, o1, hA, hs11, hs12, hcell1⟩ := (HN1.out.below HB1.out).form (by omega)
      obtain ⟨s2, o2, hA', hs21, hs22, hcell2⟩ := (HN2.out.below HB1.out).form (by omega)
      subst hA hA'
      have p6 := hcell1 i hlt
      have q6 := hcell2 i hlt
      rw [getD_strs hlt] at p6 q6
      generalize v.nms.getD i ⟨#[]⟩ = nm at *
      clear hcell1 hcell2 HN1 HN2
      go_wp2_with fail
      go_quiet (fail)
      go_wp2_with fail
      go_roundw
      case rel => exact ⟨i + 1, nd + nq, by go_num, hlt, rfl⟩
      case measure => simp [intOf]; omega
    · have b4 : w1.cell? ⟨w.heap.size, 4, none⟩ = some (.slice A1 v.its.length c1) := HX1.out.blk.cell 4
      go_wp2_with fail
      clear p5 q5 b4 HX1 HY1 HB1 HN1 HN2
      generalize hw2 : w1.drewN nd = w2 at *
      go_loopw [6] (fun vi wr => ∃ (j : Nat), vi = .int .i64 j ∧ j ≤ v.its.length ∧ Hid (Below w2.heap.size w2 wr)) (fun vi _ => v.its.length - (intOf vi).toNat)
      case atStart => exact ⟨0, rfl, Nat.zero_le _, Below.refl _ _⟩
      case round =>
        obtain ⟨j, rfl, hj, HBj⟩ := hrel
        have HBw := Lib.hid (HBr.out.trans (HBj.out.mono HBr.out.size))
        have HXj := Lib.hid (HXr.out.step HBj.out)
        have HYj := Lib.hid (HYr.out.step HBj.out)
        have b4 : wr.cell? ⟨w.heap.size, 4, none⟩ = some (.slice A1 v.its.length c1) := HXj.out.blk.cell 4
        by_cases hjl : j < v.its.length
        · obtain ⟨r1, f1, hA1, hr1, hit1⟩ := HO1.out (by omega)
          obtain ⟨r2, f2, hA2, hr2, hit2⟩ := HO2.out (by omega)
          obtain ⟨cx, hx, hcx⟩ := hit1 wr HBw.out j hjl
          obtain ⟨cy, hy, hcy⟩ := hit2 wr HBw.out j hjl
          subst hA1 hA2
          obtain ⟨u0, u1, u2, u3, u4, u5, rfl⟩ := lst_six hx.six.1
          obtain ⟨t0, t1, t2, t3, t4, t5, rfl⟩ := lst_six hy.six.1
          have hcl : ∀ W, Below wr.heap.size wr W → W.cell? ⟨w.heap.size, 4, none⟩ = some (.slice (some ⟨r1, f1, none⟩) v.its.length c1) ∧ W.cell? ⟨w.heap.size + 1, 4, none⟩ = some (.slice (some ⟨r2, f2, none⟩) v.its.length c2) ∧ W.cell? ⟨r1, f1 + j * 6, none⟩ = some u0 ∧ W.cell? ⟨r1, f1 + j * 6 + 1, none⟩ = some u1 ∧ W.cell? ⟨r1, f1 + j * 6 + 2, none⟩ = some u2 ∧ W.cell? ⟨r1, f1 + j * 6 + 3, none⟩ = some u3 ∧ W.cell? ⟨r1, f1 + j * 6 + 4, none⟩ = some u4 ∧ W.cell? ⟨r1, f1 + j * 6 + 5, none⟩ = some u5 ∧ W.cell? ⟨r2, f2 + j * 6, none⟩ = some t0 ∧ W.cell? ⟨r2, f2 + j * 6 + 1, none⟩ = some t1 ∧ W.cell? ⟨r2, f2 + j * 6 + 2, none⟩ = some t2 ∧ W.cell? ⟨r2, f2 + j * 6 + 3, none⟩ = some t3 ∧ W.cell? ⟨r2, f2 + j * 6 + 4, none⟩ = some t4 ∧ W.cell? ⟨r2, f2 + j * 6 + 5, none⟩ = some t5 := fun W hb => by
            have hs := HBw.out.size
            refine ⟨(HXj.out.step hb).blk.cell 4, (HYj.out.step hb).blk.cell 4, (hb.cell (p := ⟨r1, f1 + j * 6, none⟩) (by show r1 < wr.heap.size; omega)).trans (hcx 0 _ rfl), (hb.cell (p := ⟨r1, f1 + j * 6 + 1, none⟩) (by show r1 < wr.heap.size; omega)).trans (hcx 1 _ rfl), (hb.cell (p := ⟨r1, f1 + j * 6 + 2, none⟩) (by show r1 < wr.heap.size; omega)).trans (hcx 2 _ rfl), (hb.cell (p := ⟨r1, f1 + j * 6 + 3, none⟩) (by show r1 < wr.heap.size; omega)).trans (hcx 3 _ rfl), (hb.cell (p := ⟨r1, f1 + j * 6 + 4, none⟩) (by show r1 < wr.heap.size; omega)).trans (hcx 4 _ rfl), (hb.cell (p := ⟨r1, f1 + j * 6 + 5, none⟩) (by show r1 < wr.heap.size; omega)).trans (hcx 5 _ rfl), (hb.cell (p := ⟨r2, f2 + j * 6, none⟩) (by show r2 < wr.heap.size; omega)).trans (hcy 0 _ rfl), (hb.cell (p := ⟨r2, f2 + j * 6 + 1, none⟩) (by show r2 < wr.heap.size; omega)).trans (hcy 1 _ rfl), (hb.cell (p := ⟨r2, f2 + j * 6 + 2, none⟩) (by show r2 < wr.heap.size; omega)).trans (hcy 2 _ rfl), (hb.cell (p := ⟨r2, f2 + j * 6 + 3, none⟩) (by show r2 < wr.heap.size; omega)).trans (hcy 3 _ rfl), (hb.cell (p := ⟨r2, f2 + j * 6 + 4, none⟩) (by show r2 < wr.heap.size; omega)).trans (hcy 4 _ rfl), (hb.cell (p := ⟨r2, f2 + j * 6 + 5, none⟩) (by show r2 < wr.heap.size; omega)).trans (hcy 5 _ rfl)⟩
          have HCL := Lib.hid hcl
          obtain ⟨k0, k1, k2, k3, k4, k5, k6, k7, k8, k9, k10, k11, k12, k13⟩ := hcl wr (Below.refl _ _)
          have HV1 := Lib.hid hx
          have HV2 := Lib.hid hy
          clear hcl hit1 hit2 hx hy hcx hcy HO1 HO2 HXj HYj
          go_wp2_with fail
          go_region_held3 (fun V => V.cell? ⟨w.heap.size, 4, none⟩ = some (.slice (some ⟨r1, f1, none⟩) v.its.length c1) ∧ V.cell? ⟨w.heap.size + 1, 4, none⟩ = some (.slice (some ⟨r2, f2, none⟩) v.its.length c2) ∧ V.cell? ⟨r1, f1 + j * 6, none⟩ = some u0 ∧ V.cell? ⟨r1, f1 + j * 6 + 1, none⟩ = some u1 ∧ V.cell? ⟨r1, f1 + j * 6 + 2, none⟩ = some u2 ∧ V.cell? ⟨r1, f1 + j * 6 + 3, none⟩ = some u3 ∧ V.cell? ⟨r1, f1 + j * 6 + 4, none⟩ = some u4 ∧ V.cell? ⟨r1, f1 + j * 6 + 5, none⟩ = some u5 ∧ V.cell? ⟨r2, f2 + j * 6, none⟩ = some t0 ∧ V.cell? ⟨r2, f2 + j * 6 + 1, none⟩ = some t1 ∧ V.cell? ⟨r2, f2 + j * 6 + 2, none⟩ = some t2 ∧ V.cell? ⟨r2, f2 + j * 6 + 3, none⟩ = some t3 ∧ V.cell? ⟨r2, f2 + j * 6 + 4, none⟩ = some t4 ∧ V.cell? ⟨r2, f2 + j * 6 + 5, none⟩ = some t5) (first | go_keep | (refine ⟨?_, ?_, ?_, ?_, ?_, ?_, ?_, ?_, ?_, ?_, ?_, ?_, ?_, ?_⟩ <;> assumption)) (first | (go_at_call 15; refine (HIH.out j hjl _ _ _ (HV1.out.step (below_drewK (Below.refl _ _))) (HV2.out.step (below_drewK (Below.refl _ _)))).mono ?_; rintro e w5 ⟨rfl, hb5⟩; have HB5 : Hid (Below wr.heap.size wr w5) := (below_drewK (Below.refl _ _)).trans hb5; obtain ⟨m0, m1, m2, m3, m4, m5, m6, m7, m8, m9, m10, m11, m12, m13⟩ := HCL.out w5 HB5.out; clear hb5))
          rename _ ∧ _ => hh
          clear hh
          clear k0 k1 k2 k3 k4 k5 k6 k7 k8 k9 k10 k11 k12 k13 m0 m1 m2 m3 m4 m5 m6 m7 m8 m9 m10 m11 m12 m13
          go_wp2_with fail
          go_roundw
          case rel => exact ⟨j + 1, by go_num, hjl, HBj.out.trans (HB5.out.mono HBj.out.size)⟩
          case measure => simp [intOf]; omega
        · go_wp2_with fail
          go_ret
          exact ⟨rfl, HBw.out⟩
end Go.Proofs.YtacnoedhpamdmaaGreatDoor
