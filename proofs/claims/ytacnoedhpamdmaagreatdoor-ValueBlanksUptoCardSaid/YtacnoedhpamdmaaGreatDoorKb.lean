/- Values whose memory is their own: each list in a block that no other part of the value uses; a value with another one laid at a place of it. Conditions: none. -/
import Derived.Test.YtacnoedhpamdmaaGreatDoorKa
import Derived.Test.YtacnoedhpamdmaaGreatDoorYe
namespace Go.Proofs.YtacnoedhpamdmaaGreatDoor
open Go.RowKit
set_option linter.unusedVariables false

/-- These cells are this value's; its lists lie in blocks of S, each in one of its own. -/
inductive Tr (w : World) : (Nat → Prop) → Val → List Value → Prop
  | mk {S : Nat → Prop} {k i : Int} {f : Nat} {t : ByteArray} {its : List Val} {nms : List ByteArray} {A A' : Option Addr} {c c' : Nat} (F : Nat → Nat → Prop) (cc : Nat → List Value)
      (hn : 0 < nms.length → ∃ g cur, A' = some ⟨g, 0, none⟩ ∧ S g ∧ (∀ j, j < its.length → ¬ F j g) ∧ Blk w g 9 cur ∧ ∀ j, (h : j < nms.length) → cur[j]? = some (.string nms[j]))
      (hi : 0 < its.length → ∃ b cur, A = some ⟨b, 0, none⟩ ∧ S b ∧ (∀ j, j < its.length → ¬ F j b) ∧ Blk w b 30 cur ∧ its.length * 6 ≤ cur.size ∧ ∀ j q u, j < its.length → (cc j)[q]? = some u → cur[j * 6 + q]? = some u)
      (hs : ∀ j, j < its.length → ∀ i, F j i → S i)
      (hd : ∀ j j', j < its.length → j' < its.length → ∀ i, F j i → F j' i → j = j')
      (hk : ∀ j, (h : j < its.length) → Tr w (F j) its[j] (cc j)) :
      Tr w S (.mk k i f t its nms) (vcs (.mk k i f t its nms) A A' c c')
/-- The same, part by part. -/
structure TrI (w : World) (S : Nat → Prop) (v : Val) (A A' : Option Addr) (F : Nat → Nat → Prop) (cc : Nat → List Value) : Prop where
  hn : 0 < v.nms.length → ∃ g cur, A' = some ⟨g, 0, none⟩ ∧ S g ∧ (∀ j, j < v.its.length → ¬ F j g) ∧ Blk w g 9 cur ∧ ∀ j, (h : j < v.nms.length) → cur[j]? = some (.string v.nms[j])
  hi : 0 < v.its.length → ∃ b cur, A = some ⟨b, 0, none⟩ ∧ S b ∧ (∀ j, j < v.its.length → ¬ F j b) ∧ Blk w b 30 cur ∧ v.its.length * 6 ≤ cur.size ∧ ∀ j q u, j < v.its.length → (cc j)[q]? = some u → cur[j * 6 + q]? = some u
  hs : ∀ j, j < v.its.length → ∀ i, F j i → S i
  hd : ∀ j j', j < v.its.length → j' < v.its.length → ∀ i, F j i → F j' i → j = j'
  hk : ∀ j, (h : j < v.its.length) → Tr w (F j) v.its[j] (cc j)
theorem TrI.tr {w : World} {S : Nat → Prop} {v : Val} {A A' : Option Addr} {F : Nat → Nat → Prop} {cc : Nat → List Value} (h : TrI w S v A A' F cc) (c c' : Nat) : Tr w S v (vcs v A A' c c') := by
  cases v with
  | mk k i f t its nms => exact .mk F cc h.hn h.hi h.hs h.hd h.hk
theorem Tr.open_ {w : World} {S : Nat → Prop} {v : Val} {cs : List Value} (h : Tr w S v cs) : ∃ A A' c c' F cc, cs = vcs v A A' c c' ∧ TrI w S v A A' F cc := by
  cases h with
  | mk F cc hn hi hs hd hk => exact ⟨_, _, _, _, F, cc, rfl, ⟨hn, hi, hs, hd, hk⟩⟩
theorem Tr.six {w : World} {S : Nat → Prop} {v : Val} {cs : List Value} (h : Tr w S v cs) : cs.length = 6 := by
  obtain ⟨_, _, _, _, _, _, rfl, _⟩ := h.open_
  rfl
theorem Tr.one {w : World} {S : Nat → Prop} {v : Val} {cs : List Value} (h : Tr w S v cs) : cs.toArray.toList.all (·.oneCell') = true := by
  obtain ⟨_, _, _, _, _, _, rfl, _⟩ := h.open_
  rfl
theorem Tr.keep {w W : World} {S : Nat → Prop} {v : Val} {cs : List Value} (h : Tr w S v cs) : (∀ i, S i → W.heap[i]? = w.heap[i]?) → Tr W S v cs := by
  induction h with
  | mk F cc hn hi hs hd hk ih =>
    intro hK
    refine .mk F cc (fun h0 => ?_) (fun h0 => ?_) hs hd fun j h => ih j h fun i hi => hK i (hs j h i hi)
    · obtain ⟨g, cur, e, hg, hf, hb, hc⟩ := hn h0
      exact ⟨g, cur, e, hg, hf, (hK g hg).trans hb, hc⟩
    · obtain ⟨g, cur, e, hg, hf, hb, hc⟩ := hi h0
      exact ⟨g, cur, e, hg, hf, (hK g hg).trans hb, hc⟩
theorem Tr.wide {w : World} {S S' : Nat → Prop} {v : Val} {cs : List Value} (h : Tr w S v cs) (hS : ∀ i, S i → S' i) : Tr w S' v cs := by
  cases h with
  | mk F cc hn hi hs hd hk =>
    refine .mk F cc (fun h0 => ?_) (fun h0 => ?_) (fun j h i hi => hS i (hs j h i hi)) hd hk
    · obtain ⟨g, cur, e, hg, hr⟩ := hn h0
      exact ⟨g, cur, e, hS g hg, hr⟩
    · obtain ⟨g, cur, e, hg, hr⟩ := hi h0
      exact ⟨g, cur, e, hS g hg, hr⟩
theorem Tr.rd {w : World} {S : Nat → Prop} {v : Val} {cs : List Value} {B : Nat} (h : Tr w S v cs) : (∀ i, S i → i < B) → RdV w B v cs := by
  induction h with
  | @mk S k i f t its nms A A' c c' F cc hn hi hs hd hk ih =>
    intro hB
    refine RdV_iff.2 ⟨A, A', c, c', rfl, ⟨by show (strs nms).length = nms.length * 1; simp, fun h0 => ?_⟩, fun j hj => ?_⟩
    · obtain ⟨g, cur, e, hg, hf, hb, hc⟩ := hn h0
      refine ⟨⟨g, 0, none⟩, e, hB g hg, fun j u hu => ?_⟩
      have hu : (nms.map Value.string)[j]? = some u := hu
      rw [List.getElem?_map] at hu
      obtain ⟨x, hx, rfl⟩ := Option.map_eq_some_iff.1 hu
      obtain ⟨hj', rfl⟩ := List.getElem?_eq_some_iff.1 hx
      rw [Addr.add_lit, Nat.zero_add, hb.cell j]
      exact hc j hj'
    · have hj : j < its.length := hj
      obtain ⟨b, cur, e, hg, hf, hb, hz, hc⟩ := hi (by omega)
      refine ⟨⟨b, 0, none⟩, cc j, e, hB b hg, fun q u hu => ?_, ih j hj fun i hi => hB i (hs j hj i hi)⟩
      rw [Addr.add_lit, Nat.zero_add, hb.cell]
      exact hc j q u hj hu
theorem Tr.leaf (w : World) (S : Nat → Prop) {k i : Int} {f : Nat} {t : ByteArray} : Tr w S (.mk k i f t [] []) [.int .i64 k, .int .i64 i, .float .f64 f, .string t, .slice none 0 0, .slice none 0 0] :=
  .mk (fun _ _ => False) (fun _ => []) (fun h => absurd h (by decide)) (fun h => absurd h (by decide)) (fun j h => absurd h (by simp)) (fun j _ h => absurd h (by simp)) (fun j h => absurd h (by simp))
theorem splice_self {cur : Array Value} {cs : List Value} {o : Nat} (h6 : cs.length = 6) (ho : o + 6 ≤ cur.size) (hc : ∀ q u, cs[q]? = some u → cur[o + q]? = some u) : (cur.toList.take o ++ cs ++ cur.toList.drop (o + 6)).toArray = cur := by
  have hsz : cur.toList.length = cur.size := Array.length_toList
  have : cur.toList.take o ++ cs ++ cur.toList.drop (o + 6) = cur.toList := by
    refine List.ext_getElem? fun n => ?_
    rcases Nat.lt_or_ge n o with h1 | h1
    · rw [List.append_assoc, List.getElem?_append_left (by rw [List.length_take]; omega), List.getElem?_take_of_lt h1]
    · rcases Nat.lt_or_ge n (o + 6) with h2 | h2
      · rw [List.getElem?_append_left (by rw [List.length_append, List.length_take]; omega), List.getElem?_append_right (by rw [List.length_take]; omega), List.length_take, Nat.min_eq_left (by omega)]
        have hl : n - o < cs.length := by omega
        rw [List.getElem?_eq_getElem hl]
        have := hc (n - o) _ (List.getElem?_eq_getElem hl)
        rw [show o + (n - o) = n by omega] at this
        rw [← this, ← Array.getElem?_toList]
      · rw [List.getElem?_append_right (by rw [List.length_append, List.length_take]; omega), List.getElem?_drop]
        congr 1
        rw [List.length_append, List.length_take]; omega
  rw [this]
theorem splice_at {cur : Array Value} {cy : List Value} {k n : Nat} (h6 : cy.length = 6) (hk : k < n) (hn : n * 6 ≤ cur.size) (j q : Nat) (hq : q < 6) (hj : j < n) : (cur.toList.take (k * 6) ++ cy ++ cur.toList.drop (k * 6 + 6)).toArray[j * 6 + q]? = if j = k then cy[q]? else cur[j * 6 + q]? := by
  have hsz : cur.toList.length = cur.size := Array.length_toList
  rw [List.getElem?_toArray]
  rcases Nat.lt_trichotomy j k with h1 | h1 | h1
  · rw [if_neg (by omega), List.append_assoc, List.getElem?_append_left (by rw [List.length_take]; omega), List.getElem?_take_of_lt (by omega), Array.getElem?_toList]
  · subst h1
    rw [if_pos rfl, List.getElem?_append_left (by rw [List.length_append, List.length_take]; omega), List.getElem?_append_right (by rw [List.length_take]; omega), List.length_take, Nat.min_eq_left (by omega), Nat.add_sub_cancel_left]
  · rw [if_neg (by omega), List.getElem?_append_right (by rw [List.length_append, List.length_take]; omega), List.getElem?_drop, Array.getElem?_toList]
    congr 1
    rw [List.length_append, List.length_take]; omega
theorem splice_size {cur : Array Value} {cy : List Value} {o : Nat} (h6 : cy.length = 6) (ho : o + 6 ≤ cur.size) : (cur.toList.take o ++ cy ++ cur.toList.drop (o + 6)).toArray.size = cur.size := by
  have hsz : cur.toList.length = cur.size := Array.length_toList
  simp only [List.size_toArray, List.length_append, List.length_take, List.length_drop]
  omega
/-- An item laid anew, elsewhere all as it was. -/
theorem TrI.set_ {w W : World} {S Sn : Nat → Prop} {v y : Val} {A A' : Option Addr} {F : Nat → Nat → Prop} {cc : Nat → List Value} {cy : List Value} {b k : Nat} {cur : Array Value}
    (h : TrI w S v A A' F cc) (hA : A = some ⟨b, 0, none⟩) (hcur : Blk w b 30 cur) (hk : k < v.its.length)
    (hn : ∀ i, Sn i → ¬ S i) (hf : ∀ i, S i → ¬ F k i → i ≠ b → W.heap[i]? = w.heap[i]?)
    (hb : Blk W b 30 (cur.toList.take (k * 6) ++ cy ++ cur.toList.drop (k * 6 + 6)).toArray) (hy : Tr W (fun i => F k i ∨ Sn i) y cy) :
    TrI W (fun i => S i ∨ Sn i) (setI v k y) A A' (fun j i => if j = k then F k i ∨ Sn i else F j i) (fun j => if j = k then cy else cc j) := by
  have hlen : (setI v k y).its.length = v.its.length := by rw [setI_its, List.length_set]
  obtain ⟨b', cur', e, hS, hF, hB, hz, hc⟩ := h.hi (by omega)
  rw [hA] at e
  injection e with e
  injection e with e
  subst e
  have e2 : cur' = cur := by
    unfold Blk at hB hcur
    rw [hB] at hcur
    injection hcur with hcur
    injection hcur with hcur
  subst e2
  refine ⟨fun h0 => ?_, fun _ => ⟨b, _, hA, .inl hS, fun j hj => ?_, hb, ?_, fun j q u hj hu => ?_⟩, fun j hj i hi => ?_, fun j j' hj hj' i hi hi' => ?_, fun j hj => ?_⟩
  · obtain ⟨g, cu, e, hg, hfg, hgb, hgc⟩ := h.hn h0
    have hne : g ≠ b := hgb.ne_ hB (by decide)
    refine ⟨g, cu, e, .inl hg, fun j hj => ?_, (hf g hg (hfg k hk) hne).trans hgb, hgc⟩
    rw [hlen] at hj
    by_cases hjk : j = k
    · rw [if_pos hjk]
      exact fun hx => hx.elim (hfg k hk) (fun hx => hn g hx hg)
    · rw [if_neg hjk]; exact hfg j hj
  · rw [hlen] at hj
    by_cases hjk : j = k
    · rw [if_pos hjk]
      exact fun hx => hx.elim (hF k hk) (fun hx => hn b hx hS)
    · rw [if_neg hjk]; exact hF j hj
  · rw [hlen, splice_size hy.six (by omega)]; exact hz
  · rw [hlen] at hj
    have hq : q < 6 := by
      by_cases hjk : j = k
      · rw [if_pos hjk] at hu
        have := (List.getElem?_eq_some_iff.1 hu).1
        rw [hy.six] at this; exact this
      · rw [if_neg hjk] at hu
        have := (List.getElem?_eq_some_iff.1 hu).1
        rw [(h.hk j hj).six] at this; exact this
    rw [splice_at hy.six hk hz j q hq hj]
    by_cases hjk : j = k
    · rw [if_pos hjk] at hu ⊢; exact hu
    · rw [if_neg hjk] at hu ⊢; exact hc j q u hj hu
  · rw [hlen] at hj
    by_cases hjk : j = k
    · rw [if_pos hjk] at hi
      exact hi.elim (fun hx => .inl (h.hs k hk i hx)) .inr
    · rw [if_neg hjk] at hi; exact .inl (h.hs j hj i hi)
  · rw [hlen] at hj hj'
    by_cases hjk : j = k
    · by_cases hjk' : j' = k
      · omega
      · rw [if_pos hjk] at hi
        rw [if_neg hjk'] at hi'
        rcases hi with hi | hi
        · have := h.hd k j' hk hj' i hi hi'; omega
        · exact absurd (h.hs j' hj' i hi') (hn i hi)
    · rw [if_neg hjk] at hi
      by_cases hjk' : j' = k
      · rw [if_pos hjk'] at hi'
        rcases hi' with hi' | hi'
        · have := h.hd j k hj hk i hi hi'; omega
        · exact absurd (h.hs j hj i hi) (hn i hi')
      · rw [if_neg hjk'] at hi'
        exact h.hd j j' hj hj' i hi hi'
  · have hj' : j < v.its.length := by rw [hlen] at hj; exact hj
    simp only [setI_its]
    by_cases hjk : j = k
    · subst hjk
      simp only [List.getElem_set_self, if_pos]
      exact hy
    · rw [List.getElem_set_ne (by omega), if_neg hjk]
      rw [show (fun i => if j = k then F k i ∨ Sn i else F j i) = F j by funext i; rw [if_neg hjk]]
      exact (h.hk j hj').keep fun i hi => hf i (h.hs j hj' i hi) (fun hx => hjk (h.hd j k hj' hk i hi hx)) (fun e => hF j hj' (e ▸ hi))
/-- A place in a value's memory at the end of a way: what is laid there stands in the whole value. -/
def Spot (w : World) (g0 : Nat) (S0 : Nat → Prop) (v : Val) (done : List Int) (x : Val) (g o : Nat) : Prop :=
  atV v done = some x ∧ ∃ (cur : Array Value) (cs : List Value) (Sx : Nat → Prop), Blk w g 30 cur ∧ o + 6 ≤ cur.size ∧ (∀ q u, cs[q]? = some u → cur[o + q]? = some u) ∧ Tr w Sx x cs ∧ (∀ i, Sx i → S0 i) ∧ ¬ Sx g ∧ (g = g0 ∨ S0 g) ∧
    ∀ (W : World) (Sn : Nat → Prop) (y : Val) (cy : List Value), (∀ i, Sn i → ¬ S0 i ∧ i ≠ g0) → (∀ i, (S0 i ∨ i = g0) → ¬ Sx i → i ≠ g → W.heap[i]? = w.heap[i]?) →
      Blk W g 30 (cur.toList.take o ++ cy ++ cur.toList.drop (o + 6)).toArray → Tr W (fun i => Sx i ∨ Sn i) y cy →
      ∃ cs0 : List Value, Blk W g0 30 cs0.toArray ∧ Tr W (fun i => S0 i ∨ Sn i) (putV v done y) cs0
theorem Spot.start {w : World} {g0 : Nat} {S0 : Nat → Prop} {v : Val} {cs : List Value} (hb : Blk w g0 30 cs.toArray) (ht : Tr w S0 v cs) (h0 : ¬ S0 g0) : Spot w g0 S0 v [] v g0 0 := by
  have h6 := ht.six
  refine ⟨by rw [atV], cs.toArray, cs, S0, hb, by simp [h6], fun q u h => by rw [Nat.zero_add, List.getElem?_toArray]; exact h, ht, fun i h => h, h0, .inl rfl, fun W Sn y cy hn hf hB hy => ?_⟩
  have e : cs.toArray.toList.take 0 ++ cy ++ cs.toArray.toList.drop (0 + 6) = cy := by simp [h6]
  rw [e] at hB
  rw [putV]
  exact ⟨cy, hB, hy⟩
theorem Spot.head {w : World} {g0 g o : Nat} {S0 : Nat → Prop} {v x : Val} {done : List Int} (h : Spot w g0 S0 v done x g o) : ∃ A c, w.cell? ⟨g, o + 4, none⟩ = some (.slice A x.its.length c) ∧
    (∀ k, k < x.its.length → ∃ b, A = some ⟨b, 0, none⟩) := by
  obtain ⟨_, cur, cs, Sx, hb, hz, hc, ht, _⟩ := h
  obtain ⟨A, A', c, c', F, cc, rfl, hI⟩ := ht.open_
  refine ⟨A, c, by rw [hb.cell]; exact hc 4 _ rfl, fun k hk => ?_⟩
  obtain ⟨b, _, e, _⟩ := hI.hi (by omega)
  exact ⟨b, e⟩
theorem Spot.step {w : World} {g0 g o b k c : Nat} {S0 : Nat → Prop} {v x : Val} {done : List Int} (h : Spot w g0 S0 v done x g o) (hcell : w.cell? ⟨g, o + 4, none⟩ = some (.slice (some ⟨b, 0, none⟩) x.its.length c)) (hk : k < x.its.length) :
    Spot w g0 S0 v (done ++ [(k : Int)]) x.its[k] b (k * 6) := by
  obtain ⟨hat, cur, cs, Sx, hb, hz, hc, ht, hS, hg, hg0, hcl⟩ := h
  have h6 := ht.six
  have hT := ht
  obtain ⟨A, A', c1, c', F, cc, rfl, hI⟩ := ht.open_
  have hA : A = some ⟨b, 0, none⟩ := by
    have := hc 4 (.slice A x.its.length c1) rfl
    rw [← hb.cell, hcell] at this
    injection this with this
    injection this with this
    exact this.symm
  obtain ⟨b', cur', e, hbS, hbF, hbB, hbz, hbc⟩ := hI.hi (by omega)
  rw [hA] at e
  injection e with e
  injection e with e
  subst e
  refine ⟨?_, cur', cc k, F k, hbB, by omega, fun q u hu => hbc k q u hk hu, hI.hk k hk, fun i hi => hS i (hI.hs k hk i hi), hbF k hk, .inr (hS b hbS), fun W Sn y cy hn hf hB hy => ?_⟩
  · rw [atV_snoc hat, atV_in hk, atV]
  · have hgb : g ≠ b := fun e => hg (e ▸ hbS)
    have hI2 := hI.set_ (W := W) (Sn := Sn) (y := y) (cy := cy) hA hbB hk (fun i hi hx => (hn i hi).1 (hS i hx)) (fun i hi hx hne => hf i (.inl (hS i hi)) hx hne) hB hy
    rw [putV_snoc hat hk]
    refine hcl W Sn (setI x k y) (vcs x A A' c1 c') hn (fun i hi hx hne => hf i hi (fun hF => hx (hI.hs k hk i hF)) (fun e => hx (e ▸ hbS))) ?_ ?_
    · rw [splice_self h6 hz hc]
      exact (hf g (hg0.elim .inr .inl) (fun hF => hg (hI.hs k hk g hF)) hgb).trans hb
    · have := hI2.tr c1 c'
      rw [show vcs (setI x k y) A A' c1 c' = vcs x A A' c1 c' by
        show [Value.int .i64 x.k, .int .i64 x.i, .float .f64 x.f, .string x.t, .slice A (x.its.set k y).length c1, .slice A' x.nms.length c'] = _
        rw [List.length_set]; rfl] at this
      exact this
end Go.Proofs.YtacnoedhpamdmaaGreatDoor
