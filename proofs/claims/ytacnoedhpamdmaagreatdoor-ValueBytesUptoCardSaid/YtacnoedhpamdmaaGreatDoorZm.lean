/- Walk: the items of a list read out of bytes, the document's ((*quernref23.bytesIn).items). Conditions: as stated. -/
import Derived.Test.YtacnoedhpamdmaaGreatDoorZl
import Derived.Deep.RegionLaw
namespace Go.Proofs.YtacnoedhpamdmaaGreatDoor
open Go.RowKit
set_option linter.unusedVariables false
set_option linter.unusedSimpArgs false
attribute [local go_sem ↓] Go.wp_at_zero Go.wp_at_succ

/-- A reader that has failed reads on: nothing. -/
def RVE (A : Option Addr) (N c : Nat) : Prop := ∀ (g a : Nat) (q pl e : Int) (W : World) (E : Int), e ≠ 0 → 0 ≤ E → E ≤ 66 → Blk W g 102 (RnC A N c a q pl e) →
  Calls Tryz.prog 67 #[.pointer (some ⟨g, 0, none⟩), .int .i64 E] W fun x w' => x = .returned (.agg zv6.toArray) ∧ (∃ q', Blk w' g 102 (RnC A N c a q' pl e)) ∧ W.grownBy w' (some g)
theorem only_farZ {a b c : World} {g x : Nat} (h : a.grownBy b (some g)) (k : b.grownBy c (some x)) (hx : a.heap.size ≤ x) : a.grownBy c (some g) :=
  ⟨k.os.trans h.os, k.tape.trans h.tape, k.output.trans h.output, Nat.le_trans h.size k.size, fun i hi hr => (k.block i (Nat.lt_of_lt_of_le hi h.size) (fun e => by have := Option.some.inj e; omega)).trans (h.block i hi hr)⟩
theorem RowB.retB {w wr w3 : World} {g nI cI nN cN a' : Nat} {k : Int} {AI AN : Option Addr} {rows : List Value} {nms : List ByteArray} {A : Option Addr} {N c : Nat} {q : Int} {a4 : Nat} {e4 : Int} (h : RowB w wr g k AI nI cI AN nN cN rows nms) (hk : Blk wr g 102 (RnC A N c a' q (a4 : Int) e4)) (hg : wr.grownBy w3 (some (w.heap.size + 1))) :
    RPost w g A N c (.bad a4 e4) (.returned (.agg (vkC k AI nI cI AN nN cN))) w3 := by
  have hlg := h.lg
  exact ⟨⟨(vkC k AI nI cI AN nN cN).toList, a', q, rfl, rfl, rfl, hk.grown hg (fun e => by injection e with e; omega)⟩, only_farZ h.gr hg (by omega)⟩
theorem RowB.retA {w wr w3 : World} {g cI cN a p : Nat} {k : Int} {AI AN : Option Addr} {its : List Val} {css : List (List Value)} {nms : List ByteArray} {A : Option Addr} {N c : Nat} {X : Nat → Prop} (h : RowB w wr g k AI its.length cI AN nms.length cN css.flatten nms) (hc : Chs (w.heap.size + 2) wr X its css) (hk : Blk wr g 102 (RnC A N c a (p : Int) 0 0)) (hg : wr.grownBy w3 (some (w.heap.size + 1))) :
    RPost w g A N c (.ok (.mk k 0 0 ⟨#[]⟩ its nms) a p) (.returned (.agg (vkC k AI its.length cI AN nms.length cN))) w3 := by
  have hlg := h.lg
  refine ⟨(vkC k AI its.length cI AN nms.length cN).toList, rfl, ?_, hk.grown hg (fun e => by injection e with e; omega), only_farZ h.gr hg (by omega)⟩
  exact ((fresh_of X h.oi h.on hc (Nat.le_refl _)).on hg.size fun i hi hj => hg.block i hj (fun e => by injection e with e; omega)).lo_ (by omega)
theorem decV_why (xs : List Int) : ∀ d a p a4 e4, decV xs d a p = .bad a4 e4 → e4 ≠ 0 := by
  have key : ∀ (f : Nat → Nat → DR) (k : Int), (∀ a p a4 e4, f a p = .bad a4 e4 → e4 ≠ 0) → ∀ n a p its nms a4 e4, decI f xs k n a p its nms = .bad a4 e4 → e4 ≠ 0 := by
    intro f k hf n
    induction n with
    | zero => intro a p its nms a4 e4 h; rw [decI] at h; cases h
    | succ n ih =>
      intro a p its nms a4 e4 h
      rw [decI] at h
      split at h
      · rename_i a5 e5 h5
        injection h with _ h
        subst h
        split at h5
        · unfold nameD at h5
          repeat' split at h5
          all_goals first | (injection h5 with _ h5; subst h5; decide) | (cases h5; done)
        · cases h5
      · split at h
        · rename_i a6 e6 h6
          injection h with _ h
          subst h
          exact hf _ _ _ _ h6
        · exact ih _ _ _ _ _ _ h
  intro d
  induction d with
  | zero => intro a p a4 e4 h; rw [decV] at h; injection h with _ h; subst h; decide
  | succ d ih =>
    intro a p a4 e4 h
    rw [decV] at h
    unfold textD at h
    repeat' split at h
    all_goals first
      | (injection h with _ h; subst h; decide)
      | (cases h; done)
      | exact key _ _ ih _ _ _ _ _ _ _ h
/-- What a read of one value leaves behind, well or ill. -/
def RU (w : World) (g : Nat) (A : Option Addr) (N c : Nat) (dr : DR) (E : Ending) (w' : World) : Prop := ∃ (cs : List Value) (a' : Nat) (q pl e : Int), E = .returned (.agg cs.toArray) ∧ cs.length = 6 ∧ cs.toArray.toList.all (·.oneCell') = true ∧ Blk w' g 102 (RnC A N c a' q pl e) ∧ w.grownBy w' (some g) ∧
  ((∃ (v : Val) (p' : Nat), dr = .ok v a' p' ∧ q = (p' : Int) ∧ pl = 0 ∧ e = 0 ∧ Fresh w.heap.size w' v cs) ∨ (∃ a4 : Nat, dr = .bad a4 e ∧ pl = (a4 : Int) ∧ e ≠ 0))
theorem RU.of {w w' : World} {g N c : Nat} {A : Option Addr} {dr : DR} {E : Ending} (h : RPost w g A N c dr E w') (hne : ∀ a4 e4, dr = .bad a4 e4 → e4 ≠ 0) : RU w g A N c dr E w' := by
  cases dr with
  | ok v a p =>
    obtain ⟨cs, h1, h2, h3, h4⟩ := h
    have h6 := six_of h2.rd
    exact ⟨cs, a, p, 0, 0, h1, h6.1, h6.2, h3, h4, .inl ⟨v, p, rfl, rfl, rfl, rfl, h2⟩⟩
  | bad a4 e4 =>
    obtain ⟨⟨cs, a', q, h1, h2, h3, h4⟩, h5⟩ := h
    exact ⟨cs, a', q, a4, e4, h1, h2, h3, h4, h5, .inr ⟨a4, rfl, rfl, hne _ _ rfl⟩⟩
theorem RowB.stepI {w w5 w6 : World} {g nI cI nN cN c6 : Nat} {k : Int} {AI AN A6 : Option Addr} {rows cs : List Value} {nms : List ByteArray} {o : Obj} {T : TypeId} {Cs : Array Value} (h : RowB w w5 g k AI nI cI AN nN cN rows nms) (hb : Blk w5 g T Cs)
    (ho : w6.ownsRow (w.heap.size + 2) 30 6 (.slice A6 (nI + 1) c6) (nI + 1) (rows ++ cs)) (hg : (w5.alloc o).grownBy w6 (Value.slice AI nI cI).ownBlock)
    (hk : (Value.slice A6 (nI + 1) c6).ownBlock = (Value.slice AI nI cI).ownBlock ∨ (Value.slice A6 (nI + 1) c6).ownBlock = some (w5.alloc o).heap.size) :
    RowB w (w6.setCell ⟨w.heap.size, 4, none⟩ (.slice A6 (nI + 1) c6)) g k A6 (nI + 1) c6 AN nN cN (rows ++ cs) nms ∧ Blk (w6.setCell ⟨w.heap.size, 4, none⟩ (.slice A6 (nI + 1) c6)) g T Cs ∧
    ∀ (its : List Val) (css : List (List Value)), Chs (w.heap.size + 2) w5 (XOf AI nI cI AN nN cN) its css → Chs (w.heap.size + 2) (w6.setCell ⟨w.heap.size, 4, none⟩ (.slice A6 (nI + 1) c6)) (XOf A6 (nI + 1) c6 AN nN cN) its css := by
  have hlg := h.lg
  have hlz := h.lz
  have hob : ∀ r, (Value.slice AI nI cI).ownBlock = some r → w.heap.size + 2 ≤ r := fun r hr => (own_at h.oi hr).1
  refine ⟨h.item ho hg, ?_, fun its css hc => hc.anew hg (by show w.heap.size < _; omega) (fun i hi => .inl hi) fun i hi hx hx2 => ?_⟩
  · exact ((Below.heap_setCell w6 _ _ g (by show g ≠ w.heap.size; omega)).trans ((hg.block g (by simp; omega) (fun e => by have := hob _ e.symm; omega)).trans (Below.heap_alloc w5 o g (by omega)))).trans hb
  · rcases hx2 with h2 | h2
    · rcases hk with hk | hk
      · exact hx (.inl (hk.symm.trans h2))
      · rw [hk] at h2
        have : (w5.alloc o).heap.size = i := Option.some.inj h2
        simp at this
        omega
    · exact hx (.inr h2)
theorem RowB.stepN {w w5 w6 : World} {g nI cI nN cN c6 : Nat} {k : Int} {AI AN A6 : Option Addr} {rows : List Value} {nms : List ByteArray} {s : ByteArray} {o : Obj} {T : TypeId} {Cs : Array Value} (h : RowB w w5 g k AI nI cI AN nN cN rows nms) (hb : Blk w5 g T Cs)
    (ho : w6.ownsRow (w.heap.size + 2) 9 1 (.slice A6 (nN + 1) c6) (nN + 1) (strs nms ++ [.string s])) (hg : (w5.alloc o).grownBy w6 (Value.slice AN nN cN).ownBlock)
    (hk : (Value.slice A6 (nN + 1) c6).ownBlock = (Value.slice AN nN cN).ownBlock ∨ (Value.slice A6 (nN + 1) c6).ownBlock = some (w5.alloc o).heap.size) :
    RowB w (w6.setCell ⟨w.heap.size, 5, none⟩ (.slice A6 (nN + 1) c6)) g k AI nI cI A6 (nN + 1) c6 rows (nms ++ [s]) ∧ Blk (w6.setCell ⟨w.heap.size, 5, none⟩ (.slice A6 (nN + 1) c6)) g T Cs ∧
    ∀ (its : List Val) (css : List (List Value)), Chs (w.heap.size + 2) w5 (XOf AI nI cI AN nN cN) its css → Chs (w.heap.size + 2) (w6.setCell ⟨w.heap.size, 5, none⟩ (.slice A6 (nN + 1) c6)) (XOf AI nI cI A6 (nN + 1) c6) its css := by
  have hlg := h.lg
  have hlz := h.lz
  have hob : ∀ r, (Value.slice AN nN cN).ownBlock = some r → w.heap.size + 2 ≤ r := fun r hr => (own_at h.on hr).1
  refine ⟨h.name ho hg, ?_, fun its css hc => hc.anew hg (by show w.heap.size < _; omega) (fun i hi => .inr hi) fun i hi hx hx2 => ?_⟩
  · exact ((Below.heap_setCell w6 _ _ g (by show g ≠ w.heap.size; omega)).trans ((hg.block g (by simp; omega) (fun e => by have := hob _ e.symm; omega)).trans (Below.heap_alloc w5 o g (by omega)))).trans hb
  · rcases hx2 with h2 | h2
    · exact hx (.inl h2)
    · rcases hk with hk | hk
      · exact hx (.inr (hk.symm.trans h2))
      · rw [hk] at h2
        have : (w5.alloc o).heap.size = i := Option.some.inj h2
        simp at this
        omega
theorem RowB.kid {w wr w5 : World} {g nI cI nN cN lo5 : Nat} {k : Int} {AI AN : Option Addr} {rows : List Value} {nms : List ByteArray} {its : List Val} {css : List (List Value)} {v : Val} {cs : List Value} (h : RowB w wr g k AI nI cI AN nN cN rows nms)
    (hc : Chs (w.heap.size + 2) wr (XOf AI nI cI AN nN cN) its css) (hg : wr.grownBy w5 (some g)) (hf : Fresh lo5 w5 v cs) (hlo : wr.heap.size ≤ lo5) : Chs (w.heap.size + 2) w5 (XOf AI nI cI AN nN cN) (its ++ [v]) (css ++ [cs]) := by
  have hlg := h.lg
  have hgn : ∀ i, w.heap.size + 2 ≤ i → some i ≠ some g := fun i hi e => by injection e with e; omega
  refine Chs.snoc (lo' := wr.heap.size) (hc.on hg.size fun i hi hj hx => ⟨hg.block i hj (hgn i hi), hx⟩) (hf.lo_ hlo) h.lz (fun i hi hx => ?_) (six_of hf.rd).1
  have := (xof_lt h.oi h.on hx).2
  omega
theorem l_six6 {cs : List Value} (h : cs.length = 6) : ∃ u0 u1 u2 u3 u4 u5, cs = [u0, u1, u2, u3, u4, u5] := by
  match cs, h with
  | [a, b, c, d, e, f], _ => exact ⟨a, b, c, d, e, f, rfl⟩
/-- Where the walk of a list's or a map's items stands. -/
def RM (xs : List Int) (w wr : World) (g : Nat) (A : Option Addr) (N c d : Nat) (k : Int) (M : Nat) (R : DR) (i : Nat) : Prop := ∃ (AI : Option Addr) (nI cI : Nat) (AN : Option Addr) (nN cN : Nat) (rows : List Value) (nms : List ByteArray) (a : Nat) (q pl e : Int),
  RowB w wr g k AI nI cI AN nN cN rows nms ∧ Blk wr g 102 (RnC A N c a q pl e) ∧
  ((e = 0 ∧ pl = 0 ∧ ∃ (p : Nat) (its : List Val) (css : List (List Value)), q = (p : Int) ∧ a ≤ N ∧ p ≤ 65536 ∧ nI = i ∧ its.length = i ∧ nms.length = nN ∧ (k = 7 → nN = i) ∧ rows = css.flatten ∧ Chs (w.heap.size + 2) wr (XOf AI nI cI AN nN cN) its css ∧ decI (decV xs d) xs k (M - i) a p its nms = R) ∨
   (e ≠ 0 ∧ ∃ a4 : Nat, pl = (a4 : Int) ∧ R = .bad a4 e))
/-- The round's end. -/
theorem RM.next {xs : List Int} {w W3 w5 w7 : World} {g N c d : Nat} {A : Option Addr} {k : Int} {M : Nat} {R dr : DR} {i a5 nI cI nN cN c6 : Nat} {AI AN A6 : Option Addr} {rows cs : List Value} {nms : List ByteArray} {q5 pl5 e5 : Int} {lo5 : Nat}
    (h3 : RowB w W3 g k AI nI cI AN nN cN rows nms) (hg5 : W3.grownBy w5 (some g)) (hlo : W3.heap.size ≤ lo5) (ho : (∃ (v : Val) (p' : Nat), dr = .ok v a5 p' ∧ q5 = (p' : Int) ∧ pl5 = 0 ∧ e5 = 0 ∧ Fresh lo5 w5 v cs) ∨ (∃ a4 : Nat, dr = .bad a4 e5 ∧ pl5 = (a4 : Int) ∧ e5 ≠ 0))
    (h7 : RowB w w7 g k A6 (nI + 1) c6 AN nN cN (rows ++ cs) nms ∧ Blk w7 g 102 (RnC A N c a5 q5 pl5 e5) ∧ ∀ (its : List Val) (css : List (List Value)), Chs (w.heap.size + 2) w5 (XOf AI nI cI AN nN cN) its css → Chs (w.heap.size + 2) w7 (XOf A6 (nI + 1) c6 AN nN cN) its css)
    (hbad : ∀ a4 e4, dr = .bad a4 e4 → R = .bad a4 e4)
    (hok : ∀ v a' p', dr = .ok v a' p' → ∃ (its : List Val) (css : List (List Value)), a' ≤ N ∧ p' ≤ 65536 ∧ nI = i ∧ its.length = i ∧ nms.length = nN ∧ (k = 7 → nN = i + 1) ∧ rows = css.flatten ∧ Chs (w.heap.size + 2) W3 (XOf AI nI cI AN nN cN) its css ∧ decI (decV xs d) xs k (M - (i + 1)) a' p' (its ++ [v]) nms = R) :
    RM xs w w7 g A N c d k M R (i + 1) := by
  refine ⟨_, _, _, _, _, _, _, _, _, _, _, _, h7.1, h7.2.1, ?_⟩
  rcases ho with ⟨v, p', rfl, rfl, rfl, rfl, hf⟩ | ⟨a4, rfl, rfl, hne⟩
  · obtain ⟨its, css, h1, h2, h3', h4, h5, h6, h8, h9, h10⟩ := hok _ _ _ rfl
    exact .inl ⟨rfl, rfl, p', its ++ [v], css ++ [cs], rfl, h1, h2, by omega, by simp [h4], h5, h6, by rw [h8, List.flatten_append, List.flatten_singleton], h7.2.2 _ _ (RowB.kid h3 h9 hg5 hf hlo), h10⟩
  · exact .inr ⟨hne, a4, rfl, hbad _ _ rfl⟩
theorem decV_okp {xs : List Int} (d : Nat) (hx : Bts xs) {a p : Nat} (hp : p ≤ 65536) (ha : a ≤ xs.length) : ∀ v a' p', decV xs d a p = .ok v a' p' → a' ≤ xs.length ∧ p' ≤ 65536 := fun v a' p' h => ⟨(decV_ok hx d a p v a' p' ha h).hi, decV_parts d a p v a' p' hp h⟩
theorem rm_nil {xs : List Int} {w w1 : World} {g N c d : Nat} {A : Option Addr} {k : Int} {M : Nat} {R : DR} {a p : Nat} (hb : RowB w w1 g k none 0 0 none 0 0 [] []) (hk : Blk w1 g 102 (RnC A N c a (p : Int) 0 0)) (ha : a ≤ N) (hp : p ≤ 65536) (hR : decI (decV xs d) xs k M a p [] [] = R) : RM xs w w1 g A N c d k M R 0 :=
  ⟨none, 0, 0, none, 0, 0, [], [], a, p, 0, 0, hb, hk, .inl ⟨rfl, rfl, p, [], [], rfl, ha, hp, rfl, rfl, rfl, fun _ => rfl, rfl, Chs.nil _ _ _, hR⟩⟩
end Go.Proofs.YtacnoedhpamdmaaGreatDoor
