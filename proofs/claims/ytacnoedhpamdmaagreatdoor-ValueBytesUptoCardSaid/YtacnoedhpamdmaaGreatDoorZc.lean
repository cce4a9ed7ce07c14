/- Words of memory for reading a value out of bytes: what is fresh, rows that grow, what stays. Conditions: none. -/
import Derived.Test.YtacnoedhpamdmaaGreatDoorZb
namespace Go.Proofs.YtacnoedhpamdmaaGreatDoor
open Go.RowKit
set_option linter.unusedVariables false

/-- A value that lies in blocks from lo on: it reads in each world that has these blocks. -/
def Fresh (lo : Nat) (w : World) (v : Val) (cs : List Value) : Prop := ∀ W : World, w.heap.size ≤ W.heap.size → (∀ i, lo ≤ i → i < w.heap.size → W.heap[i]? = w.heap[i]?) → RdV W W.heap.size v cs
theorem Fresh.rd {lo : Nat} {w : World} {v : Val} {cs : List Value} (h : Fresh lo w v cs) : RdV w w.heap.size v cs := h w (Nat.le_refl _) fun _ _ _ => rfl
theorem Fresh.lo_ {lo lo' : Nat} {w : World} {v : Val} {cs : List Value} (h : Fresh lo w v cs) (hl : lo' ≤ lo) : Fresh lo' w v cs := fun W h1 h2 => h W h1 fun i hi => h2 i (by omega)
theorem Fresh.on {lo : Nat} {w w' : World} {v : Val} {cs : List Value} (h : Fresh lo w v cs) (hs : w.heap.size ≤ w'.heap.size) (hk : ∀ i, lo ≤ i → i < w.heap.size → w'.heap[i]? = w.heap[i]?) : Fresh lo w' v cs :=
  fun W h1 h2 => h W (Nat.le_trans hs h1) fun i hi hj => (h2 i hi (by omega)).trans (hk i hi hj)
theorem Fresh.leaf (lo : Nat) (w : World) {k i : Int} {f : Nat} {t : ByteArray} : Fresh lo w (.mk k i f t [] []) [.int .i64 k, .int .i64 i, .float .f64 f, .string t, .slice none 0 0, .slice none 0 0] :=
  fun W _ _ => RdV_iff.2 ⟨none, none, 0, 0, rfl, Reads.none_, fun i h => absurd h (by show ¬ i < 0; omega)⟩
/-- As it was, but for two blocks, and what is new. -/
structure Kept2 (w w' : World) (a b : Nat) : Prop where
  os : w'.os = w.os
  tape : w'.tape = w.tape
  output : w'.output = w.output
  size : w.heap.size ≤ w'.heap.size
  block : ∀ i, i < w.heap.size → i ≠ a → i ≠ b → w'.heap[i]? = w.heap[i]?
theorem Kept2.refl (w : World) (a b : Nat) : Kept2 w w a b := ⟨rfl, rfl, rfl, Nat.le_refl _, fun _ _ _ _ => rfl⟩
theorem Kept2.trans {a b c : World} {x y : Nat} (h : Kept2 a b x y) (k : Kept2 b c x y) : Kept2 a c x y :=
  ⟨k.os.trans h.os, k.tape.trans h.tape, k.output.trans h.output, Nat.le_trans h.size k.size, fun i hi h1 h2 => (k.block i (Nat.lt_of_lt_of_le hi h.size) h1 h2).trans (h.block i hi h1 h2)⟩
theorem Kept2.fst {a b : World} {x : Nat} (h : a.grownBy b (some x)) (y : Nat) : Kept2 a b x y := ⟨h.os, h.tape, h.output, h.size, fun i hi h1 _ => h.block i hi (fun e => h1 (by injection e))⟩
theorem Kept2.snd {a b : World} {y : Nat} (h : a.grownBy b (some y)) (x : Nat) : Kept2 a b x y := ⟨h.os, h.tape, h.output, h.size, fun i hi _ h2 => h.block i hi (fun e => h2 (by injection e))⟩
theorem Kept2.row {a b : World} {x y lo : Nat} {r : Option Nat} (h : a.grownBy b r) {c : World} (k : Kept2 c a x y) (hr : ∀ g, r = some g → c.heap.size ≤ g) : Kept2 c b x y :=
  ⟨h.os.trans k.os, h.tape.trans k.tape, h.output.trans k.output, Nat.le_trans k.size h.size, fun i hi h1 h2 => (h.block i (Nat.lt_of_lt_of_le hi k.size) (fun e => by have := hr i e.symm; omega)).trans (k.block i hi h1 h2)⟩
theorem Kept2.drewN {a b : World} {x y : Nat} (h : Kept2 a b x y) (k : Nat) : Kept2 a (b.drewN k) x y := ⟨h.os, h.tape, h.output, h.size, h.block⟩
theorem Kept2.reads {a b : World} {x y n : Nat} {A : Option Addr} {xs : List Value} (h : Kept2 a b x y) (hr : Reads a x 1 A n xs) (hxy : x < y) (hs : x < a.heap.size) : Reads b x 1 A n xs :=
  hr.keep fun p hp => World.cell?_of_block (h.block p.block (by omega) (by omega) (by omega))
theorem Kept2.one {a b : World} {x y lo : Nat} (h : Kept2 a b x y) {c : World} (k : c.grownBy a (some x)) (hy : c.heap.size ≤ y) : c.grownBy b (some x) :=
  ⟨h.os.trans k.os, h.tape.trans k.tape, h.output.trans k.output, Nat.le_trans k.size h.size, fun i hi hne => (h.block i (Nat.lt_of_lt_of_le hi k.size) (fun e => hne (by rw [e])) (by omega)).trans (k.block i hi hne)⟩
/-- A row of one's own stays, where its block stays. -/
theorem own_keep {w w' : World} {base n size : Nat} {e : TypeId} {v : Value} {xs : List Value} (h : w.ownsRow base e size v n xs) (hk : ∀ r, v.ownBlock = some r → w'.heap[r]? = w.heap[r]?) : w'.ownsRow base e size v n xs := by
  refine ⟨h.1, ?_⟩
  rcases h.2 with h2 | ⟨g, cap, cur, rfl, hb, hg, h3⟩
  · exact .inl h2
  · exact .inr ⟨g, cap, cur, rfl, hb, (hk g rfl).trans hg, h3⟩
theorem own_at {w : World} {base n size : Nat} {e : TypeId} {v : Value} {xs : List Value} (h : w.ownsRow base e size v n xs) {r : Nat} (hr : v.ownBlock = some r) : base ≤ r ∧ r < w.heap.size ∧ ∃ cs, w.heap[r]? = some (.cells cs e (0, 0)) := by
  rcases h.2 with ⟨rfl, _⟩ | ⟨g, cap, cur, rfl, hb, hg, _⟩
  · cases hr
  · have : g = r := by simpa [Value.ownBlock] using hr
    subst this
    refine ⟨hb, ?_, cur, hg⟩
    rcases Nat.lt_or_ge g w.heap.size with h1 | h1
    · exact h1
    · rw [Array.getElem?_eq_none h1] at hg; cases hg
theorem own_apart {w : World} {base base' n n' size size' : Nat} {e e' : TypeId} {v v' : Value} {xs xs' : List Value} (h : w.ownsRow base e size v n xs) (h' : w.ownsRow base' e' size' v' n' xs') (hne : e ≠ e') {r r' : Nat} (hr : v.ownBlock = some r) (hr' : v'.ownBlock = some r') : r ≠ r' := by
  rintro rfl
  obtain ⟨_, _, cs, h1⟩ := own_at h hr
  obtain ⟨_, _, cs', h2⟩ := own_at h' hr'
  rw [h1] at h2
  injection h2 with h2
  injection h2 with _ ht
  exact hne ht
/-- The items read so far, whatever becomes of blocks that X names. -/
structure Chs (lo : Nat) (w : World) (X : Nat → Prop) (its : List Val) (css : List (List Value)) : Prop where
  len : css.length = its.length
  six : ∀ c ∈ css, c.length = 6
  rd : ∀ W : World, w.heap.size ≤ W.heap.size → (∀ i, lo ≤ i → i < w.heap.size → ¬ X i → W.heap[i]? = w.heap[i]?) → ∀ j (h : j < its.length) (h' : j < css.length), RdV W W.heap.size its[j] css[j]
theorem Chs.nil (lo : Nat) (w : World) (X : Nat → Prop) : Chs lo w X [] [] := ⟨rfl, fun c hc => absurd hc (by simp), fun W _ _ j h => absurd h (by simp)⟩
theorem Chs.on {lo : Nat} {w w' : World} {X X' : Nat → Prop} {its : List Val} {css : List (List Value)} (h : Chs lo w X its css) (hs : w.heap.size ≤ w'.heap.size) (hk : ∀ i, lo ≤ i → i < w.heap.size → ¬ X i → w'.heap[i]? = w.heap[i]? ∧ ¬ X' i) : Chs lo w' X' its css :=
  ⟨h.len, h.six, fun W h1 h2 => h.rd W (Nat.le_trans hs h1) fun i hi hj hx => (h2 i hi (by omega) (hk i hi hj hx).2).trans (hk i hi hj hx).1⟩
theorem Chs.snoc {lo lo' : Nat} {w : World} {X : Nat → Prop} {its : List Val} {css : List (List Value)} {v : Val} {cs : List Value} (h : Chs lo w X its css) (hf : Fresh lo' w v cs) (hl : lo ≤ lo') (hx : ∀ i, lo' ≤ i → ¬ X i) (h6 : cs.length = 6) : Chs lo w X (its ++ [v]) (css ++ [cs]) :=
  ⟨by simp [h.len], fun c hc => by
    rcases List.mem_append.1 hc with hc | hc
    · exact h.six c hc
    · rw [List.mem_singleton.1 hc]; exact h6, fun W h1 h2 j hj hj' => by
    have hlen := h.len
    by_cases hj2 : j < its.length
    · have := h.rd W h1 h2 j hj2 (by omega)
      rw [List.getElem_append_left hj2, List.getElem_append_left (by omega)]
      exact this
    · have hje : j = its.length := by simp at hj; omega
      subst hje
      rw [List.getElem_append_right (Nat.le_refl _), List.getElem_append_right (by omega)]
      simp only [Nat.sub_self, List.getElem_cons_zero, show its.length - css.length = 0 by omega]
      exact hf W h1 fun i hi hj => h2 i (by omega) hj (hx i hi)⟩
theorem flat_six : ∀ (css : List (List Value)), (∀ c ∈ css, c.length = 6) → css.flatten.length = css.length * 6
  | [], _ => rfl
  | c :: l, h => by
    rw [List.flatten_cons, List.length_append, flat_six l (fun x hx => h x (List.mem_cons_of_mem _ hx)), h c List.mem_cons_self, List.length_cons]; omega
theorem flat_get : ∀ (css : List (List Value)) (j q : Nat) (hj : j < css.length), (∀ c ∈ css, c.length = 6) → q < 6 → css.flatten[j * 6 + q]? = (css[j])[q]?
  | [], j, q, hj, _, _ => by simp at hj
  | c :: l, 0, q, _, h, hq => by
    rw [List.flatten_cons, List.getElem?_append_left (by rw [h c List.mem_cons_self]; omega), Nat.zero_mul, Nat.zero_add]; rfl
  | c :: l, j + 1, q, hj, h, hq => by
    have h6 := h c List.mem_cons_self
    rw [List.flatten_cons, List.getElem?_append_right (by omega), h6, show (j + 1) * 6 + q - 6 = j * 6 + q by omega, flat_get l j q (by simpa using hj) (fun x hx => h x (List.mem_cons_of_mem _ hx)) hq]
    rfl
/-- All rows together: a value. -/
theorem fresh_of {lo base : Nat} {w : World} {k i : Int} {f : Nat} {t : ByteArray} {its : List Val} {nms : List ByteArray} {css : List (List Value)} {AI AN : Option Addr} {cI cN : Nat} (X : Nat → Prop)
    (hI : w.ownsRow base 30 6 (.slice AI its.length cI) its.length css.flatten) (hN : w.ownsRow base 9 1 (.slice AN nms.length cN) nms.length (strs nms)) (hc : Chs lo w X its css) (hlo : lo ≤ base) :
    Fresh lo w (.mk k i f t its nms) [.int .i64 k, .int .i64 i, .float .f64 f, .string t, .slice AI its.length cI, .slice AN nms.length cN] := by
  intro W h1 h2
  have hkI := own_keep (w' := W) hI fun r hr => by have := own_at hI hr; exact h2 r (by omega) this.2.1
  have hkN := own_keep (w' := W) hN fun r hr => by have := own_at hN hr; exact h2 r (by omega) this.2.1
  refine RdV_iff.2 ⟨AI, AN, cI, cN, rfl, Reads.of_own hkN, fun j hj => ?_⟩
  have hj : j < its.length := hj
  have hjc : j < css.length := by rw [hc.len]; exact hj
  have hrd := Reads.of_own hkI
  obtain ⟨ad, e, hb, hcell⟩ := hrd.2 (by omega)
  refine ⟨ad, css[j], e, hb, fun q u hq => ?_, hc.rd W h1 (fun i a b _ => h2 i a b) j hj hjc⟩
  have hq6 : q < 6 := by
    obtain ⟨hql, _⟩ := List.getElem?_eq_some_iff.1 hq
    have h6 := hc.six css[j] (List.getElem_mem hjc)
    rw [h6] at hql
    exact hql
  exact hcell _ u (by rw [flat_get css j q hjc hc.six hq6]; exact hq)
end Go.Proofs.YtacnoedhpamdmaaGreatDoor
