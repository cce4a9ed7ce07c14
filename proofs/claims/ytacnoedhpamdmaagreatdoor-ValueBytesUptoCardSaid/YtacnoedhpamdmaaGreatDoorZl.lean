/- Words of memory for the document's reading of items: the box, its rows, what stays. Conditions: none. -/
import Derived.Test.YtacnoedhpamdmaaGreatDoorZk
namespace Go.Proofs.YtacnoedhpamdmaaGreatDoor
open Go.RowKit
set_option linter.unusedVariables false

/-- What one value's reading gives, of the document. -/
def RPost (w : World) (g : Nat) (A : Option Addr) (N c : Nat) : DR → Ending → World → Prop
  | .ok v a p, E, w' => ∃ cs : List Value, E = .returned (.agg cs.toArray) ∧ Fresh w.heap.size w' v cs ∧ Blk w' g 102 (RnC A N c a (p : Int) 0 0) ∧ w.grownBy w' (some g)
  | .bad a4 e4, E, w' => (∃ (cs : List Value) (a' : Nat) (q : Int), E = .returned (.agg cs.toArray) ∧ cs.length = 6 ∧ cs.toArray.toList.all (·.oneCell') = true ∧ Blk w' g 102 (RnC A N c a' q (a4 : Int) e4)) ∧ w.grownBy w' (some g)
def RVC (xs : List Int) (A : Option Addr) (N c d : Nat) : Prop := ∀ (g a p : Nat) (W : World) (E : Int), E = 65 - (d : Int) → Blk W g 102 (RnC A N c a (p : Int) 0 0) → Reads W g 1 A N (u8s xs) → a ≤ N → p ≤ 65536 →
  Calls Tryz.prog 67 #[.pointer (some ⟨g, 0, none⟩), .int .i64 E] W (RPost W g A N c (decV xs d a p))
/-- The box of a value that is being read, its rows; the reader apart. -/
structure RowB (w wr : World) (g : Nat) (k : Int) (AI : Option Addr) (nI cI : Nat) (AN : Option Addr) (nN cN : Nat) (rows : List Value) (nms : List ByteArray) : Prop where
  bv : Blk wr w.heap.size 30 (vkC k AI nI cI AN nN cN)
  br : Blk wr (w.heap.size + 1) 30 vz
  oi : wr.ownsRow (w.heap.size + 2) 30 6 (.slice AI nI cI) nI rows
  on : wr.ownsRow (w.heap.size + 2) 9 1 (.slice AN nN cN) nN (strs nms)
  gr : w.grownBy wr (some g)
  lg : g < w.heap.size
  lz : w.heap.size + 2 ≤ wr.heap.size
theorem RowB.pen {w wr w5 : World} {g nI cI nN cN : Nat} {k : Int} {AI AN : Option Addr} {rows : List Value} {nms : List ByteArray} (h : RowB w wr g k AI nI cI AN nN cN rows nms) (hg : wr.grownBy w5 (some g)) : RowB w w5 g k AI nI cI AN nN cN rows nms := by
  have hlg := h.lg
  have hne : ∀ i, w.heap.size ≤ i → some i ≠ some g := fun i hi e => by injection e with e; omega
  exact ⟨h.bv.grown hg (hne _ (Nat.le_refl _)), h.br.grown hg (hne _ (by omega)), own_keep h.oi fun r hr => by have := own_at h.oi hr; exact hg.block r this.2.1 (hne r (by omega)), own_keep h.on fun r hr => by have := own_at h.on hr; exact hg.block r this.2.1 (hne r (by omega)),
    only_trans h.gr hg, hlg, Nat.le_trans h.lz hg.size⟩
theorem RowB.drew {w wr : World} {g nI cI nN cN : Nat} {k : Int} {AI AN : Option Addr} {rows : List Value} {nms : List ByteArray} (h : RowB w wr g k AI nI cI AN nN cN rows nms) : RowB w wr.drew g k AI nI cI AN nN cN rows nms := h.pen (only_drew (World.grownBy.refl wr _))
/-- The items' blocks of what is read stay. -/
def XOr (AI : Option Addr) (nI cI : Nat) (i : Nat) : Prop := (Value.slice AI nI cI).ownBlock = some i
/-- Another row for the items (behind an append, and a store of the header). -/
theorem RowB.item {w w5 w6 : World} {g nI cI nN cN c6 : Nat} {k : Int} {AI AN A6 : Option Addr} {rows cs : List Value} {nms : List ByteArray} {o : Obj} (h : RowB w w5 g k AI nI cI AN nN cN rows nms)
    (ho : w6.ownsRow (w.heap.size + 2) 30 6 (.slice A6 (nI + 1) c6) (nI + 1) (rows ++ cs)) (hg : (w5.alloc o).grownBy w6 (Value.slice AI nI cI).ownBlock) :
    RowB w (w6.setCell ⟨w.heap.size, 4, none⟩ (.slice A6 (nI + 1) c6)) g k A6 (nI + 1) c6 AN nN cN (rows ++ cs) nms := by
  have hlg := h.lg
  have hlz := h.lz
  have hob : ∀ r, (Value.slice AI nI cI).ownBlock = some r → w.heap.size + 2 ≤ r := fun r hr => (own_at h.oi hr).1
  have hst : ∀ i, i < w5.heap.size → some i ≠ (Value.slice AI nI cI).ownBlock → w6.heap[i]? = w5.heap[i]? := fun i hi hne => (hg.block i (by simp; omega) hne).trans (Below.heap_alloc w5 o i hi)
  have hset : ∀ i, i ≠ w.heap.size → (w6.setCell ⟨w.heap.size, 4, none⟩ (.slice A6 (nI + 1) c6)).heap[i]? = w6.heap[i]? := fun i hi => Below.heap_setCell w6 _ _ i hi
  have hsz : w5.heap.size ≤ w6.heap.size := Nat.le_trans (by simp) hg.size
  have hbv : Blk w6 w.heap.size 30 (vkC k AI nI cI AN nN cN) := (hst _ (by omega) (fun e => by have := hob _ e.symm; omega)).trans h.bv
  refine ⟨hbv.set_ 4 _, ((hset _ (by omega)).trans (hst _ (by omega) (fun e => by have := hob _ e.symm; omega))).trans h.br, own_keep ho fun r hr => hset r (by have := (own_at ho hr).1; omega), own_keep h.on fun r hr => ?_, ?_, hlg, by simp only [World.setCell, Array.size_modify]; omega⟩
  · have hat := own_at h.on hr
    exact (hset r (by omega)).trans (hst r hat.2.1 (fun e => own_apart h.on h.oi (by decide) hr e.symm rfl))
  · refine only_setCell ⟨hg.os.trans h.gr.os, hg.tape.trans h.gr.tape, hg.output.trans h.gr.output, Nat.le_trans h.gr.size hsz, fun i hi hne => ?_⟩ (.inr (Nat.le_refl _)) _
    exact (hst i (Nat.lt_of_lt_of_le hi h.gr.size) (fun e => by have := hob i e.symm; omega)).trans (h.gr.block i hi hne)
/-- Another row for the names. -/
theorem RowB.name {w w5 w6 : World} {g nI cI nN cN c6 : Nat} {k : Int} {AI AN A6 : Option Addr} {rows : List Value} {nms : List ByteArray} {s : ByteArray} {o : Obj} (h : RowB w w5 g k AI nI cI AN nN cN rows nms)
    (ho : w6.ownsRow (w.heap.size + 2) 9 1 (.slice A6 (nN + 1) c6) (nN + 1) (strs nms ++ [.string s])) (hg : (w5.alloc o).grownBy w6 (Value.slice AN nN cN).ownBlock) :
    RowB w (w6.setCell ⟨w.heap.size, 5, none⟩ (.slice A6 (nN + 1) c6)) g k AI nI cI A6 (nN + 1) c6 rows (nms ++ [s]) := by
  have hlg := h.lg
  have hlz := h.lz
  have hob : ∀ r, (Value.slice AN nN cN).ownBlock = some r → w.heap.size + 2 ≤ r := fun r hr => (own_at h.on hr).1
  have hst : ∀ i, i < w5.heap.size → some i ≠ (Value.slice AN nN cN).ownBlock → w6.heap[i]? = w5.heap[i]? := fun i hi hne => (hg.block i (by simp; omega) hne).trans (Below.heap_alloc w5 o i hi)
  have hset : ∀ i, i ≠ w.heap.size → (w6.setCell ⟨w.heap.size, 5, none⟩ (.slice A6 (nN + 1) c6)).heap[i]? = w6.heap[i]? := fun i hi => Below.heap_setCell w6 _ _ i hi
  have hsz : w5.heap.size ≤ w6.heap.size := Nat.le_trans (by simp) hg.size
  have hbv : Blk w6 w.heap.size 30 (vkC k AI nI cI AN nN cN) := (hst _ (by omega) (fun e => by have := hob _ e.symm; omega)).trans h.bv
  refine ⟨hbv.set_ 5 _, ((hset _ (by omega)).trans (hst _ (by omega) (fun e => by have := hob _ e.symm; omega))).trans h.br, own_keep h.oi fun r hr => ?_, own_keep (by rw [show strs (nms ++ [s]) = strs nms ++ [.string s] from List.map_append]; exact ho) fun r hr => hset r (by have := (own_at ho hr).1; omega), ?_, hlg, by simp only [World.setCell, Array.size_modify]; omega⟩
  · have hat := own_at h.oi hr
    exact (hset r (by omega)).trans (hst r hat.2.1 (fun e => own_apart h.oi h.on (by decide) hr e.symm rfl))
  · refine only_setCell ⟨hg.os.trans h.gr.os, hg.tape.trans h.gr.tape, hg.output.trans h.gr.output, Nat.le_trans h.gr.size hsz, fun i hi hne => ?_⟩ (.inr (Nat.le_refl _)) _
    exact (hst i (Nat.lt_of_lt_of_le hi h.gr.size) (fun e => by have := hob i e.symm; omega)).trans (h.gr.block i hi hne)
/-- The items so far, where a row or a header is told anew. -/
theorem Chs.anew {lo : Nat} {w5 w6 : World} {X X' : Nat → Prop} {its : List Val} {css : List (List Value)} {o : Obj} {r : Option Nat} {p : Addr} {u : Value} (h : Chs lo w5 X its css) (hg : (w5.alloc o).grownBy w6 r) (hp : p.block < lo) (hX : ∀ i, r = some i → X i) (hX' : ∀ i, i < w5.heap.size → ¬ X i → ¬ X' i) :
    Chs lo (w6.setCell p u) X' its css :=
  h.on (by simp only [World.setCell, Array.size_modify]; exact Nat.le_trans (by simp) hg.size) fun i hi hj hx => ⟨((Below.heap_setCell w6 p u i (by omega)).trans (hg.block i (by simp; omega) (fun e => hx (hX i e.symm)))).trans (Below.heap_alloc w5 o i hj), hX' i hj hx⟩
end Go.Proofs.YtacnoedhpamdmaaGreatDoor
