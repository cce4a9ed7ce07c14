/- Walk: (*value.text).list at the text of a list of ints with blanks between. Conditions: as stated. -/
import Derived.Test.YtacnoedhpamdmaaGreatDoorKm
namespace Go.Proofs.YtacnoedhpamdmaaGreatDoor
open Go.RowKit Go.Shelf
set_option linter.unusedVariables false
set_option linter.unusedSimpArgs false
attribute [local go_sem ↓] Go.wp_at_zero Go.wp_at_succ

/-- The items' cells. -/
def cellsV (l : List Int) : List Value := (l.map v2c).flatten
theorem cellsV_snoc (l : List Int) (z : Int) : cellsV (l ++ [z]) = cellsV l ++ v2c z := by unfold cellsV; simp
/-- What the reader of a list has laid so far. -/
structure LsS (S : ByteArray) (w wr : World) (g p n : Nat) (A : Option Addr) (c : Nat) (l : List Int) : Prop where
  kr : Blk wr g 79 (TxC S p)
  xr : Blk wr (w.heap.size + 1) 30 (vlC A n c)
  rr : Blk wr w.heap.size 30 vz
  ow : wr.ownsRow (w.heap.size + 2) 30 6 (.slice A n c) n (cellsV (l.take n))
  gr : w.grownBy wr (some g)
  gl : g < w.heap.size
  hz : w.heap.size + 2 ≤ wr.heap.size
theorem LsS.drew {S : ByteArray} {w wr : World} {g p n c : Nat} {A : Option Addr} {l : List Int} (h : LsS S w wr g p n A c l) : LsS S w wr.drew g p n A c l := ⟨h.kr.drew, h.xr.drew, h.rr.drew, h.ow, only_drew h.gr, h.gl, h.hz⟩
theorem LsS.text {S : ByteArray} {w wr w5 : World} {g p p' n c : Nat} {A : Option Addr} {l : List Int} (h : LsS S w wr g p n A c l) (hk : Blk w5 g 79 (TxC S p')) (hg : wr.grownBy w5 (some g)) : LsS S w w5 g p' n A c l := by
  have hgl := h.gl
  have hz := h.hz
  exact ⟨hk, h.xr.grown hg (by intro e; have := Option.some.inj e; omega), h.rr.grown hg (by intro e; have := Option.some.inj e; omega), own_keep6 h.ow fun r hr => hg.block r (own_at6 h.ow hr).2 (by intro e; have := (own_at6 h.ow hr).1; have := Option.some.inj e; omega), only_trans h.gr hg, hgl, Nat.le_trans hz hg.size⟩
theorem LsS.more {S : ByteArray} {w w5 w6 : World} {g p n c c6 : Nat} {A A6 : Option Addr} {l : List Int} {z : Int} {o : Obj} (h : LsS S w w5 g p n A c l) (hn : n < l.length) (hz : l[n] = z) (ho : w6.ownsRow (w.heap.size + 2) 30 6 (.slice A6 (n + 1) c6) (n + 1) (cellsV (l.take n) ++ v2c z))
    (hg : (w5.alloc o).grownBy w6 (Value.slice A n c).ownBlock) : LsS S w (w6.setCell ⟨w.heap.size + 1, 4, none⟩ (.slice A6 (n + 1) c6)) g p (n + 1) A6 c6 l := by
  have hgl := h.gl
  have hzz := h.hz
  have hob : ∀ r, (Value.slice A n c).ownBlock = some r → w.heap.size + 2 ≤ r := fun r hr => (own_at6 h.ow hr).1
  have hkr : Blk w6 g 79 (TxC S p) := (h.kr.alloc o).grown hg (fun e => by have := hob g e.symm; omega)
  have hxr : Blk w6 (w.heap.size + 1) 30 (vlC A n c) := (h.xr.alloc o).grown hg (fun e => by have := hob _ e.symm; omega)
  have hrr : Blk w6 w.heap.size 30 vz := (h.rr.alloc o).grown hg (fun e => by have := hob _ e.symm; omega)
  have hsz : w5.heap.size ≤ w6.heap.size := Nat.le_trans (by simp) hg.size
  refine ⟨hkr.far (by simp only; omega) _, hxr.set_ 4 _, hrr.far (by simp only; omega) _, ?_, ?_, hgl, by simp only [World.setCell, Array.size_modify]; omega⟩
  · have e : cellsV (l.take (n + 1)) = cellsV (l.take n) ++ v2c z := by
      rw [List.take_succ_eq_append_getElem hn, hz, cellsV_snoc]
    rw [e]
    exact own_keep6 ho fun r hr => Below.heap_setCell w6 _ _ r (by have := (own_at6 ho hr).1; simp only; omega)
  · refine only_setCell ⟨hg.os.trans h.gr.os, hg.tape.trans h.gr.tape, hg.output.trans h.gr.output, Nat.le_trans h.gr.size hsz, fun i hi hne => ?_⟩ (.inr (by simp only; omega)) _
    have hi5 : i < w5.heap.size := Nat.lt_of_lt_of_le hi h.gr.size
    exact ((hg.block i (by simp; omega) (fun e => by have := hob i e.symm; omega)).trans (Below.heap_alloc w5 o i hi5)).trans (h.gr.block i hi hne)
theorem cellsV_get {l : List Int} {j q : Nat} (hj : j < l.length) (hq : q < 6) : (cellsV l)[j * 6 + q]? = (v2c l[j])[q]? := by
  unfold cellsV
  rw [flt_get _ j q (by simpa using hj) (fun c hc => by obtain ⟨z, _, rfl⟩ := List.mem_map.1 hc; rfl) hq]
  simp
/-- All items read: the list as a value. -/
theorem LsS.done {S : ByteArray} {w wr : World} {g p c : Nat} {A : Option Addr} {l : List Int} (h : LsS S w wr g p l.length A c l) : Tr wr (fun x => w.heap.size + 2 ≤ x ∧ x < wr.heap.size) (lstV l) (vlC A l.length c).toList := by
  have e : (vlC A l.length c).toList = vcs (lstV l) A none c 0 := by
    unfold vlC vcs lstV
    simp [Val.k, Val.i, Val.f, Val.t, Val.its, Val.nms]
  rw [e]
  refine TrI.tr (F := fun _ _ => False) (cc := fun j => v2c (l.getD j 0)) ⟨fun h0 => absurd h0 (by simp [lstV, Val.nms]), fun h0 => ?_, fun j _ i hi => hi.elim, fun j j' _ _ i hi => hi.elim, fun j hj => ?_⟩ c 0
  · have hl : (lstV l).its.length = l.length := by simp [lstV, Val.its]
    rw [hl] at h0 ⊢
    obtain ⟨b, cur, hA, h1, h2, h3, h4, h5⟩ := own_blk h.ow h0
    refine ⟨b, cur, hA, ⟨h1, h2⟩, fun j _ hx => hx, h3, h4, fun j q u hj hu => h5 _ u ?_⟩
    have hq : q < 6 := (List.getElem?_eq_some_iff.1 hu).1
    rw [List.take_length, cellsV_get hj hq]
    simpa [List.getD, List.getElem?_eq_getElem hj] using hu
  · have hl : (lstV l).its.length = l.length := by simp [lstV, Val.its]
    have hj' : j < l.length := by rw [hl] at hj; exact hj
    have e2 : (lstV l).its[j] = intV (l.getD j 0) := by
      simp [lstV, Val.its, List.getD, List.getElem?_eq_getElem hj']
    rw [e2]
    exact Tr.leaf _ _
/-- What stands behind item k - 1. -/
def tailN (G : Nat → List UInt8) (l : List Int) (r : List UInt8) (k : Nat) : List UInt8 := itx G k (l.drop k) ++ (G 3 ++ (93 :: r))
theorem tailN_end {G : Nat → List UInt8} {l : List Int} {r : List UInt8} : tailN G l r l.length = G 3 ++ (93 :: r) := by unfold tailN; simp [itx]
theorem tailN_next {G : Nat → List UInt8} {l : List Int} {r : List UInt8} {k : Nat} (hk : k < l.length) (h0 : k ≠ 0) : tailN G l r k = G (2 * k) ++ (44 :: (G (2 * k + 1) ++ (Go.Lib.itoa l[k] ++ tailN G l r (k + 1)))) := by
  unfold tailN
  rw [List.drop_eq_getElem_cons hk, itx, if_neg h0]
  simp
theorem tailN_first {G : Nat → List UInt8} {l : List Int} {r : List UInt8} (hk : 0 < l.length) : tailN G l r 0 = G 1 ++ (Go.Lib.itoa l[0] ++ tailN G l r 1) := by
  unfold tailN
  rw [List.drop_eq_getElem_cons hk, itx, if_pos rfl]
  simp
theorem noBl_of {x : UInt8} {r : List UInt8} (h : isBl x = false) : noBl (x :: r) := fun y t e => by injection e with e _; exact e ▸ h
theorem noDg_of {x : UInt8} {r : List UInt8} (h : x.toNat < 48 ∨ 57 < x.toNat) : noDg (x :: r) := fun y t e => by injection e with e _; exact e ▸ h
/-- The next item, what follows it. -/
theorem tailN_cut {G : Nat → List UInt8} (hG : ∀ k, allBl (G k)) {l : List Int} {r : List UInt8} {k : Nat} (hk : 0 < k) (hl : k ≤ l.length) : ∃ hh x r2, tailN G l r k = hh ++ (x :: r2) ∧ allBl hh ∧ (k = l.length ∧ hh = G 3 ∧ x = 93 ∧ r2 = r ∨ ∃ h : k < l.length, x = 44 ∧ r2 = G (2 * k + 1) ++ (Go.Lib.itoa l[k] ++ tailN G l r (k + 1))) := by
  rcases Nat.lt_or_ge k l.length with h1 | h1
  · exact ⟨_, _, _, tailN_next h1 (by omega), hG _, .inr ⟨h1, rfl, rfl⟩⟩
  · obtain rfl : k = l.length := by omega
    exact ⟨_, _, _, tailN_end, hG _, .inl ⟨rfl, rfl, rfl, rfl⟩⟩
end Go.Proofs.YtacnoedhpamdmaaGreatDoor
