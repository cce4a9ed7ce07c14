/- Walk: the items of a list or a map read out of bytes ((*value.pen).items). Conditions: the reader in its block, the bytes as they read; what one value gives is given. -/
import Derived.Test.YtacnoedhpamdmaaGreatDoorZc
import Derived.Deep.RegionHeld3
namespace Go.Proofs.YtacnoedhpamdmaaGreatDoor
open Go.RowKit
set_option linter.unusedVariables false
attribute [local go_sem ↓] Go.wp_at_zero Go.wp_at_succ

/-- What reading one value gives. -/
def DPost (w : World) (g : Nat) (A : Option Addr) (N c : Nat) : DR → Ending → World → Prop
  | .bad a e, E, w' => E = .panicked [fltV a e] ∧ w.grownBy w' (some g)
  | .ok v a p, E, w' => ∃ cs, E = .returned (.agg cs.toArray) ∧ Fresh w.heap.size w' v cs ∧ Blk w' g 97 (PnC A N c a p) ∧ w.grownBy w' (some g)
def VC (xs : List Int) (A : Option Addr) (N c d : Nat) : Prop := ∀ (g a p : Nat) (W : World) (E : Int), E = 65 - (d : Int) → Blk W g 97 (PnC A N c a p) → Reads W g 1 A N (u8s xs) → a ≤ N → p ≤ 65536 →
  Calls Tryz.prog 65 #[.pointer (some ⟨g, 0, none⟩), .int .i64 E] W (DPost W g A N c (decV xs d a p))
/-- The cells of a value that is being read. -/
abbrev vkC (k : Int) (AI : Option Addr) (n cI : Nat) (AN : Option Addr) (m cN : Nat) : Array Value := #[.int .i64 k, .int .i64 0, .float .f64 0, .string ⟨#[]⟩, .slice AI n cI, .slice AN m cN]
def IPost (w : World) (g gv : Nat) (A : Option Addr) (N c : Nat) : DR → Ending → World → Prop
  | .bad a e, E, w' => E = .panicked [fltV a e] ∧ Kept2 w w' g gv
  | .ok v a p, E, w' => E = .returned (.tuple #[]) ∧ ∃ cs, Blk w' gv 30 cs.toArray ∧ Fresh w.heap.size w' v cs ∧ Blk w' g 97 (PnC A N c a p) ∧ Kept2 w w' g gv
def XOf (AI : Option Addr) (nI cI : Nat) (AN : Option Addr) (nN cN : Nat) (i : Nat) : Prop := (Value.slice AI nI cI).ownBlock = some i ∨ (Value.slice AN nN cN).ownBlock = some i
theorem v_info88 : (Tryz.prog.info? 30).map (fun i => (i.zero, i.size, i.bytes)) = some (some (.agg vz), 6, 88) := by kernel_rfl
theorem s_info16 : (Tryz.prog.info? 9).map (fun i => (i.zero, i.size, i.bytes)) = some (some (.string ⟨#[]⟩), 1, 16) := by kernel_rfl
theorem own_slice6 {w : World} {base size n : Nat} {e : TypeId} {v : Value} {xs : List Value} (h : w.ownsRow base e size v n xs) : ∃ A c, v = .slice A n c := by
  rcases h.2 with ⟨rfl, rfl⟩ | ⟨g, cap, cur, rfl, _⟩
  · exact ⟨_, _, rfl⟩
  · exact ⟨_, _, rfl⟩
theorem decI_6 {f : Nat → Nat → DR} {xs : List Int} {n a p : Nat} {its : List Val} {nms : List ByteArray} : decI f xs 6 (n + 1) a p its nms = match f a p with | .bad a e => .bad a e | .ok v a' p' => decI f xs 6 n a' p' (its ++ [v]) nms := by
  rw [decI]
  simp only [show ¬ (6 : Int) = 7 by decide, if_false]
  cases f a p <;> rfl
theorem decI_7 {f : Nat → Nat → DR} {xs : List Int} {n a p : Nat} {its : List Val} {nms : List ByteArray} : decI f xs 7 (n + 1) a p its nms = match nameD xs a nms with | .bad a e => .bad a e | .ok s a => match f a p with | .bad a e => .bad a e | .ok v a' p' => decI f xs 7 n a' p' (its ++ [v]) (nms ++ [s]) := by
  rw [decI]
  simp only [if_true]
  cases nameD xs a nms with
  | bad b e => rfl
  | ok s b => cases f b p <;> rfl
theorem six_of {w : World} {B : Nat} {v : Val} {cs : List Value} (h : RdV w B v cs) : cs.length = 6 ∧ cs.toArray.toList.all (·.oneCell') = true := by
  obtain ⟨_, _, _, _, e, _⟩ := h.open_
  subst e
  exact ⟨rfl, rfl⟩
/-- The state of a list that is being read: the reader, the value's cells, both rows, the items so far. -/
structure Row (w wr : World) (g gv : Nat) (k : Int) (A : Option Addr) (N c a p : Nat) (nms : List ByteArray) (rows : List Value) (AI : Option Addr) (nI cI : Nat) (AN : Option Addr) (nN cN : Nat) (kids : List Val) (kcss : List (List Value)) : Prop where
  bk : Blk wr g 97 (PnC A N c a p)
  bv : Blk wr gv 30 (vkC k AI nI cI AN nN cN)
  oi : wr.ownsRow w.heap.size 30 6 (.slice AI nI cI) nI rows
  on : wr.ownsRow w.heap.size 9 1 (.slice AN nN cN) nN (strs nms)
  ch : Chs w.heap.size wr (XOf AI nI cI AN nN cN) kids kcss
  kp : Kept2 w wr g gv
  lg : g < w.heap.size
  lv : gv < w.heap.size
  gg : g < gv
theorem xof_lt {wr : World} {b nI cI nN cN i : Nat} {AI AN : Option Addr} {rows : List Value} {nms : List ByteArray} (h1 : wr.ownsRow b 30 6 (.slice AI nI cI) nI rows) (h2 : wr.ownsRow b 9 1 (.slice AN nN cN) nN (strs nms)) (h : XOf AI nI cI AN nN cN i) : b ≤ i ∧ i < wr.heap.size := by
  rcases h with h | h
  · have := own_at h1 h; exact ⟨this.1, this.2.1⟩
  · have := own_at h2 h; exact ⟨this.1, this.2.1⟩
theorem Row.kid {w wr w5 : World} {g gv N c a p a' p' nI cI nN cN lo5 : Nat} {k : Int} {A AI AN : Option Addr} {nms : List ByteArray} {rows : List Value} {kids : List Val} {kcss : List (List Value)} {v : Val} {cs : List Value}
    (h : Row w wr g gv k A N c a p nms rows AI nI cI AN nN cN kids kcss) (hg : wr.grownBy w5 (some g)) (hb : Blk w5 g 97 (PnC A N c a' p')) (hf : Fresh lo5 w5 v cs) (hlo : wr.heap.size ≤ lo5) :
    Row w w5 g gv k A N c a' p' nms rows AI nI cI AN nN cN (kids ++ [v]) (kcss ++ [cs]) := by
  have hgn : ∀ i, w.heap.size ≤ i → some i ≠ some g := fun i hi e => by injection e with e; have := h.lg; omega
  refine ⟨hb, h.bv.grown hg (fun e => by injection e with e; have := h.gg; omega), own_keep h.oi fun r hr => ?_, own_keep h.on fun r hr => ?_, ?_, h.kp.trans (Kept2.fst hg gv), h.lg, h.lv, h.gg⟩
  · have := own_at h.oi hr; exact hg.block r this.2.1 (hgn r this.1)
  · have := own_at h.on hr; exact hg.block r this.2.1 (hgn r this.1)
  · refine Chs.snoc (lo' := wr.heap.size) (h.ch.on hg.size fun i hi hj hx => ⟨hg.block i hj (hgn i hi), hx⟩) (hf.lo_ hlo) h.kp.size (fun i hi hx => ?_) (six_of hf.rd).1
    have := (xof_lt h.oi h.on hx).2
    omega
theorem Row.alloc {w wr : World} {g gv N c a p nI cI nN cN : Nat} {k : Int} {A AI AN : Option Addr} {nms : List ByteArray} {rows : List Value} {kids : List Val} {kcss : List (List Value)}
    (h : Row w wr g gv k A N c a p nms rows AI nI cI AN nN cN kids kcss) (o : Obj) : Row w (wr.alloc o) g gv k A N c a p nms rows AI nI cI AN nN cN kids kcss := by
  have hb : ∀ i, i < wr.heap.size → (wr.alloc o).heap[i]? = wr.heap[i]? := fun i hi => Below.heap_alloc wr o i hi
  refine ⟨h.bk.alloc o, h.bv.alloc o, own_keep h.oi fun r hr => hb r (own_at h.oi hr).2.1, own_keep h.on fun r hr => hb r (own_at h.on hr).2.1, h.ch.on (by simp) fun i _ hj hx => ⟨hb i hj, hx⟩, h.kp.trans ⟨rfl, rfl, rfl, by simp, fun i hi _ _ => hb i hi⟩, h.lg, h.lv, h.gg⟩
theorem Row.drewN {w wr : World} {g gv N c a p nI cI nN cN : Nat} {k : Int} {A AI AN : Option Addr} {nms : List ByteArray} {rows : List Value} {kids : List Val} {kcss : List (List Value)}
    (h : Row w wr g gv k A N c a p nms rows AI nI cI AN nN cN kids kcss) (q : Nat) : Row w (wr.drewN q) g gv k A N c a p nms rows AI nI cI AN nN cN kids kcss :=
  ⟨h.bk.drewN q, h.bv.drewN q, own_keep h.oi fun _ _ => rfl, own_keep h.on fun _ _ => rfl, h.ch.on (Nat.le_refl _) fun i _ _ hx => ⟨rfl, hx⟩, h.kp.drewN q, h.lg, h.lv, h.gg⟩
theorem Row.pen {w wr w5 : World} {g gv N c a p a' p' nI cI nN cN : Nat} {k : Int} {A AI AN : Option Addr} {nms : List ByteArray} {rows : List Value} {kids : List Val} {kcss : List (List Value)}
    (h : Row w wr g gv k A N c a p nms rows AI nI cI AN nN cN kids kcss) (hg : wr.grownBy w5 (some g)) (hb : Blk w5 g 97 (PnC A N c a' p')) : Row w w5 g gv k A N c a' p' nms rows AI nI cI AN nN cN kids kcss := by
  have hgn : ∀ i, w.heap.size ≤ i → some i ≠ some g := fun i hi e => by injection e with e; have := h.lg; omega
  refine ⟨hb, h.bv.grown hg (fun e => by injection e with e; have := h.gg; omega), own_keep h.oi fun r hr => ?_, own_keep h.on fun r hr => ?_, h.ch.on hg.size fun i hi hj hx => ⟨hg.block i hj (hgn i hi), hx⟩, h.kp.trans (Kept2.fst hg gv), h.lg, h.lv, h.gg⟩
  · have := own_at h.oi hr; exact hg.block r this.2.1 (hgn r this.1)
  · have := own_at h.on hr; exact hg.block r this.2.1 (hgn r this.1)
theorem Row.gvN {w w5 w6 : World} {g gv N c a p nI cI nN cN : Nat} {k : Int} {A AI AN : Option Addr} {nms : List ByteArray} {rows : List Value} {kids : List Val} {kcss : List (List Value)}
    (h : Row w w5 g gv k A N c a p nms rows AI nI cI AN nN cN kids kcss) (hg6 : w5.grownBy w6 (Value.slice AN nN cN).ownBlock) : Blk w6 gv 30 (vkC k AI nI cI AN nN cN) := by
  have hlv := h.lv
  exact (hg6.block gv (Nat.lt_of_lt_of_le h.lv h.kp.size) (fun e => by have := (own_at h.on e.symm).1; omega)).trans h.bv
/-- One item more in its row; the header told anew. -/
theorem Row.itemG {w w5 w6 w8 : World} {g gv N c a p nI cI nN cN r6 c6 n6 : Nat} {k : Int} {A AI AN : Option Addr} {nms : List ByteArray} {rows rows2 old2 : List Value} {kids : List Val} {kcss : List (List Value)}
    (h : Row w w5 g gv k A N c a p nms rows AI nI cI AN nN cN kids kcss) (ho6 : w6.ownsRow w.heap.size 30 6 (.slice (some ⟨r6, 0, none⟩) n6 c6) n6 old2) (hg6 : w5.grownBy w6 (Value.slice AI nI cI).ownBlock)
    (hk6 : (Value.slice (some ⟨r6, 0, none⟩) n6 c6).ownBlock = (Value.slice AI nI cI).ownBlock ∨ (Value.slice (some ⟨r6, 0, none⟩) n6 c6).ownBlock = some w5.heap.size)
    (h8 : ∀ i, i < w6.heap.size → i ≠ gv → i ≠ r6 → w8.heap[i]? = w6.heap[i]?) (hs8 : w8.heap.size = w6.heap.size) (ho8 : w8.os = w6.os) (ht8 : w8.tape = w6.tape) (hu8 : w8.output = w6.output)
    (hb8 : Blk w8 gv 30 (vkC k (some ⟨r6, 0, none⟩) n6 c6 AN nN cN)) (hr8 : w8.ownsRow w.heap.size 30 6 (.slice (some ⟨r6, 0, none⟩) n6 c6) n6 rows2) :
    Row w w8 g gv k A N c a p nms rows2 (some ⟨r6, 0, none⟩) n6 c6 AN nN cN kids kcss := by
  have hr6 : w.heap.size ≤ r6 := (own_at ho6 rfl).1
  have hob : ∀ i, (Value.slice AI nI cI).ownBlock = some i → w.heap.size ≤ i := fun i hr => (own_at h.oi hr).1
  have hgvlt := h.lv
  have hglt := h.lg
  have hgg := h.gg
  have h58 : ∀ i, i < w5.heap.size → i ≠ r6 → some i ≠ (Value.slice AI nI cI).ownBlock → i ≠ gv → w8.heap[i]? = w5.heap[i]? := fun i hi h1 h2 h3 => (h8 i (Nat.lt_of_lt_of_le hi hg6.size) h3 h1).trans (hg6.block i hi h2)
  have hlow : ∀ i, i < w.heap.size → i ≠ gv → w8.heap[i]? = w5.heap[i]? := fun i hi h2 => h58 i (Nat.lt_of_lt_of_le hi h.kp.size) (by omega) (fun e => by have := hob i e.symm; omega) h2
  refine ⟨(hlow g h.lg (by omega)).trans h.bk, hb8, hr8, own_keep h.on fun r hr => ?_, h.ch.on (by rw [hs8]; exact hg6.size) fun i hi hj hx => ?_, ?_, h.lg, h.lv, h.gg⟩
  · have hat := own_at h.on hr
    refine h58 r hat.2.1 (fun e => ?_) (fun e => own_apart h.on h.oi (by decide) hr e.symm rfl) (by omega)
    rcases hk6 with hk | hk
    · exact own_apart h.on h.oi (by decide) hr hk.symm e
    · have : r6 = w5.heap.size := by simpa [Value.ownBlock] using hk
      omega
  · have hne6 : i ≠ r6 := fun e => by
      rcases hk6 with hk | hk
      · exact hx (.inl (hk.symm.trans (by rw [e]; rfl)))
      · have : r6 = w5.heap.size := by simpa [Value.ownBlock] using hk
        omega
    refine ⟨h58 i hj hne6 (fun e => hx (.inl e.symm)) (by omega), fun hx2 => ?_⟩
    rcases hx2 with h2 | h2
    · have : r6 = i := by simpa [Value.ownBlock] using h2
      omega
    · exact hx (.inr h2)
  · refine ⟨ho8.trans (hg6.os.trans h.kp.os), ht8.trans (hg6.tape.trans h.kp.tape), hu8.trans (hg6.output.trans h.kp.output), by rw [hs8]; exact Nat.le_trans h.kp.size hg6.size, fun i hi h1 h2 => (hlow i hi h2).trans (h.kp.block i hi h1 h2)⟩
theorem Row.gv6 {w w5 w6 : World} {g gv N c a p nI cI nN cN : Nat} {k : Int} {A AI AN : Option Addr} {nms : List ByteArray} {rows : List Value} {kids : List Val} {kcss : List (List Value)}
    (h : Row w w5 g gv k A N c a p nms rows AI nI cI AN nN cN kids kcss) (hg6 : w5.grownBy w6 (Value.slice AI nI cI).ownBlock) : Blk w6 gv 30 (vkC k AI nI cI AN nN cN) := by
  have hlv := h.lv
  exact (hg6.block gv (Nat.lt_of_lt_of_le h.lv h.kp.size) (fun e => by have := (own_at h.oi e.symm).1; omega)).trans h.bv
/-- The struct first, then the header. -/
theorem Row.item {w w5 w6 w7 : World} {g gv N c a p nI cI nN cN r6 c6 n6 : Nat} {k : Int} {A AI AN : Option Addr} {nms : List ByteArray} {rows rows2 old2 : List Value} {kids : List Val} {kcss : List (List Value)}
    (h : Row w w5 g gv k A N c a p nms rows AI nI cI AN nN cN kids kcss) (ho6 : w6.ownsRow w.heap.size 30 6 (.slice (some ⟨r6, 0, none⟩) n6 c6) n6 old2) (hg6 : w5.grownBy w6 (Value.slice AI nI cI).ownBlock)
    (hk6 : (Value.slice (some ⟨r6, 0, none⟩) n6 c6).ownBlock = (Value.slice AI nI cI).ownBlock ∨ (Value.slice (some ⟨r6, 0, none⟩) n6 c6).ownBlock = some w5.heap.size)
    (hg7 : w6.grownBy w7 (some r6)) (hs7 : w7.heap.size = w6.heap.size) (ho7 : w7.ownsRow w.heap.size 30 6 (.slice (some ⟨r6, 0, none⟩) n6 c6) n6 rows2) :
    Row w (w7.setCell ⟨gv, 4, none⟩ (.slice (some ⟨r6, 0, none⟩) n6 c6)) g gv k A N c a p nms rows2 (some ⟨r6, 0, none⟩) n6 c6 AN nN cN kids kcss := by
  have hr6 : w.heap.size ≤ r6 := (own_at ho6 rfl).1
  have hlv := h.lv
  have hset : ∀ i, i ≠ gv → (w7.setCell ⟨gv, 4, none⟩ (.slice (some ⟨r6, 0, none⟩) n6 c6)).heap[i]? = w7.heap[i]? := fun i hi => Below.heap_setCell w7 _ _ i hi
  have hbv : Blk w7 gv 30 (vkC k AI nI cI AN nN cN) := (h.gv6 hg6).grown hg7 (fun e => by injection e with e; omega)
  refine h.itemG ho6 hg6 hk6 (fun i hi h1 h2 => (hset i h1).trans (hg7.block i hi (fun e => h2 (by injection e)))) (by simp [World.setCell, hs7]) hg7.os hg7.tape hg7.output (hbv.set_ 4 _) (own_keep ho7 fun r hr => hset r (by have := (own_at ho7 hr).1; omega))
/-- The header first, then the struct. -/
theorem Row.item' {w w5 w6 w7 : World} {g gv N c a p nI cI nN cN r6 c6 n6 : Nat} {k : Int} {A AI AN : Option Addr} {nms : List ByteArray} {rows rows2 old2 : List Value} {kids : List Val} {kcss : List (List Value)}
    (h : Row w w5 g gv k A N c a p nms rows AI nI cI AN nN cN kids kcss) (ho6 : w6.ownsRow w.heap.size 30 6 (.slice (some ⟨r6, 0, none⟩) n6 c6) n6 old2) (hg6 : w5.grownBy w6 (Value.slice AI nI cI).ownBlock)
    (hk6 : (Value.slice (some ⟨r6, 0, none⟩) n6 c6).ownBlock = (Value.slice AI nI cI).ownBlock ∨ (Value.slice (some ⟨r6, 0, none⟩) n6 c6).ownBlock = some w5.heap.size)
    (hg7 : (w6.setCell ⟨gv, 4, none⟩ (.slice (some ⟨r6, 0, none⟩) n6 c6)).grownBy w7 (some r6)) (hs7 : w7.heap.size = (w6.setCell ⟨gv, 4, none⟩ (.slice (some ⟨r6, 0, none⟩) n6 c6)).heap.size) (ho7 : w7.ownsRow w.heap.size 30 6 (.slice (some ⟨r6, 0, none⟩) n6 c6) n6 rows2) :
    Row w w7 g gv k A N c a p nms rows2 (some ⟨r6, 0, none⟩) n6 c6 AN nN cN kids kcss := by
  have hr6 : w.heap.size ≤ r6 := (own_at ho6 rfl).1
  have hlv := h.lv
  have hss : (w6.setCell ⟨gv, 4, none⟩ (.slice (some ⟨r6, 0, none⟩) n6 c6)).heap.size = w6.heap.size := by simp [World.setCell]
  refine h.itemG ho6 hg6 hk6 (fun i hi h1 h2 => (hg7.block i (by rw [hss]; exact hi) (fun e => h2 (by injection e))).trans (Below.heap_setCell w6 _ _ i h1)) (hs7.trans hss) hg7.os hg7.tape hg7.output (((h.gv6 hg6).set_ 4 _).grown hg7 (fun e => by injection e with e; omega)) ho7
theorem own_form6 {w : World} {base n : Nat} {e : TypeId} {A : Option Addr} {c : Nat} {xs : List Value} (h : w.ownsRow base e 6 (.slice A n c) n xs) (h0 : 0 < n) : ∃ r, A = some ⟨r, 0, none⟩ := by
  rcases h.2 with ⟨h1, h2⟩ | ⟨g, cap, cur, hv, _⟩
  · omega
  · injection hv with e1
    exact ⟨g, e1⟩
theorem own_form1 {w : World} {base n : Nat} {e : TypeId} {A : Option Addr} {c : Nat} {xs : List Value} (h : w.ownsRow base e 1 (.slice A n c) n xs) (h0 : 0 < n) : ∃ r, A = some ⟨r, 0, none⟩ := by
  rcases h.2 with ⟨h1, h2⟩ | ⟨g, cap, cur, hv, _⟩
  · omega
  · injection hv with e1
    exact ⟨g, e1⟩
theorem step_store_midB {P : Program} {ops : Array Oper} {o : Oper} {a : Act} {w : World} {K : Act → World → Prop} {Q : Exit → Act → World → Prop} {E : Prop} (hgd : o.guard = none) (ty : TypeId) (x y : Operand) (ho : o.op = .store ty x y) (hdst : o.dst = none)
    (g off : Nat) (cs' : Array Value) (hx : a.eval x = .pointer (some ⟨g, off, none⟩)) (hy : a.eval y = .agg cs') {t : TypeId} {cs : Array Value} (hg : Blk w g t cs) (hi : (P.info? ty).map (·.size) = some cs'.size) (hs : off + cs'.size ≤ cs.size) (h1' : cs'.toList.all (·.oneCell') = true)
    (h : ∀ w', Blk w' g t (cs.toList.take off ++ cs'.toList ++ cs.toList.drop (off + cs'.size)).toArray → w.grownBy w' (some g) → w'.heap.size = w.heap.size → K a w') : if Region.wanted o (yielded ops a.tmps) = true then Oper.wp P o a w K Q else E := by
  have hw : Region.wanted o (yielded ops a.tmps) = true := by simp [Region.wanted, hgd]
  rw [if_pos hw]
  have hst := run_storeCells_at (P := P) g off t cs'.toList 0 cs w hg (by simpa using hs) (fun v hv => List.all_eq_true.1 h1' v hv)
  simp only [Nat.add_zero, Array.length_toList] at hst
  have hsv : (storeVar ty ⟨g, off, none⟩ (.agg cs')).run P w = .ok () (w.setRow g (cs.toList.take off ++ cs'.toList ++ cs.toList.drop (off + cs'.size)).toArray) := by
    cases hq : P.info? ty with
    | none => simp [hq] at hi
    | some i =>
      have hz : cs'.size = i.size := by simp [hq] at hi; omega
      simp [storeVar, sizeOf, typeInfo, hq, Value.cells, hz, hst]
  unfold Oper.wp execOp
  simp only [ho, hx, hy, Instr.storeAt, Instr.sureAddr, Sem.run_bind, Sem.run_pure, Result.andThen_ok, hsv]
  have := h (w.setRow g (cs.toList.take off ++ cs'.toList ++ cs.toList.drop (off + cs'.size)).toArray) (hg.setRow _) (only_setRow w g _) (by simp)
  simpa [Oper.upon, Act.put, hdst] using this
theorem info_six {cs : List Value} (h : cs.length = 6) : (Tryz.prog.info? 30).map (·.size) = some cs.toArray.size := by rw [List.size_toArray, h]; exact v_info
/-- The zero value as a row of one. -/
abbrev zv6 : List Value := [.int .i64 0, .int .i64 0, .float .f64 0, .string ⟨#[]⟩, .slice none 0 0, .slice none 0 0]
theorem reads_zv (W : World) : Reads (W.alloc (.cells zv6.toArray 30)) (W.heap.size + 1) 6 (some ⟨W.heap.size, 0, none⟩) 1 zv6 := by
  have := (Reads.of_own (World.ownsRow_lit (e := 30) (size := 6) (base := 0) W zv6.toArray 1 (Nat.zero_le _) (by decide) rfl) : Reads (W.alloc (.cells zv6.toArray 30)) _ 6 (some ⟨W.heap.size, 0, none⟩) 1 zv6)
  exact this.more (by simp)
theorem zv_keep {W w5 : World} {g : Nat} (hg : (W.drew.alloc (.cells zv6.toArray 30)).grownBy w5 (some g)) (hlt : g < W.heap.size) : Reads w5 w5.heap.size 6 (some ⟨W.heap.size, 0, none⟩) 1 zv6 := by
  have h := World.ownsRow_lit (e := 30) (size := 6) (base := 0) W.drew zv6.toArray 1 (Nat.zero_le _) (by decide) rfl
  refine Reads.of_own (own_keep (w' := w5) h fun r hr => hg.block r (own_at h hr).2.1 (fun e => ?_))
  injection e with e
  have : W.heap.size = r := by simpa [Value.ownBlock] using hr
  omega
/-- One name more in its row; the header told anew. -/
theorem Row.name {w w5 w6 : World} {g gv N c a p nI cI nN cN r6 c6 n6 : Nat} {k : Int} {A AI AN : Option Addr} {nms nms2 : List ByteArray} {rows : List Value} {kids : List Val} {kcss : List (List Value)}
    (h : Row w w5 g gv k A N c a p nms rows AI nI cI AN nN cN kids kcss) (ho6 : w6.ownsRow w.heap.size 9 1 (.slice (some ⟨r6, 0, none⟩) n6 c6) n6 (strs nms2)) (hg6 : w5.grownBy w6 (Value.slice AN nN cN).ownBlock)
    (hk6 : (Value.slice (some ⟨r6, 0, none⟩) n6 c6).ownBlock = (Value.slice AN nN cN).ownBlock ∨ (Value.slice (some ⟨r6, 0, none⟩) n6 c6).ownBlock = some w5.heap.size) :
    Row w (w6.setCell ⟨gv, 5, none⟩ (.slice (some ⟨r6, 0, none⟩) n6 c6)) g gv k A N c a p nms2 rows AI nI cI (some ⟨r6, 0, none⟩) n6 c6 kids kcss := by
  have hr6 : w.heap.size ≤ r6 := (own_at ho6 rfl).1
  have hob : ∀ i, (Value.slice AN nN cN).ownBlock = some i → w.heap.size ≤ i := fun i hr => (own_at h.on hr).1
  have hlow : ∀ i, i < w.heap.size → w6.heap[i]? = w5.heap[i]? := fun i hi => hg6.block i (Nat.lt_of_lt_of_le hi h.kp.size) (fun e => by have := hob i e.symm; omega)
  have hset : ∀ i, i ≠ gv → (w6.setCell ⟨gv, 5, none⟩ (.slice (some ⟨r6, 0, none⟩) n6 c6)).heap[i]? = w6.heap[i]? := fun i hi => Below.heap_setCell w6 _ _ i hi
  have hss : (w6.setCell ⟨gv, 5, none⟩ (.slice (some ⟨r6, 0, none⟩) n6 c6)).heap.size = w6.heap.size := by simp [World.setCell]
  have hgvlt := h.lv
  have hglt := h.lg
  refine ⟨((hset g (by have := h.gg; omega)).trans (hlow g h.lg)).trans h.bk, ?_, own_keep h.oi fun r hr => ?_, own_keep ho6 fun r hr => hset r (by have := (own_at ho6 hr).1; omega), h.ch.on (by rw [hss]; exact hg6.size) fun i hi hj hx => ?_, ?_, h.lg, h.lv, h.gg⟩
  · have hbv7 : Blk w6 gv 30 (vkC k AI nI cI AN nN cN) := (hlow gv h.lv).trans h.bv
    exact hbv7.set_ 5 (.slice (some ⟨r6, 0, none⟩) n6 c6)
  · have hat := own_at h.oi hr
    exact (hset r (by omega)).trans (hg6.block r hat.2.1 (fun e => own_apart h.oi h.on (by decide) hr e.symm rfl))
  · have hne6 : i ≠ r6 := fun e => by
      rcases hk6 with hk | hk
      · exact hx (.inr (hk.symm.trans (by rw [e]; rfl)))
      · have : r6 = w5.heap.size := by simpa [Value.ownBlock] using hk
        omega
    refine ⟨(hset i (by omega)).trans (hg6.block i hj (fun e => hx (.inr e.symm))), fun hx2 => ?_⟩
    rcases hx2 with h2 | h2
    · exact hx (.inl h2)
    · have : r6 = i := by simpa [Value.ownBlock] using h2
      omega
  · refine ⟨hg6.os.trans h.kp.os, hg6.tape.trans h.kp.tape, hg6.output.trans h.kp.output, ?_, fun i hi h1 h2 => ((hset i h2).trans (hlow i hi)).trans (h.kp.block i hi h1 h2)⟩
    rw [hss]
    exact Nat.le_trans h.kp.size hg6.size
/-- A struct laid into the last place of a row of one's own. -/
theorem own_last {w : World} {base n r cp : Nat} {e : TypeId} {xs old cs : List Value} (h : w.ownsRow base e 6 (.slice (some ⟨r, 0, none⟩) (n + 1) cp) (n + 1) (xs ++ old)) (hx : xs.length = n * 6) (h6 : cs.length = 6) :
    ∃ cur, Blk w r e cur ∧ n * 6 + cs.toArray.size ≤ cur.size ∧ ∀ w' : World, Blk w' r e (cur.toList.take (n * 6) ++ cs.toArray.toList ++ cur.toList.drop (n * 6 + cs.toArray.size)).toArray → w'.ownsRow base e 6 (.slice (some ⟨r, 0, none⟩) (n + 1) cp) (n + 1) (xs ++ cs) := by
  rcases h with ⟨hl, ⟨h1, _⟩ | ⟨g, cap, cur, hv, hb, hg, hc, hm, hcs, ht⟩⟩
  · cases h1
  · injection hv with e1 e2 e3
    injection e1 with e1
    injection e1 with e1
    subst e1 e3
    have hcl : cur.toList.length = cp * 6 := by rw [Array.length_toList, hcs]
    refine ⟨cur, hg, by rw [List.size_toArray, h6, hcs]; omega, fun w' hw' => ⟨by rw [List.length_append, hx, h6]; omega, .inr ⟨r, cp, _, rfl, hb, hw', hc, hm, ?_, ?_⟩⟩⟩
    · simp only [List.size_toArray, List.length_append, List.length_take, List.length_drop, h6]
      omega
    · have ht' : cur.toList.take (n * 6) = xs := by
        have h2 : (xs ++ old).take (n * 6) = xs := by rw [← hx]; exact List.take_left
        have h3 : (cur.toList.take ((n + 1) * 6)).take (n * 6) = cur.toList.take (n * 6) := by
          rw [List.take_take]
          congr 1
          omega
        rw [← h3, ht, h2]
      rw [ht']
      rw [List.append_assoc, ← List.append_assoc xs, List.take_append_of_le_length (by simp; omega), List.take_of_length_le (by simp; omega)]
end Go.Proofs.YtacnoedhpamdmaaGreatDoor
