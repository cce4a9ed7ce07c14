/- Walks: the small steps of a reader of a value's text (blanks, peek, fail), at a text that is named by its bytes. Conditions: as stated. -/
import Derived.Test.YtacnoedhpamdmaaGreatDoorYp
import Derived.Laws.RangeAny
namespace Go.Proofs.YtacnoedhpamdmaaGreatDoor
open Go.RowKit
set_option linter.unusedVariables false
attribute [local go_sem ↓] Go.wp_at_zero Go.wp_at_succ

/-- A reader of a text. -/
abbrev TxC (S : ByteArray) (a : Nat) : Array Value := #[.string S, .int .i64 (a : Int)]
abbrev flt3 : PanicEntry := { v := .iface 76 (.agg #[.int .i64 3, .int .i64 4]), recovered := false }
theorem c_tfail (g : Nat) (w : World) : Calls Tryz.prog 41 #[.pointer (some ⟨g, 0, none⟩), .int .i64 3] w fun e w' => e = .panicked [flt3] ∧ w' = w := by
  go_enter Tryz.func41, Tryz.ntmps41
  go_wp2
  exact ⟨rfl, rfl, rfl⟩
theorem c_peek (S : ByteArray) (a g : Nat) (w : World) (hB : Blk w g 79 (TxC S a)) (hs : S.size = 4) (ha : a < S.size) :
    Calls Tryz.prog 102 #[.pointer (some ⟨g, 0, none⟩)] w fun e w' => e = .returned (.int .u8 ((S[a]'ha).toNat : Int)) ∧ ∃ k, w' = w.drewN k := by
  have c0 : w.cell? ⟨g, 0, none⟩ = some (.string S) := hB.cell 0
  have c1 : w.cell? ⟨g, 1, none⟩ = some (.int .i64 (a : Int)) := hB.cell 1
  have hi : (a : Int) < 4 := by omega
  clear hB
  go_enter Tryz.func102, Tryz.ntmps102
  go_wp2_with fail
  go_quiet (fail)
  go_wp2_with fail
  go_quiet (fail)
  go_wp2_with fail
  go_ret
  exact ⟨rfl, _, World.drewN_drewN _ _ _⟩
theorem c_blanks (S : ByteArray) (a g x : Nat) (w : World) (hB : Blk w g 79 (TxC S a)) (hs : S.size = 4) (ha : a < S.size) (hx : (S[a]'ha).toNat = x)
    (h1 : ((x : Int) == 32) = false) (h2 : ((x : Int) == 9) = false) (h3 : ((x : Int) == 10) = false) (h4 : ((x : Int) == 13) = false) :
    Calls Tryz.prog 70 #[.pointer (some ⟨g, 0, none⟩)] w fun e w' => e = .returned (.tuple #[]) ∧ ∃ k, w' = w.drewN k := by
  have c0 : w.cell? ⟨g, 0, none⟩ = some (.string S) := hB.cell 0
  have c1 : w.cell? ⟨g, 1, none⟩ = some (.int .i64 (a : Int)) := hB.cell 1
  have hi : (a : Int) < 4 := by omega
  clear hB
  go_enter Tryz.func70, Tryz.ntmps70
  go_wp2_with fail
  go_loopw [] (fun wr => ∃ k, wr = w.drewN k) (fun _ => 0)
  case atStart => exact ⟨0, rfl⟩
  case round =>
    obtain ⟨k, rfl⟩ := hrel
    go_wp2_with fail

    go_quiet (fail)
    go_wp2_with fail
    exact ⟨rfl, .tuple #[], by simp [results, Tryz.results70], rfl, _, World.drewN_drewN _ _ _⟩
/-- The iterator in a block stands at another place. -/
def setIt (W : World) (b : Nat) (s : ByteArray) (p : Nat) : World := { W with heap := W.heap.setIfInBounds b (.stringIter s p) }
theorem setIt_heap (W : World) (b : Nat) (s : ByteArray) (p : Nat) (hb : b < W.heap.size) : (setIt W b s p).heap[b]? = some (.stringIter s p) := by simp [setIt, hb]
theorem setIt_grown {w W : World} (b : Nat) (s : ByteArray) (p : Nat) {row : Option Nat} (h : w.grownBy W row) (hb : w.heap.size ≤ b) : w.grownBy (setIt W b s p) row :=
  ⟨h.os, h.tape, h.output, by simpa [setIt] using h.size, fun k hk hr => by rw [← h.block k hk hr]; simp only [setIt, Array.getElem?_setIfInBounds]; rw [if_neg (by omega)]⟩
theorem setIt_blk {W : World} (b : Nat) (s : ByteArray) (p : Nat) {g : Nat} {t : TypeId} {cs : Array Value} (h : Blk W g t cs) (hb : b ≠ g) : Blk (setIt W b s p) g t cs := by
  unfold Blk at *
  simp only [setIt, Array.getElem?_setIfInBounds]
  rw [if_neg (by omega)]; exact h
theorem run_next_at {P : Program} (W : World) (b : Nat) (s : ByteArray) (pos : Nat) (ty : TypeId) (hb : W.heap[b]? = some (.stringIter s pos)) (h : pos < s.size) (ha : (s[pos]'h).toNat < 128) :
    (Instr.next (.pointer (some ⟨b, 0, none⟩)) true ty).run P W = .ok (.tuple #[.bool true, .int .i64 pos, .int .i32 (s[pos]'h).toNat]) (setIt W b s (pos + 1)) := by
  simp only [Instr.next, getObj, setObj, Sem.run_bind, Sem.run, hb, Result.andThen, h, if_true, decode_ascii s pos h ha]
  simp [goInt, setIt]
theorem run_next_at_end {P : Program} (W : World) (b : Nat) (s : ByteArray) (pos : Nat) (ty : TypeId) (hb : W.heap[b]? = some (.stringIter s pos)) (h : ¬ pos < s.size) :
    (Instr.next (.pointer (some ⟨b, 0, none⟩)) true ty).run P W = .ok (.tuple #[.bool false]) W := by
  simp [Instr.next, getObj, Sem.run, hb, h]
theorem c_lit (S L : ByteArray) (a g x : Nat) (w : World) (hB : Blk w g 79 (TxC S a)) (hs : S.size = 4) (ha : a < S.size) (hx : (S[a]'ha).toNat = x) (hx1 : x < 128) (hL : L.size = 1) (hl : ∀ h, (L[0]'h).toNat = x) :
    Calls Tryz.prog 103 #[.pointer (some ⟨g, 0, none⟩), .string L] w fun e w' => e = .returned (.tuple #[]) ∧ Blk w' g 79 (TxC S (a + 1)) ∧ w.grownBy w' (some g) := by
  have hi : (a : Int) < 4 := by omega
  have hz : ¬ (4 : Int) ≤ (a : Int) := by omega
  have hg := hB.lt
  have hw1 : IntKind.i32.wrap (x : Int) = x := by
    have : (x : Int) = ((x : Nat) : Int) := rfl
    unfold IntKind.wrap
    simp [IntKind.bits, IntKind.signed]
    omega
  have hw2 : IntKind.i64.wrap ((a : Int) + 1) = ((a + 1 : Nat) : Int) := by rw [IntKind.wrap_i64]; omega
  have HK := Lib.hid hB
  clear hB
  have K0 : Hid (Blk (w.iter L 0) g 79 (TxC S a)) := HK.out.alloc _
  have G0 : Hid (w.grownBy (w.iter L 0) (some g)) := only_alloc (World.grownBy.refl w _) _
  have I0 : Hid ((w.iter L 0).heap[w.heap.size]? = some (.stringIter L 0)) := World.iter_heap w L 0
  go_enter Tryz.func103, Tryz.ntmps103
  go_wp2_with fail
  go_loopw [] (fun wr => ∃ p, p ≤ 1 ∧ Hid (Blk wr g 79 (TxC S (a + p))) ∧ Hid (wr.heap[w.heap.size]? = some (.stringIter L p)) ∧ Hid (w.grownBy wr (some g))) (fun wr => 1 - wr.iterPos w.heap.size)
  case atStart => exact ⟨0, by omega, K0, I0, G0⟩
  case round =>
    obtain ⟨p, hp, KR, IR, GR⟩ := hrel
    rcases (show p = 0 ∨ p = 1 by omega) with rfl | rfl
    · have hnx : ∀ ty, (Instr.next (.pointer (some ⟨w.heap.size, 0, none⟩)) true ty).run Tryz.prog wr = _ := fun ty => run_next_at wr w.heap.size L 0 ty IR.out (by omega) (by rw [hl]; exact hx1)
      have hlt := (Array.getElem?_eq_some_iff.1 IR.out).1
      have K1 := Lib.hid (setIt_blk w.heap.size L 1 KR.out (by omega))
      have G1 := Lib.hid (setIt_grown w.heap.size L 1 GR.out (Nat.le_refl _))
      have I1 := Lib.hid (setIt_heap wr w.heap.size L 1 hlt)
      have c0 : (setIt wr w.heap.size L (0 + 1)).cell? ⟨g, 0, none⟩ = some (.string S) := K1.out.cell 0
      have c1 : (setIt wr w.heap.size L (0 + 1)).cell? ⟨g, 1, none⟩ = some (.int .i64 (a : Int)) := K1.out.cell 1
      have f1 := K1.out.frozen 1
      clear hlt
      rw [hl] at hnx
      generalize hWW : setIt wr w.heap.size L (0 + 1) = w1 at *
      go_wp2_with fail
      go_quiet (fail)
      go_wp2_with fail
      have I2 : ((w1.drewN nq).setCell ⟨g, 1, none⟩ (.int .i64 ((a : Int) + 1))).heap[w.heap.size]? = some (.stringIter L 1) := (Below.heap_setCell _ _ _ _ (by simp only; omega)).trans I1.out
      go_roundw
      case rel => exact ⟨1, Nat.le_refl _, (K1.out.drewN nq).set_ 1 _, I2, only_setCell (only_drewN G1.out nq) (.inl rfl) _⟩
      case measure => simp only [World.iterPos, I2, IR.out]; omega
    · have hnx : ∀ ty, (Instr.next (.pointer (some ⟨w.heap.size, 0, none⟩)) true ty).run Tryz.prog wr = _ := fun ty => run_next_at_end wr w.heap.size L 1 ty IR.out (by omega)
      go_wp2_with fail
      exact ⟨rfl, .tuple #[], by simp [results, Tryz.results103], rfl, KR.out, GR.out⟩
end Go.Proofs.YtacnoedhpamdmaaGreatDoor
