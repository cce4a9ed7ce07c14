/- Walks: the bytes of the value 'true' (value.Encode at that one input). Conditions: none. Walks: the small steps of a reader of a value's text (blanks, peek, fail), at a text that is named by its bytes. Conditions: as stated. Walks: the number of a value's text ((*value.text).int) at a text whose bytes 1 and 2 are '1' and ','. Conditions: as stated. Walks: (*value.text).bare and .value at the text '[1,]' (at 1 a number, at 3 a fault). Conditions: as stated. Walks: (*value.text).value and .list at the text '[1,]' (a number at 1, a fault at 3). Conditions: as stated. Walk: (*value.text).list at the text '[1,]': a fault at 3. Conditions: as stated. Walk: what value.Parse defers, at a frame that panics with a fault at 3. Conditions: as stated. Walks: value.Parse at the text '[1,]' (a fault at 3, of kind 4), quernlaw23.awake. Conditions: none. -/
import Derived.Test.YtigbbogfnchgnaaGreatDoorYo
import Derived.Laws.RangeAny
import Derived.Deep.RegionHeld3
import Derived.Lib.BufferOwn
import Derived.Lib.AtoiErrMem
import Derived.Test.YtigbbogfnchgnaaGreatDoorLn
import Derived.Deep.RegionLaw
import Derived.Defers
import Derived.Recover
namespace Go.Proofs.YtigbbogfnchgnaaGreatDoor
open Go.RowKit
set_option linter.unusedVariables false
attribute [local go_sem ↓] Go.wp_at_zero Go.wp_at_succ

/-- The value 'true'. -/
def vTrue : Val := .mk 1 1 0 ⟨#[]⟩ [] []
abbrev csTrue : List Value := [.int .i64 1, .int .i64 1, .float .f64 0, .string ⟨#[]⟩, .slice none 0 0, .slice none 0 0]
theorem rv_true (w : World) : RV w vTrue csTrue := ⟨RdV_iff.2 ⟨none, none, 0, 0, rfl, Reads.none_, fun i h => absurd h (by show ¬ i < 0; omega)⟩, by unfold vTrue; rw [wfV, wfL]; exact ⟨rfl, rfl, rfl, trivial⟩, by decide +kernel⟩
theorem chk_true : chk fone vTrue = 0 := by decide +kernel
theorem leaf_true : leafV vTrue = .iface 77 (.bool true) := rfl
theorem u8_info : (Tryz.prog.info? 5).map (fun i => (i.zero, i.size, i.bytes)) = some (some (.int .u8 0), 1, 1) := by kernel_rfl
theorem c_bytesT (w : World) : Calls Tryz.prog 178 #[.bool true] w fun e w' => e = .returned (.slice (some ⟨w.heap.size, 0, none⟩) 1 1) ∧ w' = w.alloc (.cells #[.int .u8 1] 5) := by
  go_enter Tryz.func178, Tryz.ntmps178
  go_wp2
  go_ret
  exact ⟨rfl, rfl⟩
/-- A slice of a call's own that reads as these bytes. -/
def Own2 (w w' : World) (v : Value) (xs : List Value) : Prop := w'.ownsRow w.heap.size 5 1 v xs.length xs ∧ Below w.heap.size w w'
set_option maxRecDepth 100000 in
theorem c_layT (w : World) : Calls Tryz.prog 39 #[.slice none 0 0, .agg csTrue.toArray] w fun e w' => ∃ v, e = .returned v ∧ Own2 w w' v [.int .u8 1, .int .u8 1] := by
  obtain ⟨i0, hi0, hz0, hz1, hz2⟩ := info_parts u8_info
  have hb0 : Below w.heap.size w (w.alloc (.cells csTrue.toArray 26)) := (Below.refl w.heap.size w).alloc (Nat.le_refl _) _
  have HB0 := Lib.hid hb0
  have HX0 := Lib.hid (Box.new w csTrue)
  have HR := Lib.hid (rv_true w).row
  have K0 : Hid ((w.alloc (.cells csTrue.toArray 26)).cell? ⟨w.heap.size, 0, none⟩ = some (.int .i64 1)) := HX0.out.blk.cell 0
  clear hb0
  go_enter Tryz.func39, Tryz.ntmps39
  go_upto_region 1 with fail
  generalize w.alloc (.cells csTrue.toArray 26) = w0 at *
  have k0 := K0.out
  have HR1 := Lib.hid (Reads.of_own (World.ownsRow_lit (e := 5) (size := 1) (base := 0) w0 #[.int .u8 1] 1 (Nat.zero_le _) (by decide) rfl) : Reads (w0.alloc (.cells #[.int .u8 1] 5)) _ 1 (some ⟨w0.heap.size, 0, none⟩) 1 [.int .u8 1])
  have HBA : Hid (Below w.heap.size w (w0.alloc (.cells #[.int .u8 1] 5))) := HB0.out.alloc HB0.out.size _
  have HXA := Lib.hid (HX0.out.step ((Below.refl _ _).alloc (Nat.le_refl _) (.cells #[.int .u8 1] 5)))
  go_upto_region 2 with (at_builtin; refine wpList_append_any _ rfl (.tmp 8) (.tmp 12) 36 rfl w.heap.size 5 i0 _ 1 1 Tryz.underlying36 hi0 hz0 hz1 hz2 rfl (by omega) (.slice none 0 0) 0 [] rfl (World.ownsRow_nil _ _ _ _) _ (some ⟨w0.heap.size, 0, none⟩) 1 1 [.int .u8 1] rfl HR1.out (by simp [Value.oneCell']) (by simp only [maxLen]; omega) (by omega) HBA.out.size ?_; intro v1 w1 hown1 hg1 _; have HO1 : Hid (w1.ownsRow w.heap.size 5 1 v1 1 [.int .u8 1]) := hown1; have hb1 := below_of_grown hg1; have HB1 : Hid (Below w.heap.size w w1) := HBA.out.trans (hb1.mono HBA.out.size); have HX1 := Lib.hid (HXA.out.step hb1); clear hown1 hg1 hb1)
  have HLF := Lib.hid (c_leafOf vTrue csTrue w1 (rv_true w1))
  rw [leaf_true] at HLF
  clear HR1 HBA HXA k0 K0 HX0 HB0
  go_wp2_with (refine wpList_load_row rfl 26 (.tmp 3) rfl w.heap.size rfl 26 _ (0, 0) _ HX1.out.blk Tryz.underlying26 rfl HR.out ?_)
  refine HLF.out.mono ?_; rintro e w2 ⟨rfl, hb2⟩
  have HO2 := Lib.hid (own_below HO1.out hb2)
  have HB2 := Lib.hid (HB1.out.trans (hb2.mono HB1.out.size))
  clear hb2 HLF
  go_wp2_with fail
  refine (c_bytesT w2).mono ?_; rintro e w3 ⟨rfl, rfl⟩
  have HR3 := Lib.hid (Reads.of_own (World.ownsRow_lit (e := 5) (size := 1) (base := 0) w2 #[.int .u8 1] 1 (Nat.zero_le _) (by decide) rfl) : Reads (w2.alloc (.cells #[.int .u8 1] 5)) _ 1 (some ⟨w2.heap.size, 0, none⟩) 1 [.int .u8 1])
  have HO3 := Lib.hid (HO2.out.alloc (.cells #[.int .u8 1] 5))
  have HB3 : Hid (Below w.heap.size w (w2.alloc (.cells #[.int .u8 1] 5))) := HB2.out.alloc HB2.out.size _
  go_wp2_with (at_builtin; refine wpList_append_any _ rfl (.tmp 18) (.tmp 20) 36 rfl w.heap.size 5 i0 _ 1 1 Tryz.underlying36 hi0 hz0 hz1 hz2 rfl (by omega) v1 1 [.int .u8 1] rfl HO3.out _ (some ⟨w2.heap.size, 0, none⟩) 1 1 [.int .u8 1] rfl HR3.out (by simp [Value.oneCell']) (by simp only [maxLen]; omega) (by omega) HB3.out.size ?_; intro v4 w4 hown4 hg4 _; have HO4 : Hid (w4.ownsRow w.heap.size 5 1 v4 2 [.int .u8 1, .int .u8 1]) := hown4; have HB4 := Lib.hid (below_own HB3.out HO3.out hg4); clear hown4 hg4)
  go_ret
  exact ⟨v4, rfl, HO4.out, HB4.out⟩
set_option maxRecDepth 100000 in
theorem c_EncT (w : World) : Calls Tryz.prog 14 #[.agg csTrue.toArray] w fun e w' => ∃ v, e = .returned (.tuple #[v, .int .i64 0]) ∧ Own2 w w' v [.int .u8 1, .int .u8 1] := by
  have HB0 : Hid (Below w.heap.size w (w.alloc (.cells csTrue.toArray 26))) := (Below.refl w.heap.size w).alloc (Nat.le_refl _) _
  have HX0 := Lib.hid (Box.new w csTrue)
  have HR := Lib.hid (rv_true w).row
  go_enter Tryz.func14, Tryz.ntmps14
  go_upto_region 1 with fail
  generalize w.alloc (.cells csTrue.toArray 26) = w0 at *
  have HC := Lib.hid (c_Check vTrue csTrue w0 (rv_true w0))
  rw [chk_true] at HC
  go_wp2_with (refine wpList_load_row rfl 26 (.tmp 1) rfl w.heap.size rfl 26 _ (0, 0) _ HX0.out.blk Tryz.underlying26 rfl HR.out ?_)
  refine HC.out.mono ?_; rintro e w1 ⟨rfl, hb1⟩
  have HX1 := Lib.hid (HX0.out.step hb1)
  have HB1 := Lib.hid (HB0.out.trans (hb1.mono HB0.out.size))
  clear hb1 HC
  go_wp2_with (refine wpList_load_row rfl 26 (.tmp 1) rfl w.heap.size rfl 26 _ (0, 0) _ HX1.out.blk Tryz.underlying26 rfl HR.out ?_)
  refine (c_layT w1).mono ?_; rintro e w2 ⟨v, rfl, ho, hb⟩
  have HO := Lib.hid (own_base ho HB1.out.size)
  have HB2 := Lib.hid (HB1.out.trans (hb.mono HB1.out.size))
  clear ho hb
  go_wp2_with fail
  go_ret2
  exact ⟨v, rfl, HO.out, HB2.out⟩
end Go.Proofs.YtigbbogfnchgnaaGreatDoor
namespace Go.Proofs.YtigbbogfnchgnaaGreatDoor
open Go.RowKit
set_option linter.unusedVariables false
attribute [local go_sem ↓] Go.wp_at_zero Go.wp_at_succ

/-- A reader of a text. -/
abbrev TxC (S : ByteArray) (a : Nat) : Array Value := #[.string S, .int .i64 (a : Int)]
abbrev flt3 : PanicEntry := { v := .iface 67 (.agg #[.int .i64 3, .int .i64 4]), recovered := false }
theorem c_tfail (g : Nat) (w : World) : Calls Tryz.prog 38 #[.pointer (some ⟨g, 0, none⟩), .int .i64 3] w fun e w' => e = .panicked [flt3] ∧ w' = w := by
  go_enter Tryz.func38, Tryz.ntmps38
  go_wp2
  exact ⟨rfl, rfl, rfl⟩
theorem c_peek (S : ByteArray) (a g : Nat) (w : World) (hB : Blk w g 70 (TxC S a)) (hs : S.size = 4) (ha : a < S.size) :
    Calls Tryz.prog 64 #[.pointer (some ⟨g, 0, none⟩)] w fun e w' => e = .returned (.int .u8 ((S[a]'ha).toNat : Int)) ∧ ∃ k, w' = w.drewN k := by
  have c0 : w.cell? ⟨g, 0, none⟩ = some (.string S) := hB.cell 0
  have c1 : w.cell? ⟨g, 1, none⟩ = some (.int .i64 (a : Int)) := hB.cell 1
  have hi : (a : Int) < 4 := by omega
  clear hB
  go_enter Tryz.func64, Tryz.ntmps64
  go_wp2_with fail
  go_quiet (fail)
  go_wp2_with fail
  go_quiet (fail)
  go_wp2_with fail
  go_ret
  exact ⟨rfl, _, World.drewN_drewN _ _ _⟩
theorem c_blanks (S : ByteArray) (a g x : Nat) (w : World) (hB : Blk w g 70 (TxC S a)) (hs : S.size = 4) (ha : a < S.size) (hx : (S[a]'ha).toNat = x)
    (h1 : ((x : Int) == 32) = false) (h2 : ((x : Int) == 9) = false) (h3 : ((x : Int) == 10) = false) (h4 : ((x : Int) == 13) = false) :
    Calls Tryz.prog 49 #[.pointer (some ⟨g, 0, none⟩)] w fun e w' => e = .returned (.tuple #[]) ∧ ∃ k, w' = w.drewN k := by
  have c0 : w.cell? ⟨g, 0, none⟩ = some (.string S) := hB.cell 0
  have c1 : w.cell? ⟨g, 1, none⟩ = some (.int .i64 (a : Int)) := hB.cell 1
  have hi : (a : Int) < 4 := by omega
  clear hB
  go_enter Tryz.func49, Tryz.ntmps49
  go_wp2_with fail
  go_loopw [] (fun wr => ∃ k, wr = w.drewN k) (fun _ => 0)
  case atStart => exact ⟨0, rfl⟩
  case round =>
    obtain ⟨k, rfl⟩ := hrel
    go_wp2_with fail

    go_quiet (fail)
    go_wp2_with fail
    exact ⟨rfl, .tuple #[], by simp [results, Tryz.results49], rfl, _, World.drewN_drewN _ _ _⟩
/-- The iterator in a block stands at another place. -/
def setIt (W : World) (b : Nat) (s : ByteArray) (p : Nat) : World := { W with heap := W.heap.setIfInBounds b (.stringIter s p) }
theorem setIt_heap (W : World) (b : Nat) (s : ByteArray) (p : Nat) (hb : b < W.heap.size) : (setIt W b s p).heap[b]? = some (.stringIter s p) := by simp [setIt, hb]
theorem setIt_grown {w W : World} (b : Nat) (s : ByteArray) (p : Nat) {row : Option Nat} (h : w.grownBy W row) (hb : w.heap.size ≤ b) : w.grownBy (setIt W b s p) row :=
  ⟨h.os, h.tape, h.output, by simpa [setIt] using h.size, fun k hk hr => by rw [← h.block k hk hr]; simp only [setIt, Array.getElem?_setIfInBounds]; rw [if_neg (by omega)]⟩
theorem setIt_blk {W : World} (b : Nat) (s : ByteArray) (p : Nat) {g : Nat} {t : TypeId} {cs : Array Value} (h : Blk W g t cs) (hb : b ≠ g) : Blk (setIt W b s p) g t cs := by
  unfold Blk at *
  simp only [setIt, Array.getElem?_setIfInBounds]
  rw [if_neg (by omega)]; exact h
theorem run_next_at {P : Program} (W : World) (b : Nat) (s : ByteArray) (pos : Nat) (ty : TypeId) (hb : W.heap[b]? = some (.stringIter s pos)) (h : pos < s.size) (ha : (s[pos]'h).toNat < 128) :
    (Instr.next (.pointer (some ⟨b, 0, none⟩)) true ty).run P W = .ok (.tuple #[.bool true, .int .i64 pos, .int .i32 (s[pos]'h).toNat]) (setIt W b s (pos + 1)) := by
  simp only [Instr.next, getObj, setObj, Sem.run_bind, Sem.run, hb, Result.andThen, h, if_true, decode_ascii s pos h ha]
  simp [goInt, setIt]
theorem run_next_at_end {P : Program} (W : World) (b : Nat) (s : ByteArray) (pos : Nat) (ty : TypeId) (hb : W.heap[b]? = some (.stringIter s pos)) (h : ¬ pos < s.size) :
    (Instr.next (.pointer (some ⟨b, 0, none⟩)) true ty).run P W = .ok (.tuple #[.bool false]) W := by
  simp [Instr.next, getObj, Sem.run, hb, h]
theorem c_lit (S L : ByteArray) (a g x : Nat) (w : World) (hB : Blk w g 70 (TxC S a)) (hs : S.size = 4) (ha : a < S.size) (hx : (S[a]'ha).toNat = x) (hx1 : x < 128) (hL : L.size = 1) (hl : ∀ h, (L[0]'h).toNat = x) :
    Calls Tryz.prog 65 #[.pointer (some ⟨g, 0, none⟩), .string L] w fun e w' => e = .returned (.tuple #[]) ∧ Blk w' g 70 (TxC S (a + 1)) ∧ w.grownBy w' (some g) := by
  have hi : (a : Int) < 4 := by omega
  have hz : ¬ (4 : Int) ≤ (a : Int) := by omega
  have hg := hB.lt
  have hw1 : IntKind.i32.wrap (x : Int) = x := by
    have : (x : Int) = ((x : Nat) : Int) := rfl
    unfold IntKind.wrap
    simp [IntKind.bits, IntKind.signed]
    omega
  have hw2 : IntKind.i64.wrap ((a : Int) + 1) = ((a + 1 : Nat) : Int) := by rw [IntKind.wrap_i64]; omega
  have HK := Lib.hid hB
  clear hB
  have K0 : Hid (Blk (w.iter L 0) g 70 (TxC S a)) := HK.out.alloc _
  have G0 : Hid (w.grownBy (w.iter L 0) (some g)) := only_alloc (World.grownBy.refl w _) _
  have I0 : Hid ((w.iter L 0).heap[w.heap.size]? = some (.stringIter L 0)) := World.iter_heap w L 0
  go_enter Tryz.func65, Tryz.ntmps65
  go_wp2_with fail
  go_loopw [] (fun wr => ∃ p, p ≤ 1 ∧ Hid (Blk wr g 70 (TxC S (a + p))) ∧ Hid (wr.heap[w.heap.size]? = some (.stringIter L p)) ∧ Hid (w.grownBy wr (some g))) (fun wr => 1 - wr.iterPos w.heap.size)
  case atStart => exact ⟨0, by omega, K0, I0, G0⟩
  case round =>
    obtain ⟨p, hp, KR, IR, GR⟩ := hrel
    rcases (show p = 0 ∨ p = 1 by omega) with rfl | rfl
    · have hnx : ∀ ty, (Instr.next (.pointer (some ⟨w.heap.size, 0, none⟩)) true ty).run Tryz.prog wr = _ := fun ty => run_next_at wr w.heap.size L 0 ty IR.out (by omega) (by rw [hl]; exact hx1)
      have hlt := (Array.getElem?_eq_some_iff.1 IR.out).1
      have K1 := Lib.hid (setIt_blk w.heap.size L 1 KR.out (by omega))
      have G1 := Lib.hid (setIt_grown w.heap.size L 1 GR.out (Nat.le_refl _))
      have I1 := Lib.hid (setIt_heap wr w.heap.size L 1 hlt)
      have c0 : (setIt wr w.heap.size L (0 + 1)).cell? ⟨g, 0, none⟩ = some (.string S) := K1.out.cell 0
      have c1 : (setIt wr w.heap.size L (0 + 1)).cell? ⟨g, 1, none⟩ = some (.int .i64 (a : Int)) := K1.out.cell 1
      have f1 := K1.out.frozen 1
      clear hlt
      rw [hl] at hnx
      generalize hWW : setIt wr w.heap.size L (0 + 1) = w1 at *
      go_wp2_with fail
      go_quiet (fail)
      go_wp2_with fail
      have I2 : ((w1.drewN nq).setCell ⟨g, 1, none⟩ (.int .i64 ((a : Int) + 1))).heap[w.heap.size]? = some (.stringIter L 1) := (Below.heap_setCell _ _ _ _ (by simp only; omega)).trans I1.out
      go_roundw
      case rel => exact ⟨1, Nat.le_refl _, (K1.out.drewN nq).set_ 1 _, I2, only_setCell (only_drewN G1.out nq) (.inl rfl) _⟩
      case measure => simp only [World.iterPos, I2, IR.out]; omega
    · have hnx : ∀ ty, (Instr.next (.pointer (some ⟨w.heap.size, 0, none⟩)) true ty).run Tryz.prog wr = _ := fun ty => run_next_at_end wr w.heap.size L 1 ty IR.out (by omega)
      go_wp2_with fail
      exact ⟨rfl, .tuple #[], by simp [results, Tryz.results65], rfl, KR.out, GR.out⟩
end Go.Proofs.YtigbbogfnchgnaaGreatDoor
namespace Go.Proofs.YtigbbogfnchgnaaGreatDoor
open Go.RowKit Go.Shelf
set_option linter.unusedVariables false
attribute [local go_sem ↓] Go.wp_at_zero Go.wp_at_succ

/-- The text '[1,]', by its bytes. -/
structure Is4 (S T : ByteArray) : Prop where
  size : S.size = 4
  b0 : ∀ h, (S[0]'h).toNat = 91
  b1 : ∀ h, (S[1]'h).toNat = 49
  b2 : ∀ h, (S[2]'h).toNat = 44
  b3 : ∀ h, (S[3]'h).toNat = 93
  ex : S.extract 1 2 = T
  len : T.size = 1
  row : T.data.toList = [49]
  ne : (T.toList == [45, 48]) = false
theorem is4 : Is4 ⟨#[91, 49, 44, 93]⟩ ⟨#[49]⟩ := ⟨rfl, fun _ => rfl, fun _ => rfl, fun _ => rfl, fun _ => rfl, by decide +kernel, rfl, rfl, by decide +kernel⟩
def txPos (W : World) (g : Nat) : Nat := match W.cell? ⟨g, 1, none⟩ with | some (.int _ i) => i.toNat | _ => 0
set_option maxRecDepth 100000 in
set_option maxHeartbeats 1000000 in
theorem c_int (S T : ByteArray) (g : Nat) (w : World) (hS : Is4 S T) (hB : Blk w g 70 (TxC S 1))
    (hPI : ∀ W, Calls Tryz.prog 78 #[.string T, .int .i64 10, .int .i64 64] W fun e w' => e = .returned (.tuple #[.int .i64 1, .nilIface]) ∧ Below W.heap.size W w') :
    Calls Tryz.prog 66 #[.pointer (some ⟨g, 0, none⟩)] w fun e w' => e = .returned (.int .i64 1) ∧ Blk w' g 70 (TxC S 2) ∧ w.grownBy w' (some g) := by
  have hs := hS.size
  have hb1 := hS.b1
  have hb2 := hS.b2
  have hex := hS.ex
  have hlen := hS.len
  have hne := hS.ne
  have HPI := Lib.hid hPI
  have HPK : Hid (∀ W k, Blk W g 70 (TxC S k) → ∀ (h : k < S.size), Calls Tryz.prog 64 #[.pointer (some ⟨g, 0, none⟩)] W fun e w' => e = .returned (.int .u8 ((S[k]'h).toNat : Int)) ∧ ∃ q, w' = W.drewN q) := fun W k hk h => c_peek S k g W hk hs h
  have HK := Lib.hid hB
  have c0 : w.cell? ⟨g, 0, none⟩ = some (.string S) := hB.cell 0
  have c1 : w.cell? ⟨g, 1, none⟩ = some (.int .i64 1) := hB.cell 1
  clear hPI hB hS
  go_enter Tryz.func66, Tryz.ntmps66
  go_wp2_with fail
  refine (HPK.out w 1 HK.out (by omega)).mono ?_
  rintro e w1 ⟨rfl, q, rfl⟩
  rw [hb1]
  go_wp2_with fail
  go_loopw [] (fun wr => ∃ p : Nat, (p = 1 ∨ p = 2) ∧ Hid (Blk wr g 70 (TxC S p)) ∧ Hid (w.grownBy wr (some g))) (fun wr => 2 - txPos wr g)
  case atStart => exact ⟨1, .inl rfl, HK.out.drewN q, only_drewN (World.grownBy.refl w _) q⟩
  case round =>
    obtain ⟨p, hp, KR, GR⟩ := hrel
    clear c0 c1
    rcases hp with rfl | rfl
    · have c0 : wr.cell? ⟨g, 0, none⟩ = some (.string S) := KR.out.cell 0
      have c1 : wr.cell? ⟨g, 1, none⟩ = some (.int .i64 1) := KR.out.cell 1
      have f1 := KR.out.frozen 1
      go_wp2_with fail
      go_quiet (fail)
      go_wp2_with fail
      have K2 : Blk ((wr.drewN nq).setCell ⟨g, 1, none⟩ (.int .i64 2)) g 70 (TxC S 2) := (KR.out.drewN nq).set_ 1 _
      have m1 : txPos ((wr.drewN nq).setCell ⟨g, 1, none⟩ (.int .i64 2)) g = 2 := by unfold txPos; rw [K2.cell 1]; rfl
      have m2 : txPos wr g = 1 := by unfold txPos; rw [KR.out.cell 1]; rfl
      go_roundw
      case rel => exact ⟨2, .inr rfl, K2, only_setCell (only_drewN GR.out nq) (.inl rfl) _⟩
      case measure => rw [m1, m2]; omega
    · have c0 : wr.cell? ⟨g, 0, none⟩ = some (.string S) := KR.out.cell 0
      have c1 : wr.cell? ⟨g, 1, none⟩ = some (.int .i64 2) := KR.out.cell 1
      go_wp2_with fail
      go_quiet (fail)
      go_wp2_with fail
      go_quiet (fail)
      go_wp2_with fail
      have kl := KR.out.lt
      generalize hV5 : (wr.drewN _).drewN _ = w5
      obtain ⟨n5, hW5⟩ : ∃ n, w5 = wr.drewN n := ⟨_, hV5.symm.trans (World.drewN_drewN _ _ _)⟩
      clear hV5
      have K5 : Hid (Blk w5 g 70 (TxC S 2)) := by rw [hW5]; exact KR.out.drewN _
      have G5 : Hid (w.grownBy w5 (some g)) := by rw [hW5]; exact only_drewN GR.out _
      clear hW5 c0 c1 KR GR
      have c0 : w5.cell? ⟨g, 0, none⟩ = some (.string S) := K5.out.cell 0
      have c1 : w5.cell? ⟨g, 1, none⟩ = some (.int .i64 2) := K5.out.cell 1
      have hlt : g < w5.heap.size := K5.out.lt
      go_region_held3 (fun V => V.cell? ⟨g, 0, none⟩ = some (.string S) ∧ V.cell? ⟨g, 1, none⟩ = some (.int .i64 2)) (first | go_keep | (refine ⟨?_, ?_⟩ <;> assumption)) ((go_at_call 78; refine (HPI.out _).mono ?_; rintro x w6 ⟨rfl, hb6⟩; have l0 := (hb6.cell (p := ⟨g, 0, none⟩) hlt).trans c0; have l1 := (hb6.cell (p := ⟨g, 1, none⟩) hlt).trans c1))
      go_wp2_with fail
      go_ret
      exact ⟨rfl, K5.out.below (B := w5.heap.size) ⟨hb6.os, hb6.tape, hb6.output, hb6.size, hb6.block⟩ hlt, Lib.grownBy_below G5.out ⟨hb6.os, hb6.tape, hb6.output, hb6.size, hb6.block⟩⟩
theorem c_PI {S T : ByteArray} (hS : Is4 S T) (w : World) : Calls Tryz.prog 78 #[.string T, .int .i64 10, .int .i64 64] w fun e w' => e = .returned (.tuple #[.int .i64 1, .nilIface]) ∧ Below w.heap.size w w' := by
  have hlen := hS.len
  have H : Hid (∀ W, Calls Tryz.prog 86 #[.string T, .int .i64 10, .int .i64 64] W fun e w' => e = .returned (.tuple #[.int .i64 1, .nilIface]) ∧ Below W.heap.size W w') := fun W => by
    refine (Any.internal_strconv_ParseInt_10_at64 lays247 T (by omega) (by omega) W).mono ?_
    rintro e w' ⟨h1, h2⟩
    rw [hS.row] at h1
    refine ⟨h1, ?_⟩
    rcases h2 with rfl | ⟨t, rfl⟩
    · exact Below.refl _ _
    · exact Lib.bytesWorld_below _ _ _
  clear hS
  go_enter Tryz.func78, Tryz.ntmps78
  go_wp2_with (go_at_call 86; refine (H.out _).mono ?_; rintro e w1 ⟨rfl, hb1⟩)
  go_ret2
  exact ⟨rfl, hb1⟩
end Go.Proofs.YtigbbogfnchgnaaGreatDoor
namespace Go.Proofs.YtigbbogfnchgnaaGreatDoor
open Go.RowKit Go.Shelf
set_option linter.unusedVariables false
attribute [local go_sem ↓] Go.wp_at_zero Go.wp_at_succ

abbrev v21 : List Value := [.int .i64 2, .int .i64 1, .float .f64 0, .string ⟨#[]⟩, .slice none 0 0, .slice none 0 0]
theorem only_new {a b c : World} {g : Nat} (h : a.grownBy b (some g)) (k : b.grownBy c (some a.heap.size)) : a.grownBy c (some g) :=
  ⟨k.os.trans h.os, k.tape.trans h.tape, k.output.trans h.output, Nat.le_trans h.size k.size, fun i hi hr => (k.block i (Nat.lt_of_lt_of_le hi h.size) (fun e => by have := Option.some.inj e; omega)).trans (h.block i hi hr)⟩
theorem only_far {a b c : World} {g x : Nat} (h : a.grownBy b (some g)) (k : b.grownBy c (some x)) (hx : a.heap.size ≤ x) : a.grownBy c (some g) :=
  ⟨k.os.trans h.os, k.tape.trans h.tape, k.output.trans h.output, Nat.le_trans h.size k.size, fun i hi hr => (k.block i (Nat.lt_of_lt_of_le hi h.size) (fun e => by have := Option.some.inj e; omega)).trans (h.block i hi hr)⟩
set_option maxRecDepth 100000 in
set_option maxHeartbeats 1000000 in
theorem c_bare1 (S T : ByteArray) (g : Nat) (w : World) (hS : Is4 S T) (hB : Blk w g 70 (TxC S 1)) :
    Calls Tryz.prog 50 #[.pointer (some ⟨g, 0, none⟩)] w fun e w' => e = .returned (.agg v21.toArray) ∧ Blk w' g 70 (TxC S 2) ∧ w.grownBy w' (some g) := by
  have hs := hS.size
  have hb1 := hS.b1
  have hlt := hB.lt
  have HIN : Hid (∀ W, Blk W g 70 (TxC S 1) → Calls Tryz.prog 66 #[.pointer (some ⟨g, 0, none⟩)] W fun e w' => e = .returned (.int .i64 1) ∧ Blk w' g 70 (TxC S 2) ∧ W.grownBy w' (some g)) := fun W h => c_int S T g W hS h (fun W => c_PI hS W)
  have HK := Lib.hid (hB.alloc (.cells vz 26))
  have HR := Lib.hid (Blk.new w 26 vz)
  have HG : Hid (w.grownBy (w.alloc (.cells vz 26)) (some g)) := only_alloc (World.grownBy.refl w _) _
  clear hS hB
  go_enter Tryz.func50, Tryz.ntmps50
  go_upto_region 1 with fail
  unfold vz at *
  generalize w.alloc (.cells #[.int .i64 0, .int .i64 0, .float .f64 0, .string ⟨#[]⟩, .slice none 0 0, .slice none 0 0] 26) = w0 at *
  go_wp2_with fail
  refine (c_peek S 1 g _ HK.out hs (by omega)).mono ?_
  rintro e w1 ⟨rfl, q, hq⟩
  rw [hb1]
  have HK1 : Hid (Blk w1 g 70 (TxC S 1)) := by rw [hq]; exact HK.out.drewN q
  have HG1 : Hid (w.grownBy w1 (some g)) := by rw [hq]; exact only_drewN HG.out q
  have HR1 : Hid (Blk w1 w.heap.size 26 vz) := by rw [hq]; exact HR.out.drewN q
  clear hq HK HG HR
  go_wp2_with fail
  refine (HIN.out _ HK1.out).mono ?_
  rintro e w2 ⟨rfl, hk2, hg2⟩
  have HK2 := Lib.hid hk2
  have HG2 := Lib.hid (only_trans HG1.out hg2)
  have HR2 := Lib.hid (HR1.out.grown hg2 (by intro e; have := Option.some.inj e; omega))
  clear hk2 hg2 HK1 HG1 HR1
  go_wp2_with (refine wpList_storeB rfl 26 (.tmp 2) (.tmp 37) rfl rfl w.heap.size v21.toArray rfl rfl HR2.out v_info rfl rfl ?_; intro w3 hB3 hg3 hz3)
  exact bodyPost_ret (results_cellB (p := 2) rfl _ hB3 _ rfl Tryz.underlying26 rfl v_info) rfl ⟨rfl, HK2.out.grown hg3 (by intro e; have := Option.some.inj e; omega), only_new HG2.out hg3⟩
set_option maxRecDepth 100000 in
set_option maxHeartbeats 1000000 in
theorem c_bare3 (S T : ByteArray) (g : Nat) (w : World) (hS : Is4 S T) (hB : Blk w g 70 (TxC S 3)) :
    Calls Tryz.prog 50 #[.pointer (some ⟨g, 0, none⟩)] w fun e w' => e = .panicked [flt3] ∧ w.grownBy w' (some g) := by
  have hs := hS.size
  have hb1 := hS.b3
  have hlt := hB.lt
  have HK := Lib.hid (hB.alloc (.cells vz 26))
  have HG : Hid (w.grownBy (w.alloc (.cells vz 26)) (some g)) := only_alloc (World.grownBy.refl w _) _
  clear hS hB
  go_enter Tryz.func50, Tryz.ntmps50
  go_upto_region 1 with fail
  unfold vz at *
  generalize w.alloc (.cells #[.int .i64 0, .int .i64 0, .float .f64 0, .string ⟨#[]⟩, .slice none 0 0, .slice none 0 0] 26) = w0 at *
  go_wp2_with fail
  refine (c_peek S 3 g _ HK.out hs (by omega)).mono ?_
  rintro e w1 ⟨rfl, q, hq⟩
  rw [hb1]
  have HK1 : Hid (Blk w1 g 70 (TxC S 3)) := by rw [hq]; exact HK.out.drewN q
  have HG1 : Hid (w.grownBy w1 (some g)) := by rw [hq]; exact only_drewN HG.out q
  have c1 : w1.cell? ⟨g, 1, none⟩ = some (.int .i64 3) := HK1.out.cell 1
  clear hq HK HG
  go_wp2_with fail
  refine (c_tfail g _).mono ?_
  rintro e w2 ⟨rfl, rfl⟩
  exact ⟨rfl, rfl, HG1.out⟩
set_option maxRecDepth 100000 in
set_option maxHeartbeats 1000000 in
theorem c_bare0 (S T : ByteArray) (g : Nat) (w : World) (hS : Is4 S T) (hB : Blk w g 70 (TxC S 0))
    (hL : ∀ W, Blk W g 70 (TxC S 0) → Calls Tryz.prog 70 #[.pointer (some ⟨g, 0, none⟩)] W fun e w' => e = .panicked [flt3] ∧ W.grownBy w' (some g)) :
    Calls Tryz.prog 50 #[.pointer (some ⟨g, 0, none⟩)] w fun e w' => e = .panicked [flt3] ∧ w.grownBy w' (some g) := by
  have hs := hS.size
  have hb1 := hS.b0
  have hlt := hB.lt
  have HL := Lib.hid hL
  have HK := Lib.hid (hB.alloc (.cells vz 26))
  have HG : Hid (w.grownBy (w.alloc (.cells vz 26)) (some g)) := only_alloc (World.grownBy.refl w _) _
  clear hS hB hL
  go_enter Tryz.func50, Tryz.ntmps50
  go_upto_region 1 with fail
  unfold vz at *
  generalize w.alloc (.cells #[.int .i64 0, .int .i64 0, .float .f64 0, .string ⟨#[]⟩, .slice none 0 0, .slice none 0 0] 26) = w0 at *
  go_wp2_with fail
  refine (c_peek S 0 g _ HK.out hs (by omega)).mono ?_
  rintro e w1 ⟨rfl, q, hq⟩
  rw [hb1]
  have HK1 : Hid (Blk w1 g 70 (TxC S 0)) := by rw [hq]; exact HK.out.drewN q
  have HG1 : Hid (w.grownBy w1 (some g)) := by rw [hq]; exact only_drewN HG.out q
  clear hq HK HG
  go_wp2_with fail
  refine (HL.out _ HK1.out).mono ?_
  rintro e w2 ⟨rfl, hg2⟩
  exact ⟨rfl, rfl, only_trans HG1.out hg2⟩
end Go.Proofs.YtigbbogfnchgnaaGreatDoor
namespace Go.Proofs.YtigbbogfnchgnaaGreatDoor
open Go.RowKit Go.Shelf
set_option linter.unusedVariables false
attribute [local go_sem ↓] Go.wp_at_zero Go.wp_at_succ

set_option maxRecDepth 100000 in
set_option maxHeartbeats 1000000 in
theorem c_value1 (S T : ByteArray) (g : Nat) (w : World) (hS : Is4 S T) (hB : Blk w g 70 (TxC S 1)) :
    Calls Tryz.prog 37 #[.pointer (some ⟨g, 0, none⟩)] w fun e w' => e = .returned (.agg v21.toArray) ∧ Blk w' g 70 (TxC S 2) ∧ w.grownBy w' (some g) := by
  have hs := hS.size
  have hlt := hB.lt
  have HBR : Hid (∀ W, Blk W g 70 (TxC S 1) → Calls Tryz.prog 50 #[.pointer (some ⟨g, 0, none⟩)] W fun e w' => e = .returned (.agg v21.toArray) ∧ Blk w' g 70 (TxC S 2) ∧ W.grownBy w' (some g)) := fun W h => c_bare1 S T g W hS h
  have HB1 : Hid (∀ W, Blk W g 70 (TxC S 1) → Calls Tryz.prog 49 #[.pointer (some ⟨g, 0, none⟩)] W fun e w' => e = .returned (.tuple #[]) ∧ ∃ k, w' = W.drewN k) := fun W h => c_blanks S 1 g 49 W h hs (by omega) (hS.b1 _) rfl rfl rfl rfl
  have HB2 : Hid (∀ W, Blk W g 70 (TxC S 2) → Calls Tryz.prog 49 #[.pointer (some ⟨g, 0, none⟩)] W fun e w' => e = .returned (.tuple #[]) ∧ ∃ k, w' = W.drewN k) := fun W h => c_blanks S 2 g 44 W h hs (by omega) (hS.b2 _) rfl rfl rfl rfl
  have HK := Lib.hid (hB.alloc (.cells vz 26))
  have HR := Lib.hid (Blk.new w 26 vz)
  have HG : Hid (w.grownBy (w.alloc (.cells vz 26)) (some g)) := only_alloc (World.grownBy.refl w _) _
  clear hS hB
  go_enter Tryz.func37, Tryz.ntmps37
  go_upto_region 1 with fail
  unfold vz at *
  generalize w.alloc (.cells #[.int .i64 0, .int .i64 0, .float .f64 0, .string ⟨#[]⟩, .slice none 0 0, .slice none 0 0] 26) = w0 at *
  go_wp2_with fail
  refine (HB1.out _ HK.out).mono ?_
  rintro e w1 ⟨rfl, q, hq⟩
  have HK1 : Hid (Blk w1 g 70 (TxC S 1)) := by rw [hq]; exact HK.out.drewN q
  have HG1 : Hid (w.grownBy w1 (some g)) := by rw [hq]; exact only_drewN HG.out q
  have HR1 : Hid (Blk w1 w.heap.size 26 vz) := by rw [hq]; exact HR.out.drewN q
  clear hq HK HG HR
  go_wp2_with fail
  refine (HBR.out _ HK1.out).mono ?_
  rintro e w2 ⟨rfl, hk2, hg2⟩
  have HK2 := Lib.hid (hk2.alloc (.cells vz 26))
  have HG2 := Lib.hid (only_alloc (only_trans HG1.out hg2) (.cells vz 26))
  have HR2 := Lib.hid ((HR1.out.grown hg2 (by intro e; have := Option.some.inj e; omega)).alloc (.cells vz 26))
  have HX2 := Lib.hid (Blk.new w2 26 vz)
  have hz2 : w.heap.size < w2.heap.size := Nat.lt_of_lt_of_le HR1.out.lt hg2.size
  clear hk2 hg2 HK1 HG1 HR1
  unfold vz at *
  go_wp2_with (refine wpList_storeB rfl 26 (.tmp 3) (.tmp 7) rfl rfl w2.heap.size v21.toArray rfl rfl HX2.out v_info rfl rfl ?_; intro w3 hB3 hg3 hz3)
  have HK3 : Hid (Blk w3 g 70 (TxC S 2)) := HK2.out.grown hg3 (by intro e; have := Option.some.inj e; omega)
  have HR3 : Hid (Blk w3 w.heap.size 26 vz) := HR2.out.grown hg3 (by intro e; have := Option.some.inj e; omega)
  have HX3 := Lib.hid hB3
  have HG3 : Hid (w.grownBy w3 (some g)) := only_far HG2.out hg3 (by omega)
  clear hB3 hg3 hz3 HK2 HR2 HG2 HX2
  refine (HB2.out _ HK3.out).mono ?_
  rintro e w4 ⟨rfl, q, hq⟩
  have HK4 : Hid (Blk w4 g 70 (TxC S 2)) := by rw [hq]; exact HK3.out.drewN q
  have HG4 : Hid (w.grownBy w4 (some g)) := by rw [hq]; exact only_drewN HG3.out q
  have HR4 : Hid (Blk w4 w.heap.size 26 vz) := by rw [hq]; exact HR3.out.drewN q
  have HX4 : Hid (Blk w4 w2.heap.size 26 v21.toArray) := by rw [hq]; exact HX3.out.drewN q
  clear hq HK3 HG3 HR3 HX3
  go_wp2_with (first
    | (refine wpList_load_row rfl 26 (.tmp 3) rfl w2.heap.size rfl 26 _ (0, 0) _ HX4.out Tryz.underlying26 rfl v_info ?_)
    | (refine wpList_storeB rfl 26 (.tmp 2) (.tmp 10) rfl rfl w.heap.size v21.toArray rfl rfl HR4.out v_info rfl rfl ?_; intro w5 hB5 hg5 hz5))
  exact bodyPost_ret (results_cellB (p := 2) rfl _ hB5 _ rfl Tryz.underlying26 rfl v_info) rfl ⟨rfl, HK4.out.grown hg5 (by intro e; have := Option.some.inj e; omega), only_new HG4.out hg5⟩
set_option maxRecDepth 100000 in
set_option maxHeartbeats 1000000 in
theorem c_value3 (S T : ByteArray) (g : Nat) (w : World) (hS : Is4 S T) (hB : Blk w g 70 (TxC S 3)) :
    Calls Tryz.prog 37 #[.pointer (some ⟨g, 0, none⟩)] w fun e w' => e = .panicked [flt3] ∧ w.grownBy w' (some g) := by
  have hs := hS.size
  have HBR : Hid (∀ W, Blk W g 70 (TxC S 3) → Calls Tryz.prog 50 #[.pointer (some ⟨g, 0, none⟩)] W fun e w' => e = .panicked [flt3] ∧ W.grownBy w' (some g)) := fun W h => c_bare3 S T g W hS h
  have HB1 : Hid (∀ W, Blk W g 70 (TxC S 3) → Calls Tryz.prog 49 #[.pointer (some ⟨g, 0, none⟩)] W fun e w' => e = .returned (.tuple #[]) ∧ ∃ k, w' = W.drewN k) := fun W h => c_blanks S 3 g 93 W h hs (by omega) (hS.b3 _) rfl rfl rfl rfl
  have HK := Lib.hid (hB.alloc (.cells vz 26))
  have HG : Hid (w.grownBy (w.alloc (.cells vz 26)) (some g)) := only_alloc (World.grownBy.refl w _) _
  clear hS hB
  go_enter Tryz.func37, Tryz.ntmps37
  go_upto_region 1 with fail
  unfold vz at *
  generalize w.alloc (.cells #[.int .i64 0, .int .i64 0, .float .f64 0, .string ⟨#[]⟩, .slice none 0 0, .slice none 0 0] 26) = w0 at *
  go_wp2_with fail
  refine (HB1.out _ HK.out).mono ?_
  rintro e w1 ⟨rfl, q, hq⟩
  have HK1 : Hid (Blk w1 g 70 (TxC S 3)) := by rw [hq]; exact HK.out.drewN q
  have HG1 : Hid (w.grownBy w1 (some g)) := by rw [hq]; exact only_drewN HG.out q
  clear hq HK HG
  go_wp2_with fail
  refine (HBR.out _ HK1.out).mono ?_
  rintro e w2 ⟨rfl, hg2⟩
  exact ⟨rfl, rfl, only_trans HG1.out hg2⟩
theorem c_value0 (S T : ByteArray) (g : Nat) (w : World) (hS : Is4 S T) (hB : Blk w g 70 (TxC S 0))
    (hL : ∀ W, Blk W g 70 (TxC S 0) → Calls Tryz.prog 70 #[.pointer (some ⟨g, 0, none⟩)] W fun e w' => e = .panicked [flt3] ∧ W.grownBy w' (some g)) :
    Calls Tryz.prog 37 #[.pointer (some ⟨g, 0, none⟩)] w fun e w' => e = .panicked [flt3] ∧ w.grownBy w' (some g) := by
  have hs := hS.size
  have HBR : Hid (∀ W, Blk W g 70 (TxC S 0) → Calls Tryz.prog 50 #[.pointer (some ⟨g, 0, none⟩)] W fun e w' => e = .panicked [flt3] ∧ W.grownBy w' (some g)) := fun W h => c_bare0 S T g W hS h hL
  have HB1 : Hid (∀ W, Blk W g 70 (TxC S 0) → Calls Tryz.prog 49 #[.pointer (some ⟨g, 0, none⟩)] W fun e w' => e = .returned (.tuple #[]) ∧ ∃ k, w' = W.drewN k) := fun W h => c_blanks S 0 g 91 W h hs (by omega) (hS.b0 _) rfl rfl rfl rfl
  have HK := Lib.hid (hB.alloc (.cells vz 26))
  have HG : Hid (w.grownBy (w.alloc (.cells vz 26)) (some g)) := only_alloc (World.grownBy.refl w _) _
  clear hS hB hL
  go_enter Tryz.func37, Tryz.ntmps37
  go_upto_region 1 with fail
  unfold vz at *
  generalize w.alloc (.cells #[.int .i64 0, .int .i64 0, .float .f64 0, .string ⟨#[]⟩, .slice none 0 0, .slice none 0 0] 26) = w0 at *
  go_wp2_with fail
  refine (HB1.out _ HK.out).mono ?_
  rintro e w1 ⟨rfl, q, hq⟩
  have HK1 : Hid (Blk w1 g 70 (TxC S 0)) := by rw [hq]; exact HK.out.drewN q
  have HG1 : Hid (w.grownBy w1 (some g)) := by rw [hq]; exact only_drewN HG.out q
  clear hq HK HG
  go_wp2_with fail
  refine (HBR.out _ HK1.out).mono ?_
  rintro e w2 ⟨rfl, hg2⟩
  exact ⟨rfl, rfl, only_trans HG1.out hg2⟩
end Go.Proofs.YtigbbogfnchgnaaGreatDoor
namespace Go.Proofs.YtigbbogfnchgnaaGreatDoor
open Go.RowKit Go.Shelf
set_option linter.unusedVariables false
attribute [local go_sem ↓] Go.wp_at_zero Go.wp_at_succ

theorem val_info : (Tryz.prog.info? 26).map (fun i => (i.zero, i.size, i.bytes)) = some (some (.agg vz), 6, 88) := by kernel_rfl
abbrev vlC (A : Option Addr) (n c : Nat) : Array Value := #[.int .i64 6, .int .i64 0, .float .f64 0, .string ⟨#[]⟩, .slice A n c, .slice none 0 0]
theorem own_slice6 {w : World} {base size n : Nat} {e : TypeId} {v : Value} {xs : List Value} (h : w.ownsRow base e size v n xs) : ∃ A c, v = .slice A n c := by
  rcases h.2 with ⟨rfl, rfl⟩ | ⟨g, cap, cur, rfl, _⟩
  · exact ⟨_, _, rfl⟩
  · exact ⟨_, _, rfl⟩
theorem only_none {a b c : World} {g : Nat} (h : a.grownBy b (some g)) (k : b.grownBy c none) : a.grownBy c (some g) :=
  ⟨k.os.trans h.os, k.tape.trans h.tape, k.output.trans h.output, Nat.le_trans h.size k.size, fun i hi hr => (k.block i (Nat.lt_of_lt_of_le hi h.size) (by simp)).trans (h.block i hi hr)⟩
set_option maxRecDepth 100000 in
set_option maxHeartbeats 1000000 in
theorem c_list (S T : ByteArray) (g : Nat) (w : World) (hS : Is4 S T) (hB : Blk w g 70 (TxC S 0)) :
    Calls Tryz.prog 70 #[.pointer (some ⟨g, 0, none⟩)] w fun e w' => e = .panicked [flt3] ∧ w.grownBy w' (some g) := by
  have hs := hS.size
  have hlt := hB.lt
  obtain ⟨i0, hi0, hz0, hz1, hz2⟩ := info_parts val_info
  have HV1 : Hid (∀ W, Blk W g 70 (TxC S 1) → Calls Tryz.prog 37 #[.pointer (some ⟨g, 0, none⟩)] W fun e w' => e = .returned (.agg v21.toArray) ∧ Blk w' g 70 (TxC S 2) ∧ W.grownBy w' (some g)) := fun W h => c_value1 S T g W hS h
  have HV3 : Hid (∀ W, Blk W g 70 (TxC S 3) → Calls Tryz.prog 37 #[.pointer (some ⟨g, 0, none⟩)] W fun e w' => e = .panicked [flt3] ∧ W.grownBy w' (some g)) := fun W h => c_value3 S T g W hS h
  have HB1 : Hid (∀ W, Blk W g 70 (TxC S 1) → Calls Tryz.prog 49 #[.pointer (some ⟨g, 0, none⟩)] W fun e w' => e = .returned (.tuple #[]) ∧ ∃ k, w' = W.drewN k) := fun W h => c_blanks S 1 g 49 W h hs (by omega) (hS.b1 _) rfl rfl rfl rfl
  have HP1 : Hid (∀ W, Blk W g 70 (TxC S 1) → Calls Tryz.prog 64 #[.pointer (some ⟨g, 0, none⟩)] W fun e w' => e = .returned (.int .u8 49) ∧ ∃ k, w' = W.drewN k) := fun W h => by
    have := c_peek S 1 g W h hs (by omega)
    rw [hS.b1] at this; exact this
  have HP2 : Hid (∀ W, Blk W g 70 (TxC S 2) → Calls Tryz.prog 64 #[.pointer (some ⟨g, 0, none⟩)] W fun e w' => e = .returned (.int .u8 44) ∧ ∃ k, w' = W.drewN k) := fun W h => by
    have := c_peek S 2 g W h hs (by omega)
    rw [hS.b2] at this; exact this
  have HL0 : Hid (∀ W, Blk W g 70 (TxC S 0) → Calls Tryz.prog 65 #[.pointer (some ⟨g, 0, none⟩), .string ⟨#[91]⟩] W fun e w' => e = .returned (.tuple #[]) ∧ Blk w' g 70 (TxC S 1) ∧ W.grownBy w' (some g)) := fun W h => c_lit S ⟨#[91]⟩ 0 g 91 W h hs (by omega) (hS.b0 _) (by decide) rfl (fun _ => rfl)
  have HL2 : Hid (∀ W, Blk W g 70 (TxC S 2) → Calls Tryz.prog 65 #[.pointer (some ⟨g, 0, none⟩), .string ⟨#[44]⟩] W fun e w' => e = .returned (.tuple #[]) ∧ Blk w' g 70 (TxC S 3) ∧ W.grownBy w' (some g)) := fun W h => c_lit S ⟨#[44]⟩ 2 g 44 W h hs (by omega) (hS.b2 _) (by decide) rfl (fun _ => rfl)
  have HK := Lib.hid ((hB.alloc (.cells vz 26)).alloc (.cells vz 26))
  have HR := Lib.hid (Blk.new (w.alloc (.cells vz 26)) 26 vz)
  have HG : Hid (w.grownBy ((w.alloc (.cells vz 26)).alloc (.cells vz 26)) (some g)) := only_alloc (only_alloc (World.grownBy.refl w _) _) _
  clear hS hB
  go_enter Tryz.func70, Tryz.ntmps70
  unfold vz at *
  rw [World.size_alloc] at HR
  go_wp2_with (refine wpList_storeB rfl 26 (.tmp 3) (.tmp 4) rfl rfl (w.heap.size + 1) (vlC none 0 0) (by simp [Act.eval]) rfl HR.out v_info rfl rfl ?_; intro w1 hB1 hg1 hy1)
  have HK1 : Hid (Blk w1 g 70 (TxC S 0)) := HK.out.grown hg1 (by intro e; have := Option.some.inj e; omega)
  have HX1 := Lib.hid hB1
  have HG1 : Hid (w.grownBy w1 (some g)) := only_far HG.out hg1 (by omega)
  clear hB1 hg1 hy1 HK HR HG
  refine (HL0.out _ HK1.out).mono ?_
  rintro e w2 ⟨rfl, hk2, hg2⟩
  have HK2 := Lib.hid hk2
  have HG2 : Hid (w.grownBy w2 (some g)) := only_trans HG1.out hg2
  have HX2 : Hid (Blk w2 (w.heap.size + 1) 26 (vlC none 0 0)) := HX1.out.grown hg2 (by intro e; have := Option.some.inj e; omega)
  clear hk2 hg2 HK1 HG1 HX1
  go_wp2_with fail
  refine (HB1.out _ HK2.out).mono ?_
  rintro e w3 ⟨rfl, q, hq⟩
  have HK3 : Hid (Blk w3 g 70 (TxC S 1)) := by rw [hq]; exact HK2.out.drewN q
  have HG3 : Hid (w.grownBy w3 (some g)) := by rw [hq]; exact only_drewN HG2.out q
  have HX3 : Hid (Blk w3 (w.heap.size + 1) 26 (vlC none 0 0)) := by rw [hq]; exact HX2.out.drewN q
  clear hq HK2 HG2 HX2
  go_wp2_with fail
  refine (HP1.out _ HK3.out).mono ?_
  rintro e w4 ⟨rfl, q, hq⟩
  have HK4 : Hid (Blk w4 g 70 (TxC S 1)) := by rw [hq]; exact HK3.out.drewN q
  have HG4 : Hid (w.grownBy w4 (some g)) := by rw [hq]; exact only_drewN HG3.out q
  have HX4 : Hid (Blk w4 (w.heap.size + 1) 26 (vlC none 0 0)) := by rw [hq]; exact HX3.out.drewN q
  clear hq HK3 HG3 HX3
  go_wp2_with fail
  go_loopw [] (fun wr => ∃ (p : Nat) (A : Option Addr) (n c : Nat), (p = 1 ∧ A = none ∧ n = 0 ∧ c = 0 ∨ p = 3) ∧ Hid (Blk wr g 70 (TxC S p)) ∧ Hid (w.grownBy wr (some g)) ∧ Hid (Blk wr (w.heap.size + 1) 26 (vlC A n c))) (fun wr => 3 - txPos wr g)
  case atStart => exact ⟨1, none, 0, 0, .inl ⟨rfl, rfl, rfl, rfl⟩, HK4, HG4, HX4⟩
  case round =>
    obtain ⟨p, A, n, c, hp, KR, GR, XR⟩ := hrel
    clear HK4 HG4 HX4
    have hgx : g < wr.heap.size := KR.out.lt
    have hxx : w.heap.size + 1 < wr.heap.size := XR.out.lt
    rcases hp with ⟨rfl, rfl, rfl, rfl⟩ | rfl
    · have c4 : wr.cell? ⟨w.heap.size + 1, 4, none⟩ = some (.slice none 0 0) := XR.out.cell 4
      go_wp2_with fail
      have hq := i0
      go_region_law (first
        | (go_simp; go_at_call 37; refine (HV1.out _ (Blk.drew KR.out)).mono ?_; rintro e w5 ⟨rfl, hk5, hg5⟩; have HK5 := Lib.hid hk5; have HG5 : Hid (w.grownBy w5 (some g)) := only_trans (only_drew GR.out) hg5; have HX5 : Hid (Blk w5 (w.heap.size + 1) 26 (vlC none 0 0)) := (Blk.drew XR.out).grown hg5 (by intro e; have := Option.some.inj e; omega); have c5 : w5.cell? ⟨w.heap.size + 1, 4, none⟩ = some (.slice none 0 0) := HX5.out.cell 4; have HRA := Lib.hid (Reads.of_own (World.ownsRow_lit (e := 26) (size := 6) (base := 0) w5 v21.toArray 1 (Nat.zero_le _) (by decide) rfl) : Reads (w5.alloc (.cells v21.toArray 26)) _ 6 (some ⟨w5.heap.size, 0, none⟩) 1 v21); have c5a : ∀ o : Obj, (w5.alloc o).cell? ⟨w.heap.size + 1, 4, none⟩ = some (.slice none 0 0) := fun o => (HX5.out.alloc o).cell 4; clear hk5 hg5)
        | ((refine step_append_any _ rfl (.tmp 21) (.tmp 24) 23 rfl w5.heap.size 26 i0 _ 6 88 Tryz.underlying23 hi0 hz0 hz1 hz2 rfl (by omega) (.slice none 0 0) 0 [] (by simp [Act.eval]) (World.ownsRow_nil _ _ _ _) _ (some ⟨w5.heap.size, 0, none⟩) 1 1 v21 (by simp [Act.eval]) HRA.out (by simp [Value.oneCell']) (by simp only [maxLen]; omega) (by omega) (by simp) ?_); intro v6 w6 hown6 hg6 _; obtain ⟨A6, k6, rfl⟩ := own_slice6 hown6; have HX6 : Hid (Blk w6 (w.heap.size + 1) 26 (vlC none 0 0)) := (HX5.out.alloc (.cells v21.toArray 26)).grown hg6 (by simp [Value.ownBlock]); have HK6 : Hid (Blk w6 g 70 (TxC S 2)) := (HK5.out.alloc (.cells v21.toArray 26)).grown hg6 (by simp [Value.ownBlock]); have HG6 : Hid (w.grownBy w6 (some g)) := only_none (only_alloc HG5.out (.cells v21.toArray 26)) hg6; have c6 : w6.cell? ⟨w.heap.size + 1, 4, none⟩ = some (.slice none 0 0) := HX6.out.cell 4; have f6 := HX6.out.frozen 4; clear hown6 hg6))
      all_goals
        clear c4 c5 c5a HRA HX5 HK5 HG5
        have K7 := Lib.hid (HK6.out.far (p := ⟨w.heap.size + 1, 4, none⟩) (by simp only; omega) (.slice A6 1 k6))
        have X7 : Hid (Blk (w6.setCell ⟨w.heap.size + 1, 4, none⟩ (.slice A6 1 k6)) (w.heap.size + 1) 26 (vlC A6 1 k6)) := HX6.out.set_ 4 (.slice A6 1 k6)
        have G7 : Hid (w.grownBy (w6.setCell ⟨w.heap.size + 1, 4, none⟩ (.slice A6 1 k6)) (some g)) := only_setCell HG6.out (.inr (by simp only; omega)) _
        clear HK6 HX6 HG6 c6 f6
        generalize w6.setCell ⟨w.heap.size + 1, 4, none⟩ (.slice A6 1 k6) = w7 at *
        go_wp2_with fail
        refine (HP2.out _ K7.out).mono ?_
        rintro e w8 ⟨rfl, q, hq⟩
        have K8 : Hid (Blk w8 g 70 (TxC S 2)) := by rw [hq]; exact K7.out.drewN q
        have X8 : Hid (Blk w8 (w.heap.size + 1) 26 (vlC A6 1 k6)) := by rw [hq]; exact X7.out.drewN q
        have G8 : Hid (w.grownBy w8 (some g)) := by rw [hq]; exact only_drewN G7.out q
        clear hq K7 X7 G7
        go_wp2_with fail
        refine (HL2.out _ K8.out).mono ?_
        rintro e w9 ⟨rfl, hk9, hg9⟩
        have X9 : Hid (Blk w9 (w.heap.size + 1) 26 (vlC A6 1 k6)) := X8.out.grown hg9 (by intro e; have := Option.some.inj e; omega)
        have G9 : Hid (w.grownBy w9 (some g)) := only_trans G8.out hg9
        have m1 : txPos w9 g = 3 := by unfold txPos; rw [hk9.cell 1]; rfl
        have m2 : txPos wr g = 1 := by unfold txPos; rw [KR.out.cell 1]; rfl
        have K9 := Lib.hid hk9
        clear hg9 K8 X8 G8 hk9
        go_wp2_with fail
        go_roundw
        case rel => exact ⟨3, A6, 1, k6, .inr rfl, K9, G9, X9⟩
        case measure => rw [m1, m2]; omega
    · have c4 : wr.cell? ⟨w.heap.size + 1, 4, none⟩ = some (.slice A n c) := XR.out.cell 4
      go_wp2_with fail
      refine wp_region_any (by kernel_rfl) ?_
      try (change wpAny _ _ _ _ _ _ _ (World.drew _))
      refine wpAny_take (i := 0) (v := .pointer (some ⟨w.heap.size + 1, 4, none⟩)) rfl (by kernel_rfl) (by kernel_rfl) (by kernel_rfl) (fun _ _ _ h => h) (Or.inl ⟨by rfl, fun w => by go_simp⟩) ?_
      refine wpAny_take (i := 2) (v := .pointer (some ⟨g, 0, none⟩)) rfl (by kernel_rfl) (by kernel_rfl) (by kernel_rfl) (fun _ _ _ h => h) (Or.inl ⟨by rfl, fun w => by go_simp⟩) ?_
      refine wpAny_ready (rs := [1, 3]) (by kernel_rfl) (by simp) ?_
      refine AllReady.cons rfl (fun K hK => ?_) ?_
      · go_simp
        refine hK _ _ ?_
        clear hK K
        refine wpAny_ready (rs := [3]) (by kernel_rfl) (by simp) ?_
        refine AllReady.cons rfl (fun K hK => ?_) AllReady.nil
        go_simp
        refine (HV3.out _ (Blk.drew KR.out)).mono ?_
        rintro e w5 ⟨rfl, hg5⟩
        exact ⟨rfl, rfl, only_trans (only_drew GR.out) hg5⟩
      · refine AllReady.cons rfl (fun K hK => ?_) AllReady.nil
        go_simp
        refine (HV3.out _ (Blk.drew KR.out)).mono ?_
        rintro e w5 ⟨rfl, hg5⟩
        exact ⟨rfl, rfl, only_trans (only_drew GR.out) hg5⟩
end Go.Proofs.YtigbbogfnchgnaaGreatDoor
namespace Go.Proofs.YtigbbogfnchgnaaGreatDoor
open Go.RowKit Go.Shelf
set_option linter.unusedVariables false
attribute [local go_sem ↓] Go.wp_at_zero Go.wp_at_succ

theorem step_storeB {P : Program} {ops : Array Oper} {o : Oper} {a : Act} {w : World} {K : Act → World → Prop} {Q : Exit → Act → World → Prop} {E : Prop} (hgd : o.guard = none) (ty : TypeId) (x y : Operand) (ho : o.op = .store ty x y) (hdst : o.dst = none)
    (g : Nat) (cs' : Array Value) (hx : a.eval x = .pointer (some ⟨g, 0, none⟩)) (hy : a.eval y = .agg cs') {t : TypeId} {cs : Array Value} (hg : Blk w g t cs) (hi : (P.info? ty).map (·.size) = some cs'.size) (hs : cs.size = cs'.size) (h1' : cs'.toList.all (·.oneCell') = true)
    (h : ∀ w', Blk w' g t cs' → w.grownBy w' (some g) → w'.heap.size = w.heap.size → K a w') : if Region.wanted o (yielded ops a.tmps) = true then Oper.wp P o a w K Q else E := by
  have h1 : cs'.all (·.oneCell') = true := by rw [← Array.all_toList]; exact h1'
  have hw : Region.wanted o (yielded ops a.tmps) = true := by simp [Region.wanted, hgd]
  rw [if_pos hw]
  unfold Oper.wp execOp
  simp only [ho, hx, hy, Instr.storeAt, Instr.sureAddr, Sem.run_bind, Sem.run_pure, Result.andThen_ok, run_storeVar_row w g t ty cs cs' hg hi hs h1]
  have := h (w.setRow g cs') (hg.setRow cs') (only_setRow w g cs') (by simp)
  simpa [Oper.upon, Act.put, hdst] using this
theorem ta_fault (x : Value) (W : World) : (Instr.typeAssert (.iface 67 x) 20 67 false).run Tryz.prog W = .ok x W := by kernel_rfl
set_option maxRecDepth 100000 in
set_option maxHeartbeats 1000000 in
theorem c_Parse1 (B a b c : Nat) (w : World) (hA : Blk w a 26 vz) (hB : Blk w b 3 #[.int .i64 0]) (hC : Blk w c 27 #[.int .i64 0]) (h1 : B ≤ a) (h2 : B ≤ b) (h3 : B ≤ c) :
    CallsD Tryz.prog 36 #[.pointer (some ⟨a, 0, none⟩), .pointer (some ⟨b, 0, none⟩), .pointer (some ⟨c, 0, none⟩)] (.panicking [flt3]) w fun e u' w' =>
      e = .returned (.tuple #[]) ∧ u' = .panicking [{ v := .iface 67 (.agg #[.int .i64 3, .int .i64 4]), recovered := true }] ∧
      Blk w' a 26 vz ∧ Blk w' b 3 #[.int .i64 3] ∧ Blk w' c 27 #[.int .i64 4] ∧ Below B w w' := by
  have hab : a ≠ b := hA.ne_ hB (by decide)
  have hac : a ≠ c := hA.ne_ hC (by decide)
  have hbc : b ≠ c := hB.ne_ hC (by decide)
  refine callsD_of_wpS Tryz.func36 rfl fun c₀ cs hu => ?_
  simp only [Tryz.ntmps36, List.size_toArray, List.length_cons, List.length_nil, Nat.reduceAdd, Nat.reduceSub, Array.replicate_succ, Array.replicate_zero, List.push_toArray, List.append_toArray, List.nil_append, List.cons_append]
  apply wpS_seq
  apply wpS_region
  simp [wpOpsS, go_sem, recoverD, hu, Exit.thenS]
  apply wpS_seq
  apply wpS_region
  simp [wpOpsS, go_sem, recoverD, Exit.thenS]
  refine wpS_cond (t := true) (by simp [Act.eval]) ?_
  simp only [if_true]
  refine wpS_of_wp ?_
  have HF := Lib.hid (Blk.new w 67 #[.int .i64 0, .int .i64 0])
  have la := hA.lt
  have HA := Lib.hid (hA.alloc (.cells #[.int .i64 0, .int .i64 0] 67))
  have HB := Lib.hid (hB.alloc (.cells #[.int .i64 0, .int .i64 0] 67))
  have HC := Lib.hid (hC.alloc (.cells #[.int .i64 0, .int .i64 0] 67))
  have HW : Hid (Below B w (w.alloc (.cells #[.int .i64 0, .int .i64 0] 67))) := (Below.refl B w).alloc (by have := hB.lt; omega) _
  have lb := hB.lt
  have lc := hC.lt
  have ta := ta_fault
  clear hA hB hC hu
  go_upto_region 3 with (first
    | (refine wpList_storeB rfl 67 (.tmp 4) (.tmp 9) rfl rfl w.heap.size #[.int .i64 3, .int .i64 4] rfl rfl HF.out (by kernel_rfl) rfl rfl ?_; intro w1 hB1 hg1 hy1))
  replace HW := Lib.hid (HW.out.grown hg1 (by have := HA.out.lt; omega) (fun x e => by have := Option.some.inj e; omega))
  replace HA := Lib.hid (HA.out.grown hg1 (by intro e; have := Option.some.inj e; omega))
  replace HB := Lib.hid (HB.out.grown hg1 (by intro e; have := Option.some.inj e; omega))
  replace HC := Lib.hid (HC.out.grown hg1 (by intro e; have := Option.some.inj e; omega))
  replace HF := Lib.hid hB1
  clear hB1 hg1 hy1 ta
  refine wp_region_any (by kernel_rfl) ?_
  try (change wpAny _ _ _ _ _ _ _ (World.drew _))
  replace HA := Lib.hid HA.out.drew
  replace HB := Lib.hid HB.out.drew
  replace HC := Lib.hid HC.out.drew
  replace HF := Lib.hid HF.out.drew
  replace HW := Lib.hid HW.out.drew
  generalize w1.drew = w2 at *
  refine wpAny_take (i := 0) (v := .agg vz) rfl (by kernel_rfl) (by kernel_rfl) (by kernel_rfl) (fun _ _ _ h => h) (Or.inl ⟨by rfl, fun w => by go_simp⟩) ?_
  refine wpAny_take (i := 1) (v := .pointer (some ⟨w.heap.size, 0, none⟩)) rfl (by kernel_rfl) (by kernel_rfl) (by kernel_rfl) (fun _ _ _ h => h) (Or.inl ⟨by rfl, fun w => by go_simp⟩) ?_
  refine wpAny_take (i := 3) (v := .pointer (some ⟨w.heap.size, 1, none⟩)) rfl (by kernel_rfl) (by kernel_rfl) (by kernel_rfl) (fun _ _ _ h => h) (Or.inl ⟨by rfl, fun w => by go_simp⟩) ?_
  refine wpAny_ready (rs := [2, 4, 5]) (by kernel_rfl) (by simp) ?_
  refine AllReady.cons rfl (fun K hK => ?_) ?_
  · have q0 := HF.out.cell 0
    go_simp
    clear q0
    refine hK _ _ ?_
    clear hK K
    refine wpAny_ready (rs := [4, 5]) (by kernel_rfl) (by simp) ?_
    refine AllReady.cons rfl (fun K hK => ?_) ?_
    · have q0 := HF.out.cell 1
      go_simp
      clear q0
      refine hK _ _ ?_
      clear hK K
      refine wpAny_ready (rs := [5]) (by kernel_rfl) (by simp) ?_
      refine AllReady.cons rfl (fun K hK => ?_) ?_
      · have hsz := HA.out.lt
        refine step_storeB rfl 26 (.tmp 0) (.tmp 10) rfl rfl a vz rfl rfl HA.out v_info rfl rfl ?_
        intro y1 hA5 hg5 hz5
        replace HW := Lib.hid (HW.out.grown hg5 (by omega) (fun x e => by have := Option.some.inj e; omega))
        replace HA := Lib.hid hA5
        replace HB := Lib.hid (HB.out.grown hg5 (by intro e; have := Option.some.inj e; omega))
        replace HC := Lib.hid (HC.out.grown hg5 (by intro e; have := Option.some.inj e; omega))
        replace HF := Lib.hid (HF.out.grown hg5 (by intro e; have := Option.some.inj e; omega))
        clear hA5 hg5 hz5 hsz
        refine hK _ _ ?_
        clear hK K
        refine wpAny_ready (rs := [6]) (by kernel_rfl) (by simp) ?_
        refine AllReady.cons rfl (fun K hK => ?_) ?_
        · have q0 := HB.out.cell 0
          have f0 := HB.out.frozen 0
          go_simp
          clear q0 f0
          replace HA := Lib.hid (HA.out.far (p := ⟨b, 0, none⟩) (by simp only; omega) (.int .i64 3))
          replace HC := Lib.hid (HC.out.far (p := ⟨b, 0, none⟩) (by simp only; omega) (.int .i64 3))
          replace HF := Lib.hid (HF.out.far (p := ⟨b, 0, none⟩) (by simp only; omega) (.int .i64 3))
          replace HB := Lib.hid (HB.out.set_ 0 (.int .i64 3))
          replace HW := Lib.hid (HW.out.setCell (p := ⟨b, 0, none⟩) (by simp only; omega) (.int .i64 3))
          refine hK _ _ ?_
          clear hK K
          refine wpAny_ready (rs := [7]) (by kernel_rfl) (by simp) ?_
          refine AllReady.cons rfl (fun K hK => ?_) ?_
          · have q0 := HC.out.cell 0
            have f0 := HC.out.frozen 0
            go_simp
            clear q0 f0
            replace HA := Lib.hid (HA.out.far (p := ⟨c, 0, none⟩) (by simp only; omega) (.int .i64 4))
            replace HB := Lib.hid (HB.out.far (p := ⟨c, 0, none⟩) (by simp only; omega) (.int .i64 4))
            replace HF := Lib.hid (HF.out.far (p := ⟨c, 0, none⟩) (by simp only; omega) (.int .i64 4))
            replace HC := Lib.hid (HC.out.set_ 0 (.int .i64 4))
            replace HW := Lib.hid (HW.out.setCell (p := ⟨c, 0, none⟩) (by simp only; omega) (.int .i64 4))
            refine hK _ _ ?_
            clear hK K
            refine wpAny_done (by kernel_rfl) ?_ _
            exact ⟨rfl, _, rfl, .tuple #[], by simp [results, Tryz.results36], rfl, rfl, HA.out, HB.out, HC.out, HW.out⟩
          exact AllReady.nil
        exact AllReady.nil
      exact AllReady.nil
    refine AllReady.cons rfl (fun K hK => ?_) ?_
    · have hsz := HA.out.lt
      refine step_storeB rfl 26 (.tmp 0) (.tmp 10) rfl rfl a vz rfl rfl HA.out v_info rfl rfl ?_
      intro y4 hA5 hg5 hz5
      replace HW := Lib.hid (HW.out.grown hg5 (by omega) (fun x e => by have := Option.some.inj e; omega))
      replace HA := Lib.hid hA5
      replace HB := Lib.hid (HB.out.grown hg5 (by intro e; have := Option.some.inj e; omega))
      replace HC := Lib.hid (HC.out.grown hg5 (by intro e; have := Option.some.inj e; omega))
      replace HF := Lib.hid (HF.out.grown hg5 (by intro e; have := Option.some.inj e; omega))
      clear hA5 hg5 hz5 hsz
      refine hK _ _ ?_
      clear hK K
      refine wpAny_ready (rs := [4, 6]) (by kernel_rfl) (by simp) ?_
      refine AllReady.cons rfl (fun K hK => ?_) ?_
      · have q0 := HF.out.cell 1
        go_simp
        clear q0
        refine hK _ _ ?_
        clear hK K
        refine wpAny_ready (rs := [6]) (by kernel_rfl) (by simp) ?_
        refine AllReady.cons rfl (fun K hK => ?_) ?_
        · have q0 := HB.out.cell 0
          have f0 := HB.out.frozen 0
          go_simp
          clear q0 f0
          replace HA := Lib.hid (HA.out.far (p := ⟨b, 0, none⟩) (by simp only; omega) (.int .i64 3))
          replace HC := Lib.hid (HC.out.far (p := ⟨b, 0, none⟩) (by simp only; omega) (.int .i64 3))
          replace HF := Lib.hid (HF.out.far (p := ⟨b, 0, none⟩) (by simp only; omega) (.int .i64 3))
          replace HB := Lib.hid (HB.out.set_ 0 (.int .i64 3))
          replace HW := Lib.hid (HW.out.setCell (p := ⟨b, 0, none⟩) (by simp only; omega) (.int .i64 3))
          refine hK _ _ ?_
          clear hK K
          refine wpAny_ready (rs := [7]) (by kernel_rfl) (by simp) ?_
          refine AllReady.cons rfl (fun K hK => ?_) ?_
          · have q0 := HC.out.cell 0
            have f0 := HC.out.frozen 0
            go_simp
            clear q0 f0
            replace HA := Lib.hid (HA.out.far (p := ⟨c, 0, none⟩) (by simp only; omega) (.int .i64 4))
            replace HB := Lib.hid (HB.out.far (p := ⟨c, 0, none⟩) (by simp only; omega) (.int .i64 4))
            replace HF := Lib.hid (HF.out.far (p := ⟨c, 0, none⟩) (by simp only; omega) (.int .i64 4))
            replace HC := Lib.hid (HC.out.set_ 0 (.int .i64 4))
            replace HW := Lib.hid (HW.out.setCell (p := ⟨c, 0, none⟩) (by simp only; omega) (.int .i64 4))
            refine hK _ _ ?_
            clear hK K
            refine wpAny_done (by kernel_rfl) ?_ _
            exact ⟨rfl, _, rfl, .tuple #[], by simp [results, Tryz.results36], rfl, rfl, HA.out, HB.out, HC.out, HW.out⟩
          exact AllReady.nil
        exact AllReady.nil
      refine AllReady.cons rfl (fun K hK => ?_) ?_
      · have q0 := HB.out.cell 0
        have f0 := HB.out.frozen 0
        go_simp
        clear q0 f0
        replace HA := Lib.hid (HA.out.far (p := ⟨b, 0, none⟩) (by simp only; omega) (.int .i64 3))
        replace HC := Lib.hid (HC.out.far (p := ⟨b, 0, none⟩) (by simp only; omega) (.int .i64 3))
        replace HF := Lib.hid (HF.out.far (p := ⟨b, 0, none⟩) (by simp only; omega) (.int .i64 3))
        replace HB := Lib.hid (HB.out.set_ 0 (.int .i64 3))
        replace HW := Lib.hid (HW.out.setCell (p := ⟨b, 0, none⟩) (by simp only; omega) (.int .i64 3))
        refine hK _ _ ?_
        clear hK K
        refine wpAny_ready (rs := [4]) (by kernel_rfl) (by simp) ?_
        refine AllReady.cons rfl (fun K hK => ?_) ?_
        · have q0 := HF.out.cell 1
          go_simp
          clear q0
          refine hK _ _ ?_
          clear hK K
          refine wpAny_ready (rs := [7]) (by kernel_rfl) (by simp) ?_
          refine AllReady.cons rfl (fun K hK => ?_) ?_
          · have q0 := HC.out.cell 0
            have f0 := HC.out.frozen 0
            go_simp
            clear q0 f0
            replace HA := Lib.hid (HA.out.far (p := ⟨c, 0, none⟩) (by simp only; omega) (.int .i64 4))
            replace HB := Lib.hid (HB.out.far (p := ⟨c, 0, none⟩) (by simp only; omega) (.int .i64 4))
            replace HF := Lib.hid (HF.out.far (p := ⟨c, 0, none⟩) (by simp only; omega) (.int .i64 4))
            replace HC := Lib.hid (HC.out.set_ 0 (.int .i64 4))
            replace HW := Lib.hid (HW.out.setCell (p := ⟨c, 0, none⟩) (by simp only; omega) (.int .i64 4))
            refine hK _ _ ?_
            clear hK K
            refine wpAny_done (by kernel_rfl) ?_ _
            exact ⟨rfl, _, rfl, .tuple #[], by simp [results, Tryz.results36], rfl, rfl, HA.out, HB.out, HC.out, HW.out⟩
          exact AllReady.nil
        exact AllReady.nil
      exact AllReady.nil
    exact AllReady.nil
  refine AllReady.cons rfl (fun K hK => ?_) ?_
  · have q0 := HF.out.cell 1
    go_simp
    clear q0
    refine hK _ _ ?_
    clear hK K
    refine wpAny_ready (rs := [2, 5]) (by kernel_rfl) (by simp) ?_
    refine AllReady.cons rfl (fun K hK => ?_) ?_
    · have q0 := HF.out.cell 0
      go_simp
      clear q0
      refine hK _ _ ?_
      clear hK K
      refine wpAny_ready (rs := [5]) (by kernel_rfl) (by simp) ?_
      refine AllReady.cons rfl (fun K hK => ?_) ?_
      · have hsz := HA.out.lt
        refine step_storeB rfl 26 (.tmp 0) (.tmp 10) rfl rfl a vz rfl rfl HA.out v_info rfl rfl ?_
        intro y9 hA5 hg5 hz5
        replace HW := Lib.hid (HW.out.grown hg5 (by omega) (fun x e => by have := Option.some.inj e; omega))
        replace HA := Lib.hid hA5
        replace HB := Lib.hid (HB.out.grown hg5 (by intro e; have := Option.some.inj e; omega))
        replace HC := Lib.hid (HC.out.grown hg5 (by intro e; have := Option.some.inj e; omega))
        replace HF := Lib.hid (HF.out.grown hg5 (by intro e; have := Option.some.inj e; omega))
        clear hA5 hg5 hz5 hsz
        refine hK _ _ ?_
        clear hK K
        refine wpAny_ready (rs := [6]) (by kernel_rfl) (by simp) ?_
        refine AllReady.cons rfl (fun K hK => ?_) ?_
        · have q0 := HB.out.cell 0
          have f0 := HB.out.frozen 0
          go_simp
          clear q0 f0
          replace HA := Lib.hid (HA.out.far (p := ⟨b, 0, none⟩) (by simp only; omega) (.int .i64 3))
          replace HC := Lib.hid (HC.out.far (p := ⟨b, 0, none⟩) (by simp only; omega) (.int .i64 3))
          replace HF := Lib.hid (HF.out.far (p := ⟨b, 0, none⟩) (by simp only; omega) (.int .i64 3))
          replace HB := Lib.hid (HB.out.set_ 0 (.int .i64 3))
          replace HW := Lib.hid (HW.out.setCell (p := ⟨b, 0, none⟩) (by simp only; omega) (.int .i64 3))
          refine hK _ _ ?_
          clear hK K
          refine wpAny_ready (rs := [7]) (by kernel_rfl) (by simp) ?_
          refine AllReady.cons rfl (fun K hK => ?_) ?_
          · have q0 := HC.out.cell 0
            have f0 := HC.out.frozen 0
            go_simp
            clear q0 f0
            replace HA := Lib.hid (HA.out.far (p := ⟨c, 0, none⟩) (by simp only; omega) (.int .i64 4))
            replace HB := Lib.hid (HB.out.far (p := ⟨c, 0, none⟩) (by simp only; omega) (.int .i64 4))
            replace HF := Lib.hid (HF.out.far (p := ⟨c, 0, none⟩) (by simp only; omega) (.int .i64 4))
            replace HC := Lib.hid (HC.out.set_ 0 (.int .i64 4))
            replace HW := Lib.hid (HW.out.setCell (p := ⟨c, 0, none⟩) (by simp only; omega) (.int .i64 4))
            refine hK _ _ ?_
            clear hK K
            refine wpAny_done (by kernel_rfl) ?_ _
            exact ⟨rfl, _, rfl, .tuple #[], by simp [results, Tryz.results36], rfl, rfl, HA.out, HB.out, HC.out, HW.out⟩
          exact AllReady.nil
        exact AllReady.nil
      exact AllReady.nil
    refine AllReady.cons rfl (fun K hK => ?_) ?_
    · have hsz := HA.out.lt
      refine step_storeB rfl 26 (.tmp 0) (.tmp 10) rfl rfl a vz rfl rfl HA.out v_info rfl rfl ?_
      intro y12 hA5 hg5 hz5
      replace HW := Lib.hid (HW.out.grown hg5 (by omega) (fun x e => by have := Option.some.inj e; omega))
      replace HA := Lib.hid hA5
      replace HB := Lib.hid (HB.out.grown hg5 (by intro e; have := Option.some.inj e; omega))
      replace HC := Lib.hid (HC.out.grown hg5 (by intro e; have := Option.some.inj e; omega))
      replace HF := Lib.hid (HF.out.grown hg5 (by intro e; have := Option.some.inj e; omega))
      clear hA5 hg5 hz5 hsz
      refine hK _ _ ?_
      clear hK K
      refine wpAny_ready (rs := [2]) (by kernel_rfl) (by simp) ?_
      refine AllReady.cons rfl (fun K hK => ?_) ?_
      · have q0 := HF.out.cell 0
        go_simp
        clear q0
        refine hK _ _ ?_
        clear hK K
        refine wpAny_ready (rs := [6]) (by kernel_rfl) (by simp) ?_
        refine AllReady.cons rfl (fun K hK => ?_) ?_
        · have q0 := HB.out.cell 0
          have f0 := HB.out.frozen 0
          go_simp
          clear q0 f0
          replace HA := Lib.hid (HA.out.far (p := ⟨b, 0, none⟩) (by simp only; omega) (.int .i64 3))
          replace HC := Lib.hid (HC.out.far (p := ⟨b, 0, none⟩) (by simp only; omega) (.int .i64 3))
          replace HF := Lib.hid (HF.out.far (p := ⟨b, 0, none⟩) (by simp only; omega) (.int .i64 3))
          replace HB := Lib.hid (HB.out.set_ 0 (.int .i64 3))
          replace HW := Lib.hid (HW.out.setCell (p := ⟨b, 0, none⟩) (by simp only; omega) (.int .i64 3))
          refine hK _ _ ?_
          clear hK K
          refine wpAny_ready (rs := [7]) (by kernel_rfl) (by simp) ?_
          refine AllReady.cons rfl (fun K hK => ?_) ?_
          · have q0 := HC.out.cell 0
            have f0 := HC.out.frozen 0
            go_simp
            clear q0 f0
            replace HA := Lib.hid (HA.out.far (p := ⟨c, 0, none⟩) (by simp only; omega) (.int .i64 4))
            replace HB := Lib.hid (HB.out.far (p := ⟨c, 0, none⟩) (by simp only; omega) (.int .i64 4))
            replace HF := Lib.hid (HF.out.far (p := ⟨c, 0, none⟩) (by simp only; omega) (.int .i64 4))
            replace HC := Lib.hid (HC.out.set_ 0 (.int .i64 4))
            replace HW := Lib.hid (HW.out.setCell (p := ⟨c, 0, none⟩) (by simp only; omega) (.int .i64 4))
            refine hK _ _ ?_
            clear hK K
            refine wpAny_done (by kernel_rfl) ?_ _
            exact ⟨rfl, _, rfl, .tuple #[], by simp [results, Tryz.results36], rfl, rfl, HA.out, HB.out, HC.out, HW.out⟩
          exact AllReady.nil
        exact AllReady.nil
      exact AllReady.nil
    exact AllReady.nil
  refine AllReady.cons rfl (fun K hK => ?_) ?_
  · have hsz := HA.out.lt
    refine step_storeB rfl 26 (.tmp 0) (.tmp 10) rfl rfl a vz rfl rfl HA.out v_info rfl rfl ?_
    intro y15 hA5 hg5 hz5
    replace HW := Lib.hid (HW.out.grown hg5 (by omega) (fun x e => by have := Option.some.inj e; omega))
    replace HA := Lib.hid hA5
    replace HB := Lib.hid (HB.out.grown hg5 (by intro e; have := Option.some.inj e; omega))
    replace HC := Lib.hid (HC.out.grown hg5 (by intro e; have := Option.some.inj e; omega))
    replace HF := Lib.hid (HF.out.grown hg5 (by intro e; have := Option.some.inj e; omega))
    clear hA5 hg5 hz5 hsz
    refine hK _ _ ?_
    clear hK K
    refine wpAny_ready (rs := [2, 4]) (by kernel_rfl) (by simp) ?_
    refine AllReady.cons rfl (fun K hK => ?_) ?_
    · have q0 := HF.out.cell 0
      go_simp
      clear q0
      refine hK _ _ ?_
      clear hK K
      refine wpAny_ready (rs := [4, 6]) (by kernel_rfl) (by simp) ?_
      refine AllReady.cons rfl (fun K hK => ?_) ?_
      · have q0 := HF.out.cell 1
        go_simp
        clear q0
        refine hK _ _ ?_
        clear hK K
        refine wpAny_ready (rs := [6]) (by kernel_rfl) (by simp) ?_
        refine AllReady.cons rfl (fun K hK => ?_) ?_
        · have q0 := HB.out.cell 0
          have f0 := HB.out.frozen 0
          go_simp
          clear q0 f0
          replace HA := Lib.hid (HA.out.far (p := ⟨b, 0, none⟩) (by simp only; omega) (.int .i64 3))
          replace HC := Lib.hid (HC.out.far (p := ⟨b, 0, none⟩) (by simp only; omega) (.int .i64 3))
          replace HF := Lib.hid (HF.out.far (p := ⟨b, 0, none⟩) (by simp only; omega) (.int .i64 3))
          replace HB := Lib.hid (HB.out.set_ 0 (.int .i64 3))
          replace HW := Lib.hid (HW.out.setCell (p := ⟨b, 0, none⟩) (by simp only; omega) (.int .i64 3))
          refine hK _ _ ?_
          clear hK K
          refine wpAny_ready (rs := [7]) (by kernel_rfl) (by simp) ?_
          refine AllReady.cons rfl (fun K hK => ?_) ?_
          · have q0 := HC.out.cell 0
            have f0 := HC.out.frozen 0
            go_simp
            clear q0 f0
            replace HA := Lib.hid (HA.out.far (p := ⟨c, 0, none⟩) (by simp only; omega) (.int .i64 4))
            replace HB := Lib.hid (HB.out.far (p := ⟨c, 0, none⟩) (by simp only; omega) (.int .i64 4))
            replace HF := Lib.hid (HF.out.far (p := ⟨c, 0, none⟩) (by simp only; omega) (.int .i64 4))
            replace HC := Lib.hid (HC.out.set_ 0 (.int .i64 4))
            replace HW := Lib.hid (HW.out.setCell (p := ⟨c, 0, none⟩) (by simp only; omega) (.int .i64 4))
            refine hK _ _ ?_
            clear hK K
            refine wpAny_done (by kernel_rfl) ?_ _
            exact ⟨rfl, _, rfl, .tuple #[], by simp [results, Tryz.results36], rfl, rfl, HA.out, HB.out, HC.out, HW.out⟩
          exact AllReady.nil
        exact AllReady.nil
      refine AllReady.cons rfl (fun K hK => ?_) ?_
      · have q0 := HB.out.cell 0
        have f0 := HB.out.frozen 0
        go_simp
        clear q0 f0
        replace HA := Lib.hid (HA.out.far (p := ⟨b, 0, none⟩) (by simp only; omega) (.int .i64 3))
        replace HC := Lib.hid (HC.out.far (p := ⟨b, 0, none⟩) (by simp only; omega) (.int .i64 3))
        replace HF := Lib.hid (HF.out.far (p := ⟨b, 0, none⟩) (by simp only; omega) (.int .i64 3))
        replace HB := Lib.hid (HB.out.set_ 0 (.int .i64 3))
        replace HW := Lib.hid (HW.out.setCell (p := ⟨b, 0, none⟩) (by simp only; omega) (.int .i64 3))
        refine hK _ _ ?_
        clear hK K
        refine wpAny_ready (rs := [4]) (by kernel_rfl) (by simp) ?_
        refine AllReady.cons rfl (fun K hK => ?_) ?_
        · have q0 := HF.out.cell 1
          go_simp
          clear q0
          refine hK _ _ ?_
          clear hK K
          refine wpAny_ready (rs := [7]) (by kernel_rfl) (by simp) ?_
          refine AllReady.cons rfl (fun K hK => ?_) ?_
          · have q0 := HC.out.cell 0
            have f0 := HC.out.frozen 0
            go_simp
            clear q0 f0
            replace HA := Lib.hid (HA.out.far (p := ⟨c, 0, none⟩) (by simp only; omega) (.int .i64 4))
            replace HB := Lib.hid (HB.out.far (p := ⟨c, 0, none⟩) (by simp only; omega) (.int .i64 4))
            replace HF := Lib.hid (HF.out.far (p := ⟨c, 0, none⟩) (by simp only; omega) (.int .i64 4))
            replace HC := Lib.hid (HC.out.set_ 0 (.int .i64 4))
            replace HW := Lib.hid (HW.out.setCell (p := ⟨c, 0, none⟩) (by simp only; omega) (.int .i64 4))
            refine hK _ _ ?_
            clear hK K
            refine wpAny_done (by kernel_rfl) ?_ _
            exact ⟨rfl, _, rfl, .tuple #[], by simp [results, Tryz.results36], rfl, rfl, HA.out, HB.out, HC.out, HW.out⟩
          exact AllReady.nil
        exact AllReady.nil
      exact AllReady.nil
    refine AllReady.cons rfl (fun K hK => ?_) ?_
    · have q0 := HF.out.cell 1
      go_simp
      clear q0
      refine hK _ _ ?_
      clear hK K
      refine wpAny_ready (rs := [2]) (by kernel_rfl) (by simp) ?_
      refine AllReady.cons rfl (fun K hK => ?_) ?_
      · have q0 := HF.out.cell 0
        go_simp
        clear q0
        refine hK _ _ ?_
        clear hK K
        refine wpAny_ready (rs := [6]) (by kernel_rfl) (by simp) ?_
        refine AllReady.cons rfl (fun K hK => ?_) ?_
        · have q0 := HB.out.cell 0
          have f0 := HB.out.frozen 0
          go_simp
          clear q0 f0
          replace HA := Lib.hid (HA.out.far (p := ⟨b, 0, none⟩) (by simp only; omega) (.int .i64 3))
          replace HC := Lib.hid (HC.out.far (p := ⟨b, 0, none⟩) (by simp only; omega) (.int .i64 3))
          replace HF := Lib.hid (HF.out.far (p := ⟨b, 0, none⟩) (by simp only; omega) (.int .i64 3))
          replace HB := Lib.hid (HB.out.set_ 0 (.int .i64 3))
          replace HW := Lib.hid (HW.out.setCell (p := ⟨b, 0, none⟩) (by simp only; omega) (.int .i64 3))
          refine hK _ _ ?_
          clear hK K
          refine wpAny_ready (rs := [7]) (by kernel_rfl) (by simp) ?_
          refine AllReady.cons rfl (fun K hK => ?_) ?_
          · have q0 := HC.out.cell 0
            have f0 := HC.out.frozen 0
            go_simp
            clear q0 f0
            replace HA := Lib.hid (HA.out.far (p := ⟨c, 0, none⟩) (by simp only; omega) (.int .i64 4))
            replace HB := Lib.hid (HB.out.far (p := ⟨c, 0, none⟩) (by simp only; omega) (.int .i64 4))
            replace HF := Lib.hid (HF.out.far (p := ⟨c, 0, none⟩) (by simp only; omega) (.int .i64 4))
            replace HC := Lib.hid (HC.out.set_ 0 (.int .i64 4))
            replace HW := Lib.hid (HW.out.setCell (p := ⟨c, 0, none⟩) (by simp only; omega) (.int .i64 4))
            refine hK _ _ ?_
            clear hK K
            refine wpAny_done (by kernel_rfl) ?_ _
            exact ⟨rfl, _, rfl, .tuple #[], by simp [results, Tryz.results36], rfl, rfl, HA.out, HB.out, HC.out, HW.out⟩
          exact AllReady.nil
        exact AllReady.nil
      exact AllReady.nil
    exact AllReady.nil
  exact AllReady.nil
end Go.Proofs.YtigbbogfnchgnaaGreatDoor
namespace Go.Proofs.YtigbbogfnchgnaaGreatDoor
open Go.RowKit Go.Shelf
set_option linter.unusedVariables false
attribute [local go_sem ↓] Go.wp_at_zero Go.wp_at_succ

set_option maxRecDepth 100000 in
set_option maxHeartbeats 1000000 in
theorem c_ParseT (S T : ByteArray) (hS : Is4 S T) (w : World) : Calls Tryz.prog 13 #[.string S] w fun e w' => e = .returned (.tuple #[.agg vz, .int .i64 3, .int .i64 4]) ∧ Below w.heap.size w w' := by
  have hmf : ∀ (fn : Fn) (first cap : Array Value) (w : World), (Instr.makeFunc fn first cap).run Tryz.prog w = .ok (.func fn first cap) w := fun _ _ _ _ => rfl
  suffices H : ∀ R : Ending → World → Prop, Hid (∀ w', Below w.heap.size w w' → R (.returned (.tuple #[.agg vz, .int .i64 3, .int .i64 4])) w') → Calls Tryz.prog 13 #[.string S] w R from
    H _ (fun w' h1 => ⟨rfl, h1⟩)
  intro R HR
  have hs := hS.size
  have HV : Hid (∀ g W, Blk W g 70 (TxC S 0) → Calls Tryz.prog 37 #[.pointer (some ⟨g, 0, none⟩)] W fun e w' => e = .panicked [flt3] ∧ W.grownBy w' (some g)) := fun g W h => c_value0 S T g W hS h (fun W h => c_list S T g W hS h)
  have HA := Lib.hid (((Blk.new w 26 vz).alloc (.cells #[.int .i64 0] 3)).alloc (.cells #[.int .i64 0] 27))
  have HB := Lib.hid ((Blk.new (w.alloc (.cells vz 26)) 3 #[.int .i64 0]).alloc (.cells #[.int .i64 0] 27))
  have HC := Lib.hid (Blk.new ((w.alloc (.cells vz 26)).alloc (.cells #[.int .i64 0] 3)) 27 #[.int .i64 0])
  have HW : Hid (Below w.heap.size w (((w.alloc (.cells vz 26)).alloc (.cells #[.int .i64 0] 3)).alloc (.cells #[.int .i64 0] 27))) := (((Below.refl w.heap.size w).alloc (Nat.le_refl _) _).alloc (by simp) _).alloc (by simp; omega) _
  clear hS
  unfold vz at HA HB HC HW HR
  go_enter_defers Tryz.func13, Tryz.ntmps13
  go_wp2_with fail
  have hz : ((((w.alloc (.cells #[.int .i64 0, .int .i64 0, .float .f64 0, .string ⟨#[]⟩, .slice none 0 0, .slice none 0 0] 26)).alloc (.cells #[.int .i64 0] 3)).alloc (.cells #[.int .i64 0] 27)) : World).heap.size = w.heap.size + 1 + 1 + 1 := by simp
  simp only [World.size_alloc] at HB HC
  generalize (((w.alloc (.cells #[.int .i64 0, .int .i64 0, .float .f64 0, .string ⟨#[]⟩, .slice none 0 0, .slice none 0 0] 26)).alloc (.cells #[.int .i64 0] 3)).alloc (.cells #[.int .i64 0] 27)) = w3 at *
  rw [← hz]
  have HT := Blk.new w3 70 (TxC S 0)
  refine (HV.out w3.heap.size _ HT).mono ?_
  rintro e w4 ⟨rfl, hg4⟩
  have ha : w.heap.size < w3.heap.size := HA.out.lt
  have hb : w.heap.size + 1 < w3.heap.size := HB.out.lt
  have hc : w.heap.size + 1 + 1 < w3.heap.size := HC.out.lt
  replace HW := Lib.hid ((HW.out.alloc HW.out.size (.cells (TxC S 0) 70)).grown hg4 (by simp; omega) (fun x e => by have := Option.some.inj e; omega))
  replace HA := (HA.out.alloc (.cells (TxC S 0) 70)).grown hg4 (by intro e; have := Option.some.inj e; omega)
  replace HB := (HB.out.alloc (.cells (TxC S 0) 70)).grown hg4 (by intro e; have := Option.some.inj e; omega)
  replace HC := (HC.out.alloc (.cells (TxC S 0) 70)).grown hg4 (by intro e; have := Option.some.inj e; omega)
  refine leaves_cons (f := 36) (args := #[.pointer (some ⟨w.heap.size, 0, none⟩), .pointer (some ⟨w.heap.size + 1, 0, none⟩), .pointer (some ⟨w.heap.size + 1 + 1, 0, none⟩)]) (by simp) (by simp [go_sem]) ?_
  refine (c_Parse1 w.heap.size _ _ _ _ HA HB HC (Nat.le_refl _) (by omega) (by omega)).mono ?_
  rintro e u w5 ⟨rfl, rfl, h1, h2, h3, h4⟩
  have n0 := h1.cell 0
  have n1 := h1.cell 1
  have n2 := h1.cell 2
  have n3 := h1.cell 3
  have n4 := h1.cell 4
  have n5 := h1.cell 5
  have m0 := h2.cell 0
  have k0 := h3.cell 0
  have HF := HR.out w5 (HW.out.trans h4)
  clear HR HA HB HC HW h1 h2 h3 h4 HT hg4 HV
  simp [Leaves, settle, results, Tryz.results13, go_sem, n0, n1, n2, n3, n4, n5, m0, k0]
  exact HF
set_option maxRecDepth 100000 in
set_option maxHeartbeats 1000000 in
theorem c_awake (w : World) : Calls Tryz.prog 6 #[] w fun e w' => e = .returned (.bool true) ∧ Below w.heap.size w w' := by
  have HP : Hid (∀ W, Calls Tryz.prog 13 #[.string ⟨#[91, 49, 44, 93]⟩] W fun e w' => e = .returned (.tuple #[.agg vz, .int .i64 3, .int .i64 4]) ∧ Below W.heap.size W w') := fun W => c_ParseT _ _ is4 W
  have HE : Hid (∀ W, Calls Tryz.prog 14 #[.agg csTrue.toArray] W fun e w' => ∃ v, e = .returned (.tuple #[v, .int .i64 0]) ∧ Own2 W w' v [.int .u8 1, .int .u8 1]) := fun W => c_EncT W
  go_enter Tryz.func6, Tryz.ntmps6
  go_wp2_with fail
  refine (HP.out _).mono ?_
  rintro e w1 ⟨rfl, hb1⟩
  have HB1 : Hid (Below w.heap.size w (w1.alloc (.cells vz 26))) := hb1.alloc hb1.size _
  have HX1 := Lib.hid (Blk.new w1 26 vz)
  have hz1 : w.heap.size ≤ w1.heap.size := hb1.size
  clear hb1 HP
  unfold vz at *
  go_wp2_with (refine wpList_storeB rfl 26 (.tmp 1) (.tmp 8) rfl rfl w1.heap.size vz rfl rfl HX1.out v_info rfl rfl ?_; intro w2 hB2 hg2 hy2)
  have HB2 : Hid (Below w.heap.size w w2) := HB1.out.grown hg2 HB1.out.size (fun x e => by have := Option.some.inj e; omega)
  clear hB2 hg2 hy2 HX1 HB1
  refine (HE.out w2).mono ?_
  rintro e w3 ⟨v, rfl, ho, hb⟩
  have HB3 : Hid (Below w.heap.size w w3) := HB2.out.trans (hb.mono HB2.out.size)
  obtain ⟨A, c, rfl, _, hr⟩ := own_reads ho
  obtain ⟨b, off, rfl, _, _, hcell⟩ := hr.form (by decide)
  have c0 : w3.cell? ⟨b, off, none⟩ = some (.int .u8 1) := hcell 0 (by decide)
  have c1 : w3.cell? ⟨b, off + 1, none⟩ = some (.int .u8 1) := hcell 1 (by decide)
  clear ho hb HB2 hr hcell HE
  go_wp2_with fail
  go_ret
  exact ⟨rfl, HB3.out⟩
end Go.Proofs.YtigbbogfnchgnaaGreatDoor
