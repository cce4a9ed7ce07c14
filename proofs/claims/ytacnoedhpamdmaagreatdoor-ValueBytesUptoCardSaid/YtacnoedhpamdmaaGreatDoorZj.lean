/- Walks: the document's reader of bytes (quernref23.bytesIn): fail, take, word, text, float; quernref01.Load. Conditions: as stated. -/
import Derived.Test.YtacnoedhpamdmaaGreatDoorZd
import Derived.Lib.ConvBytes
import Derived.Lib.AtoiErrMem
import Derived.Lib.BufferOwn
import Derived.Laws.BytesArg
namespace Go.Proofs.YtacnoedhpamdmaaGreatDoor
open Go.RowKit
set_option linter.unusedVariables false
set_option linter.unusedSimpArgs false
attribute [local go_sem ↓] Go.wp_at_zero Go.wp_at_succ

/-- The document's reader. -/
abbrev RnC (A : Option Addr) (N c a : Nat) (q pl e : Int) : Array Value := #[.slice A N c, .int .i64 (a : Int), .int .i64 q, .int .i64 pl, .int .i64 e]
theorem numL_drop {xs : List Int} {i : Nat} (h : i < xs.length) : numL (xs.drop i) = (xs.getD i 0).toNat + 256 * numL (xs.drop (i + 1)) := by
  rw [List.drop_eq_getElem_cons h, numL]
  simp [List.getD, List.getElem?_eq_getElem h]
set_option maxHeartbeats 1000000 in
theorem c_rLoad (A : Option Addr) (n c : Nat) (xs : List Int) (w : World) (B : Nat) (hr : Reads w B 1 A n (u8s xs)) (hx : Bts xs) (hn : n ≤ 8) :
    Calls Tryz.prog 120 #[.slice A n c, .int .i64 0, .int .i64 (n : Int)] w fun e w' => e = .returned (.tuple #[.int .u64 (numL xs : Nat), .int .i64 0]) ∧ w' = w := by
  have hl : xs.length = n := by simpa using hr.1
  have HL := Lib.hid hl
  have HR := Lib.hid hr
  have HX := Lib.hid hx
  have t2 : ¬ n < 0 := by omega
  have t3 : ¬ (n : Int) < (n : Int) := by omega
  clear hr hl hx
  go_enter Tryz.func120, Tryz.ntmps120
  go_wp2_with fail
  go_loopw [8, 9] (fun v i wr => ∃ k : Nat, k ≤ n ∧ i = .int .i64 ((k : Int) - 1) ∧ v = .int .u64 (numL (xs.drop k) : Nat) ∧ wr = w) (fun _ i _ => (intOf i + 1).toNat)
  case atStart => exact ⟨n, Nat.le_refl _, rfl, by rw [List.drop_eq_nil_of_le (by rw [HL.out]; exact Nat.le_refl _)]; rfl, rfl⟩
  case round =>
    obtain ⟨k, hk, rfl, rfl, rfl⟩ := hrel
    by_cases h0 : k = 0
    · subst h0
      go_wp2_with fail
      go_ret2
      exact ⟨by rw [List.drop_zero]; rfl, rfl⟩
    · obtain ⟨j, rfl⟩ : ∃ j, k = j + 1 := ⟨k - 1, by omega⟩
      obtain ⟨b, off, hA, hbB, hbw, hcells⟩ := HR.out.form (by omega)
      subst hA
      have hcell := hcells j (by omega)
      rw [getD_u8s (by rw [HL.out]; omega)] at hcell
      have hz : 0 ≤ xs.getD j 0 ∧ xs.getD j 0 < 256 := mem_bd HX.out j
      have hnd := numL_drop (xs := xs) (i := j) (by rw [HL.out]; omega)
      have hlt := numL_lt (xs.drop (j + 1)) (fun z hz => HX.out z (List.mem_of_mem_drop hz))
      rw [List.length_drop, HL.out] at hlt
      have h256 : 256 ^ (n - (j + 1)) ≤ 256 ^ 7 := Nat.pow_le_pow_right (by decide) (by omega)
      have hj1 : (((j + 1 : Nat) : Int) - 1) = (j : Int) := by omega
      have hV : numL (xs.drop (j + 1)) < 72057594037927936 := Nat.lt_of_lt_of_le hlt (by have : (256 : Nat) ^ 7 = 72057594037927936 := rfl; omega)
      have HND := Lib.hid hnd
      clear hcells hlt h256 hnd
      generalize numL (xs.drop (j + 1)) = V at *
      generalize xs.getD j 0 = z at *
      rw [hj1]
      go_wp2_with fail
      go_roundw
      case rel => exact ⟨j, by omega, by go_num, (by rw [HND.out]; congr 1; omega), trivial⟩
      case measure => first | (simp [intOf]; done) | (simp [intOf]; omega)
theorem c_rfail (g a : Nat) (A : Option Addr) (N c : Nat) (q pl pc why : Int) (w : World) (hB : Blk w g 102 (RnC A N c a q pl 0)) :
    Calls Tryz.prog 68 #[.pointer (some ⟨g, 0, none⟩), .int .i64 pc, .int .i64 why] w fun e w' => e = .returned (.tuple #[]) ∧ Blk w' g 102 (RnC A N c a q pc why) ∧ w.grownBy w' (some g) := by
  have c3 : w.cell? ⟨g, 3, none⟩ = some (.int .i64 pl) := hB.cell 3
  have c4 : w.cell? ⟨g, 4, none⟩ = some (.int .i64 0) := hB.cell 4
  have f3 := hB.frozen 3
  have f4 := hB.frozen 4
  have HB : Hid (Blk ((w.setCell ⟨g, 3, none⟩ (.int .i64 pc)).setCell ⟨g, 4, none⟩ (.int .i64 why)) g 102 (RnC A N c a q pc why)) := (hB.set_ 3 _).set_ 4 _
  have HG : Hid (w.grownBy ((w.setCell ⟨g, 3, none⟩ (.int .i64 pc)).setCell ⟨g, 4, none⟩ (.int .i64 why)) (some g)) := only_setCell (p := ⟨g, 4, none⟩) (only_setCell (p := ⟨g, 3, none⟩) (World.grownBy.refl w _) (.inl rfl) _) (.inl rfl) _
  clear hB
  go_enter Tryz.func68, Tryz.ntmps68
  go_wp2_with fail
  go_end0
  exact ⟨rfl, HB.out, HG.out⟩
theorem c_rtake_e (g a n : Nat) (A : Option Addr) (N c : Nat) (q pl e : Int) (w : World) (hB : Blk w g 102 (RnC A N c a q pl e)) (he : e ≠ 0) :
    Calls Tryz.prog 119 #[.pointer (some ⟨g, 0, none⟩), .int .i64 (n : Int)] w fun e w' => e = .returned (.string ⟨#[]⟩) ∧ ∃ k, w' = w.drewN k := by
  have c4 : w.cell? ⟨g, 4, none⟩ = some (.int .i64 e) := hB.cell 4
  have h0 : (e == 0) = false := by simpa using he
  have h1 : (e != 0) = true := by simpa using he
  clear hB he
  go_enter Tryz.func119, Tryz.ntmps119
  go_wp2_with fail
  go_quiet (fail)
  go_wp2_with fail
  go_ret
  exact ⟨rfl, _, rfl⟩
theorem c_rtake_bad (g a n : Nat) (A : Option Addr) (N c : Nat) (q pl : Int) (w : World) (hB : Blk w g 102 (RnC A N c a q pl 0)) (ha : a ≤ N) (hN : N ≤ 1048576) (hn : N < a + n) (hn2 : n < 4294967296) :
    Calls Tryz.prog 119 #[.pointer (some ⟨g, 0, none⟩), .int .i64 (n : Int)] w fun e w' => e = .returned (.string ⟨#[]⟩) ∧ Blk w' g 102 (RnC A N c a q (a : Int) 3) ∧ w.grownBy w' (some g) := by
  have HB := Lib.hid hB
  have c0 : w.cell? ⟨g, 0, none⟩ = some (.slice A N c) := hB.cell 0
  have c1 : w.cell? ⟨g, 1, none⟩ = some (.int .i64 (a : Int)) := hB.cell 1
  have c4 : w.cell? ⟨g, 4, none⟩ = some (.int .i64 0) := hB.cell 4
  have hw : IntKind.i64.wrap ((N : Int) - (a : Int)) = (N : Int) - (a : Int) := IntWalk.i64_in _ (by omega)
  have ht : (N : Int) - (a : Int) < (n : Int) := by omega
  clear hB
  go_enter Tryz.func119, Tryz.ntmps119
  go_wp2_with fail
  go_quiet (fail)
  go_wp2_with fail
  refine (c_rfail g a A N c q pl _ 3 _ (HB.out.drewN nq)).mono ?_; rintro e w2 ⟨rfl, hb2, hg2⟩
  have HB2 := Lib.hid hb2
  have HG2 : Hid (w.grownBy w2 (some g)) := only_trans (only_drewN (World.grownBy.refl w _) nq) hg2
  have d4 : w2.cell? ⟨g, 4, none⟩ = some (.int .i64 3) := hb2.cell 4
  clear hb2 hg2 c0 c1 c4 HB
  go_wp2_with fail
  go_ret
  exact ⟨rfl, HB2.out, HG2.out⟩
set_option maxHeartbeats 1000000 in
theorem c_rtake (g a n : Nat) (A : Option Addr) (N c : Nat) (q pl : Int) (xs : List Int) (w : World) (hB : Blk w g 102 (RnC A N c a q pl 0)) (hr : Reads w g 1 A N (u8s xs)) (hN : N ≤ 1048576) (hNc : N ≤ c) (hc : c ≤ 9223372036854775807) (hn : a + n ≤ N) :
    Calls Tryz.prog 119 #[.pointer (some ⟨g, 0, none⟩), .int .i64 (n : Int)] w fun e w' => e = .returned (.string (strL (sub xs a n))) ∧ Blk w' g 102 (RnC A N c (a + n) q pl 0) ∧ w.grownBy w' (some g) := by
  have HB := Lib.hid hB
  have hgl : g < w.heap.size := hB.lt
  have c0 : w.cell? ⟨g, 0, none⟩ = some (.slice A N c) := hB.cell 0
  have c1 : w.cell? ⟨g, 1, none⟩ = some (.int .i64 (a : Int)) := hB.cell 1
  have c4 : w.cell? ⟨g, 4, none⟩ = some (.int .i64 0) := hB.cell 4
  have hw : IntKind.i64.wrap ((N : Int) - (a : Int)) = (N : Int) - (a : Int) := IntWalk.i64_in _ (by omega)
  have ht : ¬ (N : Int) - (a : Int) < (n : Int) := by omega
  have hsl := fun W => run_sub (P := Tryz.prog) 23 5 A N c a n Tryz.underlying23 (fun W => by kernel_rfl) (by kernel_rfl) (by omega) W
  have HRS : Hid (Reads w g 1 (if c = a then A else A.map (·.add (a * 1))) n (u8s (sub xs a n))) := hr.sub_ hn hNc
  generalize (if c = a then A else A.map (·.add (a * 1))) = A1 at *
  have hcv : ∀ k, (convert 23 9 (.slice A1 n (c - a))).run Tryz.prog (w.drewN k) = .ok (.string (strL (sub xs a n))) (w.drewN k) := fun k => run_conv (P := Tryz.prog) (w.drewN k) 23 5 9 Tryz.underlying23 Tryz.underlying5 Tryz.underlying9 (HRS.out.drewN k)
  generalize strL (sub xs a n) = s at *
  clear hB hr HRS
  go_enter Tryz.func119, Tryz.ntmps119
  go_wp2_with fail
  go_quiet (fail)
  go_wp2_with fail
  have f1 := HB.out.frozen 1
  have hw2 : IntKind.i64.wrap ((a : Int) + (n : Int)) = (a : Int) + (n : Int) := IntWalk.i64_in _ (by omega)
  go_quiet (fail)
  go_wp2_with fail
  go_ret
  refine ⟨rfl, ?_, only_setCell (p := ⟨g, 1, none⟩) (only_drewN (World.grownBy.refl w _) _) (.inl rfl) _⟩
  have hb := fun k => (HB.out.drewN k).set_ 1 (.int .i64 ((a + n : Nat) : Int))
  rw [show (a : Int) + (n : Int) = ((a + n : Nat) : Int) by omega]
  exact hb _
theorem txB_strL {l : List Int} (h : Bts l) : txB (strL l) = l := by
  unfold txB
  rw [show (strL l).data.toList = l.map fun n => UInt8.ofNat n.toNat from strOfNums_data l, List.map_map]
  refine (List.map_congr_left fun z hz => ?_).trans (List.map_id l)
  have := h z hz
  simp only [Function.comp, UInt8.toNat_ofNat', id]
  omega
theorem reads_bytes (w : World) (s : ByteArray) : Reads (Lib.bytesWorld w 5 s) (w.heap.size + 1) 1 (some ⟨w.heap.size, 0, none⟩) s.size (u8s (txB s)) := by
  refine ⟨by rw [Nat.mul_one, List.length_map, txB_len], fun _ => ⟨_, rfl, Nat.lt_succ_self _, fun j u hu => ?_⟩⟩
  have hj : j < s.size := by
    have := (List.getElem?_eq_some_iff.1 hu).1
    rw [List.length_map, txB_len] at this; exact this
  rw [Addr.add_lit, Nat.zero_add, Lib.bytesWorld_cell w 5 s j hj]
  have hj2 : j < s.data.toList.length := by rw [Array.length_toList]; exact hj
  unfold u8s txB at hu
  rw [List.map_map, List.getElem?_map, List.getElem?_eq_getElem hj2] at hu
  simp only [Option.map_some, Function.comp] at hu
  rw [← hu]
  simp [List.getD, List.getElem?_eq_getElem hj2]
theorem c_rLoad0 (A : Option Addr) (c n : Nat) (w : World) (h1 : 1 ≤ n) (h2 : n ≤ 8) :
    Calls Tryz.prog 120 #[.slice A 0 c, .int .i64 0, .int .i64 (n : Int)] w fun e w' => e = .returned (.tuple #[.int .u64 0, .int .i64 3]) ∧ w' = w := by
  have h : 0 < n := by omega
  go_enter Tryz.func120, Tryz.ntmps120
  go_wp2_with fail
  go_ret2
  exact ⟨rfl, rfl⟩
set_option maxHeartbeats 1000000 in
theorem c_rword (g a n : Nat) (A : Option Addr) (N c : Nat) (q pl : Int) (xs : List Int) (w : World) (hB : Blk w g 102 (RnC A N c a q pl 0)) (hr : Reads w g 1 A N (u8s xs)) (hx : Bts xs) (hN : N ≤ 1048576) (hNc : N ≤ c) (hc : c ≤ 9223372036854775807) (hn : a + n ≤ N) (h8 : n ≤ 8) :
    Calls Tryz.prog 97 #[.pointer (some ⟨g, 0, none⟩), .int .i64 (n : Int)] w fun e w' => e = .returned (.int .u64 (numL (sub xs a n) : Nat)) ∧ Blk w' g 102 (RnC A N c (a + n) q pl 0) ∧ w.grownBy w' (some g) := by
  have hl : xs.length = N := by simpa using hr.1
  have HT := Lib.hid (c_rtake g a n A N c q pl xs w hB hr hN hNc hc hn)
  have hsb := sub_bts hx a n
  have hsl : (sub xs a n).length = n := sub_len (by omega)
  have HTX : Hid (txB (strL (sub xs a n)) = sub xs a n) := txB_strL hsb
  have hss : (strL (sub xs a n)).size = n := by rw [strL_size, hsl]
  have HSB := Lib.hid hsb
  have hgl : g < w.heap.size := hB.lt
  generalize strL (sub xs a n) = s at *
  generalize sub xs a n = ys at *
  have hcb := fun W => Lib.run_convert_string_bytes (P := Tryz.prog) W 9 23 5 s Tryz.underlying9 Tryz.underlying23 Tryz.underlying5
  rw [hss] at hcb
  clear hB hr hx hsb hsl
  go_enter Tryz.func97, Tryz.ntmps97
  go_wp2_with fail
  refine HT.out.mono ?_; rintro e w1 ⟨rfl, hb1, hg1⟩
  have HB1 := Lib.hid hb1
  have HG1 := Lib.hid hg1
  have HRB : Hid (Reads (Lib.bytesWorld w1 5 s) (w1.heap.size + 1) 1 (some ⟨w1.heap.size, 0, none⟩) n (u8s ys)) := by
    have := reads_bytes w1 s
    rw [HTX.out, hss] at this; exact this
  clear hb1 hg1 HT
  go_wp2_with fail
  refine (c_rLoad _ n _ ys _ _ HRB.out HSB.out h8).mono ?_; rintro e w2 ⟨rfl, rfl⟩
  have HB2 : Hid (Blk (Lib.bytesWorld w1 5 s) g 102 (RnC A N c (a + n) q pl 0)) := HB1.out.below (Lib.bytesWorld_below w1 _ s) HB1.out.lt
  have HG2 : Hid (w.grownBy (Lib.bytesWorld w1 5 s) (some g)) := Lib.grownBy_below HG1.out (Lib.bytesWorld_below w1 _ s)
  clear hcb HB1 HG1 HRB
  generalize Lib.bytesWorld w1 5 s = w2 at *
  go_wp2_with fail
  go_ret
  exact ⟨rfl, HB2.out, HG2.out⟩
set_option maxHeartbeats 1000000 in
theorem c_rword_bad (g a n : Nat) (A : Option Addr) (N c : Nat) (q pl : Int) (w : World) (hB : Blk w g 102 (RnC A N c a q pl 0)) (ha : a ≤ N) (hN : N ≤ 1048576) (hn : N < a + n) (h1 : 1 ≤ n) (h8 : n ≤ 8) :
    Calls Tryz.prog 97 #[.pointer (some ⟨g, 0, none⟩), .int .i64 (n : Int)] w fun e' w' => e' = .returned (.int .u64 0) ∧ Blk w' g 102 (RnC A N c a q (a : Int) 3) ∧ w.grownBy w' (some g) := by
  have HT : Hid (Calls Tryz.prog 119 #[.pointer (some ⟨g, 0, none⟩), .int .i64 (n : Int)] w fun e' w' => e' = .returned (.string ⟨#[]⟩) ∧ Blk w' g 102 (RnC A N c a q (a : Int) 3) ∧ w.grownBy w' (some g)) := c_rtake_bad g a n A N c q pl w hB ha hN hn (by omega)
  have hcb := fun W => Lib.run_convert_string_bytes (P := Tryz.prog) W 9 23 5 ⟨#[]⟩ Tryz.underlying9 Tryz.underlying23 Tryz.underlying5
  rw [show (⟨#[]⟩ : ByteArray).size = 0 from rfl] at hcb
  clear hB
  go_enter Tryz.func97, Tryz.ntmps97
  go_wp2_with fail
  refine HT.out.mono ?_; rintro e w1 ⟨rfl, hb1, hg1⟩
  have HB1 := Lib.hid hb1
  have HG1 := Lib.hid hg1
  clear hb1 hg1 HT
  go_wp2_with fail
  refine (c_rLoad0 _ _ n _ h1 h8).mono ?_; rintro e w2 ⟨rfl, rfl⟩
  have HB2 : Hid (Blk (Lib.bytesWorld w1 5 ⟨#[]⟩) g 102 (RnC A N c a q (a : Int) 3)) := HB1.out.below (Lib.bytesWorld_below w1 _ _) HB1.out.lt
  have HG2 : Hid (w.grownBy (Lib.bytesWorld w1 5 ⟨#[]⟩) (some g)) := Lib.grownBy_below HG1.out (Lib.bytesWorld_below w1 _ _)
  clear hcb HB1 HG1
  generalize Lib.bytesWorld w1 5 ⟨#[]⟩ = w2 at *
  go_wp2_with fail
  go_ret
  exact ⟨rfl, HB2.out, HG2.out⟩
set_option maxHeartbeats 1000000 in
theorem c_rword_e (g a n : Nat) (A : Option Addr) (N c : Nat) (q pl : Int) (e : Int) (w : World) (hB : Blk w g 102 (RnC A N c a q pl e)) (he : e ≠ 0) (h1 : 1 ≤ n) (h8 : n ≤ 8) :
    Calls Tryz.prog 97 #[.pointer (some ⟨g, 0, none⟩), .int .i64 (n : Int)] w fun e' w' => e' = .returned (.int .u64 0) ∧ Blk w' g 102 (RnC A N c a q pl e) ∧ w.grownBy w' (some g) := by
  have HT : Hid (Calls Tryz.prog 119 #[.pointer (some ⟨g, 0, none⟩), .int .i64 (n : Int)] w fun e' w' => e' = .returned (.string ⟨#[]⟩) ∧ Blk w' g 102 (RnC A N c a q pl e) ∧ w.grownBy w' (some g)) := (c_rtake_e g a n A N c q pl e w hB he).mono fun e' w' h => by obtain ⟨h1, k, rfl⟩ := h; exact ⟨h1, hB.drewN k, only_drewN (World.grownBy.refl w _) k⟩
  have hcb := fun W => Lib.run_convert_string_bytes (P := Tryz.prog) W 9 23 5 ⟨#[]⟩ Tryz.underlying9 Tryz.underlying23 Tryz.underlying5
  rw [show (⟨#[]⟩ : ByteArray).size = 0 from rfl] at hcb
  clear hB
  go_enter Tryz.func97, Tryz.ntmps97
  go_wp2_with fail
  refine HT.out.mono ?_; rintro e w1 ⟨rfl, hb1, hg1⟩
  have HB1 := Lib.hid hb1
  have HG1 := Lib.hid hg1
  clear hb1 hg1 HT
  go_wp2_with fail
  refine (c_rLoad0 _ _ n _ h1 h8).mono ?_; rintro e w2 ⟨rfl, rfl⟩
  have HB2 : Hid (Blk (Lib.bytesWorld w1 5 ⟨#[]⟩) g 102 (RnC A N c a q pl e)) := HB1.out.below (Lib.bytesWorld_below w1 _ _) HB1.out.lt
  have HG2 : Hid (w.grownBy (Lib.bytesWorld w1 5 ⟨#[]⟩) (some g)) := Lib.grownBy_below HG1.out (Lib.bytesWorld_below w1 _ _)
  clear hcb HB1 HG1
  generalize Lib.bytesWorld w1 5 ⟨#[]⟩ = w2 at *
  go_wp2_with fail
  go_ret
  exact ⟨rfl, HB2.out, HG2.out⟩
/-- A text, its number ahead. -/
def RTx (w : World) (g : Nat) (A : Option Addr) (N c : Nat) (q pl : Int) : NR → Ending → World → Prop
  | .ok s a', e, w' => e = .returned (.string s) ∧ Blk w' g 102 (RnC A N c a' q pl 0) ∧ w.grownBy w' (some g)
  | .bad a4 e4, e, w' => (∃ s a', e = .returned (.string s) ∧ Blk w' g 102 (RnC A N c a' q (a4 : Int) e4)) ∧ w.grownBy w' (some g)
/-- What text tells. -/
def rtx (xs : List Int) (hidn : Bool) (a : Nat) : NR :=
  if xs.length < a + 4 then .bad a 3
  else if hidn = true ∧ (numL (sub xs a 4) < 1 ∨ 64 < numL (sub xs a 4)) then .bad a 4
  else if xs.length < a + 4 + numL (sub xs a 4) then .bad (a + 4) 3
  else .ok (strL (sub xs (a + 4) (numL (sub xs a 4)))) (a + 4 + numL (sub xs a 4))
end Go.Proofs.YtacnoedhpamdmaaGreatDoor
