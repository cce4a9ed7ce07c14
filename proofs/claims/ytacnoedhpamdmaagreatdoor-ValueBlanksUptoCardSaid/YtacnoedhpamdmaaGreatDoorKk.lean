/- Walks: the small steps of a reader of a value's text at any text (peek, blanks, lit, fail apart). Conditions: as stated. -/
import Derived.Test.YtacnoedhpamdmaaGreatDoorKj
import Derived.Test.YtacnoedhpamdmaaGreatDoorYw
namespace Go.Proofs.YtacnoedhpamdmaaGreatDoor
open Go.RowKit Go.Shelf
set_option linter.unusedVariables false
set_option linter.unusedSimpArgs false
attribute [local go_sem ↓] Go.wp_at_zero Go.wp_at_succ

theorem c_peekG (S : ByteArray) (a g : Nat) (w : World) (hB : Blk w g 79 (TxC S a)) (ha : a < S.size) :
    Calls Tryz.prog 102 #[.pointer (some ⟨g, 0, none⟩)] w fun e w' => e = .returned (.int .u8 ((S[a]'ha).toNat : Int)) ∧ ∃ k, w' = w.drewN k := by
  have c0 : w.cell? ⟨g, 0, none⟩ = some (.string S) := hB.cell 0
  have c1 : w.cell? ⟨g, 1, none⟩ = some (.int .i64 (a : Int)) := hB.cell 1
  have hi : (a : Int) < (S.size : Int) := by omega
  clear hB
  go_enter Tryz.func102, Tryz.ntmps102
  go_wp2_with fail
  go_quiet (fail)
  go_wp2_with fail
  go_quiet (fail)
  go_wp2_with fail
  go_ret
  exact ⟨rfl, _, World.drewN_drewN _ _ _⟩
theorem isBl_four {x : UInt8} (h : isBl x = true) : x.toNat = 32 ∨ x.toNat = 9 ∨ x.toNat = 10 ∨ x.toNat = 13 := by
  unfold isBl at h
  simp only [Bool.or_eq_true, beq_iff_eq] at h
  omega
theorem isBl_none {x : UInt8} (h : isBl x = false) : ((x.toNat : Int) == 32) = false ∧ ((x.toNat : Int) == 9) = false ∧ ((x.toNat : Int) == 10) = false ∧ ((x.toNat : Int) == 13) = false := by
  unfold isBl at h
  simp only [Bool.or_eq_false_iff, beq_eq_false_iff_ne, ne_eq] at h
  obtain ⟨⟨⟨h1, h2⟩, h3⟩, h4⟩ := h
  refine ⟨?_, ?_, ?_, ?_⟩ <;> simp <;> omega
set_option maxRecDepth 100000 in
set_option maxHeartbeats 2000000 in
theorem c_blanksG (S : ByteArray) (a g : Nat) (gg r : List UInt8) (w : World) (hB : Blk w g 79 (TxC S a)) (hS : S.size ≤ 1099511627776) (hr : rest S a = gg ++ r) (hg : allBl gg) (hn : noBl r) :
    Calls Tryz.prog 70 #[.pointer (some ⟨g, 0, none⟩)] w fun e w' => e = .returned (.tuple #[]) ∧ Blk w' g 79 (TxC S (a + gg.length)) ∧ w.grownBy w' (some g) := by
  obtain ⟨N, HN⟩ : ∃ N, Hid (a + gg.length = N) := ⟨_, Lib.hid rfl⟩
  rw [HN.out]
  have HB := Lib.hid hB
  have HR := Lib.hid hr
  have HG := Lib.hid hg
  have HNB := Lib.hid hn
  clear hB hr hg hn
  go_enter Tryz.func70, Tryz.ntmps70
  go_wp2_with fail
  go_loopw [] (fun wr => ∃ (p : Nat) (q : List UInt8), Hid (p + q.length = N ∧ rest S p = q ++ r ∧ allBl q) ∧ Hid (Blk wr g 79 (TxC S p)) ∧ Hid (w.grownBy wr (some g))) (fun wr => N - txPos wr g)
  case atStart => exact ⟨a, gg, ⟨HN.out, HR.out, HG.out⟩, HB, World.grownBy.refl w _⟩
  case round =>
    obtain ⟨p, q, HQ, HBr, HGr⟩ := hrel
    have c0 : wr.cell? ⟨g, 0, none⟩ = some (.string S) := HBr.out.cell 0
    have c1 : wr.cell? ⟨g, 1, none⟩ = some (.int .i64 (p : Int)) := HBr.out.cell 1
    have f1 := HBr.out.frozen 1
    cases q with
    | nil =>
      have hp : p = N := by have := HQ.out.1; simpa using this
      subst hp
      cases r with
      | nil =>
        have hlt : ¬ p < S.size := by have := rest_nil HQ.out.2.1; omega
        go_wp2_with fail
        go_quiet (fail)
        go_wp2_with fail
        exact ⟨rfl, .tuple #[], by simp [results, Tryz.results70], rfl, HBr.out.drewN _, only_drewN HGr.out _⟩
      | cons x t =>
        obtain ⟨hpl, hx⟩ := rest_hd (show rest S p = x :: t from HQ.out.2.1)
        have hlt : (p : Int) < (S.size : Int) := by omega
        have hx2 : ∀ h, ((S[p]'h).toNat) = x.toNat := fun h => by rw [hx]
        obtain ⟨n1, n2, n3, n4⟩ := isBl_none (HNB.out x t rfl)
        clear hx
        generalize x.toNat = y at *
        go_wp2_with fail
        go_quiet (fail)
        go_wp2_with fail
        exact ⟨rfl, .tuple #[], by simp [results, Tryz.results70], rfl, HBr.out.drewN _, only_drewN HGr.out _⟩
    | cons x q =>
      obtain ⟨hpl, hx⟩ := rest_hd (show rest S p = x :: (q ++ r) from HQ.out.2.1)
      have hlt : (p : Int) < (S.size : Int) := by omega
      have hx2 : ∀ h, ((S[p]'h).toNat) = x.toNat := fun h => by rw [hx]
      have HQ2 : Hid (p + 1 + q.length = N ∧ rest S (p + 1) = q ++ r ∧ allBl q) := ⟨by have := HQ.out.1; rw [List.length_cons] at this; omega, rest_cons (show rest S p = x :: (q ++ r) from HQ.out.2.1), fun y hy => HQ.out.2.2 y (List.mem_cons_of_mem _ hy)⟩
      have h4 := isBl_four (HQ.out.2.2 x List.mem_cons_self)
      have hpN : p + 1 ≤ N := by have := HQ2.out.1; omega
      clear hx
      generalize x.toNat = y at *
      rcases h4 with rfl | rfl | rfl | rfl
      all_goals
        go_wp2_with fail
        go_quiet (fail)
        go_wp2_with fail
        have K2 : Blk ((wr.drewN nq).setCell ⟨g, 1, none⟩ (.int .i64 ((p : Int) + 1))) g 79 (TxC S (p + 1)) := (HBr.out.drewN nq).set_ 1 _
        have m1 : txPos ((wr.drewN nq).setCell ⟨g, 1, none⟩ (.int .i64 ((p : Int) + 1))) g = p + 1 := by unfold txPos; rw [K2.cell 1]; simp
        have m2 : txPos wr g = p := by unfold txPos; rw [HBr.out.cell 1]; simp
        go_roundw
        case rel => exact ⟨p + 1, q, HQ2, K2, only_setCell (only_drewN HGr.out nq) (.inl rfl) _⟩
        case measure => rw [m1, m2]; omega
theorem c_litG (S L : ByteArray) (a g x : Nat) (w : World) (hB : Blk w g 79 (TxC S a)) (hS : S.size ≤ 1099511627776) (ha : a < S.size) (hx : (S[a]'ha).toNat = x) (hx1 : x < 128) (hL : L.size = 1) (hl : ∀ h, (L[0]'h).toNat = x) :
    Calls Tryz.prog 103 #[.pointer (some ⟨g, 0, none⟩), .string L] w fun e w' => e = .returned (.tuple #[]) ∧ Blk w' g 79 (TxC S (a + 1)) ∧ w.grownBy w' (some g) := by
  have hi : (a : Int) < (S.size : Int) := by omega
  have hz : ¬ (S.size : Int) ≤ (a : Int) := by omega
  have hg := hB.lt
  have hw1 : IntKind.i32.wrap (x : Int) = x := by
    have : (x : Int) = ((x : Nat) : Int) := rfl
    unfold IntKind.wrap
    simp [IntKind.bits, IntKind.signed]
    omega
  have hw2 : IntKind.i64.wrap ((a : Int) + 1) = ((a + 1 : Nat) : Int) := by rw [IntKind.wrap_i64]; omega
  have HK := Lib.hid hB
  clear hB
  have K0 : Hid (Blk (w.iter L 0) g 79 (TxC S a)) := HK.out.alloc _
  have G0 : Hid (w.grownBy (w.iter L 0) (some g)) := only_alloc (World.grownBy.refl w _) _
  have I0 : Hid ((w.iter L 0).heap[w.heap.size]? = some (.stringIter L 0)) := World.iter_heap w L 0
  go_enter Tryz.func103, Tryz.ntmps103
  go_wp2_with fail
  go_loopw [] (fun wr => ∃ p, p ≤ 1 ∧ Hid (Blk wr g 79 (TxC S (a + p))) ∧ Hid (wr.heap[w.heap.size]? = some (.stringIter L p)) ∧ Hid (w.grownBy wr (some g))) (fun wr => 1 - wr.iterPos w.heap.size)
  case atStart => exact ⟨0, by omega, K0, I0, G0⟩
  case round =>
    obtain ⟨p, hp, KR, IR, GR⟩ := hrel
    rcases (show p = 0 ∨ p = 1 by omega) with rfl | rfl
    · have hnx : ∀ ty, (Instr.next (.pointer (some ⟨w.heap.size, 0, none⟩)) true ty).run Tryz.prog wr = _ := fun ty => run_next_at wr w.heap.size L 0 ty IR.out (by omega) (by rw [hl]; exact hx1)
      have hlt := (Array.getElem?_eq_some_iff.1 IR.out).1
      have K1 := Lib.hid (setIt_blk w.heap.size L 1 KR.out (by omega))
      have G1 := Lib.hid (setIt_grown w.heap.size L 1 GR.out (Nat.le_refl _))
      have I1 := Lib.hid (setIt_heap wr w.heap.size L 1 hlt)
      have c0 : (setIt wr w.heap.size L (0 + 1)).cell? ⟨g, 0, none⟩ = some (.string S) := K1.out.cell 0
      have c1 : (setIt wr w.heap.size L (0 + 1)).cell? ⟨g, 1, none⟩ = some (.int .i64 (a : Int)) := K1.out.cell 1
      have f1 := K1.out.frozen 1
      clear hlt
      rw [hl] at hnx
      generalize hWW : setIt wr w.heap.size L (0 + 1) = w1 at *
      go_wp2_with fail
      go_quiet (fail)
      go_wp2_with fail
      have I2 : ((w1.drewN nq).setCell ⟨g, 1, none⟩ (.int .i64 ((a : Int) + 1))).heap[w.heap.size]? = some (.stringIter L 1) := (Below.heap_setCell _ _ _ _ (by simp only; omega)).trans I1.out
      go_roundw
      case rel => exact ⟨1, Nat.le_refl _, (K1.out.drewN nq).set_ 1 _, I2, only_setCell (only_drewN G1.out nq) (.inl rfl) _⟩
      case measure => simp only [World.iterPos, I2, IR.out]; omega
    · have hnx : ∀ ty, (Instr.next (.pointer (some ⟨w.heap.size, 0, none⟩)) true ty).run Tryz.prog wr = _ := fun ty => run_next_at_end wr w.heap.size L 1 ty IR.out (by omega)
      go_wp2_with fail
      exact ⟨rfl, .tuple #[], by simp [results, Tryz.results103], rfl, KR.out, GR.out⟩
end Go.Proofs.YtacnoedhpamdmaaGreatDoor
