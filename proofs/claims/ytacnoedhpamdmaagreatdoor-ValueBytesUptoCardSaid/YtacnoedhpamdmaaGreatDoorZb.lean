/- Walks: a reader of bytes (value.pen): take, number, text, fail; numbers of bytes (word.load). Conditions: as stated. -/
import Derived.Test.YtacnoedhpamdmaaGreatDoorZa
import Derived.Test.YtacnoedhpamdmaaGreatDoorLe
import Derived.Test.YtacnoedhpamdmaaGreatDoorOh
namespace Go.Proofs.YtacnoedhpamdmaaGreatDoor
open Go.RowKit
set_option linter.unusedVariables false
attribute [local go_sem ↓] Go.wp_at_zero Go.wp_at_succ

theorem numL_le : ∀ l : List Int, Bts l → ((numL l : Nat) : Int) = le l
  | [], _ => rfl
  | b :: l, h => by
    have h1 := h b List.mem_cons_self
    have h2 := numL_le l (fun z hz => h z (List.mem_cons_of_mem _ hz))
    rw [numL, le, ← h2]
    omega
theorem ret_tii {k k' : IntKind} {a b c : Int} (h : a = b) : Ending.returned (.tuple #[.int k a, .int k' c]) = .returned (.tuple #[.int k b, .int k' c]) := by rw [h]
set_option maxHeartbeats 400000 in
theorem c_wload (A : Option Addr) (n c : Nat) (xs : List Int) (w : World) (B : Nat) (hr : Reads w B 1 A n (u8s xs)) (hn : n ≤ 140737488355328) (hx : Bts xs) (at_ size : Nat) (h1 : at_ + size ≤ n) (h8 : size ≤ 8) :
    Calls Tryz.prog 117 #[.slice A n c, .int .i64 at_, .int .i64 size] w fun e w' => e = .returned (.tuple #[.int .u64 (le (sub xs at_ size)), .int .i64 0]) ∧ w = w' := by
  have hl : xs.length = n := by simpa using hr.1
  have Hl := Lib.hid hl
  clear hl
  have t1 : ¬ (at_ : Int) < 0 := by omega
  have t2 : ¬ n < at_ := by omega
  have t3 : ¬ (n : Int) - (at_ : Int) < (size : Int) := by omega
  go_enter Tryz.func117, Tryz.ntmps117
  go_wp2
  go_loop [8, 25] (fun v i => ∃ k : Nat, k ≤ size ∧ i = .int .i64 k ∧ ∃ V : Int, v = .int .u64 V ∧ 0 ≤ V ∧ V < 256 ^ k ∧ Hid (V = le ((xs.drop at_).take k))) (fun _ i => size - (intOf i).toNat)
  case atStart => exact ⟨0, Nat.zero_le _, rfl, 0, rfl, by omega, by simp, rfl⟩
  case round =>
    obtain ⟨k, hk, rfl, V, rfl, hV0, hV1, HV⟩ := hrel
    by_cases hlt : k < size
    · obtain ⟨b, off, rfl, hbB, hbw, hcells⟩ := hr.form (by omega)
      have hcell := hcells (at_ + k) (by omega)
      rw [getD_u8s (by rw [Hl.out]; omega)] at hcell
      have hb := mem_bd hx (at_ + k)
      have HS := Lib.hid (drop_take_snoc xs at_ k (by rw [Hl.out]; omega))
      clear hcells
      generalize xs.getD (at_ + k) 0 = z at *
      go_wp2
      go_round
      case rel =>
        have ho := or_next V z k hV0 hV1 hb.1 hb.2 (by omega)
        refine ⟨k + 1, by omega, by go_num, _, by rw [ho], by have := Int.mul_nonneg hb.1 (Int.pow_nonneg (n := 256) (m := k) (by omega)); omega, ?_, ?_⟩
        · have a : (z + 1) * 256 ^ k ≤ 256 * 256 ^ k := Int.mul_le_mul_of_nonneg_right (by omega) (Int.pow_nonneg (by omega))
          rw [Int.pow_succ]
          rw [Int.add_mul] at a
          omega
        · show V + z * 256 ^ k = _
          have hlen : ((xs.drop at_).take k).length = k := by have := Hl.out; simp; omega
          rw [HS.out, le_snoc, HV.out, hlen]
      case measure => simp [intOf]; omega
    · go_wp2
      go_ret2
      obtain rfl : k = size := by omega
      exact ⟨ret_tii HV.out, rfl⟩
theorem c_L64 (A : Option Addr) (c : Nat) (xs : List Int) (w : World) (B : Nat) (hr : Reads w B 1 A 8 (u8s xs)) (hx : Bts xs) :
    Calls Tryz.prog 92 #[.slice A 8 c, .int .i64 0] w fun e w' => e = .returned (.tuple #[.int .u64 (numL xs : Nat), .int .i64 0]) ∧ w = w' := by
  have hl : xs.length = 8 := by simpa using hr.1
  have HC := Lib.hid (c_wload A 8 c xs w B hr (by omega) hx 0 8 (by omega) (by omega))
  rw [show sub xs 0 8 = xs by unfold sub; rw [List.drop_zero, List.take_of_length_le (by omega)], ← numL_le xs hx] at HC
  clear hl hr
  generalize numL xs = N at *
  go_enter Tryz.func92, Tryz.ntmps92
  go_wp2_with fail
  refine (HC.out).mono ?_; rintro e w1 ⟨rfl, rfl⟩
  go_wp2_with fail
  go_ret2
  exact ⟨rfl, rfl⟩
theorem c_L32 (A : Option Addr) (c : Nat) (xs : List Int) (w : World) (B : Nat) (hr : Reads w B 1 A 4 (u8s xs)) (hx : Bts xs) :
    Calls Tryz.prog 118 #[.slice A 4 c, .int .i64 0] w fun e w' => e = .returned (.tuple #[.int .u32 (numL xs : Nat), .int .i64 0]) ∧ w = w' := by
  have hl : xs.length = 4 := by simpa using hr.1
  have HC := Lib.hid (c_wload A 4 c xs w B hr (by omega) hx 0 4 (by omega) (by omega))
  have hN := numL_lt xs hx
  rw [hl] at hN
  rw [show sub xs 0 4 = xs by unfold sub; rw [List.drop_zero, List.take_of_length_le (by omega)], ← numL_le xs hx] at HC
  clear hl hr
  generalize numL xs = N at *
  have hN2 : N < 4294967296 := by omega
  clear hN
  go_enter Tryz.func118, Tryz.ntmps118
  go_wp2_with fail
  refine (HC.out).mono ?_; rintro e w1 ⟨rfl, rfl⟩
  go_wp2_with fail
  go_ret2
  exact ⟨rfl, rfl⟩
theorem Reads.fst {w : World} {B n k : Nat} {A : Option Addr} {xs : List Int} (h : Reads w B 1 A n (u8s xs)) (hk : k ≤ n) : Reads w B 1 A k (u8s (xs.take k)) := by
  have hl : xs.length = n := by simpa using h.1
  refine ⟨by simp; omega, fun h0 => ?_⟩
  obtain ⟨ad, rfl, hb, hc⟩ := h.2 (by omega)
  refine ⟨ad, rfl, hb, fun j u hu => hc j u ?_⟩
  rw [show u8s (xs.take k) = (u8s xs).take k from List.map_take, List.getElem?_take] at hu
  split at hu
  · exact hu
  · cases hu
theorem Reads.sub_ {w : World} {B N c a n : Nat} {A : Option Addr} {xs : List Int} (h : Reads w B 1 A N (u8s xs)) (ha : a + n ≤ N) (hc : N ≤ c) : Reads w B 1 (if c = a then A else A.map (·.add (a * 1))) n (u8s (sub xs a n)) := by
  have h1 := h.cut (k := a) (cap := c) (by omega) hc
  rw [show (u8s xs).drop (a * 1) = u8s (xs.drop a) by rw [Nat.mul_one]; exact List.map_drop.symm] at h1
  exact h1.fst (by omega)
theorem run_sub {P : Program} (t e : TypeId) (A : Option Addr) (N c a n : Nat) (h : P.underlying t = some (.slice e)) (hs : ∀ W, (sizeOf e).run P W = .ok 1 W) (he : P.elem t = e) (hn : a + n ≤ c) (W : World) :
    (Instr.sliceAt t (.slice A N c) (some (.int .i64 (a : Int))) (some (.int .i64 ((a : Int) + (n : Int)))) none).run P W = .ok (.slice (if c = a then A else A.map (·.add (a * 1))) n (c - a)) W := by
  rw [run_sliceAt_slice W t _ _ _ _ (by rw [he]; exact h), run_slice_lh W t A N c (by rw [he]; exact h) .i64 .i64 _ _ (by omega) (by omega) (by omega), he, hs]
  simp only [Result.andThen, sliced]
  rw [show ((a : Int)).toNat = a by omega, show ((a : Int) + (n : Int)).toNat = a + n by omega, show a + n - a = n by omega]
/-- A reader of bytes; a fault. -/
abbrev PnC (A : Option Addr) (N c a p : Nat) : Array Value := #[.slice A N c, .int .i64 (a : Int), .int .i64 (p : Int)]
abbrev fltV (a : Nat) (why : Int) : PanicEntry := { v := .iface 76 (.agg #[.int .i64 (a : Int), .int .i64 why]), recovered := false }
theorem c_pfail (g a : Nat) (why : Int) (w : World) : Calls Tryz.prog 66 #[.pointer (some ⟨g, 0, none⟩), .int .i64 (a : Int), .int .i64 why] w fun e w' => e = .panicked [fltV a why] ∧ w' = w := by
  go_enter Tryz.func66, Tryz.ntmps66
  go_wp2
  exact ⟨rfl, rfl, rfl⟩
set_option maxHeartbeats 1000000 in
theorem c_take_bad (g : Nat) (A : Option Addr) (N c a p n : Nat) (w : World) (hB : Blk w g 97 (PnC A N c a p)) (ha : a ≤ N) (hN : N ≤ 1048576) (hn : N < a + n) (hn2 : n < 4294967296) :
    Calls Tryz.prog 91 #[.pointer (some ⟨g, 0, none⟩), .int .i64 (n : Int)] w fun e w' => e = .panicked [fltV a 3] ∧ w.grownBy w' (some g) := by
  have c0 : w.cell? ⟨g, 0, none⟩ = some (.slice A N c) := hB.cell 0
  have c1 : w.cell? ⟨g, 1, none⟩ = some (.int .i64 (a : Int)) := hB.cell 1
  have hw : IntKind.i64.wrap ((N : Int) - (a : Int)) = (N : Int) - (a : Int) := IntWalk.i64_in _ (by omega)
  have ht : (N : Int) - (a : Int) < (n : Int) := by omega
  clear hB
  go_enter Tryz.func91, Tryz.ntmps91
  go_wp2_with fail
  go_quiet (fail)
  go_wp2_with fail
  refine (c_pfail g a 3 _).mono ?_; rintro e w1 ⟨rfl, rfl⟩
  exact ⟨rfl, rfl, only_drewN (World.grownBy.refl w _) _⟩
set_option maxHeartbeats 1000000 in
theorem c_take (g : Nat) (A : Option Addr) (N c a p n : Nat) (xs : List Int) (w : World) (hB : Blk w g 97 (PnC A N c a p)) (hr : Reads w g 1 A N (u8s xs)) (hN : N ≤ 1048576) (hNc : N ≤ c) (hc : c ≤ 9223372036854775807) (hn : a + n ≤ N) :
    Calls Tryz.prog 91 #[.pointer (some ⟨g, 0, none⟩), .int .i64 (n : Int)] w fun e w' => ∃ A' c', e = .returned (.slice A' n c') ∧ n ≤ c' ∧ Reads w' g 1 A' n (u8s (sub xs a n)) ∧ Blk w' g 97 (PnC A N c (a + n) p) ∧ w.grownBy w' (some g) := by
  have c0 : w.cell? ⟨g, 0, none⟩ = some (.slice A N c) := hB.cell 0
  have c1 : w.cell? ⟨g, 1, none⟩ = some (.int .i64 (a : Int)) := hB.cell 1
  have f1 := hB.frozen 1
  have hw : IntKind.i64.wrap ((N : Int) - (a : Int)) = (N : Int) - (a : Int) := IntWalk.i64_in _ (by omega)
  have ht : ¬ (N : Int) - (a : Int) < (n : Int) := by omega
  go_enter Tryz.func91, Tryz.ntmps91
  go_wp2_with fail
  go_quiet (fail)
  go_wp2_with fail
  have HB1 : Hid (Blk ((w.drewN nq).setCell ⟨g, 1, none⟩ (.int .i64 ((a : Int) + (n : Int)))) g 97 (PnC A N c (a + n) p)) := by
    have := (hB.drewN nq).set_ 1 (.int .i64 ((a : Int) + (n : Int)))
    rw [show (a : Int) + (n : Int) = ((a + n : Nat) : Int) by omega] at this ⊢
    exact this
  have HG1 : Hid (w.grownBy ((w.drewN nq).setCell ⟨g, 1, none⟩ (.int .i64 ((a : Int) + (n : Int)))) (some g)) := only_setCell (only_drewN (World.grownBy.refl w _) nq) (.inl rfl) _
  have HSL := Lib.hid (fun W => run_sub (P := Tryz.prog) 23 5 A N c a n Tryz.underlying23 (fun W => by kernel_rfl) (by kernel_rfl) (by omega) W)
  have HRS : Hid (Reads w g 1 (if c = a then A else A.map (·.add (a * 1))) n (u8s (sub xs a n))) := hr.sub_ hn hNc
  generalize (w.drewN nq).setCell ⟨g, 1, none⟩ (.int .i64 ((a : Int) + (n : Int))) = w1 at *
  clear c0 c1 f1 hw ht
  generalize (if c = a then A else A.map (·.add (a * 1))) = A1 at *
  have HR1 := Lib.hid (Reads.grown HRS.out HG1.out (Nat.le_of_lt hB.lt) (fun _ h => by injection h with h; omega))
  have c0 : w1.cell? ⟨g, 0, none⟩ = some (.slice A N c) := HB1.out.cell 0
  have c1 : w1.cell? ⟨g, 1, none⟩ = some (.int .i64 ((a : Int) + (n : Int))) := by rw [HB1.out.cell 1]; simp
  have hw : IntKind.i64.wrap ((a : Int) + (n : Int) - (n : Int)) = (a : Int) := by rw [IntWalk.i64_in _ (by omega)]; omega
  have hsl := HSL.out
  clear hB hr HSL HRS
  go_quiet (fail)
  go_wp2_with fail
  go_ret
  exact ⟨A1, c - a, rfl, by omega, HR1.out.drewN _, HB1.out.drewN _, only_drewN HG1.out _⟩
theorem c_num_bad (g : Nat) (A : Option Addr) (N c a p : Nat) (w : World) (hB : Blk w g 97 (PnC A N c a p)) (ha : a ≤ N) (hN : N ≤ 1048576) (hn : N < a + 4) :
    Calls Tryz.prog 95 #[.pointer (some ⟨g, 0, none⟩)] w fun e w' => e = .panicked [fltV a 3] ∧ w.grownBy w' (some g) := by
  have HC := Lib.hid (c_take_bad g A N c a p 4 w hB ha hN hn (by omega))
  clear hB
  go_enter Tryz.func95, Tryz.ntmps95
  go_wp2_with fail
  refine (HC.out).mono ?_; rintro e w1 ⟨rfl, hg⟩
  exact ⟨rfl, rfl, hg⟩
theorem c_num (g : Nat) (A : Option Addr) (N c a p : Nat) (xs : List Int) (w : World) (hB : Blk w g 97 (PnC A N c a p)) (hr : Reads w g 1 A N (u8s xs)) (hx : Bts xs) (hN : N ≤ 1048576) (hNc : N ≤ c) (hc : c ≤ 9223372036854775807) (hn : a + 4 ≤ N) :
    Calls Tryz.prog 95 #[.pointer (some ⟨g, 0, none⟩)] w fun e w' => e = .returned (.int .i64 ((numL (sub xs a 4) : Nat) : Int)) ∧ Blk w' g 97 (PnC A N c (a + 4) p) ∧ w.grownBy w' (some g) := by
  have HC := Lib.hid (c_take g A N c a p 4 xs w hB hr hN hNc hc hn)
  have hl : xs.length = N := by simpa using hr.1
  have HL : Hid (∀ (A : Option Addr) (c : Nat) (W : World), Reads W g 1 A 4 (u8s (sub xs a 4)) → Calls Tryz.prog 118 #[.slice A 4 c, .int .i64 0] W fun e w' => e = .returned (.tuple #[.int .u32 (numL (sub xs a 4) : Nat), .int .i64 0]) ∧ W = w') := fun A c W h => c_L32 A c _ W g h (sub_bts hx _ _)
  have hN2 : numL (sub xs a 4) < 4294967296 := by
    have := numL_lt _ (sub_bts hx a 4)
    rw [sub_len (by omega)] at this
    omega
  clear hB hr hl
  generalize numL (sub xs a 4) = M at *
  go_enter Tryz.func95, Tryz.ntmps95
  go_wp2_with fail
  refine (HC.out).mono ?_; rintro e w1 ⟨A1, c1, rfl, h1, h2, h3, h4⟩
  have HR := Lib.hid h2
  have HB := Lib.hid h3
  have HG := Lib.hid h4
  clear h1 h2 h3 h4
  go_wp2_with fail
  refine (HL.out A1 c1 w1 HR.out).mono ?_; rintro e w2 ⟨rfl, rfl⟩
  go_wp2_with fail
  go_ret
  exact ⟨rfl, HB.out, HG.out⟩
/-- What a text's reading gives: its bytes, or a fault. -/
def ptx (xs : List Int) (a : Nat) : NR := if xs.length < a + 4 then .bad a 3 else if xs.length < a + 4 + numL (sub xs a 4) then .bad (a + 4) 3 else .ok (strL (sub xs (a + 4) (numL (sub xs a 4)))) (a + 4 + numL (sub xs a 4))
def TxPost (w : World) (g : Nat) (A : Option Addr) (N c p : Nat) : NR → Ending → World → Prop
  | .bad a e, E, w' => E = .panicked [fltV a e] ∧ w.grownBy w' (some g)
  | .ok s a, E, w' => E = .returned (.string s) ∧ Blk w' g 97 (PnC A N c a p) ∧ w.grownBy w' (some g)
theorem c_ptext (g : Nat) (A : Option Addr) (N c a p : Nat) (xs : List Int) (w : World) (hB : Blk w g 97 (PnC A N c a p)) (hr : Reads w g 1 A N (u8s xs)) (hx : Bts xs) (ha : a ≤ N) (hN : N ≤ 1048576) (hNc : N ≤ c) (hc : c ≤ 9223372036854775807) :
    Calls Tryz.prog 94 #[.pointer (some ⟨g, 0, none⟩)] w (TxPost w g A N c p (ptx xs a)) := by
  have hl : xs.length = N := by simpa using hr.1
  have hlt := hB.lt
  by_cases h1 : N < a + 4
  · have HC := Lib.hid (c_num_bad g A N c a p w hB ha hN h1)
    rw [show ptx xs a = .bad a 3 by unfold ptx; rw [hl, if_pos h1]]
    clear hB hr hl
    go_enter Tryz.func94, Tryz.ntmps94
    go_wp2_with fail
    refine (HC.out).mono ?_; rintro e w1 ⟨rfl, hg⟩
    exact ⟨rfl, rfl, hg⟩
  have HC := Lib.hid (c_num g A N c a p xs w hB hr hx hN hNc hc (by omega))
  have hN2 : numL (sub xs a 4) < 4294967296 := by
    have := numL_lt _ (sub_bts hx a 4)
    rw [sub_len (by omega)] at this
    omega
  have HR := Lib.hid hr
  obtain ⟨M, hM⟩ : ∃ M, numL (sub xs a 4) = M := ⟨_, rfl⟩
  rw [hM] at HC hN2
  by_cases h2 : N < a + 4 + M
  · rw [show ptx xs a = .bad (a + 4) 3 by unfold ptx; rw [hl, if_neg h1, hM, if_pos h2]]
    clear hB hr hl hM
    go_enter Tryz.func94, Tryz.ntmps94
    go_wp2_with fail
    refine (HC.out).mono ?_; rintro e w1 ⟨rfl, hb, hg⟩
    have HB := Lib.hid hb
    have HG := Lib.hid hg
    clear hb hg
    go_wp2_with fail
    refine (c_take_bad g A N c (a + 4) p M w1 HB.out (by omega) hN h2 hN2).mono ?_; rintro e w2 ⟨rfl, hg2⟩
    exact ⟨rfl, rfl, only_trans HG.out hg2⟩
  · rw [show ptx xs a = .ok (strL (sub xs (a + 4) M)) (a + 4 + M) by unfold ptx; rw [hl, if_neg h1, hM, if_neg h2]]
    clear hB hr hl hM
    go_enter Tryz.func94, Tryz.ntmps94
    go_wp2_with fail
    refine (HC.out).mono ?_; rintro e w1 ⟨rfl, hb, hg⟩
    have HB := Lib.hid hb
    have HG := Lib.hid hg
    have HR1 := Lib.hid (Reads.grown HR.out hg (Nat.le_of_lt hlt) (fun _ h => by injection h with h; omega))
    clear hb hg
    go_wp2_with fail
    refine (c_take g A N c (a + 4) p M xs w1 HB.out HR1.out hN hNc hc (by omega)).mono ?_; rintro e w2 ⟨A1, c1, rfl, q1, q2, q3, q4⟩
    have HG2 := Lib.hid (only_trans HG.out q4)
    have HB2 := Lib.hid q3
    have hcv := run_conv (P := Tryz.prog) w2 23 5 9 Tryz.underlying23 Tryz.underlying5 Tryz.underlying9 (c := c1) q2
    clear q1 q2 q3 q4 HB HR1
    go_wp2_with fail
    go_ret
    exact ⟨rfl, HB2.out, HG2.out⟩
end Go.Proofs.YtacnoedhpamdmaaGreatDoor
