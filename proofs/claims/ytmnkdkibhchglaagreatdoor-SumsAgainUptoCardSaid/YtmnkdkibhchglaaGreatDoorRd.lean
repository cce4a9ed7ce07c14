/- Walk: all escapes laid by the table ((*strings.byteStringReplacer).Replace). Conditions: the table stands in memory; lengths within the reach. -/
import Derived.Test.YtmnkdkibhchglaaGreatDoorRc
namespace Go.Proofs.YtmnkdkibhchglaaGreatDoor
open Go.RowKit
set_option linter.unusedVariables false
attribute [local go_sem ↓] Go.wp_at_zero Go.wp_at_succ

/-- How many bytes have an escape, of the first kinds. -/
def spk (l : List UInt8) : Nat → Nat
  | 0 => 0
  | 1 => l.count 13
  | 2 => l.count 13 + l.count 10
  | _ => spc l
theorem spk_le (l : List UInt8) (k : Nat) : spk l k ≤ spc l := by
  unfold spk spc; split <;> omega
theorem zeros_bys (n : Nat) : (List.replicate n (Value.int .u8 0)) = bys [] ++ List.replicate n (Value.int .u8 0) := rfl
set_option maxRecDepth 100000 in
set_option maxHeartbeats 4000000 in
theorem c_bsReplace (g : Nat) (s : ByteArray) (hs : s.size ≤ 35184372088832) (W w : World) (h : RepSt W w g rep3) :
    Calls Tryz.prog 194 #[.pointer (some ⟨g, 0, none⟩), .string s] w fun e w' => e = .returned (bstr (esc s.data.toList)) ∧ Below w.heap.size w w' := by
  obtain ⟨i0, hi0, hz0, hz1, hz2⟩ := info_parts u8_info
  have qn : ∀ (W : World) (a : Option Addr) (n c n' c' : Nat), (binOp .neq 31 (.slice a n c) (.slice none n' c')).run Tryz.prog W = .ok (.bool (!a.isNone)) W := fun W a n c n' c' => run_neq_slice_nil_any W _ _ a n c n' c' Tryz.underlying31
  have HR := Lib.hid h
  have hgl := h.lt
  have HEC : Hid ((esc s.data.toList).length = s.size + spc s.data.toList) := esc_count _
  have HEI : Hid (spc s.data.toList = 0 → esc s.data.toList = s.data.toList) := esc_id _
  have HSZ : Hid (spc s.data.toList ≤ s.size) := by
    have h1 := (esc_len s.data.toList).2
    rw [esc_count] at h1
    have h2 : s.data.toList.length = s.size := rfl
    show _ ≤ _
    omega
  have HEP := Lib.hid (fun i => esc_pre_le s i)
  obtain ⟨q, c0, r0, r1, r2, r3⟩ := h.row
  clear h
  by_cases hle : (24 : Int) ≤ (s.size : Int)
  · go_enter Tryz.func194, Tryz.ntmps194
    go_wp2_with fail
    go_loopw [5, 6, 32] (fun vn va vi wr => ∃ k d : Nat, k ≤ 3 ∧ vi = .int .i64 k ∧ vn = .int .i64 ((s.size : Int) + (spk s.data.toList k : Nat)) ∧ va = .bool (decide (0 < spk s.data.toList k)) ∧ wr = w.drewN d) (fun _ _ vi _ => 3 - (intOf vi).toNat)
    case atStart => exact ⟨0, 0, by omega, rfl, by simp [spk], rfl, rfl⟩
    case round =>
      obtain ⟨k, d, hk, rfl, rfl, rfl, rfl⟩ := hrel
      rcases (show k = 0 ∨ k = 1 ∨ k = 2 ∨ k = 3 by omega) with rfl | rfl | rfl | rfl
      · have HX : Hid (spk s.data.toList (0 + 1) = spk s.data.toList 0 + s.data.toList.count 13) := by show _ = _; simp [spk]
        have hb1 := spk_le s.data.toList 0
        have hb2 := spk_le s.data.toList (0 + 1)
        have hb3 := HSZ.out
        rw [HX.out] at hb2
        obtain ⟨sX, hsX⟩ : ∃ sX : ByteArray, sX = ⟨#[13]⟩ := ⟨_, rfl⟩
        have hx : ∀ h, (sX[0]'h).toNat = 13 := by subst hsX; exact fun _ => rfl
        have hy : sX.size = 1 := by subst hsX; rfl
        have HCT : Hid (∀ W, Calls Tryz.prog 196 #[.string s, .string sX] W fun e w' => e = .returned (.int .i64 (s.data.toList.count 13 : Nat)) ∧ W = w') := fun W => by rw [hsX]; exact c_count1 s 13 W
        rw [← hsX] at r1
        clear hsX
        obtain ⟨bb, kk, e3⟩ : ∃ bb kk, w.cell? ⟨g, 13, none⟩ = some (.slice (some ⟨bb, 0, none⟩) 2 kk) := by
          rcases HR.out.at_ 13 with ⟨h, _⟩ | ⟨_, _, bb, kk, e3, _⟩
          · exact absurd h (by decide)
          · exact ⟨bb, kk, e3⟩
        generalize s.data.toList.count 13 = cc at *
        generalize spk s.data.toList 0 = S0 at *
        by_cases hc0 : cc = 0
        · have ht : ((cc : Int) != 0) = false := by simp [hc0]
          have HY : Hid (spk s.data.toList (0 + 1) = S0) := by show _ = _; rw [HX.out, hc0, Nat.add_zero]
          clear hc0
          go_wp2_with (go_at_call 196; refine (HCT.out _).mono ?_; rintro e w' ⟨rfl, rfl⟩)
          go_roundw
          case rel => exact ⟨0 + 1, d, by omega, by go_num, by rw [HY.out], by rw [HY.out], rfl⟩
          case measure => simp [intOf]
        · have ht : ((cc : Int) != 0) = true := by simp [hc0]
          have HP : Hid (decide (0 < S0 + cc) = true) := decide_eq_true (by omega)
          have hs0 : IntKind.i64.wrap (2 - 1) = 1 := by decide
          have hs1 : IntKind.i64.wrap 1 = 1 := by decide
          have hs2 : IntKind.i64.wrap (cc : Int) = (cc : Int) := by rw [IntKind.wrap_i64]; omega
          have hs3 : IntKind.i64.wrap ((s.size : Int) + (S0 : Int) + (cc : Int)) = (s.size : Int) + ((S0 + cc : Nat) : Int) := by rw [IntKind.wrap_i64]; omega
          clear hc0 hb1 hb2 hb3
          go_wp2_with (go_at_call 196; refine (HCT.out _).mono ?_; rintro e w' ⟨rfl, rfl⟩)
          go_quiet (fail)
          go_wp2_with fail
          go_roundw
          case rel => exact ⟨0 + 1, _, by omega, by go_num, by rw [HX.out]; go_num, by rw [HX.out, HP.out], rfl⟩
          case measure => simp [intOf]
      · have HX : Hid (spk s.data.toList (1 + 1) = spk s.data.toList 1 + s.data.toList.count 10) := by show _ = _; simp [spk]
        have hb1 := spk_le s.data.toList 1
        have hb2 := spk_le s.data.toList (1 + 1)
        have hb3 := HSZ.out
        rw [HX.out] at hb2
        obtain ⟨sX, hsX⟩ : ∃ sX : ByteArray, sX = ⟨#[10]⟩ := ⟨_, rfl⟩
        have hx : ∀ h, (sX[0]'h).toNat = 10 := by subst hsX; exact fun _ => rfl
        have hy : sX.size = 1 := by subst hsX; rfl
        have HCT : Hid (∀ W, Calls Tryz.prog 196 #[.string s, .string sX] W fun e w' => e = .returned (.int .i64 (s.data.toList.count 10 : Nat)) ∧ W = w') := fun W => by rw [hsX]; exact c_count1 s 10 W
        rw [← hsX] at r2
        clear hsX
        obtain ⟨bb, kk, e3⟩ : ∃ bb kk, w.cell? ⟨g, 10, none⟩ = some (.slice (some ⟨bb, 0, none⟩) 2 kk) := by
          rcases HR.out.at_ 10 with ⟨h, _⟩ | ⟨_, _, bb, kk, e3, _⟩
          · exact absurd h (by decide)
          · exact ⟨bb, kk, e3⟩
        generalize s.data.toList.count 10 = cc at *
        generalize spk s.data.toList 1 = S0 at *
        by_cases hc0 : cc = 0
        · have ht : ((cc : Int) != 0) = false := by simp [hc0]
          have HY : Hid (spk s.data.toList (1 + 1) = S0) := by show _ = _; rw [HX.out, hc0, Nat.add_zero]
          clear hc0
          go_wp2_with (go_at_call 196; refine (HCT.out _).mono ?_; rintro e w' ⟨rfl, rfl⟩)
          go_roundw
          case rel => exact ⟨1 + 1, d, by omega, by go_num, by rw [HY.out], by rw [HY.out], rfl⟩
          case measure => simp [intOf]
        · have ht : ((cc : Int) != 0) = true := by simp [hc0]
          have HP : Hid (decide (0 < S0 + cc) = true) := decide_eq_true (by omega)
          have hs0 : IntKind.i64.wrap (2 - 1) = 1 := by decide
          have hs1 : IntKind.i64.wrap 1 = 1 := by decide
          have hs2 : IntKind.i64.wrap (cc : Int) = (cc : Int) := by rw [IntKind.wrap_i64]; omega
          have hs3 : IntKind.i64.wrap ((s.size : Int) + (S0 : Int) + (cc : Int)) = (s.size : Int) + ((S0 + cc : Nat) : Int) := by rw [IntKind.wrap_i64]; omega
          clear hc0 hb1 hb2 hb3
          go_wp2_with (go_at_call 196; refine (HCT.out _).mono ?_; rintro e w' ⟨rfl, rfl⟩)
          go_quiet (fail)
          go_wp2_with fail
          go_roundw
          case rel => exact ⟨1 + 1, _, by omega, by go_num, by rw [HX.out]; go_num, by rw [HX.out, HP.out], rfl⟩
          case measure => simp [intOf]
      · have HX : Hid (spk s.data.toList (2 + 1) = spk s.data.toList 2 + s.data.toList.count 92) := by show _ = _; simp [spk, spc]; omega
        have hb1 := spk_le s.data.toList 2
        have hb2 := spk_le s.data.toList (2 + 1)
        have hb3 := HSZ.out
        rw [HX.out] at hb2
        obtain ⟨sX, hsX⟩ : ∃ sX : ByteArray, sX = ⟨#[92]⟩ := ⟨_, rfl⟩
        have hx : ∀ h, (sX[0]'h).toNat = 92 := by subst hsX; exact fun _ => rfl
        have hy : sX.size = 1 := by subst hsX; rfl
        have HCT : Hid (∀ W, Calls Tryz.prog 196 #[.string s, .string sX] W fun e w' => e = .returned (.int .i64 (s.data.toList.count 92 : Nat)) ∧ W = w') := fun W => by rw [hsX]; exact c_count1 s 92 W
        rw [← hsX] at r3
        clear hsX
        obtain ⟨bb, kk, e3⟩ : ∃ bb kk, w.cell? ⟨g, 92, none⟩ = some (.slice (some ⟨bb, 0, none⟩) 2 kk) := by
          rcases HR.out.at_ 92 with ⟨h, _⟩ | ⟨_, _, bb, kk, e3, _⟩
          · exact absurd h (by decide)
          · exact ⟨bb, kk, e3⟩
        generalize s.data.toList.count 92 = cc at *
        generalize spk s.data.toList 2 = S0 at *
        by_cases hc0 : cc = 0
        · have ht : ((cc : Int) != 0) = false := by simp [hc0]
          have HY : Hid (spk s.data.toList (2 + 1) = S0) := by show _ = _; rw [HX.out, hc0, Nat.add_zero]
          clear hc0
          go_wp2_with (go_at_call 196; refine (HCT.out _).mono ?_; rintro e w' ⟨rfl, rfl⟩)
          go_roundw
          case rel => exact ⟨2 + 1, d, by omega, by go_num, by rw [HY.out], by rw [HY.out], rfl⟩
          case measure => simp [intOf]
        · have ht : ((cc : Int) != 0) = true := by simp [hc0]
          have HP : Hid (decide (0 < S0 + cc) = true) := decide_eq_true (by omega)
          have hs0 : IntKind.i64.wrap (2 - 1) = 1 := by decide
          have hs1 : IntKind.i64.wrap 1 = 1 := by decide
          have hs2 : IntKind.i64.wrap (cc : Int) = (cc : Int) := by rw [IntKind.wrap_i64]; omega
          have hs3 : IntKind.i64.wrap ((s.size : Int) + (S0 : Int) + (cc : Int)) = (s.size : Int) + ((S0 + cc : Nat) : Int) := by rw [IntKind.wrap_i64]; omega
          clear hc0 hb1 hb2 hb3
          go_wp2_with (go_at_call 196; refine (HCT.out _).mono ?_; rintro e w' ⟨rfl, rfl⟩)
          go_quiet (fail)
          go_wp2_with fail
          go_roundw
          case rel => exact ⟨2 + 1, _, by omega, by go_num, by rw [HX.out]; go_num, by rw [HX.out, HP.out], rfl⟩
          case measure => simp [intOf]
      · have HRr : Hid (RepSt W (w.drewN d) g rep3) := HR.out.step (below_drewN (Below.refl _ _) d)
        have HBw : Hid (Below w.heap.size w (w.drewN d)) := below_drewN (Below.refl _ _) d
        rw [show spk s.data.toList 3 = spc s.data.toList from rfl]
        obtain ⟨wo, hwo⟩ : ∃ wo, wo = w.drewN d := ⟨_, rfl⟩
        rw [← hwo] at HRr HBw ⊢
        clear hwo
        have hT := HSZ.out
        have HEC2 := HEC
        by_cases h0 : spc s.data.toList = 0
        · have hany : decide (0 < spc s.data.toList) = false := decide_eq_false (by omega)
          have HE : Hid (esc s.data.toList = s.data.toList) := HEI.out h0
          rw [hany]
          clear h0 hany hT
          go_wp2_with fail
          go_ret
          exact ⟨by rw [HE.out]; exact congrArg (fun x => Ending.returned (Value.string x)) (str_self s).symm, HBw.out⟩
        · have hany : decide (0 < spc s.data.toList) = true := decide_eq_true (by omega)
          rw [hany]
          clear h0 hany
          obtain ⟨N, hN⟩ : ∃ N, (esc s.data.toList).length = N := ⟨_, rfl⟩
          have hN2 : (s.size : Int) + (spc s.data.toList : Int) = (N : Int) := by have := HEC.out; omega
          have hNb : N ≤ 70368744177664 := by have := HEC.out; omega
          rw [hN2]
          clear hN2 hT
          have HN := Lib.hid hN
          clear hN
          have hmk : (Instr.makeSlice 31 (.int .i64 (N : Int)) (.int .i64 (N : Int))).run Tryz.prog wo = .ok (.slice (some ⟨wo.heap.size, 0, none⟩) N N) (wo.alloc (.cells (madeCells #[.int .u8 0] N) 5)) := by
            have h := run_make_rowN (P := Tryz.prog) 31 5 i0 _ Tryz.underlying31 hi0 hz0 .i64 .i64 N N (Nat.le_refl _) (by rw [hz2]; omega) (by omega) wo
            simp only [hz1, Nat.mul_one] at h
            exact h
          have HM : Hid ((wo.alloc (.cells (madeCells #[.int .u8 0] N) 5)).heap[wo.heap.size]? = some (.cells (bys [] ++ List.replicate N (Value.int .u8 0)).toArray 5 (0, 0))) := by
            have := own_full (own_made wo 0 N 5 (.int .u8 0) (Nat.zero_le _) (by simp only [maxLen]; omega))
            exact this
          have HBm : Hid (Below wo.heap.size wo (wo.alloc (.cells (madeCells #[.int .u8 0] N) 5))) := (Below.refl _ _).alloc (Nat.le_refl _) _
          go_wp2_with fail
          clear hmk
          go_loopw [13, 14] (fun vj vi wr => ∃ (i : Nat) (m : List UInt8), i ≤ s.size ∧ vi = .int .i64 i ∧ vj = .int .i64 (m.length : Nat) ∧ Hid (m = esc (pre s i)) ∧ m.length ≤ N ∧ Hid (wr.heap[wo.heap.size]? = some (.cells (bys m ++ List.replicate (N - m.length) (Value.int .u8 0)).toArray 5 (0, 0))) ∧ Hid (Below wo.heap.size wo wr) ∧ wo.heap.size < wr.heap.size) (fun _ vi _ => s.size - (intOf vi).toNat)
          case atStart => exact ⟨0, [], Nat.zero_le _, rfl, rfl, rfl, Nat.zero_le _, HM.out, HBm.out, by simp⟩
          case round =>
            obtain ⟨i, m, hi, rfl, rfl, Hm, hmN, HC, HBz, hzz⟩ := hrel
            by_cases hlt : i < s.size
            · have HX : Hid (esc (pre s (i + 1)) = m ++ esc1 s[i]) := by show _ = _; rw [pre_snoc s i hlt, esc_snoc, Hm.out]
              have hX2 : (m ++ esc1 s[i]).length ≤ N := by rw [← HX.out, ← HN.out]; exact HEP.out (i + 1)
              have hb0 : (0 : Int) ≤ (s[i].toNat : Int) := by omega
              have hb1 : (s[i].toNat : Int) < 256 := by have := s[i].toNat_lt; omega
              rcases (HRr.out.step HBz.out).at_ s[i] with ⟨_, e2, e3⟩ | ⟨_, e2, bb, kk, e3, e4⟩
              · rw [e2] at HX hX2
                rw [List.length_append] at hX2
                have hjN : m.length < N := by have : [s[i]].length = 1 := rfl; omega
                have HSB : Hid (Blk wr wo.heap.size 5 (bys m ++ List.replicate (N - m.length) (Value.int .u8 0)).toArray) := HC.out
                have f1 : wr.cell? ⟨wo.heap.size, m.length, none⟩ = some (Value.int .u8 0) := by
                  rw [HSB.out.cell, List.getElem?_toArray, List.getElem?_append_right (by simp)]
                  rw [List.length_map, Nat.sub_self, List.getElem?_replicate, if_pos (by omega)]
                have f2 := HSB.out.frozen m.length
                have HC2 : Hid ((wr.setCell ⟨wo.heap.size, m.length, none⟩ (.int .u8 (s[i].toNat : Int))).heap[wo.heap.size]? = some (.cells (bys (m ++ [s[i]]) ++ List.replicate (N - (m ++ [s[i]]).length) (Value.int .u8 0)).toArray 5 (0, 0))) := by
                  have h := HSB.out.set_ m.length (.int .u8 (s[i].toNat : Int))
                  rw [show N - m.length = (N - (m.length + 1)) + 1 from by omega, fill_set m (N - (m.length + 1)) s[i] _ rfl] at h
                  rw [show (m ++ [s[i]]).length = m.length + 1 from by simp]
                  exact h
                have HBz2 : Hid (Below wo.heap.size wo (wr.setCell ⟨wo.heap.size, m.length, none⟩ (.int .u8 (s[i].toNat : Int)))) := HBz.out.setCell (p := ⟨wo.heap.size, m.length, none⟩) (Nat.le_refl _) _
                clear e2 hX2 HC
                go_wp2_with fail
                go_roundw
                case rel => exact ⟨i + 1, m ++ [s[i]], by omega, by go_num, by simp, HX.out.symm, by simp; omega, HC2.out, HBz2.out, by simp; omega⟩
                case measure => simp [intOf]; omega
              · rw [List.length_append, e2] at hX2
                have h1 : (m.length : Int) ≤ (N : Int) := by omega
                have h1' : ¬ N = m.length := by omega
                have h2 : (0 : Int) ≤ (m.length : Int) := by omega
                have HK := Lib.hid e4
                have HE2 := Lib.hid e2
                have hgW : g < wo.heap.size := HRr.out.lt
                clear e2 e4
                have HL2 : Hid ((bys (esc1 s[i])).length = 2) := by show _ = _; rw [List.length_map]; exact HE2.out
                have HSP : Hid (splice (bys m ++ List.replicate (N - m.length) (Value.int .u8 0)) m.length (bys (esc1 s[i])) = bys (m ++ esc1 s[i]) ++ List.replicate (N - (m ++ esc1 s[i]).length) (Value.int .u8 0)) := by
                  show _ = _
                  rw [fill_splice m (esc1 s[i]) _ (by rw [HE2.out]; omega), List.length_append, Nat.sub_sub]
                have hlX : (m ++ esc1 s[i]).length = m.length + 2 := by rw [List.length_append, HE2.out]
                have HLX := Lib.hid hlX
                clear hlX
                generalize hbe : esc1 s[i] = be at *
                clear hbe
                go_wp2_with fail
                go_region_held3 (fun V => V.cell? ⟨g, s[i].toNat, none⟩ = some (.slice (some ⟨bb, 0, none⟩) 2 kk)) (first | go_keep | assumption) ((refine step_copy_splice rfl (.tmp 105) (.tmp 111) 31 31 rfl 5 Tryz.underlying31 (by kernel_rfl) (some ⟨wo.heap.size, m.length, none⟩) (some ⟨bb, 0, none⟩) (N - m.length) (N - m.length) 2 kk (by simp [Act.eval]; try omega) (by simp [Act.eval]) wo.heap.size m.length (bys m ++ List.replicate (N - m.length) (Value.int .u8 0)) 5 HC.out (bys be) (by rw [HL2.out]; exact (Nat.min_eq_left (by omega)).symm) (fun _ => ⟨rfl, _, rfl, fun j u hu => (by rw [show ((⟨bb, 0, none⟩ : Addr).add j) = ⟨bb, j, none⟩ from (by cases j <;> simp [Addr.add])]; exact HK.out.cell hu)⟩) (by rw [HL2.out]; simp; omega) (bys_one _) wo.heap.size wo HBz.out.drew (Nat.le_refl _) ?_; intro w4 hg4 hb4; have v4 := (hb4.cell (p := ⟨g, s[i].toNat, none⟩) hgW).trans ((HBz.out.cell (p := ⟨g, s[i].toNat, none⟩) hgW).symm.trans e3); have HB4 := Lib.hid hb4; clear hb4))
                have HC4 : Hid (w4.heap[wo.heap.size]? = some (.cells (bys (m ++ be) ++ List.replicate (N - (m ++ be).length) (Value.int .u8 0)).toArray 5 (0, 0))) := by show _ = _; rw [← HSP.out]; exact hg4.out
                clear hg4 v4 e3
                have hz4 : wo.heap.size < w4.heap.size := by
                  rcases Nat.lt_or_ge wo.heap.size w4.heap.size with h | h
                  · exact h
                  · have := HC4.out; rw [Array.getElem?_eq_none h] at this; cases this
                go_wp2_with fail
                go_roundw
                case rel => exact ⟨i + 1, m ++ be, by omega, by go_num, by rw [HLX.out, HE2.out]; congr 1; rw [IntKind.wrap_i64]; omega, HX.out.symm, by rw [HLX.out]; omega, HC4.out, HB4.out, hz4⟩
                case measure => simp [intOf]; omega
            · obtain rfl : i = s.size := by omega
              have he : m = esc s.data.toList := by rw [Hm.out, pre_all s (Nat.le_refl _)]
              subst he
              have hl := HN.out
              have hc := HC.out
              rw [hl, Nat.sub_self, List.replicate_zero, List.append_nil] at hc
              have ho := own_of_full (base := 0) hc (Nat.zero_le _) (by simpa using hl) (by simp only [maxLen]; omega)
              have hcv := conv_bys ho
              have HB3 : Hid (Below w.heap.size w wr) := below_step HBw.out HBz.out
              clear hc ho hl
              go_wp2_with fail
              go_ret
              exact ⟨rfl, HB3.out⟩
  · go_enter Tryz.func194, Tryz.ntmps194
    go_wp2_with fail
    go_loop [5, 6, 10] (fun vn va vi => ∃ i : Nat, i ≤ s.size ∧ vi = .int .i64 i ∧ vn = .int .i64 ((s.size : Int) + (spc (pre s i) : Nat)) ∧ va = .bool (decide (0 < spc (pre s i)))) (fun _ _ vi => s.size - (intOf vi).toNat)
    case atStart => exact ⟨0, Nat.zero_le _, rfl, by go_num, rfl⟩
    case round =>
      obtain ⟨i, hi, rfl, rfl, rfl⟩ := hrel
      by_cases hlt : i < s.size
      · have HX : Hid (spc (pre s (i + 1)) = spc (pre s i) + spc [s[i]]) := by show _ = _; rw [pre_snoc s i hlt, spc_app]
        have hpl : spc (pre s i) ≤ s.size := by
          have h1 := (esc_len (pre s i)).2
          rw [esc_count, pre_len s hi] at h1
          omega
        have hb0 : (0 : Int) ≤ (s[i].toNat : Int) := by omega
        have hb1 : (s[i].toNat : Int) < 256 := by have := s[i].toNat_lt; omega
        rcases HR.out.at_ s[i] with ⟨e1, e2, e3⟩ | ⟨e1, e2, bb, kk, e3, e4⟩
        · rw [e1] at HX
          clear e1 e2
          generalize spc (pre s i) = S0 at *
          go_wp2_with fail
          go_round
          case rel => exact ⟨i + 1, by omega, by go_num, by rw [HX.out]; rfl, by rw [HX.out]; rfl⟩
          case measure => simp [intOf]; omega
        · rw [e1] at HX
          clear e1 e2 e4
          generalize spc (pre s i) = S0 at *
          go_wp2_with fail
          go_round
          case rel => exact ⟨i + 1, by omega, by go_num, by rw [HX.out]; go_num, by rw [HX.out]; simp⟩
          case measure => simp [intOf]; omega
      · obtain rfl : i = s.size := by omega
        have HRr := HR
        have HBw : Hid (Below w.heap.size w w) := Below.refl _ _
        rw [pre_all s (Nat.le_refl _)]
        have hT := HSZ.out
        have HEC2 := HEC
        by_cases h0 : spc s.data.toList = 0
        · have hany : decide (0 < spc s.data.toList) = false := decide_eq_false (by omega)
          have HE : Hid (esc s.data.toList = s.data.toList) := HEI.out h0
          rw [hany]
          clear h0 hany hT
          go_wp2_with fail
          go_ret
          exact ⟨by rw [HE.out]; exact congrArg (fun x => Ending.returned (Value.string x)) (str_self s).symm, HBw.out⟩
        · have hany : decide (0 < spc s.data.toList) = true := decide_eq_true (by omega)
          rw [hany]
          clear h0 hany
          obtain ⟨N, hN⟩ : ∃ N, (esc s.data.toList).length = N := ⟨_, rfl⟩
          have hN2 : (s.size : Int) + (spc s.data.toList : Int) = (N : Int) := by have := HEC.out; omega
          have hNb : N ≤ 70368744177664 := by have := HEC.out; omega
          rw [hN2]
          clear hN2 hT
          have HN := Lib.hid hN
          clear hN
          have hmk : (Instr.makeSlice 31 (.int .i64 (N : Int)) (.int .i64 (N : Int))).run Tryz.prog w = .ok (.slice (some ⟨w.heap.size, 0, none⟩) N N) (w.alloc (.cells (madeCells #[.int .u8 0] N) 5)) := by
            have h := run_make_rowN (P := Tryz.prog) 31 5 i0 _ Tryz.underlying31 hi0 hz0 .i64 .i64 N N (Nat.le_refl _) (by rw [hz2]; omega) (by omega) w
            simp only [hz1, Nat.mul_one] at h
            exact h
          have HM : Hid ((w.alloc (.cells (madeCells #[.int .u8 0] N) 5)).heap[w.heap.size]? = some (.cells (bys [] ++ List.replicate N (Value.int .u8 0)).toArray 5 (0, 0))) := by
            have := own_full (own_made w 0 N 5 (.int .u8 0) (Nat.zero_le _) (by simp only [maxLen]; omega))
            exact this
          have HBm : Hid (Below w.heap.size w (w.alloc (.cells (madeCells #[.int .u8 0] N) 5))) := (Below.refl _ _).alloc (Nat.le_refl _) _
          go_wp2_with fail
          clear hmk
          go_loopw [13, 14] (fun vj vi wr => ∃ (i : Nat) (m : List UInt8), i ≤ s.size ∧ vi = .int .i64 i ∧ vj = .int .i64 (m.length : Nat) ∧ Hid (m = esc (pre s i)) ∧ m.length ≤ N ∧ Hid (wr.heap[w.heap.size]? = some (.cells (bys m ++ List.replicate (N - m.length) (Value.int .u8 0)).toArray 5 (0, 0))) ∧ Hid (Below w.heap.size w wr) ∧ w.heap.size < wr.heap.size) (fun _ vi _ => s.size - (intOf vi).toNat)
          case atStart => exact ⟨0, [], Nat.zero_le _, rfl, rfl, rfl, Nat.zero_le _, HM.out, HBm.out, by simp⟩
          case round =>
            obtain ⟨i, m, hi, rfl, rfl, Hm, hmN, HC, HBz, hzz⟩ := hrel
            by_cases hlt : i < s.size
            · have HX : Hid (esc (pre s (i + 1)) = m ++ esc1 s[i]) := by show _ = _; rw [pre_snoc s i hlt, esc_snoc, Hm.out]
              have hX2 : (m ++ esc1 s[i]).length ≤ N := by rw [← HX.out, ← HN.out]; exact HEP.out (i + 1)
              have hb0 : (0 : Int) ≤ (s[i].toNat : Int) := by omega
              have hb1 : (s[i].toNat : Int) < 256 := by have := s[i].toNat_lt; omega
              rcases (HRr.out.step HBz.out).at_ s[i] with ⟨_, e2, e3⟩ | ⟨_, e2, bb, kk, e3, e4⟩
              · rw [e2] at HX hX2
                rw [List.length_append] at hX2
                have hjN : m.length < N := by have : [s[i]].length = 1 := rfl; omega
                have HSB : Hid (Blk wr w.heap.size 5 (bys m ++ List.replicate (N - m.length) (Value.int .u8 0)).toArray) := HC.out
                have f1 : wr.cell? ⟨w.heap.size, m.length, none⟩ = some (Value.int .u8 0) := by
                  rw [HSB.out.cell, List.getElem?_toArray, List.getElem?_append_right (by simp)]
                  rw [List.length_map, Nat.sub_self, List.getElem?_replicate, if_pos (by omega)]
                have f2 := HSB.out.frozen m.length
                have HC2 : Hid ((wr.setCell ⟨w.heap.size, m.length, none⟩ (.int .u8 (s[i].toNat : Int))).heap[w.heap.size]? = some (.cells (bys (m ++ [s[i]]) ++ List.replicate (N - (m ++ [s[i]]).length) (Value.int .u8 0)).toArray 5 (0, 0))) := by
                  have h := HSB.out.set_ m.length (.int .u8 (s[i].toNat : Int))
                  rw [show N - m.length = (N - (m.length + 1)) + 1 from by omega, fill_set m (N - (m.length + 1)) s[i] _ rfl] at h
                  rw [show (m ++ [s[i]]).length = m.length + 1 from by simp]
                  exact h
                have HBz2 : Hid (Below w.heap.size w (wr.setCell ⟨w.heap.size, m.length, none⟩ (.int .u8 (s[i].toNat : Int)))) := HBz.out.setCell (p := ⟨w.heap.size, m.length, none⟩) (Nat.le_refl _) _
                clear e2 hX2 HC
                go_wp2_with fail
                go_roundw
                case rel => exact ⟨i + 1, m ++ [s[i]], by omega, by go_num, by simp, HX.out.symm, by simp; omega, HC2.out, HBz2.out, by simp; omega⟩
                case measure => simp [intOf]; omega
              · rw [List.length_append, e2] at hX2
                have h1 : (m.length : Int) ≤ (N : Int) := by omega
                have h1' : ¬ N = m.length := by omega
                have h2 : (0 : Int) ≤ (m.length : Int) := by omega
                have HK := Lib.hid e4
                have HE2 := Lib.hid e2
                have hgW : g < w.heap.size := HRr.out.lt
                clear e2 e4
                have HL2 : Hid ((bys (esc1 s[i])).length = 2) := by show _ = _; rw [List.length_map]; exact HE2.out
                have HSP : Hid (splice (bys m ++ List.replicate (N - m.length) (Value.int .u8 0)) m.length (bys (esc1 s[i])) = bys (m ++ esc1 s[i]) ++ List.replicate (N - (m ++ esc1 s[i]).length) (Value.int .u8 0)) := by
                  show _ = _
                  rw [fill_splice m (esc1 s[i]) _ (by rw [HE2.out]; omega), List.length_append, Nat.sub_sub]
                have hlX : (m ++ esc1 s[i]).length = m.length + 2 := by rw [List.length_append, HE2.out]
                have HLX := Lib.hid hlX
                clear hlX
                generalize hbe : esc1 s[i] = be at *
                clear hbe
                go_wp2_with fail
                go_region_held3 (fun V => V.cell? ⟨g, s[i].toNat, none⟩ = some (.slice (some ⟨bb, 0, none⟩) 2 kk)) (first | go_keep | assumption) ((refine step_copy_splice rfl (.tmp 105) (.tmp 111) 31 31 rfl 5 Tryz.underlying31 (by kernel_rfl) (some ⟨w.heap.size, m.length, none⟩) (some ⟨bb, 0, none⟩) (N - m.length) (N - m.length) 2 kk (by simp [Act.eval]; try omega) (by simp [Act.eval]) w.heap.size m.length (bys m ++ List.replicate (N - m.length) (Value.int .u8 0)) 5 HC.out (bys be) (by rw [HL2.out]; exact (Nat.min_eq_left (by omega)).symm) (fun _ => ⟨rfl, _, rfl, fun j u hu => (by rw [show ((⟨bb, 0, none⟩ : Addr).add j) = ⟨bb, j, none⟩ from (by cases j <;> simp [Addr.add])]; exact HK.out.cell hu)⟩) (by rw [HL2.out]; simp; omega) (bys_one _) w.heap.size w HBz.out.drew (Nat.le_refl _) ?_; intro w4 hg4 hb4; have v4 := (hb4.cell (p := ⟨g, s[i].toNat, none⟩) hgW).trans ((HBz.out.cell (p := ⟨g, s[i].toNat, none⟩) hgW).symm.trans e3); have HB4 := Lib.hid hb4; clear hb4))
                have HC4 : Hid (w4.heap[w.heap.size]? = some (.cells (bys (m ++ be) ++ List.replicate (N - (m ++ be).length) (Value.int .u8 0)).toArray 5 (0, 0))) := by show _ = _; rw [← HSP.out]; exact hg4.out
                clear hg4 v4 e3
                have hz4 : w.heap.size < w4.heap.size := by
                  rcases Nat.lt_or_ge w.heap.size w4.heap.size with h | h
                  · exact h
                  · have := HC4.out; rw [Array.getElem?_eq_none h] at this; cases this
                go_wp2_with fail
                go_roundw
                case rel => exact ⟨i + 1, m ++ be, by omega, by go_num, by rw [HLX.out, HE2.out]; congr 1; rw [IntKind.wrap_i64]; omega, HX.out.symm, by rw [HLX.out]; omega, HC4.out, HB4.out, hz4⟩
                case measure => simp [intOf]; omega
            · obtain rfl : i = s.size := by omega
              have he : m = esc s.data.toList := by rw [Hm.out, pre_all s (Nat.le_refl _)]
              subst he
              have hl := HN.out
              have hc := HC.out
              rw [hl, Nat.sub_self, List.replicate_zero, List.append_nil] at hc
              have ho := own_of_full (base := 0) hc (Nat.zero_le _) (by simpa using hl) (by simp only [maxLen]; omega)
              have hcv := conv_bys ho
              have HB3 : Hid (Below w.heap.size w wr) := below_step HBw.out HBz.out
              clear hc ho hl
              go_wp2_with fail
              go_ret
              exact ⟨rfl, HB3.out⟩
end Go.Proofs.YtmnkdkibhchglaaGreatDoor
