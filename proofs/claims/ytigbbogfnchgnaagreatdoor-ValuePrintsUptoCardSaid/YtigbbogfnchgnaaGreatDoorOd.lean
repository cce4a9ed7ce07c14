/- Walks: numbers and texts as new bytes (word.Store32, word.Store64, quernref01.Store, counted, number). Conditions: as stated. -/
import Derived.Test.YtigbbogfnchgnaaGreatDoorOc
namespace Go.Proofs.YtigbbogfnchgnaaGreatDoor
open Go.RowKit
set_option linter.unusedVariables false
attribute [local go_sem ↓] Go.wp_at_zero Go.wp_at_succ

theorem own_lit {w : World} {xs : List Int} {cs : Array Value} {n : Nat} (h : cs.toList = u8s xs) (hl : xs.length = n) (hm : n ≤ maxLen) : OwnB w xs (.returned (.slice (some ⟨w.heap.size, 0, none⟩) n n)) (w.alloc (.cells cs 5)) := by
  subst hl
  have hs : cs.size = xs.length * 1 := by rw [← Array.length_toList, h]; simp
  have := World.ownsRow_lit (e := 5) (size := 1) (base := w.heap.size) w cs xs.length (Nat.le_refl _) hm hs
  rw [h] at this
  exact ⟨_, rfl, this, (Below.refl _ _).alloc (Nat.le_refl _) _⟩
theorem leB4 (x : Nat) (hx : x < 4294967296) : [Value.int .u8 ((x : Int) % 256), .int .u8 ((x : Int) / 256 % 256), .int .u8 ((x : Int) / 65536 % 256), .int .u8 ((x : Int) / 16777216)] = u8s (leB 4 x) := by
  simp only [leB, u8s, List.map_cons, List.map_nil]
  rw [show ((x % 256 : Nat) : Int) = (x : Int) % 256 by omega, show ((x / 256 % 256 : Nat) : Int) = (x : Int) / 256 % 256 by omega, show ((x / 256 / 256 % 256 : Nat) : Int) = (x : Int) / 65536 % 256 by omega, show ((x / 256 / 256 / 256 % 256 : Nat) : Int) = (x : Int) / 16777216 by omega]
theorem c_S32 (x : Nat) (hx : x < 4294967296) (w : World) : Calls Tryz.prog 51 #[.int .u32 (x : Int)] w (OwnB w (leB 4 x)) := by
  go_enter Tryz.func51, Tryz.ntmps51
  go_wp2
  go_ret
  exact own_lit (leB4 x hx) (leB_len _ _) (by unfold maxLen; omega)
/-- So far filled, noughts behind. -/
def parW (x i : Nat) : List Int := (leB 8 x).take i ++ List.replicate (8 - i) 0
theorem parW_next {x i : Nat} (hi : i < 8) {v : Int} (hv : v = ((x / 256 ^ i % 256 : Nat) : Int)) : (u8s (parW x i)).toArray.setIfInBounds i (.int .u8 v) = (u8s (parW x (i + 1))).toArray := by
  have hl : (leB 8 x).length = 8 := leB_len _ _
  have hg : (leB 8 x)[i]'(by omega) = v := by
    have := leB_get 8 x i hi
    rw [List.getD_eq_getElem?_getD, List.getElem?_eq_getElem (by omega)] at this
    rw [hv]; exact this
  have : (parW x i).set i v = parW x (i + 1) := by
    unfold parW
    rw [List.set_append_right _ _ (by simp; omega), List.take_succ_eq_append_getElem (by omega), hg, List.append_assoc]
    congr 1
    rw [show 8 - i = (8 - (i + 1)) + 1 by omega, List.replicate_succ]
    rw [show i - ((leB 8 x).take i).length = 0 by simp; omega]
    rfl
  rw [← this]
  simp [List.map_set]
theorem parW_blk {wr : World} {g x i : Nat} {v : Int} (h : Blk wr g 5 (u8s (parW x i)).toArray) (hi : i < 8) (hv : v = ((x / 256 ^ i % 256 : Nat) : Int)) : Blk (wr.setCell ⟨g, i, none⟩ (.int .u8 v)) g 5 (u8s (parW x (i + 1))).toArray := by
  have := h.set_ i (.int .u8 v)
  rw [parW_next hi hv] at this
  exact this
theorem parW_zero (x : Nat) : parW x 0 = List.replicate 8 0 := rfl
theorem parW_all (x : Nat) : parW x 8 = leB 8 x := by
  unfold parW
  rw [List.take_of_length_le (by rw [leB_len]; omega)]; simp
set_option maxRecDepth 100000 in
theorem c_S64 (x : Nat) (hx : x < 18446744073709551616) (w : World) : Calls Tryz.prog 184 #[.int .u64 (x : Int)] w (OwnB w (leB 8 x)) := by
  have HX := Lib.hid hx
  clear hx
  have hmk : (Instr.makeSlice 36 (.int .i64 8) (.int .i64 8)).run Tryz.prog w = .ok (.slice (some ⟨w.heap.size, 0, none⟩) 8 8) (w.alloc (.cells (u8s (parW x 0)).toArray 5)) := by
    rw [parW_zero]; kernel_rfl
  have HBK : Hid (Blk (w.alloc (.cells (u8s (parW x 0)).toArray 5)) w.heap.size 5 (u8s (parW x 0)).toArray) := Blk.new _ _ _
  have HBM : Hid (Below w.heap.size w (w.alloc (.cells (u8s (parW x 0)).toArray 5))) := (Below.refl w.heap.size w).alloc (Nat.le_refl _) _
  generalize w.alloc (.cells (u8s (parW x 0)).toArray 5) = wm at *
  go_enter Tryz.func184, Tryz.ntmps184
  go_wp2_with fail
  go_loopw [6] (fun vi wr => ∃ i : Nat, vi = .int .i64 i ∧ i ≤ 8 ∧ Hid (Blk wr w.heap.size 5 (u8s (parW x i)).toArray) ∧ Hid (Below w.heap.size w wr)) (fun vi _ => 8 - (intOf vi).toNat)
  case atStart => exact ⟨0, rfl, Nat.zero_le _, HBK, HBM⟩
  case round =>
    obtain ⟨i, rfl, hi, HBr, HMr⟩ := hrel
    clear hmk HBK HBM
    have hc := fun q : Nat => HBr.out.cell q
    have hlen : (parW x i).length = 8 := by unfold parW; simp [leB_len]; omega
    have hcc : ∀ q : Nat, q < 8 → wr.cell? ⟨w.heap.size, q, none⟩ = some (.int .u8 ((parW x i).getD q 0)) := fun q hq => by
      rw [HBr.out.cell q]; simp [List.getD, List.getElem?_eq_getElem (show q < (parW x i).length by omega)]
    have hfz : ∀ q : Nat, wr.frozen? ⟨w.heap.size, q, none⟩ = false := fun q => HBr.out.frozen q
    have HCC := Lib.hid hcc
    have HFZ := Lib.hid hfz
    clear hc hcc hfz hlen
    rcases (show i = 0 ∨ i = 1 ∨ i = 2 ∨ i = 3 ∨ i = 4 ∨ i = 5 ∨ i = 6 ∨ i = 7 ∨ i = 8 by omega) with hh | hh | hh | hh | hh | hh | hh | hh | hh
    · subst hh
      have f1 := HCC.out 0 (by omega)
      have fz := HFZ.out 0
      go_wp2_with fail
      go_roundw
      case rel => exact ⟨1, by go_num, by omega, parW_blk HBr.out (by omega) (by first | (rw [show (256 : Nat) ^ 0 = 1 from rfl]; omega) | omega), HMr.out.setCell (Nat.le_refl _) _⟩
      case measure => simp [intOf]
    · subst hh
      have f1 := HCC.out 1 (by omega)
      have fz := HFZ.out 1
      go_wp2_with fail
      go_roundw
      case rel => exact ⟨2, by go_num, by omega, parW_blk HBr.out (by omega) (by first | (rw [show (256 : Nat) ^ 1 = 256 from rfl]; omega) | omega), HMr.out.setCell (Nat.le_refl _) _⟩
      case measure => simp [intOf]
    · subst hh
      have f1 := HCC.out 2 (by omega)
      have fz := HFZ.out 2
      go_wp2_with fail
      go_roundw
      case rel => exact ⟨3, by go_num, by omega, parW_blk HBr.out (by omega) (by first | (rw [show (256 : Nat) ^ 2 = 65536 from rfl]; omega) | omega), HMr.out.setCell (Nat.le_refl _) _⟩
      case measure => simp [intOf]
    · subst hh
      have f1 := HCC.out 3 (by omega)
      have fz := HFZ.out 3
      go_wp2_with fail
      go_roundw
      case rel => exact ⟨4, by go_num, by omega, parW_blk HBr.out (by omega) (by first | (rw [show (256 : Nat) ^ 3 = 16777216 from rfl]; omega) | omega), HMr.out.setCell (Nat.le_refl _) _⟩
      case measure => simp [intOf]
    · subst hh
      have f1 := HCC.out 4 (by omega)
      have fz := HFZ.out 4
      go_wp2_with fail
      go_roundw
      case rel => exact ⟨5, by go_num, by omega, parW_blk HBr.out (by omega) (by first | (rw [show (256 : Nat) ^ 4 = 4294967296 from rfl]; omega) | omega), HMr.out.setCell (Nat.le_refl _) _⟩
      case measure => simp [intOf]
    · subst hh
      have f1 := HCC.out 5 (by omega)
      have fz := HFZ.out 5
      go_wp2_with fail
      go_roundw
      case rel => exact ⟨6, by go_num, by omega, parW_blk HBr.out (by omega) (by first | (rw [show (256 : Nat) ^ 5 = 1099511627776 from rfl]; omega) | omega), HMr.out.setCell (Nat.le_refl _) _⟩
      case measure => simp [intOf]
    · subst hh
      have f1 := HCC.out 6 (by omega)
      have fz := HFZ.out 6
      go_wp2_with fail
      go_roundw
      case rel => exact ⟨7, by go_num, by omega, parW_blk HBr.out (by omega) (by first | (rw [show (256 : Nat) ^ 6 = 281474976710656 from rfl]; omega) | omega), HMr.out.setCell (Nat.le_refl _) _⟩
      case measure => simp [intOf]
    · subst hh
      have f1 := HCC.out 7 (by omega)
      have fz := HFZ.out 7
      go_wp2_with fail
      go_roundw
      case rel => exact ⟨8, by go_num, by omega, parW_blk HBr.out (by omega) (by first | (rw [show (256 : Nat) ^ 7 = 72057594037927936 from rfl]; omega) | omega), HMr.out.setCell (Nat.le_refl _) _⟩
      case measure => simp [intOf]
    · subst hh
      rw [parW_all] at HBr
      go_wp2_with fail
      go_ret
      have ho := own_of_full (n := 8) HBr.out (Nat.le_refl _) (by simp [leB_len]) (by unfold maxLen; omega)
      exact ⟨_, rfl, by rw [leB_len]; exact ho, HMr.out⟩
theorem c_counted (s : ByteArray) (hs : s.size < 4294967296) (w : World) : Calls Tryz.prog 52 #[.string s] w (OwnB w (leB 4 s.size ++ txB s)) := by
  obtain ⟨i0, hi0, hz0, hz1, hz2⟩ := info_parts u8_info8
  have HC := Lib.hid (c_S32 s.size hs w)
  go_enter Tryz.func52, Tryz.ntmps52
  go_wp2_with fail
  refine (HC.out).mono ?_; rintro e w1 ⟨v, rfl, ho, hb⟩
  rw [leB_len] at ho
  have HO := Lib.hid ho
  have HB := Lib.hid hb
  clear ho hb
  go_wp2_with (at_builtin; refine Lib.wpList_append_own_string _ rfl (.tmp 6) (.tmp 7) 36 9 rfl w.heap.size 5 i0 Tryz.underlying36 Tryz.underlying9 hi0 hz0 hz1 hz2 v 4 (u8s (leB 4 s.size)) rfl HO.out s rfl (by simp only [maxLen]; omega) (by omega) HB.out.size ?_; intro v2 w2 ho2 hg2 _; have HO2 := Lib.hid ho2; have HB2 := Lib.hid (below_own HB.out HO.out hg2); clear ho2 hg2)
  go_ret
  refine ⟨v2, rfl, ?_, HB2.out⟩
  have := HO2.out
  rw [strCells_u8] at this
  rw [List.length_append, leB_len, txB_len, show u8s (leB 4 s.size ++ txB s) = u8s (leB 4 s.size) ++ u8s (txB s) from List.map_append]
  exact this
theorem c_bNull (w : World) : Calls Tryz.prog 176 #[.agg #[]] w (OwnB w []) := by
  go_enter Tryz.func176, Tryz.ntmps176
  go_wp2
  go_ret
  exact ⟨_, rfl, World.ownsRow_nil _ _ _ _, by first | exact Below.refl _ _ | exact (Below.refl _ _).alloc (Nat.le_refl _) _⟩
theorem c_bTruth (b : Bool) (w : World) : Calls Tryz.prog 178 #[.bool b] w (OwnB w [if b then 1 else 0]) := by
  cases b
  · go_enter Tryz.func178, Tryz.ntmps178
    go_wp2
    go_ret
    exact own_lit rfl rfl (by unfold maxLen; omega)
  · go_enter Tryz.func178, Tryz.ntmps178
    go_wp2
    go_ret
    exact own_lit rfl rfl (by unfold maxLen; omega)
theorem c_bTruthI (i : Int) (w : World) : Calls Tryz.prog 178 #[.bool (i == 1)] w (OwnB w [if i = 1 then 1 else 0]) := by
  have := c_bTruth (i == 1) w
  rw [show (if (i == 1) = true then (1 : Int) else 0) = if i = 1 then 1 else 0 by simp] at this
  exact this
theorem u64N_cast (i : Int) : ((u64N i : Nat) : Int) = i % 18446744073709551616 := by unfold u64N; omega
set_option maxRecDepth 100000 in
theorem c_bNumber (i : Int) (hi : (Lit.int .i64 i).wf = true) (w : World) : Calls Tryz.prog 182 #[.int .i64 i] w (OwnB w (leB 8 (u64N i))) := by
  have hr : -9223372036854775808 ≤ i ∧ i ≤ 9223372036854775807 := by
    simp [Lit.wf, IntKind.min, IntKind.max, IntKind.bits, IntKind.signed] at hi
    omega
  have HC := Lib.hid (c_S64 (u64N i) (by unfold u64N; omega) w)
  rw [u64N_cast] at HC
  obtain ⟨h1, h2⟩ := hr
  go_enter Tryz.func182, Tryz.ntmps182
  go_wp2_with fail
  refine (HC.out).mono ?_; rintro e w1 ⟨v, rfl, ho, hb⟩
  go_wp2_with fail
  go_ret
  exact ⟨v, rfl, ho, hb⟩
theorem c_bReal (f : Nat) (hf : f < 18446744073709551616) (w : World) : Calls Tryz.prog 186 #[.float .f64 f] w (OwnB w (leB 8 (fone f))) := by
  have HC := Lib.hid (fun W => c_S64 (fone f) (fone_lt hf) W)
  go_enter Tryz.func186, Tryz.ntmps186
  go_wp2_with fail
  refine (c_One f _).mono ?_; rintro e w1 ⟨rfl, rfl⟩
  go_wp2_with fail
  refine (HC.out _).mono ?_; rintro e w1 ⟨v, rfl, ho, hb⟩
  go_wp2_with fail
  go_ret
  exact ⟨v, rfl, ho, hb⟩
theorem c_bWords (s : ByteArray) (hs : s.size < 4294967296) (w : World) : Calls Tryz.prog 241 #[.string s] w (OwnB w (leB 4 s.size ++ txB s)) := by
  have HC := Lib.hid (fun W => c_counted s hs W)
  go_enter Tryz.func241, Tryz.ntmps241
  go_wp2_with fail
  refine (HC.out _).mono ?_; rintro e w1 ⟨v, rfl, ho, hb⟩
  go_wp2_with fail
  go_ret
  exact ⟨v, rfl, ho, hb⟩
theorem c_bRaw (s : ByteArray) (hs : s.size < 4294967296) (w : World) : Calls Tryz.prog 243 #[.string s] w (OwnB w (leB 4 s.size ++ txB s)) := by
  have HC := Lib.hid (fun W => c_counted s hs W)
  go_enter Tryz.func243, Tryz.ntmps243
  go_wp2_with fail
  refine (HC.out _).mono ?_; rintro e w1 ⟨v, rfl, ho, hb⟩
  go_wp2_with fail
  go_ret
  exact ⟨v, rfl, ho, hb⟩
theorem c_bVeil (s : ByteArray) (hs : s.size < 4294967296) (w : World) : Calls Tryz.prog 246 #[.string s] w (OwnB w (leB 4 s.size ++ txB s)) := by
  have HC := Lib.hid (fun W => c_counted s hs W)
  go_enter Tryz.func246, Tryz.ntmps246
  go_wp2_with fail
  refine (HC.out _).mono ?_; rintro e w1 ⟨v, rfl, ho, hb⟩
  go_wp2_with fail
  go_ret
  exact ⟨v, rfl, ho, hb⟩
end Go.Proofs.YtigbbogfnchgnaaGreatDoor
