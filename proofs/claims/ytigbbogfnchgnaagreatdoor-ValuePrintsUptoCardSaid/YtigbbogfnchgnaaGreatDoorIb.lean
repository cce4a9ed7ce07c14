/- Walks: texts of values without items (value.null.text and its like; word.Hex, value.quoted). Conditions: as stated; the library's tables. -/
import Derived.Test.YtigbbogfnchgnaaGreatDoorIa
import Derived.Test.YtigbbogfnchgnaaGreatDoorJg
import Derived.Test.YtigbbogfnchgnaaGreatDoorM9
import Derived.Test.YtigbbogfnchgnaaGreatDoorLf
import Derived.Lib.ConvBytes
namespace Go.Proofs.YtigbbogfnchgnaaGreatDoor
open Go.RowKit Go.Sort
set_option linter.unusedVariables false
attribute [local go_sem ↓] Go.wp_at_zero Go.wp_at_succ

set_option maxRecDepth 100000 in
theorem c_Hex (A : Option Addr) (n c : Nat) (xs : List Int) (w : World) (hr : Reads w w.heap.size 1 A n (u8s xs)) (hn : n ≤ 1048576) (hx : ∀ z ∈ xs, 0 ≤ z ∧ z < 256) :
    Calls Tryz.prog 245 #[.slice A n c] w fun e w' => e = .returned (nmT (hxs xs)) ∧ Below w.heap.size w w' := by
  obtain ⟨i0, hi0, hz0, hz1, hz2⟩ := info_parts u8_info8
  have HRD := Lib.hid hr
  have HXL : Hid (xs.length = n) := Lib.hid (by simpa using hr.1)
  have HXB := Lib.hid hx
  clear hr hx
  have hmk : (Instr.makeSlice 36 (.int .i64 0) (.int .i64 (2 * (n : Int)))).run Tryz.prog w = .ok (.slice (some ⟨w.heap.size, 0, none⟩) 0 (2 * n)) (w.alloc (.cells (madeCells (Value.cells (.int .u8 0)) (2 * n * i0.size)) 5)) := by
    rw [show 2 * (n : Int) = ((2 * n : Nat) : Int) from by omega]
    exact run_make_rowN (P := Tryz.prog) 36 5 i0 _ Tryz.underlying36 hi0 hz0 .i64 .i64 0 (2 * n) (Nat.zero_le _) (by rw [hz2]; omega) (by omega) w
  have HOM : Hid ((w.alloc (.cells (madeCells (Value.cells (.int .u8 0)) (2 * n * i0.size)) 5)).ownsRow w.heap.size 5 1 (.slice (some ⟨w.heap.size, 0, none⟩) 0 (2 * n)) 0 []) := World.ownsRow_made w _ (2 * n) (Nat.le_refl _) (by simp only [maxLen]; omega) (by rw [size_madeCells, hz1])
  have HBM : Hid (Below w.heap.size w (w.alloc (.cells (madeCells (Value.cells (.int .u8 0)) (2 * n * i0.size)) 5))) := (Below.refl w.heap.size w).alloc (Nat.le_refl _) _
  generalize w.alloc (.cells (madeCells (Value.cells (.int .u8 0)) (2 * n * i0.size)) 5) = wm at *
  go_enter Tryz.func245, Tryz.ntmps245
  go_wp2_with fail
  go_loopw [3, 12] (fun vo vi wr => ∃ (i : Nat) (A0 : Option Addr) (c0 : Nat), vo = .slice A0 ((2 * i : Nat)) c0 ∧ vi = .int .i64 i ∧ i ≤ n ∧ Hid (wr.ownsRow w.heap.size 5 1 (.slice A0 (2 * i) c0) (2 * i) (u8s (hxs (xs.take i)))) ∧ Hid (Below w.heap.size w wr)) (fun _ vi _ => n - (intOf vi).toNat)
  case atStart => exact ⟨0, _, _, rfl, rfl, Nat.zero_le _, HOM.out, HBM.out⟩
  case round =>
    obtain ⟨i, A0, c0, rfl, rfl, hi, HO, HB⟩ := hrel
    by_cases hlt : i < n
    · obtain ⟨b, off, hA, hb1, hb2, hcell⟩ := HRD.out.form (by omega)
      subst hA
      have hgx : (u8s xs).getD i undef = .int .u8 (xs.getD i 0) := by
        have := HXL.out
        simp [u8s, List.getD, List.getElem?_eq_getElem (show i < xs.length by omega)]
      have hc1 : wr.cell? ⟨b, off + i, none⟩ = some (.int .u8 (xs.getD i 0)) := by rw [(bcell HB.out).1 _ _ hb2, hcell i hlt, hgx]
      clear hcell hgx
      have HT := Lib.hid (hxs_take xs (i := i) (by rw [HXL.out]; exact hlt))
      have hz := HXB.out (xs.getD i 0) (by
        have := HXL.out
        rw [List.getD, List.getElem?_eq_getElem (show i < xs.length by omega)]
        exact List.getElem_mem _)
      generalize xs.getD i 0 = z at *
      obtain ⟨hzl, hzr⟩ := hz
      obtain ⟨p, hp⟩ : ∃ p : Nat, z / 16 = (p : Int) := ⟨(z / 16).toNat, by omega⟩
      obtain ⟨q, hq⟩ : ∃ q : Nat, z % 16 = (q : Int) := ⟨(z % 16).toNat, by omega⟩
      have hp16 : p < 16 := by omega
      have hq16 : q < 16 := by omega
      have e1 : IntKind.u8.wrap (z.tdiv 16) = (p : Int) := by rw [Int.tdiv_eq_ediv_of_nonneg hzl, hp, IntKind.wrap_u8]; omega
      have e2 : z.tmod 16 = (q : Int) := by rw [Int.tmod_eq_emod_of_nonneg hzl, hq]
      have e3 : bits .and .u8 z 15 = (q : Int) := by
        rw [u8_and z 15 hzl hzr (by omega) (by omega)]
        have h := Nat.and_two_pow_sub_one_eq_mod z.toNat 4
        rw [show (2 : Nat) ^ 4 - 1 = (15 : Int).toNat from rfl, show (2 : Nat) ^ 4 = 16 from rfl] at h
        rw [h]
        omega
      have e4 : z / 16 = (p : Int) := hp
      have k1 : (p : Int) < 16 := by omega
      have k2 : (q : Int) < 16 := by omega
      have g1 : ∀ h : p < ({ data := #[48, 49, 50, 51, 52, 53, 54, 55, 56, 57, 97, 98, 99, 100, 101, 102] } : ByteArray).size, (({ data := #[48, 49, 50, 51, 52, 53, 54, 55, 56, 57, 97, 98, 99, 100, 101, 102] } : ByteArray)[p]'h).toNat = (hdg (p : Int)).toNat := hex_at
      have g2 : ∀ h : q < ({ data := #[48, 49, 50, 51, 52, 53, 54, 55, 56, 57, 97, 98, 99, 100, 101, 102] } : ByteArray).size, (({ data := #[48, 49, 50, 51, 52, 53, 54, 55, 56, 57, 97, 98, 99, 100, 101, 102] } : ByteArray)[q]'h).toNat = (hdg (q : Int)).toNat := hex_at
      have r1 := hdg_range hp16
      have r2 := hdg_range hq16
      rw [hp, hq] at HT
      obtain ⟨x, hx⟩ : ∃ x : Nat, hdg (p : Int) = (x : Int) := ⟨(hdg (p : Int)).toNat, by omega⟩
      obtain ⟨y, hy⟩ : ∃ y : Nat, hdg (q : Int) = (y : Int) := ⟨(hdg (q : Int)).toNat, by omega⟩
      rw [hx] at g1 HT r1
      rw [hy] at g2 HT r2
      rw [Int.toNat_natCast] at g1 g2
      clear hp hq hx hy
      go_wp2_with fail
      have HOA : Hid ((wr.alloc (.cells #[.int .u8 (x : Int), .int .u8 (y : Int)] 5)).drew.ownsRow w.heap.size 5 1 (.slice A0 (2 * i) c0) (2 * i) (u8s (hxs (xs.take i)))) := (HO.out.alloc _).drew
      have HBA : Hid (Below w.heap.size w (wr.alloc (.cells #[.int .u8 (x : Int), .int .u8 (y : Int)] 5)).drew) := (HB.out.alloc HB.out.size _).drew
      have HRA : Hid (Reads (wr.alloc (.cells #[.int .u8 (x : Int), .int .u8 (y : Int)] 5)).drew (wr.alloc (.cells #[.int .u8 (x : Int), .int .u8 (y : Int)] 5)).drew.heap.size 1 (some ⟨wr.heap.size, 0, none⟩) 2 [.int .u8 (x : Int), .int .u8 (y : Int)]) := Reads.of_own (World.ownsRow_lit (e := 5) (size := 1) (base := 0) wr #[.int .u8 (x : Int), .int .u8 (y : Int)] 2 (Nat.zero_le _) (by decide) rfl).drew
      have HC1 := Lib.hid hc1
      have HE : Hid (u8s (hxs (xs.take i)) ++ [.int .u8 (x : Int), .int .u8 (y : Int)] = u8s (hxs (xs.take (i + 1)))) := by show _ = _; rw [HT.out]; simp [u8s]
      go_region_held3 (fun W => W.cell? ⟨b, off + i, none⟩ = some (.int .u8 z)) (go_keep) (first | ((refine step_append_any _ rfl (.tmp 16) (.tmp 23) 36 rfl w.heap.size 5 i0 _ 1 1 Tryz.underlying36 hi0 hz0 hz1 hz2 rfl (by omega) (.slice A0 (2 * i) c0) (2 * i) (u8s (hxs (xs.take i))) (by simp [Act.eval]) HOA.out _ (some ⟨wr.heap.size, 0, none⟩) 2 2 [.int .u8 (x : Int), .int .u8 (y : Int)] (by simp [Act.eval]) HRA.out (by simp [Value.oneCell']) (by simp only [maxLen]; omega) (by omega) HBA.out.size ?_); intro v2 w2 hown2 hg2 _; rw [HE.out] at hown2; have HB2 := Lib.hid (below_own HBA.out HOA.out hg2); have hck : w2.cell? ⟨b, off + i, none⟩ = some (.int .u8 z) := (by rw [(bcell HB2.out).1 _ _ hb2, ← (bcell HB.out).1 _ _ hb2]; exact HC1.out); obtain ⟨A2, c2, rfl⟩ := own_slice hown2; have HW2 := Lib.hid hown2; clear hown2 hg2))
      all_goals
        go_wp2_with fail
        go_roundw
        case rel => exact ⟨i + 1, A2, c2, rfl, by go_num, hlt, HW2.out, HB2.out⟩
        case measure => simp [intOf]; omega
    · obtain rfl : i = n := by omega
      have hxe : xs.take i = xs := List.take_of_length_le (by rw [HXL.out]; exact Nat.le_refl _)
      have hcv := conv_row HO.out
      rw [hxe] at hcv
      go_wp2_with fail
      go_ret
      exact ⟨rfl, HB.out⟩
/-- A text, in new memory. -/
def TxE (w : World) (xs : List Int) (e : Ending) (w' : World) : Prop := e = .returned (nmT xs) ∧ Below w.heap.size w w'
theorem nm_bI (l : List UInt8) : strOfNums (bI l) = ⟨l.toArray⟩ := by
  unfold strOfNums bI
  rw [List.map_map]
  congr 2
  conv => rhs; rw [← List.map_id l]
  refine List.map_congr_left fun b _ => ?_
  simp [Function.comp]
theorem nm_app (a b : List Int) : strOfNums a ++ strOfNums b = strOfNums (a ++ b) := by
  unfold strOfNums
  rw [ByteArray.mk_append_mk, List.map_append]
theorem c_tNull (w : World) : Calls Tryz.prog 177 #[.agg #[]] w (TxE w [110, 117, 108, 108]) := by
  go_enter Tryz.func177, Tryz.ntmps177
  go_wp2
  go_ret
  exact ⟨rfl, by first | exact Below.refl _ _ | exact (Below.refl _ _).alloc (Nat.le_refl _) _⟩
/-- The two words. -/
def fbT (b : Bool) : List Int := if b then [116, 114, 117, 101] else [102, 97, 108, 115, 101]
theorem c_FBool (b : Bool) (w : World) : Calls Tryz.prog 180 #[.bool b] w fun e w' => e = .returned (nmT (fbT b)) ∧ w = w' := by
  have HI : Hid (∀ W, Calls Tryz.prog 181 #[.bool b] W fun e w' => e = .returned (nmT (fbT b)) ∧ W = w') := fun W => by
    cases b
    · go_enter Tryz.func181, Tryz.ntmps181
      go_wp2
      go_ret
      exact ⟨rfl, rfl⟩
    · go_enter Tryz.func181, Tryz.ntmps181
      go_wp2
      go_ret
      exact ⟨rfl, rfl⟩
  go_enter Tryz.func180, Tryz.ntmps180
  go_wp2_with (go_at_call 181; refine (HI.out _).mono ?_; rintro e w1 ⟨rfl, rfl⟩)
  go_ret
  exact ⟨rfl, rfl⟩
theorem c_tTruth (b : Bool) (w : World) : Calls Tryz.prog 179 #[.bool b] w (TxE w (fbT b)) := by
  have HI := Lib.hid (fun W => c_FBool b W)
  go_enter Tryz.func179, Tryz.ntmps179
  go_wp2_with (go_at_call 180; refine (HI.out _).mono ?_; rintro e w1 ⟨rfl, rfl⟩)
  go_ret
  exact ⟨rfl, Below.refl _ _⟩
theorem c_FInt (x : Int) (h1 : -9223372036854775808 ≤ x) (h2 : x < 9223372036854775808) (w : World) (ht : TabS w) : Calls Tryz.prog 185 #[.int .i64 x, .int .i64 10] w (TxE w (bI (Lib.itoa x))) :=
  (Any.strconv_FormatInt_10 lays173 x (by omega) (by omega) w ht.tab).mono fun e w' ⟨he, k, os, hw⟩ => by
    subst hw
    exact ⟨by rw [he, nmT, nm_bI], below_grow w k os⟩
theorem c_tNumber (x : Int) (h1 : -9223372036854775808 ≤ x) (h2 : x < 9223372036854775808) (w : World) (ht : TabS w) : Calls Tryz.prog 183 #[.int .i64 x] w (TxE w (bI (Lib.itoa x))) := by
  have HI := Lib.hid (c_FInt x h1 h2 w ht)
  clear h1 h2 ht
  unfold TxE at *
  generalize strOfNums (bI (Lib.itoa x)) = S at *
  go_enter Tryz.func183, Tryz.ntmps183
  go_wp2_with fail
  refine HI.out.mono ?_; rintro e w1 ⟨rfl, hb⟩
  have HB := Lib.hid hb
  clear hb
  go_wp2
  go_ret
  exact ⟨rfl, HB.out⟩
theorem txtF_len2 (b : Nat) : (txtF b).length ≤ 1000 := Nat.le_trans (txtF_len b) (by decide)
theorem c_tReal (b : Nat) (hb : b < 18446744073709551616) (w : World) (ht : TabS w) : Calls Tryz.prog 187 #[.float .f64 b] w (TxE w ([64] ++ bI (txtF b))) := by
  have HI := Lib.hid (c_TextI b hb w ht)
  have hl := txtF_len2 b
  have HQ : Hid (strOfNums ([64] ++ bI (txtF b)) = (⟨#[64]⟩ : ByteArray) ++ ⟨(txtF b).toArray⟩) := by
    show _ = _
    rw [← nm_app, nm_bI]; rfl
  unfold TxE nmT
  rw [HQ.out]
  have a1 : ∀ W, (Op.stringOp .add ⟨#[64]⟩ ⟨(txtF b).toArray⟩).run Tryz.prog W = .ok (.string (⟨#[64]⟩ ++ ⟨(txtF b).toArray⟩)) W := fun W => run_string_add_sum W _ _ (by show 1 + (txtF b).length ≤ _; omega)
  clear hb ht hl HQ
  generalize txtF b = T at *
  go_enter Tryz.func187, Tryz.ntmps187
  go_wp2_with fail
  refine HI.out.mono ?_; rintro e w1 ⟨rfl, hb⟩
  have HB := Lib.hid hb
  clear hb
  go_wp2
  go_ret
  exact ⟨rfl, HB.out⟩
set_option maxRecDepth 100000 in
theorem c_tRaw (t : ByteArray) (ht : t.size ≤ 1048576) (w : World) : Calls Tryz.prog 244 #[.string t] w (TxE w ([35] ++ hxs (txB t))) := by
  have hcb := fun W => Lib.run_convert_string_bytes (P := Tryz.prog) W 81 36 5 t Tryz.underlying81 Tryz.underlying36 Tryz.underlying5
  have HRB : Hid (Reads (Lib.bytesWorld w 5 t) (Lib.bytesWorld w 5 t).heap.size 1 (some ⟨w.heap.size, 0, none⟩) t.size (u8s (txB t))) := by
    have hz := (Lib.bytesWorld_size w 5 t)
    exact (reads_bytesJ w t).more (by rw [hz]; exact Nat.le_refl _)
  have HBB : Hid (Below w.heap.size w (Lib.bytesWorld w 5 t)) := Lib.bytesWorld_below w _ t
  have HH := Lib.hid (fun c => c_Hex (some ⟨w.heap.size, 0, none⟩) t.size c (txB t) (Lib.bytesWorld w 5 t) HRB.out ht (txB_bts t))
  have hl : (strOfNums (hxs (txB t))).size ≤ 2097152 := by rw [nm_size, hxs_len, txB_len]; omega
  have HQ : Hid (strOfNums ([35] ++ hxs (txB t)) = (⟨#[35]⟩ : ByteArray) ++ strOfNums (hxs (txB t))) := by
    show _ = _
    rw [← nm_app]; rfl
  unfold TxE nmT
  rw [HQ.out]
  unfold nmT at HH
  clear HQ ht HRB
  generalize strOfNums (hxs (txB t)) = S at *
  have a1 : ∀ W, (Op.stringOp .add ⟨#[35]⟩ S).run Tryz.prog W = .ok (.string (⟨#[35]⟩ ++ S)) W := fun W => run_string_add_sum W _ _ (by show 1 + S.size ≤ _; omega)
  go_enter Tryz.func244, Tryz.ntmps244
  go_wp2_with fail
  generalize Lib.bytesWorld w 5 t = wb at *
  refine (HH.out _).mono ?_; rintro e w1 ⟨rfl, hb⟩
  have HB := Lib.hid (HBB.out.trans (hb.mono HBB.out.size))
  clear hb hcb
  go_wp2
  go_ret
  exact ⟨rfl, HB.out⟩
set_option maxRecDepth 100000 in
theorem c_tVeil (t : ByteArray) (ht : t.size ≤ 1048576) (w : World) : Calls Tryz.prog 247 #[.string t] w (TxE w ([126] ++ hxs (txB t))) := by
  have hcb := fun W => Lib.run_convert_string_bytes (P := Tryz.prog) W 82 36 5 t Tryz.underlying82 Tryz.underlying36 Tryz.underlying5
  have HRB : Hid (Reads (Lib.bytesWorld w 5 t) (Lib.bytesWorld w 5 t).heap.size 1 (some ⟨w.heap.size, 0, none⟩) t.size (u8s (txB t))) := by
    have hz := (Lib.bytesWorld_size w 5 t)
    exact (reads_bytesJ w t).more (by rw [hz]; exact Nat.le_refl _)
  have HBB : Hid (Below w.heap.size w (Lib.bytesWorld w 5 t)) := Lib.bytesWorld_below w _ t
  have HH := Lib.hid (fun c => c_Hex (some ⟨w.heap.size, 0, none⟩) t.size c (txB t) (Lib.bytesWorld w 5 t) HRB.out ht (txB_bts t))
  have hl : (strOfNums (hxs (txB t))).size ≤ 2097152 := by rw [nm_size, hxs_len, txB_len]; omega
  have HQ : Hid (strOfNums ([126] ++ hxs (txB t)) = (⟨#[126]⟩ : ByteArray) ++ strOfNums (hxs (txB t))) := by
    show _ = _
    rw [← nm_app]; rfl
  unfold TxE nmT
  rw [HQ.out]
  unfold nmT at HH
  clear HQ ht HRB
  generalize strOfNums (hxs (txB t)) = S at *
  have a1 : ∀ W, (Op.stringOp .add ⟨#[126]⟩ S).run Tryz.prog W = .ok (.string (⟨#[126]⟩ ++ S)) W := fun W => run_string_add_sum W _ _ (by show 1 + S.size ≤ _; omega)
  go_enter Tryz.func247, Tryz.ntmps247
  go_wp2_with fail
  generalize Lib.bytesWorld w 5 t = wb at *
  refine (HH.out _).mono ?_; rintro e w1 ⟨rfl, hb⟩
  have HB := Lib.hid (HBB.out.trans (hb.mono HBB.out.size))
  clear hb hcb
  go_wp2
  go_ret
  exact ⟨rfl, HB.out⟩
end Go.Proofs.YtigbbogfnchgnaaGreatDoor
