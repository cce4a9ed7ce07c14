/- Walks: may a value be, how many parts it has (value.Check, quernref23.Check, both Parts). Conditions: the value as it reads; its bulk at most 1048576. -/
import Derived.Test.YtigbbogfnchgnaaGreatDoorYn
import Derived.Test.YtigbbogfnchgnaaGreatDoorYk
namespace Go.Proofs.YtigbbogfnchgnaaGreatDoor
open Go.RowKit
set_option linter.unusedVariables false
attribute [local go_sem ↓] Go.wp_at_zero Go.wp_at_succ

/-- The box of a value keeps its six cells. -/
structure Box (W : World) (g : Nat) (cs : List Value) : Prop where
  blk : Blk W g 26 cs.toArray
  lt : g < W.heap.size
theorem Box.step {W W' : World} {g : Nat} {cs : List Value} (h : Box W g cs) (hb : Below W.heap.size W W') : Box W' g cs := ⟨h.blk.below hb h.lt, Nat.lt_of_lt_of_le h.lt hb.size⟩
theorem Box.new (w : World) (cs : List Value) : Box (w.alloc (.cells cs.toArray 26)) w.heap.size cs := ⟨Blk.new _ _ _, (Blk.new w 26 cs.toArray).lt⟩
theorem chk_eq (v : Val) : chk fone v = if deep 64 v then 231 else if 65536 < cntB v 65536 then 2 else if anyV (fun v => !flds fone v) v then 230 else if anyV (fun v => nbr twin v.nms) v then 232
  else if anyV (fun v => nbr fall v.nms) v then 233 else if 1048576 < (wt v : Int) then 2 else 0 := rfl
/-- How many parts a value has that may be. -/
def prts (v : Val) : Int := if chk fone v = 0 then cntB v 65536 else 0
theorem six_list {cs : List Value} (h : cs.length = 6) : ∃ u0 u1 u2 u3 u4 u5, cs = [u0, u1, u2, u3, u4, u5] := by
  match cs, h with
  | [a, b, c, d, e, f], _ => exact ⟨a, b, c, d, e, f, rfl⟩
theorem sz_over {v : Val} (h : anyV (fun v => !flds fone v) v = false) : (1048576 < szB v 1048576) ↔ 1048576 < (wt v : Int) := by
  obtain ⟨h1, h2⟩ := sz_wt fone v h 1048576
  constructor
  · exact h2
  · intro h
    refine Int.not_le.1 fun h3 => ?_
    have := h1 h3
    omega
set_option maxRecDepth 100000 in
set_option maxHeartbeats 2000000 in
theorem c_Check (v : Val) (cs : List Value) (w : World) (h : RV w v cs) : Calls Tryz.prog 7 #[.agg cs.toArray] w fun e w' => e = .returned (.int .i64 (chk fone v)) ∧ Below w.heap.size w w' := by
  have HR := Lib.hid h.row
  have HE := Lib.hid (chk_eq v)
  have HB0 : Hid (Below w.heap.size w (w.alloc (.cells cs.toArray 26))) := (Below.refl w.heap.size w).alloc (Nat.le_refl _) _
  have HX0 := Lib.hid (Box.new w cs)
  have HRV0 := Lib.hid (h.step HB0.out)
  obtain ⟨u0, u1, u2, u3, u4, u5, hcs⟩ := six_list h.six.1
  subst hcs
  clear h
  go_enter Tryz.func7, Tryz.ntmps7
  go_upto_region 1 with fail
  generalize w.alloc (.cells [u0, u1, u2, u3, u4, u5].toArray 26) = w0 at *
  go_wp2_with (refine wpList_load_row rfl 26 (.tmp 1) rfl w.heap.size rfl 26 _ (0, 0) _ HX0.out.blk Tryz.underlying26 rfl HR.out ?_)
  refine (c_deeper 64 (by decide) v _ _ HRV0.out).mono ?_; rintro e w1 ⟨rfl, hb1⟩
  have HX1 := Lib.hid (HX0.out.step hb1)
  have HRV1 := Lib.hid (HRV0.out.step hb1)
  have HB1 := Lib.hid (HB0.out.trans (hb1.mono HB0.out.size))
  clear hb1
  obtain ⟨q1, hq1⟩ : ∃ q, deep 64 v = q := ⟨_, rfl⟩
  rw [hq1]
  cases q1 with
  | true =>
    have HE2 : Hid (chk fone v = 231) := by show _ = _; rw [HE.out, if_pos hq1]
    clear hq1
    go_wp2_with fail
    go_ret
    exact ⟨by rw [HE2.out]; rfl, HB1.out⟩
  | false =>
  have hnd : ¬ deep 64 v = true := by rw [hq1]; decide
  have HE' := Lib.hid (HE.out.trans (if_neg hnd))
  clear HE hq1 hnd
  go_wp2_with (refine wpList_load_row rfl 26 (.tmp 1) rfl w.heap.size rfl 26 _ (0, 0) _ HX1.out.blk Tryz.underlying26 rfl HR.out ?_)
  refine (c_count v 65536 _ _ (by decide) (by decide) HRV1.out).mono ?_; rintro e w2 ⟨rfl, hb2⟩
  have HX2 := Lib.hid (HX1.out.step hb2)
  have HRV2 := Lib.hid (HRV1.out.step hb2)
  have HB2 := Lib.hid (HB1.out.trans (hb2.mono HB1.out.size))
  clear hb2
  by_cases hgc : 65536 < cntB v 65536
  · have HE2 : Hid (chk fone v = 2) := by show _ = _; rw [HE'.out, if_pos hgc]
    go_wp2_with fail
    go_ret
    exact ⟨by rw [HE2.out]; rfl, HB2.out⟩
  have HE'' := Lib.hid (HE'.out.trans (if_neg hgc))
  clear HE'
  go_wp2_with (refine wpList_load_row rfl 26 (.tmp 1) rfl w.heap.size rfl 26 _ (0, 0) _ HX2.out.blk Tryz.underlying26 rfl HR.out ?_)
  refine (c_any1F v _ _ HRV2.out).mono ?_; rintro e w3 ⟨rfl, hb3⟩
  have HX3 := Lib.hid (HX2.out.step hb3)
  have HRV3 := Lib.hid (HRV2.out.step hb3)
  have HB3 := Lib.hid (HB2.out.trans (hb3.mono HB2.out.size))
  clear hb3
  clear hgc
  obtain ⟨q3, hq3⟩ : ∃ q, anyV (fun v => !flds fone v) v = q := ⟨_, rfl⟩
  rw [hq3]
  cases q3 with
  | true =>
    have HE2 : Hid (chk fone v = 230) := by show _ = _; rw [HE''.out, if_pos hq3]
    clear hq3
    go_wp2_with fail
    go_ret
    exact ⟨by rw [HE2.out]; rfl, HB3.out⟩
  | false =>
  have HGD := Lib.hid hq3
  have HE3 := Lib.hid (HE''.out.trans (if_neg (by rw [hq3]; decide)))
  clear HE'' hq3
  go_wp2_with fail
  have HN4 := Lib.hid (c_neiT w3.drew)
  have hcl4 : ∀ W, Below w3.heap.size w3 W → (W.cell? ⟨w.heap.size, 0, none⟩ = some u0 ∧ W.cell? ⟨w.heap.size, 1, none⟩ = some u1 ∧ W.cell? ⟨w.heap.size, 2, none⟩ = some u2 ∧ W.cell? ⟨w.heap.size, 3, none⟩ = some u3 ∧ W.cell? ⟨w.heap.size, 4, none⟩ = some u4 ∧ W.cell? ⟨w.heap.size, 5, none⟩ = some u5) := fun W hb => by
    have hx := HX3.out.step hb
    exact ⟨hx.blk.cell 0, hx.blk.cell 1, hx.blk.cell 2, hx.blk.cell 3, hx.blk.cell 4, hx.blk.cell 5⟩
  have HCL4 := Lib.hid hcl4
  obtain ⟨k0, k1, k2, k3, k4, k5⟩ := hcl4 w3 (Below.refl _ _)
  clear hcl4
  go_region_held3 (fun W => W.cell? ⟨w.heap.size, 0, none⟩ = some u0 ∧ W.cell? ⟨w.heap.size, 1, none⟩ = some u1 ∧ W.cell? ⟨w.heap.size, 2, none⟩ = some u2 ∧ W.cell? ⟨w.heap.size, 3, none⟩ = some u3 ∧ W.cell? ⟨w.heap.size, 4, none⟩ = some u4 ∧ W.cell? ⟨w.heap.size, 5, none⟩ = some u5) (first | go_keep | (refine ⟨?_, ?_, ?_, ?_, ?_, ?_⟩ <;> assumption)) (first
    | (go_at_call 20; first | ((with_reducible refine HN4.out.mono ?_); rintro e wa ⟨rfl, hba, hcap⟩; have hba' : Below w3.heap.size w3 wa := (Below.refl _ _).drew.trans hba; obtain ⟨j0, j1, j2, j3, j4, j5⟩ := HCL4.out wa hba'; have HT := Lib.hid (c_any1T w3.heap.size v [u0, u1, u2, u3, u4, u5] wa (HRV3.out.step hba') hcap); have HBA := Lib.hid hba'; clear hba hcap hba'))
    | (go_at_call 17; first | ((with_reducible refine HT.out.mono ?_); rintro e w4 ⟨rfl, hb40⟩; have hb4 : Below w3.heap.size w3 w4 := HBA.out.trans (hb40.mono HBA.out.size); obtain ⟨i0, i1, i2, i3, i4, i5⟩ := HCL4.out w4 hb4)))
  clear HN4 HCL4 k0 k1 k2 k3 k4 k5 j0 j1 j2 j3 j4 j5 i0 i1 i2 i3 i4 i5 HT HBA hb40
  have HX4 := Lib.hid (HX3.out.step hb4)
  have HRV4 := Lib.hid (HRV3.out.step hb4)
  have HB4 := Lib.hid (HB3.out.trans (hb4.mono HB3.out.size))
  clear hb4
  obtain ⟨q4, hq4⟩ : ∃ q, anyV (fun v => nbr twin v.nms) v = q := ⟨_, rfl⟩
  rw [hq4]
  cases q4 with
  | true =>
    have HE2 : Hid (chk fone v = 232) := by show _ = _; rw [HE3.out, if_pos hq4]
    clear hq4
    go_wp2_with fail
    go_ret
    exact ⟨by rw [HE2.out]; rfl, HB4.out⟩
  | false =>
  have HE4 := Lib.hid (HE3.out.trans (if_neg (by rw [hq4]; decide)))
  clear HE3 hq4
  go_wp2_with fail
  have HN5 := Lib.hid (c_neiL w4.drew)
  have hcl5 : ∀ W, Below w4.heap.size w4 W → (W.cell? ⟨w.heap.size, 0, none⟩ = some u0 ∧ W.cell? ⟨w.heap.size, 1, none⟩ = some u1 ∧ W.cell? ⟨w.heap.size, 2, none⟩ = some u2 ∧ W.cell? ⟨w.heap.size, 3, none⟩ = some u3 ∧ W.cell? ⟨w.heap.size, 4, none⟩ = some u4 ∧ W.cell? ⟨w.heap.size, 5, none⟩ = some u5) := fun W hb => by
    have hx := HX4.out.step hb
    exact ⟨hx.blk.cell 0, hx.blk.cell 1, hx.blk.cell 2, hx.blk.cell 3, hx.blk.cell 4, hx.blk.cell 5⟩
  have HCL5 := Lib.hid hcl5
  obtain ⟨k0, k1, k2, k3, k4, k5⟩ := hcl5 w4 (Below.refl _ _)
  clear hcl5
  go_region_held3 (fun W => W.cell? ⟨w.heap.size, 0, none⟩ = some u0 ∧ W.cell? ⟨w.heap.size, 1, none⟩ = some u1 ∧ W.cell? ⟨w.heap.size, 2, none⟩ = some u2 ∧ W.cell? ⟨w.heap.size, 3, none⟩ = some u3 ∧ W.cell? ⟨w.heap.size, 4, none⟩ = some u4 ∧ W.cell? ⟨w.heap.size, 5, none⟩ = some u5) (first | go_keep | (refine ⟨?_, ?_, ?_, ?_, ?_, ?_⟩ <;> assumption)) (first
    | (go_at_call 20; first | ((with_reducible refine HN5.out.mono ?_); rintro e wa ⟨rfl, hba, hcap⟩; have hba' : Below w4.heap.size w4 wa := (Below.refl _ _).drew.trans hba; obtain ⟨j0, j1, j2, j3, j4, j5⟩ := HCL5.out wa hba'; have HT := Lib.hid (c_any1L w4.heap.size v [u0, u1, u2, u3, u4, u5] wa (HRV4.out.step hba') hcap); have HBA := Lib.hid hba'; clear hba hcap hba'))
    | (go_at_call 17; first | ((with_reducible refine HT.out.mono ?_); rintro e w5 ⟨rfl, hb50⟩; have hb5 : Below w4.heap.size w4 w5 := HBA.out.trans (hb50.mono HBA.out.size); obtain ⟨i0, i1, i2, i3, i4, i5⟩ := HCL5.out w5 hb5)))
  clear HN5 HCL5 k0 k1 k2 k3 k4 k5 j0 j1 j2 j3 j4 j5 i0 i1 i2 i3 i4 i5 HT HBA hb50
  have HX5 := Lib.hid (HX4.out.step hb5)
  have HRV5 := Lib.hid (HRV4.out.step hb5)
  have HB5 := Lib.hid (HB4.out.trans (hb5.mono HB4.out.size))
  clear hb5
  obtain ⟨q5, hq5⟩ : ∃ q, anyV (fun v => nbr fall v.nms) v = q := ⟨_, rfl⟩
  rw [hq5]
  cases q5 with
  | true =>
    have HE2 : Hid (chk fone v = 233) := by show _ = _; rw [HE4.out, if_pos hq5]
    clear hq5
    go_wp2_with fail
    go_ret
    exact ⟨by rw [HE2.out]; rfl, HB5.out⟩
  | false =>
  have HE5 := Lib.hid (HE4.out.trans (if_neg (by rw [hq5]; decide)))
  clear HE4 hq5
  have HWB : Hid ((wt v : Int) - 1099511627776 ≤ 1048576) := by have := wt_bnd v; have := HRV0.out.bd; show _ ≤ _; omega
  have HSO := Lib.hid (sz_over HGD.out)
  go_wp2_with (refine wpList_load_row rfl 26 (.tmp 1) rfl w.heap.size rfl 26 _ (0, 0) _ HX5.out.blk Tryz.underlying26 rfl HR.out ?_)
  refine (c_size v 1048576 _ _ HRV5.out HGD.out HWB.out (by decide)).mono ?_; rintro e w6 ⟨rfl, hb6⟩
  have HX6 := Lib.hid (HX5.out.step hb6)
  have HRV6 := Lib.hid (HRV5.out.step hb6)
  have HB6 := Lib.hid (HB5.out.trans (hb6.mono HB5.out.size))
  clear hb6
  by_cases hgs : 1048576 < szB v 1048576
  · have HE2 : Hid (chk fone v = 2) := by show _ = _; rw [HE5.out, if_pos (HSO.out.1 hgs)]
    go_wp2_with fail
    go_ret
    exact ⟨by rw [HE2.out]; rfl, HB6.out⟩
  · have HE2 : Hid (chk fone v = 0) := by show _ = _; rw [HE5.out, if_neg (fun hh => hgs (HSO.out.2 hh))]
    go_wp2_with fail
    go_ret
    exact ⟨by rw [HE2.out]; rfl, HB6.out⟩
set_option maxRecDepth 100000 in
set_option maxHeartbeats 2000000 in
theorem c_rCheck (v : Val) (cs : List Value) (w : World) (h : RV w v cs) : Calls Tryz.prog 11 #[.agg cs.toArray] w fun e w' => e = .returned (.int .i64 (chk fone v)) ∧ Below w.heap.size w w' := by
  have HR := Lib.hid h.row
  have HE := Lib.hid (chk_eq v)
  have HB0 : Hid (Below w.heap.size w (w.alloc (.cells cs.toArray 26))) := (Below.refl w.heap.size w).alloc (Nat.le_refl _) _
  have HX0 := Lib.hid (Box.new w cs)
  have HRV0 := Lib.hid (h.step HB0.out)
  obtain ⟨u0, u1, u2, u3, u4, u5, hcs⟩ := six_list h.six.1
  subst hcs
  clear h
  go_enter Tryz.func11, Tryz.ntmps11
  go_upto_region 1 with fail
  generalize w.alloc (.cells [u0, u1, u2, u3, u4, u5].toArray 26) = w0 at *
  go_wp2_with (refine wpList_load_row rfl 26 (.tmp 1) rfl w.heap.size rfl 26 _ (0, 0) _ HX0.out.blk Tryz.underlying26 rfl HR.out ?_)
  refine (c_tall 64 (by decide) v _ _ HRV0.out).mono ?_; rintro e w1 ⟨⟨m1, rfl, hm1, hd1⟩, hb1⟩
  have HX1 := Lib.hid (HX0.out.step hb1)
  have HRV1 := Lib.hid (HRV0.out.step hb1)
  have HB1 := Lib.hid (HB0.out.trans (hb1.mono HB0.out.size))
  clear hb1
  by_cases hgt : 64 < m1
  · have HE2 : Hid (chk fone v = 231) := by show _ = _; rw [HE.out, if_pos (hd1.1 hgt)]
    have c1 : (64 : Int) < (m1 : Int) := by omega
    go_wp2_with fail
    go_ret
    exact ⟨by rw [HE2.out]; rfl, HB1.out⟩
  have hnd : ¬ deep 64 v = true := fun hd => hgt (hd1.2 hd)
  have c1 : ¬ (64 : Int) < (m1 : Int) := by omega
  have HE' := Lib.hid (HE.out.trans (if_neg hnd))
  clear HE hd1 hnd
  go_wp2_with (refine wpList_load_row rfl 26 (.tmp 1) rfl w.heap.size rfl 26 _ (0, 0) _ HX1.out.blk Tryz.underlying26 rfl HR.out ?_)
  refine (c_many v 65536 _ _ (by decide) (by decide) HRV1.out).mono ?_; rintro e w2 ⟨rfl, hb2⟩
  have HX2 := Lib.hid (HX1.out.step hb2)
  have HRV2 := Lib.hid (HRV1.out.step hb2)
  have HB2 := Lib.hid (HB1.out.trans (hb2.mono HB1.out.size))
  clear hb2
  by_cases hgc : 65536 < cntB v 65536
  · have HE2 : Hid (chk fone v = 2) := by show _ = _; rw [HE'.out, if_pos hgc]
    go_wp2_with fail
    go_ret
    exact ⟨by rw [HE2.out]; rfl, HB2.out⟩
  have HE'' := Lib.hid (HE'.out.trans (if_neg hgc))
  clear HE'
  go_wp2_with (refine wpList_load_row rfl 26 (.tmp 1) rfl w.heap.size rfl 26 _ (0, 0) _ HX2.out.blk Tryz.underlying26 rfl HR.out ?_)
  refine (c_all v _ _ HRV2.out).mono ?_; rintro e w3 ⟨rfl, hb3⟩
  have HX3 := Lib.hid (HX2.out.step hb3)
  have HRV3 := Lib.hid (HRV2.out.step hb3)
  have HB3 := Lib.hid (HB2.out.trans (hb3.mono HB2.out.size))
  clear hb3
  clear hgc
  obtain ⟨q3, hq3⟩ : ∃ q, anyV (fun v => !flds fone v) v = q := ⟨_, rfl⟩
  rw [hq3]
  cases q3 with
  | true =>
    have HE2 : Hid (chk fone v = 230) := by show _ = _; rw [HE''.out, if_pos hq3]
    clear hq3
    go_wp2_with fail
    go_ret
    exact ⟨by rw [HE2.out]; rfl, HB3.out⟩
  | false =>
  have HGD := Lib.hid hq3
  have HE3 := Lib.hid (HE''.out.trans (if_neg (by rw [hq3]; decide)))
  clear HE'' hq3
  go_wp2_with (refine wpList_load_row rfl 26 (.tmp 1) rfl w.heap.size rfl 26 _ (0, 0) _ HX3.out.blk Tryz.underlying26 rfl HR.out ?_)
  refine (c_risT v _ _ HRV3.out).mono ?_; rintro e w4 ⟨rfl, hb4⟩
  have HX4 := Lib.hid (HX3.out.step hb4)
  have HRV4 := Lib.hid (HRV3.out.step hb4)
  have HB4 := Lib.hid (HB3.out.trans (hb4.mono HB3.out.size))
  clear hb4
  obtain ⟨q4, hq4⟩ : ∃ q, anyV (fun v => nbr twin v.nms) v = q := ⟨_, rfl⟩
  rw [hq4]
  cases q4 with
  | true =>
    have HE2 : Hid (chk fone v = 232) := by show _ = _; rw [HE3.out, if_pos hq4]
    clear hq4
    go_wp2_with fail
    go_ret
    exact ⟨by rw [HE2.out]; rfl, HB4.out⟩
  | false =>
  have HE4 := Lib.hid (HE3.out.trans (if_neg (by rw [hq4]; decide)))
  clear HE3 hq4
  go_wp2_with (refine wpList_load_row rfl 26 (.tmp 1) rfl w.heap.size rfl 26 _ (0, 0) _ HX4.out.blk Tryz.underlying26 rfl HR.out ?_)
  refine (c_risL v _ _ HRV4.out).mono ?_; rintro e w5 ⟨rfl, hb5⟩
  have HX5 := Lib.hid (HX4.out.step hb5)
  have HRV5 := Lib.hid (HRV4.out.step hb5)
  have HB5 := Lib.hid (HB4.out.trans (hb5.mono HB4.out.size))
  clear hb5
  obtain ⟨q5, hq5⟩ : ∃ q, anyV (fun v => nbr fall v.nms) v = q := ⟨_, rfl⟩
  rw [hq5]
  cases q5 with
  | true =>
    have HE2 : Hid (chk fone v = 233) := by show _ = _; rw [HE4.out, if_pos hq5]
    clear hq5
    go_wp2_with fail
    go_ret
    exact ⟨by rw [HE2.out]; rfl, HB5.out⟩
  | false =>
  have HE5 := Lib.hid (HE4.out.trans (if_neg (by rw [hq5]; decide)))
  clear HE4 hq5
  go_wp2_with (refine wpList_load_row rfl 26 (.tmp 1) rfl w.heap.size rfl 26 _ (0, 0) _ HX5.out.blk Tryz.underlying26 rfl HR.out ?_)
  refine (c_weight v _ _ HRV5.out HGD.out).mono ?_; rintro e w6 ⟨rfl, hb6⟩
  have HX6 := Lib.hid (HX5.out.step hb6)
  have HRV6 := Lib.hid (HRV5.out.step hb6)
  have HB6 := Lib.hid (HB5.out.trans (hb6.mono HB5.out.size))
  clear hb6
  by_cases hgw : 1048576 < (wt v : Int)
  · have HE2 : Hid (chk fone v = 2) := by show _ = _; rw [HE5.out, if_pos (hgw)]
    go_wp2_with fail
    go_ret
    exact ⟨by rw [HE2.out]; rfl, HB6.out⟩
  · have HE2 : Hid (chk fone v = 0) := by show _ = _; rw [HE5.out, if_neg (hgw)]
    go_wp2_with fail
    go_ret
    exact ⟨by rw [HE2.out]; rfl, HB6.out⟩
end Go.Proofs.YtigbbogfnchgnaaGreatDoor
