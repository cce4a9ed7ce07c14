/- Walk: the document's text of a float (quernref22.Text). Conditions: 64 bits. -/
import Derived.Test.YtigbbogfnchgnaaGreatDoorJd
namespace Go.Proofs.YtigbbogfnchgnaaGreatDoor
open Go.RowKit
set_option linter.unusedVariables false
attribute [local go_sem ↓] Go.wp_at_zero Go.wp_at_succ

theorem bapp (a b : List UInt8) : (⟨(a ++ b).toArray⟩ : ByteArray) = ⟨a.toArray⟩ ++ ⟨b.toArray⟩ := by rw [ByteArray.mk_append_mk]
theorem bcut (l : List UInt8) (a b : Nat) : (⟨l.toArray⟩ : ByteArray).extract a b = ⟨((l.take b).drop a).toArray⟩ := by
  apply ByteArray.ext
  simp [ByteArray.data_extract, List.extract_toArray, List.extract_eq_drop_take', List.extract_eq_take_drop]
theorem numT_len {d : Nat} {x : Int} (hd : d < 18446744073709551616) (h1 : -400 ≤ x) (h2 : x ≤ 800) : (numT d x).length ≤ 100 := by
  have h3 := lenD_20 hd
  have h4 := lenD_20 (d := x.natAbs) (by omega)
  unfold lenD at h3 h4
  unfold numT
  simp only
  split
  · split <;> split <;> simp only [List.length_append, List.length_cons, List.length_nil, List.length_take, List.length_drop] <;> omega
  · split
    · simp only [List.length_append, List.length_cons, List.length_replicate]; omega
    · split
      · simp only [List.length_append, List.length_replicate]; omega
      · simp only [List.length_append, List.length_cons, List.length_take, List.length_drop]; omega
/-- The answer of Text. -/
def TxR (b : Nat) (w : World) (e : Ending) (w' : World) : Prop := e = .returned (btx (txtF b)) ∧ Below w.heap.size w w'
set_option maxRecDepth 100000 in
set_option maxHeartbeats 8000000 in
theorem c_rTextP (m b : Nat) (hb : b < 18446744073709551616) (hm : b % 9223372036854775808 = m) (hs : b < 9223372036854775808) (w : World) : Calls Tryz.prog 33 #[.float .f64 b] w (TxR b w) := by
  have hml : m < 9223372036854775808 := by rw [← hm]; exact Nat.mod_lt _ (by decide)
  obtain rfl : m = b := by rw [← hm, Nat.mod_eq_of_lt hs]
  have hBI := c_rbits m hb
  rw [hm] at hBI
  have HBI := Lib.hid hBI
  have HT : Hid (txtF m = if 9218868437227405312 < m then [110, 97, 110] else (if m < 9223372036854775808 then [] else [45]) ++ (if m = 9218868437227405312 then [105, 110, 102] else if m = 0 then [48] else numT (shortM m).1 (shortM m).2)) := by show _ = _; unfold txtF; rw [hm]
  have HNN : Hid (fnan m = decide (9218868437227405312 < m)) := by show _ = _; unfold fnan; rw [hm]
  obtain ⟨TX, hTX⟩ : ∃ TX, txtF m = TX := ⟨_, rfl⟩
  rw [hTX] at HT
  unfold TxR
  rw [hTX]
  clear hBI hTX
  have HSG : Hid (TX = if 9218868437227405312 < m then [110, 97, 110] else [] ++ (if m = 9218868437227405312 then [105, 110, 102] else if m = 0 then [48] else numT (shortM m).1 (shortM m).2)) := by show _ = _; rw [HT.out, if_pos hs]
  clear hm
  clear HT
  by_cases hn : fnan m = true
  · have HIS := Lib.hid (fun W => c_Is_yes hn W)
    have HQ : Hid (TX = [110, 97, 110]) := by
      show _ = _
      rw [HSG.out, if_pos (by have := HNN.out; rw [hn] at this; simpa using this.symm)]
    clear HSG HNN hn
    go_enter Tryz.func33, Tryz.ntmps33
    go_wp2_with fail
    refine (HBI.out _).mono ?_; rintro e1 w1 ⟨rfl, rfl⟩
    go_wp2_with fail
    refine (HIS.out _).mono ?_; rintro e2 w2 ⟨rfl, rfl⟩
    go_wp2_with fail
    go_ret
    exact ⟨by rw [HQ.out]; rfl, Below.refl _ _⟩
  have hn' : fnan m = false := by simpa using hn
  have HIS := Lib.hid (fun W => c_Is_no hn' W)
  have hmt : ¬ 9218868437227405312 < m := by have := HNN.out; rw [hn'] at this; simpa using this.symm
  have HSG2 : Hid (TX = [] ++ (if m = 9218868437227405312 then [105, 110, 102] else if m = 0 then [48] else numT (shortM m).1 (shortM m).2)) := by show _ = _; rw [HSG.out, if_neg hmt]
  clear HSG HNN hn hn'
  by_cases hi : m = 9218868437227405312
  · have HQ : Hid (TX = [] ++ [105, 110, 102]) := by show _ = _; rw [HSG2.out, if_pos hi]
    have t1 : ((m : Int) == 9218868437227405312) = true := by simp [hi]
    clear HSG2 hi
    go_enter Tryz.func33, Tryz.ntmps33
    go_wp2_with fail
    refine (HBI.out _).mono ?_; rintro e1 w1 ⟨rfl, rfl⟩
    go_wp2_with fail
    refine (HIS.out _).mono ?_; rintro e2 w2 ⟨rfl, rfl⟩
    go_wp2_with fail
    go_ret
    exact ⟨by rw [HQ.out]; show _ = Ending.returned (Value.string _); rw [bapp]; rfl, Below.refl _ _⟩
  have t1 : ((m : Int) == 9218868437227405312) = false := by simp; omega
  by_cases hz : m = 0
  · have HQ : Hid (TX = [] ++ [48]) := by show _ = _; rw [HSG2.out, if_neg hi, if_pos hz]
    have t2 : ((m : Int) == 0) = true := by simp [hz]
    clear HSG2 hi hz
    go_enter Tryz.func33, Tryz.ntmps33
    go_wp2_with fail
    refine (HBI.out _).mono ?_; rintro e1 w1 ⟨rfl, rfl⟩
    go_wp2_with fail
    refine (HIS.out _).mono ?_; rintro e2 w2 ⟨rfl, rfl⟩
    go_wp2_with fail
    go_ret
    exact ⟨by rw [HQ.out]; show _ = Ending.returned (Value.string _); rw [bapp]; rfl, Below.refl _ _⟩
  have t2 : ((m : Int) == 0) = false := by simp; omega
  have HQ : Hid (TX = [] ++ numT (shortM m).1 (shortM m).2) := by show _ = _; rw [HSG2.out, if_neg hi, if_neg hz]
  have HSH := Lib.hid (c_rshort m (by omega) (by omega))
  clear HSG2 hi hz hmt
  unfold ShR at HSH
  generalize (shortM m).1 = d at *
  generalize (shortM m).2 = x at *
  go_enter Tryz.func33, Tryz.ntmps33
  go_wp2_with fail
  refine (HBI.out _).mono ?_; rintro e1 w1 ⟨rfl, rfl⟩
  go_wp2_with fail
  refine (HIS.out _).mono ?_; rintro e2 w2 ⟨rfl, rfl⟩
  go_wp2_with fail
  refine (HSH.out _).mono ?_; rintro e3 w3 ⟨rfl, hd, hx1, hx2, hb3⟩
  have HB3 := Lib.hid hb3
  have hdl := lenD_20 (d := d) (by omega)
  have hdp := lenD_pos d
  have HDG := Lib.hid (c_xdigits d (by omega))
  unfold lenD at hdl hdp
  have HNT : Hid (numT d x = if x < -7 ∨ 20 < x then (if (Lib.decDigits d).length = 1 then Lib.decDigits d else (Lib.decDigits d).take 1 ++ 46 :: (Lib.decDigits d).drop 1) ++ 101 :: ((if x < 0 then [45] else []) ++ Lib.decDigits x.natAbs)
    else if x < 0 then 48 :: 46 :: (List.replicate (-x - 1).toNat 48 ++ Lib.decDigits d)
    else if ((Lib.decDigits d).length : Int) ≤ x + 1 then Lib.decDigits d ++ List.replicate (x + 1 - (Lib.decDigits d).length).toNat 48
    else (Lib.decDigits d).take (x + 1).toNat ++ 46 :: (Lib.decDigits d).drop (x + 1).toNat) := rfl
  clear HSH hb3 HIS
  generalize numT d x = NT at *
  generalize Lib.decDigits d = s at *
  go_wp2_with fail
  refine (HDG.out _).mono ?_; rintro e4 w4 ⟨rfl, k4, rfl⟩
  have HB4 := Lib.hid (below_drewN HB3.out k4)
  clear HDG HB3
  generalize w3.drewN k4 = w4 at *
  obtain ⟨S, hS⟩ : ∃ S : ByteArray, (⟨s.toArray⟩ : ByteArray) = S := ⟨_, rfl⟩
  have hSz : S.size = s.length := by rw [← hS]; rfl
  have HBC := Lib.hid (bcut s)
  rw [hS] at HBC
  simp only [btx, hS]
  have HS := Lib.hid hS
  clear hS
  by_cases hxr : x < -7 ∨ 20 < x
  · by_cases hxs : x < 0
    · have hxn : x < 0 := by omega
      have HN1 : Hid (NT = (if s.length = 1 then s else s.take 1 ++ 46 :: s.drop 1) ++ 101 :: ([45] ++ Lib.decDigits x.natAbs)) := by show _ = _; rw [HNT.out, if_pos hxr, if_pos hxn]
      have hx7 : x < -7 := by omega
      have hdq := c_xdigits x.natAbs (by omega)
      rw [show ((x.natAbs : Nat) : Int) = -x from by omega] at hdq
      have HDQ := Lib.hid hdq
      have hdw := c_xdigits (x + 18446744073709551616).toNat (by omega)
      rw [show (((x + 18446744073709551616).toNat : Nat) : Int) = x + 18446744073709551616 from by omega] at hdw
      have HDW := Lib.hid hdw
      have hq2 := lenD_20 (d := x.natAbs) (by omega)
      unfold lenD at hq2
      have hwr : IntKind.u64.wrap x = x + 18446744073709551616 := by rw [IntKind.wrap_u64]; omega
      clear hdq hdw HNT hxr
      generalize Lib.decDigits x.natAbs = q at *
      generalize Lib.decDigits (x + 18446744073709551616).toNat = q0 at *
      go_wp2_with fail
      refine (HDW.out _).mono ?_; rintro e5 w5 ⟨rfl, k5, rfl⟩
      have HB5 := Lib.hid (below_drewN HB4.out k5)
      clear HDW HB4
      generalize w4.drewN k5 = w5 at *
      go_wp2_with fail
      refine (HDQ.out _).mono ?_; rintro e6 w6 ⟨rfl, k6, rfl⟩
      have HB6 := Lib.hid (below_drewN HB5.out k6)
      clear HDQ HB5
      generalize w5.drewN k6 = w6 at *
      by_cases hl1 : s.length = 1
      · have HN2 : Hid (TX = (([] ++ s) ++ [101]) ++ ([45] ++ q)) := by show _ = _; rw [HQ.out, HN1.out, if_pos hl1]; simp
        have t3 : ((s.length : Int) == 1) = true := by simp [hl1]
        clear HN1 HQ hl1
        go_wp2_with fail
        go_ret
        exact ⟨by rw [HN2.out]; show _ = Ending.returned (Value.string _); simp only [bapp, HS.out]; rfl, HB6.out⟩
      · have HN2 : Hid (TX = (((([] ++ s.take 1) ++ [46]) ++ s.drop 1) ++ [101]) ++ ([45] ++ q)) := by show _ = _; rw [HQ.out, HN1.out, if_neg hl1]; simp
        have t3 : ((s.length : Int) == 1) = false := by simp; omega
        have hc1 : S.extract 0 1 = ⟨(s.take 1).toArray⟩ := by rw [HBC.out]; rfl
        have hc2 : S.extract 1 s.length = ⟨(s.drop 1).toArray⟩ := by rw [HBC.out, List.take_length]
        have hl2 : (s.take 1).length ≤ 20 := by rw [List.length_take]; omega
        have hl3 : (s.drop 1).length ≤ 20 := by rw [List.length_drop]; omega
        have hl4 : 1 ≤ s.length := hdp
        clear HN1 HQ hl1
        generalize s.take 1 = sa at *
        generalize s.drop 1 = sb at *
        go_wp2_with fail
        go_quiet (fail)
        go_wp2_with fail
        go_ret
        exact ⟨by rw [HN2.out]; show _ = Ending.returned (Value.string _); simp only [bapp]; rfl, below_drewN HB6.out _⟩
    · have hxn : ¬ x < 0 := by omega
      have HN1 : Hid (NT = (if s.length = 1 then s else s.take 1 ++ 46 :: s.drop 1) ++ 101 :: ([] ++ Lib.decDigits x.natAbs)) := by show _ = _; rw [HNT.out, if_pos hxr, if_neg hxn]
      have hx7 : 20 < x := by omega
      have hx8 : ¬ x < -7 := by omega
      have hdq := c_xdigits x.natAbs (by omega)
      rw [show ((x.natAbs : Nat) : Int) = x from by omega] at hdq
      have HDQ := Lib.hid hdq
      have hq2 := lenD_20 (d := x.natAbs) (by omega)
      unfold lenD at hq2
      clear hdq HNT hxr
      generalize Lib.decDigits x.natAbs = q at *
      go_wp2_with fail
      refine (HDQ.out _).mono ?_; rintro e6 w6 ⟨rfl, k6, rfl⟩
      have HB6 := Lib.hid (below_drewN HB4.out k6)
      clear HDQ HB4
      generalize w4.drewN k6 = w6 at *
      by_cases hl1 : s.length = 1
      · have HN2 : Hid (TX = (([] ++ s) ++ [101]) ++ q) := by show _ = _; rw [HQ.out, HN1.out, if_pos hl1]; simp
        have t3 : ((s.length : Int) == 1) = true := by simp [hl1]
        clear HN1 HQ hl1
        go_wp2_with fail
        go_ret
        exact ⟨by rw [HN2.out]; show _ = Ending.returned (Value.string _); simp only [bapp, HS.out]; rfl, HB6.out⟩
      · have HN2 : Hid (TX = (((([] ++ s.take 1) ++ [46]) ++ s.drop 1) ++ [101]) ++ q) := by show _ = _; rw [HQ.out, HN1.out, if_neg hl1]; simp
        have t3 : ((s.length : Int) == 1) = false := by simp; omega
        have hc1 : S.extract 0 1 = ⟨(s.take 1).toArray⟩ := by rw [HBC.out]; rfl
        have hc2 : S.extract 1 s.length = ⟨(s.drop 1).toArray⟩ := by rw [HBC.out, List.take_length]
        have hl2 : (s.take 1).length ≤ 20 := by rw [List.length_take]; omega
        have hl3 : (s.drop 1).length ≤ 20 := by rw [List.length_drop]; omega
        have hl4 : 1 ≤ s.length := hdp
        clear HN1 HQ hl1
        generalize s.take 1 = sa at *
        generalize s.drop 1 = sb at *
        go_wp2_with fail
        go_quiet (fail)
        go_wp2_with fail
        go_ret
        exact ⟨by rw [HN2.out]; show _ = Ending.returned (Value.string _); simp only [bapp]; rfl, below_drewN HB6.out _⟩
  have hx3 : ¬ x < -7 := by omega
  have hx4 : ¬ 20 < x := by omega
  by_cases hx0 : x < 0
  · have HN1 : Hid (TX = (([] ++ [48, 46]) ++ List.replicate (-x - 1).toNat 48) ++ s) := by show _ = _; rw [HQ.out, HNT.out, if_neg hxr, if_pos hx0]; simp
    have hno := c_noughts (-x - 1).toNat (by omega)
    rw [show (((-x - 1).toNat : Nat) : Int) = -x - 1 from by omega] at hno
    have HNO := Lib.hid hno
    have hrl : (List.replicate (-x - 1).toNat (48 : UInt8)).length ≤ 20 := by rw [List.length_replicate]; omega
    clear hno HNT HQ hxr
    generalize List.replicate (-x - 1).toNat (48 : UInt8) = z at *
    go_wp2_with fail
    refine (HNO.out _).mono ?_; rintro e5 w5 ⟨rfl, rfl⟩
    go_wp2_with fail
    go_ret
    exact ⟨by rw [HN1.out]; show _ = Ending.returned (Value.string _); simp only [bapp, HS.out]; rfl, HB4.out⟩
  by_cases hlx : (s.length : Int) ≤ x + 1
  · have HN1 : Hid (TX = ([] ++ s) ++ List.replicate (x + 1 - s.length).toNat 48) := by show _ = _; rw [HQ.out, HNT.out, if_neg hxr, if_neg hx0, if_pos hlx]; simp
    have hno := c_noughts (x + 1 - s.length).toNat (by omega)
    rw [show (((x + 1 - s.length).toNat : Nat) : Int) = x + 1 - s.length from by omega] at hno
    have HNO := Lib.hid hno
    have hrl : (List.replicate (x + 1 - s.length).toNat (48 : UInt8)).length ≤ 30 := by rw [List.length_replicate]; omega
    clear hno HNT HQ hxr
    generalize List.replicate (x + 1 - s.length).toNat (48 : UInt8) = z at *
    go_wp2_with fail
    refine (HNO.out _).mono ?_; rintro e5 w5 ⟨rfl, rfl⟩
    go_wp2_with fail
    go_ret
    exact ⟨by rw [HN1.out]; show _ = Ending.returned (Value.string _); simp only [bapp, HS.out]; rfl, HB4.out⟩
  obtain ⟨y, hy⟩ : ∃ y : Nat, x = (y : Int) := ⟨x.toNat, by omega⟩
  subst hy
  have HN1 : Hid (TX = (([] ++ s.take (y + 1)) ++ [46]) ++ s.drop (y + 1)) := by
    show _ = _
    rw [HQ.out, HNT.out, if_neg hxr, if_neg hx0, if_neg hlx, show ((y : Int) + 1).toNat = y + 1 from by omega]; simp
  have hc1 : S.extract 0 (y + 1) = ⟨(s.take (y + 1)).toArray⟩ := by rw [HBC.out]; rfl
  have hc2 : S.extract (y + 1) s.length = ⟨(s.drop (y + 1)).toArray⟩ := by rw [HBC.out, List.take_length]
  have hl2 : (s.take (y + 1)).length ≤ 20 := by rw [List.length_take]; omega
  have hl3 : (s.drop (y + 1)).length ≤ 20 := by rw [List.length_drop]; omega
  have hl4 : y + 1 ≤ s.length := by omega
  have hw1 : IntKind.i64.wrap ((y : Int) + 1) = (y : Int) + 1 := IntWalk.i64_in _ (by omega)
  have hw2 : (0 : Int) ≤ (y : Int) + 1 := by omega
  have hw3 : ((y : Int) + 1).toNat = y + 1 := by omega
  clear HQ HNT hxr
  generalize s.take (y + 1) = sa at *
  generalize s.drop (y + 1) = sb at *
  go_wp2_with fail
  go_quiet (fail)
  clear hw1 hw2 hw3
  go_wp2_with fail
  go_ret
  exact ⟨by rw [HN1.out]; show _ = Ending.returned (Value.string _); simp only [bapp]; rfl, below_drewN HB4.out _⟩
set_option maxRecDepth 100000 in
set_option maxHeartbeats 8000000 in
theorem c_rTextM (m b : Nat) (hb : b < 18446744073709551616) (hm : b % 9223372036854775808 = m) (hs : ¬ b < 9223372036854775808) (w : World) : Calls Tryz.prog 33 #[.float .f64 b] w (TxR b w) := by
  have hml : m < 9223372036854775808 := by rw [← hm]; exact Nat.mod_lt _ (by decide)
  have hBI := c_rbits b hb
  rw [hm] at hBI
  have HBI := Lib.hid hBI
  have HT : Hid (txtF b = if 9218868437227405312 < m then [110, 97, 110] else (if b < 9223372036854775808 then [] else [45]) ++ (if m = 9218868437227405312 then [105, 110, 102] else if m = 0 then [48] else numT (shortM m).1 (shortM m).2)) := by show _ = _; unfold txtF; rw [hm]
  have HNN : Hid (fnan b = decide (9218868437227405312 < m)) := by show _ = _; unfold fnan; rw [hm]
  obtain ⟨TX, hTX⟩ : ∃ TX, txtF b = TX := ⟨_, rfl⟩
  rw [hTX] at HT
  unfold TxR
  rw [hTX]
  clear hBI hTX
  have HSG : Hid (TX = if 9218868437227405312 < m then [110, 97, 110] else [45] ++ (if m = 9218868437227405312 then [105, 110, 102] else if m = 0 then [48] else numT (shortM m).1 (shortM m).2)) := by show _ = _; rw [HT.out, if_neg hs]
  have hne : ((b : Int) != (m : Int)) = true := by simp; omega
  clear hm
  clear HT
  by_cases hn : fnan b = true
  · have HIS := Lib.hid (fun W => c_Is_yes hn W)
    have HQ : Hid (TX = [110, 97, 110]) := by
      show _ = _
      rw [HSG.out, if_pos (by have := HNN.out; rw [hn] at this; simpa using this.symm)]
    clear HSG HNN hn
    go_enter Tryz.func33, Tryz.ntmps33
    go_wp2_with fail
    refine (HBI.out _).mono ?_; rintro e1 w1 ⟨rfl, rfl⟩
    go_wp2_with fail
    refine (HIS.out _).mono ?_; rintro e2 w2 ⟨rfl, rfl⟩
    go_wp2_with fail
    go_ret
    exact ⟨by rw [HQ.out]; rfl, Below.refl _ _⟩
  have hn' : fnan b = false := by simpa using hn
  have HIS := Lib.hid (fun W => c_Is_no hn' W)
  have hmt : ¬ 9218868437227405312 < m := by have := HNN.out; rw [hn'] at this; simpa using this.symm
  have HSG2 : Hid (TX = [45] ++ (if m = 9218868437227405312 then [105, 110, 102] else if m = 0 then [48] else numT (shortM m).1 (shortM m).2)) := by show _ = _; rw [HSG.out, if_neg hmt]
  clear HSG HNN hn hn'
  by_cases hi : m = 9218868437227405312
  · have HQ : Hid (TX = [45] ++ [105, 110, 102]) := by show _ = _; rw [HSG2.out, if_pos hi]
    have t1 : ((m : Int) == 9218868437227405312) = true := by simp [hi]
    clear HSG2 hi
    go_enter Tryz.func33, Tryz.ntmps33
    go_wp2_with fail
    refine (HBI.out _).mono ?_; rintro e1 w1 ⟨rfl, rfl⟩
    go_wp2_with fail
    refine (HIS.out _).mono ?_; rintro e2 w2 ⟨rfl, rfl⟩
    go_wp2_with fail
    go_ret
    exact ⟨by rw [HQ.out]; show _ = Ending.returned (Value.string _); rw [bapp]; rfl, Below.refl _ _⟩
  have t1 : ((m : Int) == 9218868437227405312) = false := by simp; omega
  by_cases hz : m = 0
  · have HQ : Hid (TX = [45] ++ [48]) := by show _ = _; rw [HSG2.out, if_neg hi, if_pos hz]
    have t2 : ((m : Int) == 0) = true := by simp [hz]
    clear HSG2 hi hz
    go_enter Tryz.func33, Tryz.ntmps33
    go_wp2_with fail
    refine (HBI.out _).mono ?_; rintro e1 w1 ⟨rfl, rfl⟩
    go_wp2_with fail
    refine (HIS.out _).mono ?_; rintro e2 w2 ⟨rfl, rfl⟩
    go_wp2_with fail
    go_ret
    exact ⟨by rw [HQ.out]; show _ = Ending.returned (Value.string _); rw [bapp]; rfl, Below.refl _ _⟩
  have t2 : ((m : Int) == 0) = false := by simp; omega
  have HQ : Hid (TX = [45] ++ numT (shortM m).1 (shortM m).2) := by show _ = _; rw [HSG2.out, if_neg hi, if_neg hz]
  have HSH := Lib.hid (c_rshort m (by omega) (by omega))
  clear HSG2 hi hz hmt
  unfold ShR at HSH
  generalize (shortM m).1 = d at *
  generalize (shortM m).2 = x at *
  go_enter Tryz.func33, Tryz.ntmps33
  go_wp2_with fail
  refine (HBI.out _).mono ?_; rintro e1 w1 ⟨rfl, rfl⟩
  go_wp2_with fail
  refine (HIS.out _).mono ?_; rintro e2 w2 ⟨rfl, rfl⟩
  go_wp2_with fail
  refine (HSH.out _).mono ?_; rintro e3 w3 ⟨rfl, hd, hx1, hx2, hb3⟩
  have HB3 := Lib.hid hb3
  have hdl := lenD_20 (d := d) (by omega)
  have hdp := lenD_pos d
  have HDG := Lib.hid (c_xdigits d (by omega))
  unfold lenD at hdl hdp
  have HNT : Hid (numT d x = if x < -7 ∨ 20 < x then (if (Lib.decDigits d).length = 1 then Lib.decDigits d else (Lib.decDigits d).take 1 ++ 46 :: (Lib.decDigits d).drop 1) ++ 101 :: ((if x < 0 then [45] else []) ++ Lib.decDigits x.natAbs)
    else if x < 0 then 48 :: 46 :: (List.replicate (-x - 1).toNat 48 ++ Lib.decDigits d)
    else if ((Lib.decDigits d).length : Int) ≤ x + 1 then Lib.decDigits d ++ List.replicate (x + 1 - (Lib.decDigits d).length).toNat 48
    else (Lib.decDigits d).take (x + 1).toNat ++ 46 :: (Lib.decDigits d).drop (x + 1).toNat) := rfl
  clear HSH hb3 HIS
  generalize numT d x = NT at *
  generalize Lib.decDigits d = s at *
  go_wp2_with fail
  refine (HDG.out _).mono ?_; rintro e4 w4 ⟨rfl, k4, rfl⟩
  have HB4 := Lib.hid (below_drewN HB3.out k4)
  clear HDG HB3
  generalize w3.drewN k4 = w4 at *
  obtain ⟨S, hS⟩ : ∃ S : ByteArray, (⟨s.toArray⟩ : ByteArray) = S := ⟨_, rfl⟩
  have hSz : S.size = s.length := by rw [← hS]; rfl
  have HBC := Lib.hid (bcut s)
  rw [hS] at HBC
  simp only [btx, hS]
  have HS := Lib.hid hS
  clear hS
  by_cases hxr : x < -7 ∨ 20 < x
  · by_cases hxs : x < 0
    · have hxn : x < 0 := by omega
      have HN1 : Hid (NT = (if s.length = 1 then s else s.take 1 ++ 46 :: s.drop 1) ++ 101 :: ([45] ++ Lib.decDigits x.natAbs)) := by show _ = _; rw [HNT.out, if_pos hxr, if_pos hxn]
      have hx7 : x < -7 := by omega
      have hdq := c_xdigits x.natAbs (by omega)
      rw [show ((x.natAbs : Nat) : Int) = -x from by omega] at hdq
      have HDQ := Lib.hid hdq
      have hdw := c_xdigits (x + 18446744073709551616).toNat (by omega)
      rw [show (((x + 18446744073709551616).toNat : Nat) : Int) = x + 18446744073709551616 from by omega] at hdw
      have HDW := Lib.hid hdw
      have hq2 := lenD_20 (d := x.natAbs) (by omega)
      unfold lenD at hq2
      have hwr : IntKind.u64.wrap x = x + 18446744073709551616 := by rw [IntKind.wrap_u64]; omega
      clear hdq hdw HNT hxr
      generalize Lib.decDigits x.natAbs = q at *
      generalize Lib.decDigits (x + 18446744073709551616).toNat = q0 at *
      go_wp2_with fail
      refine (HDW.out _).mono ?_; rintro e5 w5 ⟨rfl, k5, rfl⟩
      have HB5 := Lib.hid (below_drewN HB4.out k5)
      clear HDW HB4
      generalize w4.drewN k5 = w5 at *
      go_wp2_with fail
      refine (HDQ.out _).mono ?_; rintro e6 w6 ⟨rfl, k6, rfl⟩
      have HB6 := Lib.hid (below_drewN HB5.out k6)
      clear HDQ HB5
      generalize w5.drewN k6 = w6 at *
      by_cases hl1 : s.length = 1
      · have HN2 : Hid (TX = (([45] ++ s) ++ [101]) ++ ([45] ++ q)) := by show _ = _; rw [HQ.out, HN1.out, if_pos hl1]; simp
        have t3 : ((s.length : Int) == 1) = true := by simp [hl1]
        clear HN1 HQ hl1
        go_wp2_with fail
        go_ret
        exact ⟨by rw [HN2.out]; show _ = Ending.returned (Value.string _); simp only [bapp, HS.out]; rfl, HB6.out⟩
      · have HN2 : Hid (TX = (((([45] ++ s.take 1) ++ [46]) ++ s.drop 1) ++ [101]) ++ ([45] ++ q)) := by show _ = _; rw [HQ.out, HN1.out, if_neg hl1]; simp
        have t3 : ((s.length : Int) == 1) = false := by simp; omega
        have hc1 : S.extract 0 1 = ⟨(s.take 1).toArray⟩ := by rw [HBC.out]; rfl
        have hc2 : S.extract 1 s.length = ⟨(s.drop 1).toArray⟩ := by rw [HBC.out, List.take_length]
        have hl2 : (s.take 1).length ≤ 20 := by rw [List.length_take]; omega
        have hl3 : (s.drop 1).length ≤ 20 := by rw [List.length_drop]; omega
        have hl4 : 1 ≤ s.length := hdp
        clear HN1 HQ hl1
        generalize s.take 1 = sa at *
        generalize s.drop 1 = sb at *
        go_wp2_with fail
        go_quiet (fail)
        go_wp2_with fail
        go_ret
        exact ⟨by rw [HN2.out]; show _ = Ending.returned (Value.string _); simp only [bapp]; rfl, below_drewN HB6.out _⟩
    · have hxn : ¬ x < 0 := by omega
      have HN1 : Hid (NT = (if s.length = 1 then s else s.take 1 ++ 46 :: s.drop 1) ++ 101 :: ([] ++ Lib.decDigits x.natAbs)) := by show _ = _; rw [HNT.out, if_pos hxr, if_neg hxn]
      have hx7 : 20 < x := by omega
      have hx8 : ¬ x < -7 := by omega
      have hdq := c_xdigits x.natAbs (by omega)
      rw [show ((x.natAbs : Nat) : Int) = x from by omega] at hdq
      have HDQ := Lib.hid hdq
      have hq2 := lenD_20 (d := x.natAbs) (by omega)
      unfold lenD at hq2
      clear hdq HNT hxr
      generalize Lib.decDigits x.natAbs = q at *
      go_wp2_with fail
      refine (HDQ.out _).mono ?_; rintro e6 w6 ⟨rfl, k6, rfl⟩
      have HB6 := Lib.hid (below_drewN HB4.out k6)
      clear HDQ HB4
      generalize w4.drewN k6 = w6 at *
      by_cases hl1 : s.length = 1
      · have HN2 : Hid (TX = (([45] ++ s) ++ [101]) ++ q) := by show _ = _; rw [HQ.out, HN1.out, if_pos hl1]; simp
        have t3 : ((s.length : Int) == 1) = true := by simp [hl1]
        clear HN1 HQ hl1
        go_wp2_with fail
        go_ret
        exact ⟨by rw [HN2.out]; show _ = Ending.returned (Value.string _); simp only [bapp, HS.out]; rfl, HB6.out⟩
      · have HN2 : Hid (TX = (((([45] ++ s.take 1) ++ [46]) ++ s.drop 1) ++ [101]) ++ q) := by show _ = _; rw [HQ.out, HN1.out, if_neg hl1]; simp
        have t3 : ((s.length : Int) == 1) = false := by simp; omega
        have hc1 : S.extract 0 1 = ⟨(s.take 1).toArray⟩ := by rw [HBC.out]; rfl
        have hc2 : S.extract 1 s.length = ⟨(s.drop 1).toArray⟩ := by rw [HBC.out, List.take_length]
        have hl2 : (s.take 1).length ≤ 20 := by rw [List.length_take]; omega
        have hl3 : (s.drop 1).length ≤ 20 := by rw [List.length_drop]; omega
        have hl4 : 1 ≤ s.length := hdp
        clear HN1 HQ hl1
        generalize s.take 1 = sa at *
        generalize s.drop 1 = sb at *
        go_wp2_with fail
        go_quiet (fail)
        go_wp2_with fail
        go_ret
        exact ⟨by rw [HN2.out]; show _ = Ending.returned (Value.string _); simp only [bapp]; rfl, below_drewN HB6.out _⟩
  have hx3 : ¬ x < -7 := by omega
  have hx4 : ¬ 20 < x := by omega
  by_cases hx0 : x < 0
  · have HN1 : Hid (TX = (([45] ++ [48, 46]) ++ List.replicate (-x - 1).toNat 48) ++ s) := by show _ = _; rw [HQ.out, HNT.out, if_neg hxr, if_pos hx0]; simp
    have hno := c_noughts (-x - 1).toNat (by omega)
    rw [show (((-x - 1).toNat : Nat) : Int) = -x - 1 from by omega] at hno
    have HNO := Lib.hid hno
    have hrl : (List.replicate (-x - 1).toNat (48 : UInt8)).length ≤ 20 := by rw [List.length_replicate]; omega
    clear hno HNT HQ hxr
    generalize List.replicate (-x - 1).toNat (48 : UInt8) = z at *
    go_wp2_with fail
    refine (HNO.out _).mono ?_; rintro e5 w5 ⟨rfl, rfl⟩
    go_wp2_with fail
    go_ret
    exact ⟨by rw [HN1.out]; show _ = Ending.returned (Value.string _); simp only [bapp, HS.out]; rfl, HB4.out⟩
  by_cases hlx : (s.length : Int) ≤ x + 1
  · have HN1 : Hid (TX = ([45] ++ s) ++ List.replicate (x + 1 - s.length).toNat 48) := by show _ = _; rw [HQ.out, HNT.out, if_neg hxr, if_neg hx0, if_pos hlx]; simp
    have hno := c_noughts (x + 1 - s.length).toNat (by omega)
    rw [show (((x + 1 - s.length).toNat : Nat) : Int) = x + 1 - s.length from by omega] at hno
    have HNO := Lib.hid hno
    have hrl : (List.replicate (x + 1 - s.length).toNat (48 : UInt8)).length ≤ 30 := by rw [List.length_replicate]; omega
    clear hno HNT HQ hxr
    generalize List.replicate (x + 1 - s.length).toNat (48 : UInt8) = z at *
    go_wp2_with fail
    refine (HNO.out _).mono ?_; rintro e5 w5 ⟨rfl, rfl⟩
    go_wp2_with fail
    go_ret
    exact ⟨by rw [HN1.out]; show _ = Ending.returned (Value.string _); simp only [bapp, HS.out]; rfl, HB4.out⟩
  obtain ⟨y, hy⟩ : ∃ y : Nat, x = (y : Int) := ⟨x.toNat, by omega⟩
  subst hy
  have HN1 : Hid (TX = (([45] ++ s.take (y + 1)) ++ [46]) ++ s.drop (y + 1)) := by
    show _ = _
    rw [HQ.out, HNT.out, if_neg hxr, if_neg hx0, if_neg hlx, show ((y : Int) + 1).toNat = y + 1 from by omega]; simp
  have hc1 : S.extract 0 (y + 1) = ⟨(s.take (y + 1)).toArray⟩ := by rw [HBC.out]; rfl
  have hc2 : S.extract (y + 1) s.length = ⟨(s.drop (y + 1)).toArray⟩ := by rw [HBC.out, List.take_length]
  have hl2 : (s.take (y + 1)).length ≤ 20 := by rw [List.length_take]; omega
  have hl3 : (s.drop (y + 1)).length ≤ 20 := by rw [List.length_drop]; omega
  have hl4 : y + 1 ≤ s.length := by omega
  have hw1 : IntKind.i64.wrap ((y : Int) + 1) = (y : Int) + 1 := IntWalk.i64_in _ (by omega)
  have hw2 : (0 : Int) ≤ (y : Int) + 1 := by omega
  have hw3 : ((y : Int) + 1).toNat = y + 1 := by omega
  clear HQ HNT hxr
  generalize s.take (y + 1) = sa at *
  generalize s.drop (y + 1) = sb at *
  go_wp2_with fail
  go_quiet (fail)
  clear hw1 hw2 hw3
  go_wp2_with fail
  go_ret
  exact ⟨by rw [HN1.out]; show _ = Ending.returned (Value.string _); simp only [bapp]; rfl, below_drewN HB4.out _⟩
theorem c_rText (b : Nat) (hb : b < 18446744073709551616) (w : World) : Calls Tryz.prog 33 #[.float .f64 b] w (TxR b w) := by
  by_cases hs : b < 9223372036854775808
  · exact c_rTextP _ b hb rfl hs w
  · exact c_rTextM _ b hb rfl hs w
end Go.Proofs.YtigbbogfnchgnaaGreatDoor
