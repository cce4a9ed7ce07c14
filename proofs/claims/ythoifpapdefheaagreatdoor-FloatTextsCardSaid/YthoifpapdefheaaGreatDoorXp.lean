/- Walks: the text of a float (float.Text). Conditions: 64 bits; the library's tables. -/
import Derived.Test.YthoifpapdefheaaGreatDoorXo
import Derived.Test.YthoifpapdefheaaGreatDoorJe
namespace Go.Proofs.YthoifpapdefheaaGreatDoor
open Go.RowKit
set_option linter.unusedVariables false
attribute [local go_sem ↓] Go.wp_at_zero Go.wp_at_succ

/-- A call that makes memory of its own alone. -/
def N1 (f : Nat) (v : Value) (r : Value) : Prop := ∀ W : World, TabS W → Calls Tryz.prog f #[v] W fun e w' => e = .returned r ∧ Below W.heap.size W w'
def N2 (f : Nat) (u v : Value) (r : Value) : Prop := ∀ W : World, Calls Tryz.prog f #[u, v] W fun e w' => e = .returned r ∧ Below W.heap.size W w'
def N4 (f : Nat) (t u v y : Value) (r : Value) : Prop := ∀ W : World, TabS W → Calls Tryz.prog f #[t, u, v, y] W fun e w' => e = .returned r ∧ Below W.heap.size W w'
set_option maxRecDepth 100000 in
set_option maxHeartbeats 1000000 in
theorem tx_e1s (m n : Nat) (T P X : List UInt8) (D I Z : ByteArray) (x cl : Int) (w : World) (HT : Hid (TabS w))
    (HCl : Hid (∀ W : World, Calls Tryz.prog 7 #[.float .f64 m] W fun e w' => e = .returned (.tuple #[.int .i64 cl, .bool false]) ∧ W = w')) (c1 : (cl == 1) = false) (c2 : (cl == 2) = false) (c3 : (cl == 3) = false)
    (HF : Hid (N4 8 (.float .f64 m) (.int .u8 101) (.int .i64 (-1)) (.int .i64 64) (bstr T)))
    (HC : Hid (N2 9 (bstr T) (.string ⟨#[101]⟩) (.tuple #[bstr P, bstr X, .bool true])))
    (HA : Hid (N1 10 (bstr X) (.tuple #[.int .i64 x, .nilIface]))) (HR : Hid (N4 11 (bstr P) (.string ⟨#[46]⟩) (.string ⟨#[]⟩) (.int .i64 1) (.string D)))
    (hn : (D.size : Int) = (n : Int)) (hn1 : (1 : Int) ≤ (n : Int)) (hn20 : (n : Int) ≤ 20)
    (x1 : x < -7)
    (n2 : ¬ (1 : Int) < (n : Int))
    (HI : Hid (N1 12 (.int .i64 x) (.string I))) (hI : I.size ≤ 10)
    (hD : D.size ≤ 20) :
    Calls Tryz.prog 5 #[.float .f64 m] w fun e w' => e = .returned (.string ((D ++ ⟨#[101]⟩) ++ I)) ∧ Below w.heap.size w w' := by
  have a1 : ∀ W, (Op.stringOp .add D ⟨#[101]⟩).run Tryz.prog W = .ok (.string (D ++ ⟨#[101]⟩)) W := fun W => run_string_add_sum W _ _ (by show D.size + 1 ≤ _; omega)
  have a2 : ∀ W, (Op.stringOp .add (D ++ ⟨#[101]⟩) I).run Tryz.prog W = .ok (.string ((D ++ ⟨#[101]⟩) ++ I)) W := fun W => run_string_add_sum W _ _ (by rw [ByteArray.size_append]; show D.size + 1 + I.size ≤ _; omega)
  clear hD hI
  go_enter Tryz.func5, Tryz.ntmps5
  go_wp2_with fail
  refine (HCl.out _).mono ?_; rintro e w' ⟨rfl, rfl⟩
  go_wp2_with fail
  refine (HF.out _ HT.out).mono ?_; rintro e w1 ⟨rfl, hb1⟩
  have HB1 := Lib.hid hb1
  clear hb1
  go_wp2_with fail
  refine (HC.out _).mono ?_; rintro e w2 ⟨rfl, hb2⟩
  have HB2 := Lib.hid (HB1.out.trans (hb2.mono HB1.out.size))
  clear hb2
  go_wp2_with fail
  refine (HA.out _ (HT.out.below HB2.out)).mono ?_; rintro e w3 ⟨rfl, hb3⟩
  have HB3 := Lib.hid (HB2.out.trans (hb3.mono HB2.out.size))
  clear hb3
  go_wp2_with fail
  refine (HR.out _ (HT.out.below HB3.out)).mono ?_; rintro e w4 ⟨rfl, hb4⟩
  have HB4 := Lib.hid (HB3.out.trans (hb4.mono HB3.out.size))
  clear hb4 HB1 HB2 HB3
  go_wp2_with fail
  refine (HI.out _ (HT.out.below HB4.out)).mono ?_; rintro e w5 ⟨rfl, hb5⟩
  have HB5 := Lib.hid (HB4.out.trans (hb5.mono HB4.out.size))
  clear hb5
  go_wp2
  go_ret
  exact ⟨rfl, HB5.out⟩
set_option maxRecDepth 100000 in
set_option maxHeartbeats 1000000 in
theorem tx_e1m (m n : Nat) (T P X : List UInt8) (D I Z : ByteArray) (x cl : Int) (w : World) (HT : Hid (TabS w))
    (HCl : Hid (∀ W : World, Calls Tryz.prog 7 #[.float .f64 m] W fun e w' => e = .returned (.tuple #[.int .i64 cl, .bool false]) ∧ W = w')) (c1 : (cl == 1) = false) (c2 : (cl == 2) = false) (c3 : (cl == 3) = false)
    (HF : Hid (N4 8 (.float .f64 m) (.int .u8 101) (.int .i64 (-1)) (.int .i64 64) (bstr T)))
    (HC : Hid (N2 9 (bstr T) (.string ⟨#[101]⟩) (.tuple #[bstr P, bstr X, .bool true])))
    (HA : Hid (N1 10 (bstr X) (.tuple #[.int .i64 x, .nilIface]))) (HR : Hid (N4 11 (bstr P) (.string ⟨#[46]⟩) (.string ⟨#[]⟩) (.int .i64 1) (.string D)))
    (hn : (D.size : Int) = (n : Int)) (hn1 : (1 : Int) ≤ (n : Int)) (hn20 : (n : Int) ≤ 20)
    (x1 : x < -7)
    (n2 : (1 : Int) < (n : Int))
    (HI : Hid (N1 12 (.int .i64 x) (.string I))) (hI : I.size ≤ 10)
    (hD : D.size ≤ 20) :
    Calls Tryz.prog 5 #[.float .f64 m] w fun e w' => e = .returned (.string ((((D.extract 0 1 ++ ⟨#[46]⟩) ++ D.extract 1 D.size) ++ ⟨#[101]⟩) ++ I)) ∧ Below w.heap.size w w' := by
  have a1 : ∀ W, (Op.stringOp .add (D.extract 0 1) ⟨#[46]⟩).run Tryz.prog W = .ok (.string (D.extract 0 1 ++ ⟨#[46]⟩)) W := fun W => run_string_add_sum W _ _ (by rw [ByteArray.size_extract]; show min 1 D.size - 0 + 1 ≤ _; omega)
  have a2 : ∀ W, (Op.stringOp .add (D.extract 0 1 ++ ⟨#[46]⟩) (D.extract 1 D.size)).run Tryz.prog W = .ok (.string ((D.extract 0 1 ++ ⟨#[46]⟩) ++ D.extract 1 D.size)) W := fun W => run_string_add_sum W _ _ (by rw [ByteArray.size_append, ByteArray.size_extract, ByteArray.size_extract]; show min 1 D.size - 0 + 1 + (min D.size D.size - 1) ≤ _; omega)
  obtain ⟨Q, hQ⟩ : ∃ Q, (D.extract 0 1 ++ ⟨#[46]⟩) ++ D.extract 1 D.size = Q := ⟨_, rfl⟩
  have hQs : Q.size ≤ 40 := by rw [← hQ, ByteArray.size_append, ByteArray.size_append, ByteArray.size_extract, ByteArray.size_extract]; show min 1 D.size - 0 + 1 + (min D.size D.size - 1) ≤ _; omega
  have a3 : ∀ W, (Op.stringOp .add Q ⟨#[101]⟩).run Tryz.prog W = .ok (.string (Q ++ ⟨#[101]⟩)) W := fun W => run_string_add_sum W _ _ (by show Q.size + 1 ≤ _; omega)
  have a4 : ∀ W, (Op.stringOp .add (Q ++ ⟨#[101]⟩) I).run Tryz.prog W = .ok (.string ((Q ++ ⟨#[101]⟩) ++ I)) W := fun W => run_string_add_sum W _ _ (by rw [ByteArray.size_append]; show Q.size + 1 + I.size ≤ _; omega)
  rw [hQ] at a2 ⊢
  clear hD hI hQs hQ
  go_enter Tryz.func5, Tryz.ntmps5
  go_wp2_with fail
  refine (HCl.out _).mono ?_; rintro e w' ⟨rfl, rfl⟩
  go_wp2_with fail
  refine (HF.out _ HT.out).mono ?_; rintro e w1 ⟨rfl, hb1⟩
  have HB1 := Lib.hid hb1
  clear hb1
  go_wp2_with fail
  refine (HC.out _).mono ?_; rintro e w2 ⟨rfl, hb2⟩
  have HB2 := Lib.hid (HB1.out.trans (hb2.mono HB1.out.size))
  clear hb2
  go_wp2_with fail
  refine (HA.out _ (HT.out.below HB2.out)).mono ?_; rintro e w3 ⟨rfl, hb3⟩
  have HB3 := Lib.hid (HB2.out.trans (hb3.mono HB2.out.size))
  clear hb3
  go_wp2_with fail
  refine (HR.out _ (HT.out.below HB3.out)).mono ?_; rintro e w4 ⟨rfl, hb4⟩
  have HB4 := Lib.hid (HB3.out.trans (hb4.mono HB3.out.size))
  clear hb4 HB1 HB2 HB3
  go_wp2_with fail
  go_quiet (fail)
  go_wp2_with fail
  refine (HI.out _ (HT.out.below (below_drewN HB4.out _))).mono ?_; rintro e w5 ⟨rfl, hb5⟩
  have HB5 := Lib.hid ((below_drewN HB4.out _).trans (hb5.mono (below_drewN HB4.out _).size))
  clear hb5
  go_wp2
  go_ret
  exact ⟨rfl, HB5.out⟩
set_option maxRecDepth 100000 in
set_option maxHeartbeats 1000000 in
theorem tx_e2s (m n : Nat) (T P X : List UInt8) (D I Z : ByteArray) (x cl : Int) (w : World) (HT : Hid (TabS w))
    (HCl : Hid (∀ W : World, Calls Tryz.prog 7 #[.float .f64 m] W fun e w' => e = .returned (.tuple #[.int .i64 cl, .bool false]) ∧ W = w')) (c1 : (cl == 1) = false) (c2 : (cl == 2) = false) (c3 : (cl == 3) = false)
    (HF : Hid (N4 8 (.float .f64 m) (.int .u8 101) (.int .i64 (-1)) (.int .i64 64) (bstr T)))
    (HC : Hid (N2 9 (bstr T) (.string ⟨#[101]⟩) (.tuple #[bstr P, bstr X, .bool true])))
    (HA : Hid (N1 10 (bstr X) (.tuple #[.int .i64 x, .nilIface]))) (HR : Hid (N4 11 (bstr P) (.string ⟨#[46]⟩) (.string ⟨#[]⟩) (.int .i64 1) (.string D)))
    (hn : (D.size : Int) = (n : Int)) (hn1 : (1 : Int) ≤ (n : Int)) (hn20 : (n : Int) ≤ 20)
    (x1 : ¬ x < -7) (x2 : 20 < x)
    (n2 : ¬ (1 : Int) < (n : Int))
    (HI : Hid (N1 12 (.int .i64 x) (.string I))) (hI : I.size ≤ 10)
    (hD : D.size ≤ 20) :
    Calls Tryz.prog 5 #[.float .f64 m] w fun e w' => e = .returned (.string ((D ++ ⟨#[101]⟩) ++ I)) ∧ Below w.heap.size w w' := by
  have a1 : ∀ W, (Op.stringOp .add D ⟨#[101]⟩).run Tryz.prog W = .ok (.string (D ++ ⟨#[101]⟩)) W := fun W => run_string_add_sum W _ _ (by show D.size + 1 ≤ _; omega)
  have a2 : ∀ W, (Op.stringOp .add (D ++ ⟨#[101]⟩) I).run Tryz.prog W = .ok (.string ((D ++ ⟨#[101]⟩) ++ I)) W := fun W => run_string_add_sum W _ _ (by rw [ByteArray.size_append]; show D.size + 1 + I.size ≤ _; omega)
  clear hD hI
  go_enter Tryz.func5, Tryz.ntmps5
  go_wp2_with fail
  refine (HCl.out _).mono ?_; rintro e w' ⟨rfl, rfl⟩
  go_wp2_with fail
  refine (HF.out _ HT.out).mono ?_; rintro e w1 ⟨rfl, hb1⟩
  have HB1 := Lib.hid hb1
  clear hb1
  go_wp2_with fail
  refine (HC.out _).mono ?_; rintro e w2 ⟨rfl, hb2⟩
  have HB2 := Lib.hid (HB1.out.trans (hb2.mono HB1.out.size))
  clear hb2
  go_wp2_with fail
  refine (HA.out _ (HT.out.below HB2.out)).mono ?_; rintro e w3 ⟨rfl, hb3⟩
  have HB3 := Lib.hid (HB2.out.trans (hb3.mono HB2.out.size))
  clear hb3
  go_wp2_with fail
  refine (HR.out _ (HT.out.below HB3.out)).mono ?_; rintro e w4 ⟨rfl, hb4⟩
  have HB4 := Lib.hid (HB3.out.trans (hb4.mono HB3.out.size))
  clear hb4 HB1 HB2 HB3
  go_wp2_with fail
  refine (HI.out _ (HT.out.below HB4.out)).mono ?_; rintro e w5 ⟨rfl, hb5⟩
  have HB5 := Lib.hid (HB4.out.trans (hb5.mono HB4.out.size))
  clear hb5
  go_wp2
  go_ret
  exact ⟨rfl, HB5.out⟩
set_option maxRecDepth 100000 in
set_option maxHeartbeats 1000000 in
theorem tx_e2m (m n : Nat) (T P X : List UInt8) (D I Z : ByteArray) (x cl : Int) (w : World) (HT : Hid (TabS w))
    (HCl : Hid (∀ W : World, Calls Tryz.prog 7 #[.float .f64 m] W fun e w' => e = .returned (.tuple #[.int .i64 cl, .bool false]) ∧ W = w')) (c1 : (cl == 1) = false) (c2 : (cl == 2) = false) (c3 : (cl == 3) = false)
    (HF : Hid (N4 8 (.float .f64 m) (.int .u8 101) (.int .i64 (-1)) (.int .i64 64) (bstr T)))
    (HC : Hid (N2 9 (bstr T) (.string ⟨#[101]⟩) (.tuple #[bstr P, bstr X, .bool true])))
    (HA : Hid (N1 10 (bstr X) (.tuple #[.int .i64 x, .nilIface]))) (HR : Hid (N4 11 (bstr P) (.string ⟨#[46]⟩) (.string ⟨#[]⟩) (.int .i64 1) (.string D)))
    (hn : (D.size : Int) = (n : Int)) (hn1 : (1 : Int) ≤ (n : Int)) (hn20 : (n : Int) ≤ 20)
    (x1 : ¬ x < -7) (x2 : 20 < x)
    (n2 : (1 : Int) < (n : Int))
    (HI : Hid (N1 12 (.int .i64 x) (.string I))) (hI : I.size ≤ 10)
    (hD : D.size ≤ 20) :
    Calls Tryz.prog 5 #[.float .f64 m] w fun e w' => e = .returned (.string ((((D.extract 0 1 ++ ⟨#[46]⟩) ++ D.extract 1 D.size) ++ ⟨#[101]⟩) ++ I)) ∧ Below w.heap.size w w' := by
  have a1 : ∀ W, (Op.stringOp .add (D.extract 0 1) ⟨#[46]⟩).run Tryz.prog W = .ok (.string (D.extract 0 1 ++ ⟨#[46]⟩)) W := fun W => run_string_add_sum W _ _ (by rw [ByteArray.size_extract]; show min 1 D.size - 0 + 1 ≤ _; omega)
  have a2 : ∀ W, (Op.stringOp .add (D.extract 0 1 ++ ⟨#[46]⟩) (D.extract 1 D.size)).run Tryz.prog W = .ok (.string ((D.extract 0 1 ++ ⟨#[46]⟩) ++ D.extract 1 D.size)) W := fun W => run_string_add_sum W _ _ (by rw [ByteArray.size_append, ByteArray.size_extract, ByteArray.size_extract]; show min 1 D.size - 0 + 1 + (min D.size D.size - 1) ≤ _; omega)
  obtain ⟨Q, hQ⟩ : ∃ Q, (D.extract 0 1 ++ ⟨#[46]⟩) ++ D.extract 1 D.size = Q := ⟨_, rfl⟩
  have hQs : Q.size ≤ 40 := by rw [← hQ, ByteArray.size_append, ByteArray.size_append, ByteArray.size_extract, ByteArray.size_extract]; show min 1 D.size - 0 + 1 + (min D.size D.size - 1) ≤ _; omega
  have a3 : ∀ W, (Op.stringOp .add Q ⟨#[101]⟩).run Tryz.prog W = .ok (.string (Q ++ ⟨#[101]⟩)) W := fun W => run_string_add_sum W _ _ (by show Q.size + 1 ≤ _; omega)
  have a4 : ∀ W, (Op.stringOp .add (Q ++ ⟨#[101]⟩) I).run Tryz.prog W = .ok (.string ((Q ++ ⟨#[101]⟩) ++ I)) W := fun W => run_string_add_sum W _ _ (by rw [ByteArray.size_append]; show Q.size + 1 + I.size ≤ _; omega)
  rw [hQ] at a2 ⊢
  clear hD hI hQs hQ
  go_enter Tryz.func5, Tryz.ntmps5
  go_wp2_with fail
  refine (HCl.out _).mono ?_; rintro e w' ⟨rfl, rfl⟩
  go_wp2_with fail
  refine (HF.out _ HT.out).mono ?_; rintro e w1 ⟨rfl, hb1⟩
  have HB1 := Lib.hid hb1
  clear hb1
  go_wp2_with fail
  refine (HC.out _).mono ?_; rintro e w2 ⟨rfl, hb2⟩
  have HB2 := Lib.hid (HB1.out.trans (hb2.mono HB1.out.size))
  clear hb2
  go_wp2_with fail
  refine (HA.out _ (HT.out.below HB2.out)).mono ?_; rintro e w3 ⟨rfl, hb3⟩
  have HB3 := Lib.hid (HB2.out.trans (hb3.mono HB2.out.size))
  clear hb3
  go_wp2_with fail
  refine (HR.out _ (HT.out.below HB3.out)).mono ?_; rintro e w4 ⟨rfl, hb4⟩
  have HB4 := Lib.hid (HB3.out.trans (hb4.mono HB3.out.size))
  clear hb4 HB1 HB2 HB3
  go_wp2_with fail
  go_quiet (fail)
  go_wp2_with fail
  refine (HI.out _ (HT.out.below (below_drewN HB4.out _))).mono ?_; rintro e w5 ⟨rfl, hb5⟩
  have HB5 := Lib.hid ((below_drewN HB4.out _).trans (hb5.mono (below_drewN HB4.out _).size))
  clear hb5
  go_wp2
  go_ret
  exact ⟨rfl, HB5.out⟩
set_option maxRecDepth 100000 in
set_option maxHeartbeats 1000000 in
theorem tx_s (m n : Nat) (T P X : List UInt8) (D I Z : ByteArray) (x cl : Int) (w : World) (HT : Hid (TabS w))
    (HCl : Hid (∀ W : World, Calls Tryz.prog 7 #[.float .f64 m] W fun e w' => e = .returned (.tuple #[.int .i64 cl, .bool false]) ∧ W = w')) (c1 : (cl == 1) = false) (c2 : (cl == 2) = false) (c3 : (cl == 3) = false)
    (HF : Hid (N4 8 (.float .f64 m) (.int .u8 101) (.int .i64 (-1)) (.int .i64 64) (bstr T)))
    (HC : Hid (N2 9 (bstr T) (.string ⟨#[101]⟩) (.tuple #[bstr P, bstr X, .bool true])))
    (HA : Hid (N1 10 (bstr X) (.tuple #[.int .i64 x, .nilIface]))) (HR : Hid (N4 11 (bstr P) (.string ⟨#[46]⟩) (.string ⟨#[]⟩) (.int .i64 1) (.string D)))
    (hn : (D.size : Int) = (n : Int)) (hn1 : (1 : Int) ≤ (n : Int)) (hn20 : (n : Int) ≤ 20)
    (x1 : ¬ x < -7) (x2 : ¬ 20 < x)
    (x3 : x < 0) (c : Nat) (hx1 : IntKind.i64.wrap (-x) = -x) (hx2 : IntKind.i64.wrap (-x - 1) = (c : Int)) (HZ : Hid (N2 13 (.string ⟨#[48]⟩) (.int .i64 (c : Int)) (.string Z))) (hZ : Z.size ≤ 30)
    (hD : D.size ≤ 20) :
    Calls Tryz.prog 5 #[.float .f64 m] w fun e w' => e = .returned (.string ((⟨#[48, 46]⟩ ++ Z) ++ D)) ∧ Below w.heap.size w w' := by
  have a1 : ∀ W, (Op.stringOp .add ⟨#[48, 46]⟩ Z).run Tryz.prog W = .ok (.string (⟨#[48, 46]⟩ ++ Z)) W := fun W => run_string_add_sum W _ _ (by show 2 + Z.size ≤ _; omega)
  have a2 : ∀ W, (Op.stringOp .add (⟨#[48, 46]⟩ ++ Z) D).run Tryz.prog W = .ok (.string ((⟨#[48, 46]⟩ ++ Z) ++ D)) W := fun W => run_string_add_sum W _ _ (by rw [ByteArray.size_append]; show 2 + Z.size + D.size ≤ _; omega)
  clear hD hZ
  go_enter Tryz.func5, Tryz.ntmps5
  go_wp2_with fail
  refine (HCl.out _).mono ?_; rintro e w' ⟨rfl, rfl⟩
  go_wp2_with fail
  refine (HF.out _ HT.out).mono ?_; rintro e w1 ⟨rfl, hb1⟩
  have HB1 := Lib.hid hb1
  clear hb1
  go_wp2_with fail
  refine (HC.out _).mono ?_; rintro e w2 ⟨rfl, hb2⟩
  have HB2 := Lib.hid (HB1.out.trans (hb2.mono HB1.out.size))
  clear hb2
  go_wp2_with fail
  refine (HA.out _ (HT.out.below HB2.out)).mono ?_; rintro e w3 ⟨rfl, hb3⟩
  have HB3 := Lib.hid (HB2.out.trans (hb3.mono HB2.out.size))
  clear hb3
  go_wp2_with fail
  refine (HR.out _ (HT.out.below HB3.out)).mono ?_; rintro e w4 ⟨rfl, hb4⟩
  have HB4 := Lib.hid (HB3.out.trans (hb4.mono HB3.out.size))
  clear hb4 HB1 HB2 HB3
  go_wp2_with fail
  refine (HZ.out _).mono ?_; rintro e w5 ⟨rfl, hb5⟩
  have HB5 := Lib.hid (HB4.out.trans (hb5.mono HB4.out.size))
  clear hb5
  go_wp2
  go_ret
  exact ⟨rfl, HB5.out⟩
set_option maxRecDepth 100000 in
set_option maxHeartbeats 1000000 in
theorem tx_w (m n : Nat) (T P X : List UInt8) (D I Z : ByteArray) (x cl : Int) (w : World) (HT : Hid (TabS w))
    (HCl : Hid (∀ W : World, Calls Tryz.prog 7 #[.float .f64 m] W fun e w' => e = .returned (.tuple #[.int .i64 cl, .bool false]) ∧ W = w')) (c1 : (cl == 1) = false) (c2 : (cl == 2) = false) (c3 : (cl == 3) = false)
    (HF : Hid (N4 8 (.float .f64 m) (.int .u8 101) (.int .i64 (-1)) (.int .i64 64) (bstr T)))
    (HC : Hid (N2 9 (bstr T) (.string ⟨#[101]⟩) (.tuple #[bstr P, bstr X, .bool true])))
    (HA : Hid (N1 10 (bstr X) (.tuple #[.int .i64 x, .nilIface]))) (HR : Hid (N4 11 (bstr P) (.string ⟨#[46]⟩) (.string ⟨#[]⟩) (.int .i64 1) (.string D)))
    (hn : (D.size : Int) = (n : Int)) (hn1 : (1 : Int) ≤ (n : Int)) (hn20 : (n : Int) ≤ 20)
    (x1 : ¬ x < -7) (x2 : ¬ 20 < x)
    (x3 : ¬ x < 0) (c k : Nat) (hx1 : IntKind.i64.wrap (x + 1) = (k : Int)) (x4 : n ≤ k) (hx2 : IntKind.i64.wrap ((k : Int) - (n : Int)) = (c : Int)) (HZ : Hid (N2 13 (.string ⟨#[48]⟩) (.int .i64 (c : Int)) (.string Z))) (hZ : Z.size ≤ 30)
    (hD : D.size ≤ 20) :
    Calls Tryz.prog 5 #[.float .f64 m] w fun e w' => e = .returned (.string (D ++ Z)) ∧ Below w.heap.size w w' := by
  have a1 : ∀ W, (Op.stringOp .add D Z).run Tryz.prog W = .ok (.string (D ++ Z)) W := fun W => run_string_add_sum W _ _ (by omega)
  clear hD hZ
  go_enter Tryz.func5, Tryz.ntmps5
  go_wp2_with fail
  refine (HCl.out _).mono ?_; rintro e w' ⟨rfl, rfl⟩
  go_wp2_with fail
  refine (HF.out _ HT.out).mono ?_; rintro e w1 ⟨rfl, hb1⟩
  have HB1 := Lib.hid hb1
  clear hb1
  go_wp2_with fail
  refine (HC.out _).mono ?_; rintro e w2 ⟨rfl, hb2⟩
  have HB2 := Lib.hid (HB1.out.trans (hb2.mono HB1.out.size))
  clear hb2
  go_wp2_with fail
  refine (HA.out _ (HT.out.below HB2.out)).mono ?_; rintro e w3 ⟨rfl, hb3⟩
  have HB3 := Lib.hid (HB2.out.trans (hb3.mono HB2.out.size))
  clear hb3
  go_wp2_with fail
  refine (HR.out _ (HT.out.below HB3.out)).mono ?_; rintro e w4 ⟨rfl, hb4⟩
  have HB4 := Lib.hid (HB3.out.trans (hb4.mono HB3.out.size))
  clear hb4 HB1 HB2 HB3
  go_wp2_with fail
  refine (HZ.out _).mono ?_; rintro e w5 ⟨rfl, hb5⟩
  have HB5 := Lib.hid (HB4.out.trans (hb5.mono HB4.out.size))
  clear hb5
  go_wp2
  go_ret
  exact ⟨rfl, HB5.out⟩
set_option maxRecDepth 100000 in
set_option maxHeartbeats 1000000 in
theorem tx_p (m n : Nat) (T P X : List UInt8) (D I Z : ByteArray) (x cl : Int) (w : World) (HT : Hid (TabS w))
    (HCl : Hid (∀ W : World, Calls Tryz.prog 7 #[.float .f64 m] W fun e w' => e = .returned (.tuple #[.int .i64 cl, .bool false]) ∧ W = w')) (c1 : (cl == 1) = false) (c2 : (cl == 2) = false) (c3 : (cl == 3) = false)
    (HF : Hid (N4 8 (.float .f64 m) (.int .u8 101) (.int .i64 (-1)) (.int .i64 64) (bstr T)))
    (HC : Hid (N2 9 (bstr T) (.string ⟨#[101]⟩) (.tuple #[bstr P, bstr X, .bool true])))
    (HA : Hid (N1 10 (bstr X) (.tuple #[.int .i64 x, .nilIface]))) (HR : Hid (N4 11 (bstr P) (.string ⟨#[46]⟩) (.string ⟨#[]⟩) (.int .i64 1) (.string D)))
    (hn : (D.size : Int) = (n : Int)) (hn1 : (1 : Int) ≤ (n : Int)) (hn20 : (n : Int) ≤ 20)
    (x1 : ¬ x < -7) (x2 : ¬ 20 < x)
    (x3 : ¬ x < 0) (k : Nat) (hx1 : IntKind.i64.wrap (x + 1) = (k : Int)) (x4 : ¬ n ≤ k) (k1 : (0 : Int) ≤ (k : Int)) (k2 : (k : Int) ≤ (n : Int))
    (hD : D.size ≤ 20) :
    Calls Tryz.prog 5 #[.float .f64 m] w fun e w' => e = .returned (.string ((D.extract 0 k ++ ⟨#[46]⟩) ++ D.extract k D.size)) ∧ Below w.heap.size w w' := by
  have a1 : ∀ W, (Op.stringOp .add (D.extract 0 k) ⟨#[46]⟩).run Tryz.prog W = .ok (.string (D.extract 0 k ++ ⟨#[46]⟩)) W := fun W => run_string_add_sum W _ _ (by rw [ByteArray.size_extract]; show min k D.size - 0 + 1 ≤ _; omega)
  have a2 : ∀ W, (Op.stringOp .add (D.extract 0 k ++ ⟨#[46]⟩) (D.extract k D.size)).run Tryz.prog W = .ok (.string ((D.extract 0 k ++ ⟨#[46]⟩) ++ D.extract k D.size)) W := fun W => run_string_add_sum W _ _ (by rw [ByteArray.size_append, ByteArray.size_extract, ByteArray.size_extract]; show min k D.size - 0 + 1 + (min D.size D.size - k) ≤ _; omega)
  clear hD
  go_enter Tryz.func5, Tryz.ntmps5
  go_wp2_with fail
  refine (HCl.out _).mono ?_; rintro e w' ⟨rfl, rfl⟩
  go_wp2_with fail
  refine (HF.out _ HT.out).mono ?_; rintro e w1 ⟨rfl, hb1⟩
  have HB1 := Lib.hid hb1
  clear hb1
  go_wp2_with fail
  refine (HC.out _).mono ?_; rintro e w2 ⟨rfl, hb2⟩
  have HB2 := Lib.hid (HB1.out.trans (hb2.mono HB1.out.size))
  clear hb2
  go_wp2_with fail
  refine (HA.out _ (HT.out.below HB2.out)).mono ?_; rintro e w3 ⟨rfl, hb3⟩
  have HB3 := Lib.hid (HB2.out.trans (hb3.mono HB2.out.size))
  clear hb3
  go_wp2_with fail
  refine (HR.out _ (HT.out.below HB3.out)).mono ?_; rintro e w4 ⟨rfl, hb4⟩
  have HB4 := Lib.hid (HB3.out.trans (hb4.mono HB3.out.size))
  clear hb4 HB1 HB2 HB3
  go_wp2_with fail
  go_quiet (fail)
  go_wp2
  go_ret
  exact ⟨rfl, below_drewN HB4.out _⟩
theorem neg_lo {b : Nat} (hb : b < 9223372036854775808) : b ^^^ 2 ^ 63 = b + 9223372036854775808 := by
  have h := Nat.shiftLeft_add_eq_or_of_lt (show b < 2 ^ 63 by simpa using hb) 1
  have e : b ^^^ 2 ^ 63 = b ||| 2 ^ 63 := by
    apply Nat.eq_of_testBit_eq
    intro i
    rw [Nat.testBit_xor, Nat.testBit_or, Nat.testBit_two_pow]
    by_cases hi : 63 = i
    · subst hi
      have : b.testBit 63 = false := Nat.testBit_lt_two_pow (by simpa using hb)
      rw [this]; simp
    · rw [decide_eq_false hi]; simp
  rw [e]
  rw [Nat.shiftLeft_eq] at h
  rw [Nat.or_comm, Nat.add_comm]
  simpa using h.symm
theorem neg_hi {c : Nat} (hc : c < 9223372036854775808) : Op.negFloat .f64 (c + 9223372036854775808) = c := by
  unfold Op.negFloat
  show (c + 9223372036854775808) ^^^ 2 ^ (11 + 52) = _
  rw [← neg_lo hc, Nat.xor_assoc, Nat.xor_self, Nat.xor_zero]
theorem run_negHi {c : Nat} (h : c < 9223372036854775808) (w : World) : (Op.unary UnOp.neg (.float .f64 (c + 9223372036854775808))).run Tryz.prog w = .ok (.float .f64 c) w := by
  simp [Op.unary, neg_hi h]
theorem itoa_len {x : Int} (h1 : -400 ≤ x) (h2 : x ≤ 400) : (Lib.itoa x).length ≤ 10 := by
  have e1 := lenD_le 2 x.natAbs (by omega)
  have e2 := lenD_le 2 x.toNat (by omega)
  unfold lenD at e1 e2
  unfold Lib.itoa
  split <;> (try simp only [List.length_cons]) <;> omega
set_option maxRecDepth 100000 in
theorem c_TextPos (m : Nat) (h0 : 0 < m) (h1 : m < 9218868437227405312) (w : World) (ht : TabS w) :
    Calls Tryz.prog 5 #[.float .f64 m] w fun e w' => e = .returned (bstr (numT (shortM m).1 (shortM m).2)) ∧ Below w.heap.size w w' := by
  obtain ⟨hx1, hx2, hl⟩ := shortM_bds h0 h1
  have hp := lenD_pos (shortM m).1
  have HT := Lib.hid ht
  have hnn : fnan m = false := by unfold fnan; rw [Nat.mod_eq_of_lt (by omega)]; exact decide_eq_false (by omega)
  have hcl : ∃ cl, fclass m = cl ∧ (cl == 1) = false ∧ (cl == 2) = false ∧ (cl == 3) = false := by
    unfold fclass
    rw [hnn, Nat.mod_eq_of_lt (by omega), if_neg (by decide), if_neg (by omega), if_neg (by omega)]
    by_cases h : m < 4503599627370496
    · exact ⟨4, if_pos h, by decide, by decide, by decide⟩
    · exact ⟨5, if_neg h, by decide, by decide, by decide⟩
  obtain ⟨cl, hcl, c1, c2, c3⟩ := hcl
  have hng : fneg m = false := by unfold fneg; rw [hnn, decide_eq_true (by omega)]; rfl
  have HCl : Hid (∀ W : World, Calls Tryz.prog 7 #[.float .f64 m] W fun e w' => e = .returned (.tuple #[.int .i64 cl, .bool false]) ∧ W = w') := fun W => by
    have := c_Class m (by omega) W
    rwa [hcl, hng] at this
  have HF : Hid (N4 8 (.float .f64 m) (.int .u8 101) (.int .i64 (-1)) (.int .i64 64) (bstr (eTxt (shortM m).1 (shortM m).2))) := fun W hW => c_FFI m h0 h1 W hW
  generalize (shortM m).1 = d at *
  generalize (shortM m).2 = x at *
  have hxl := (expT_atoi hx1 hx2).2
  have hptl : (ptT d).length ≤ 21 := by rw [ptT_len]; split <;> omega
  have hTl : (eTxt d x).length = (ptT d).length + (1 + (expT x).length) := by unfold eTxt; rw [List.length_append, List.length_cons]; omega
  have HC : Hid (N2 9 (bstr (eTxt d x)) (.string ⟨#[101]⟩) (.tuple #[bstr (ptT d), bstr (expT x), .bool true])) := fun W =>
    c_CutAt ⟨(eTxt d x).toArray⟩ ⟨(ptT d).toArray⟩ ⟨(expT x).toArray⟩ (ptT d).length (eTxt_idx d x) (by show _ ≤ (eTxt d x).length; omega) (by show (eTxt d x).length ≤ _; omega)
      (by rw [bcut, List.drop_zero]; unfold eTxt; rw [List.take_append_of_le_length (Nat.le_refl _), List.take_length])
      (by
        rw [bcut]
        show (⟨(((eTxt d x).take (eTxt d x).length).drop ((ptT d).length + 1)).toArray⟩ : ByteArray) = _
        rw [List.take_length]
        unfold eTxt
        rw [List.drop_append, List.drop_eq_nil_of_le (Nat.le_succ _), Nat.add_sub_cancel_left]
        rfl) W
  have HA : Hid (N1 10 (bstr (expT x)) (.tuple #[.int .i64 x, .nilIface])) := fun W _ => c_AtoiX x hx1 hx2 W
  have HR : Hid (N4 11 (bstr (ptT d)) (.string ⟨#[46]⟩) (.string ⟨#[]⟩) (.int .i64 1) (.string ⟨(Lib.decDigits d).toArray⟩)) := fun W _ => by
    by_cases h : lenD d = 1
    · rw [← ptT_one h]
      exact (c_Rep0P ⟨(ptT d).toArray⟩ (ptT_cnt0 h) W).mono fun e w' ⟨a, b⟩ => ⟨a, b ▸ Below.refl _ _⟩
    · have hsz : (ptT d).length = lenD d + 1 := by rw [ptT_len, if_neg h]
      have e0 : (⟨(ptT d).toArray⟩ : ByteArray).extract 0 (⟨(ptT d).toArray⟩ : ByteArray).size = ⟨(ptT d).toArray⟩ := by
        rw [bcut]
        show (⟨(((ptT d).take (ptT d).length).drop 0).toArray⟩ : ByteArray) = _
        rw [List.take_length, List.drop_zero]
      have := c_Rep1P ⟨(ptT d).toArray⟩ ((ptT d).take 1) ((ptT d).drop 2) (ptT_cnt1 h) (ptT_idx h) (by show 2 ≤ (ptT d).length; omega) (by show (ptT d).length ≤ 1000; omega) e0 (by rw [bcut, List.drop_zero])
        (by
          rw [bcut]
          show (⟨(((ptT d).take (ptT d).length).drop 2).toArray⟩ : ByteArray) = _
          rw [List.take_length]) (by rw [List.length_take]; omega) (by rw [List.length_drop]; omega) W
      rwa [ptT_cut h] at this
  have HI : Hid (N1 12 (.int .i64 x) (.string ⟨(Lib.itoa x).toArray⟩)) := fun W hW => c_ItoaX x hx1 hx2 W hW
  have hIl : (⟨(Lib.itoa x).toArray⟩ : ByteArray).size ≤ 10 := itoa_len hx1 hx2
  have hDl : (⟨(Lib.decDigits d).toArray⟩ : ByteArray).size ≤ 20 := hl
  have hDn : ((⟨(Lib.decDigits d).toArray⟩ : ByteArray).size : Int) = ((lenD d : Nat) : Int) := rfl
  have hDs : (⟨(Lib.decDigits d).toArray⟩ : ByteArray).size = lenD d := rfl
  have jn : ∀ a b : List UInt8, (⟨a.toArray⟩ : ByteArray) ++ ⟨b.toArray⟩ = ⟨(a ++ b).toArray⟩ := fun a b => (bapp a b).symm
  have ex1 : ∀ k, (⟨(Lib.decDigits d).toArray⟩ : ByteArray).extract 0 k = ⟨((Lib.decDigits d).take k).toArray⟩ := fun k => by rw [bcut, List.drop_zero]
  have ex2 : ∀ k, (⟨(Lib.decDigits d).toArray⟩ : ByteArray).extract k (⟨(Lib.decDigits d).toArray⟩ : ByteArray).size = ⟨((Lib.decDigits d).drop k).toArray⟩ := fun k => by
    rw [bcut]
    show (⟨(((Lib.decDigits d).take (Lib.decDigits d).length).drop k).toArray⟩ : ByteArray) = _
    rw [List.take_length]
  have l1 : (⟨#[101]⟩ : ByteArray) = ⟨[101].toArray⟩ := rfl
  have l2 : (⟨#[46]⟩ : ByteArray) = ⟨[46].toArray⟩ := rfl
  have l3 : (⟨#[48, 46]⟩ : ByteArray) = ⟨[48, 46].toArray⟩ := rfl
  by_cases he : x < -7 ∨ 20 < x
  · by_cases hn : lenD d = 1
    · have key : ∀ e w', (e = Ending.returned (.string ((⟨(Lib.decDigits d).toArray⟩ ++ ⟨#[101]⟩) ++ ⟨(Lib.itoa x).toArray⟩)) ∧ Below w.heap.size w w') → e = .returned (bstr (numT d x)) ∧ Below w.heap.size w w' := fun e w' ⟨a, b⟩ => ⟨by
        rw [a, l1, jn, jn, numT_e he, ptT_one hn, List.append_assoc]; rfl, b⟩
      by_cases x1 : x < -7
      · exact (tx_e1s m (lenD d) _ _ _ _ _ ⟨#[]⟩ x cl w HT HCl c1 c2 c3 HF HC HA HR hDn (by omega) (by omega) x1 (by omega) HI hIl hDl).mono key
      · exact (tx_e2s m (lenD d) _ _ _ _ _ ⟨#[]⟩ x cl w HT HCl c1 c2 c3 HF HC HA HR hDn (by omega) (by omega) x1 (by omega) (by omega) HI hIl hDl).mono key
    · have key : ∀ e w', (e = Ending.returned (.string (((((⟨(Lib.decDigits d).toArray⟩ : ByteArray).extract 0 1 ++ ⟨#[46]⟩) ++ (⟨(Lib.decDigits d).toArray⟩ : ByteArray).extract 1 (⟨(Lib.decDigits d).toArray⟩ : ByteArray).size) ++ ⟨#[101]⟩) ++ ⟨(Lib.itoa x).toArray⟩)) ∧ Below w.heap.size w w') → e = .returned (bstr (numT d x)) ∧ Below w.heap.size w w' := fun e w' ⟨a, b⟩ => ⟨by
        rw [a, l1, l2, ex1, ex2, jn, jn, jn, jn, numT_e he, ptT_more hn]
        simp only [List.append_assoc, List.cons_append, List.nil_append], b⟩
      by_cases x1 : x < -7
      · exact (tx_e1m m (lenD d) _ _ _ _ _ ⟨#[]⟩ x cl w HT HCl c1 c2 c3 HF HC HA HR hDn (by omega) (by omega) x1 (by omega) HI hIl hDl).mono key
      · exact (tx_e2m m (lenD d) _ _ _ _ _ ⟨#[]⟩ x cl w HT HCl c1 c2 c3 HF HC HA HR hDn (by omega) (by omega) x1 (by omega) (by omega) HI hIl hDl).mono key
  · by_cases x3 : x < 0
    · have HZ : Hid (N2 13 (.string ⟨#[48]⟩) (.int .i64 (((-x - 1).toNat : Nat) : Int)) (.string ⟨(List.replicate (-x - 1).toNat 48).toArray⟩)) := fun W => c_Rep48 _ (by omega) W
      refine (tx_s m (lenD d) _ _ _ _ ⟨#[]⟩ _ x cl w HT HCl c1 c2 c3 HF HC HA HR hDn (by omega) (by omega) (by omega) (by omega) x3 (-x - 1).toNat (IntWalk.i64_in _ (by omega)) (by rw [IntWalk.i64_in _ (by omega)]; omega) HZ (by show (List.replicate _ _).length ≤ _; rw [List.length_replicate]; omega) hDl).mono fun e w' ⟨a, b⟩ => ⟨?_, b⟩
      rw [a, l3, jn, jn, numT_small he x3]
      simp only [List.cons_append, List.nil_append]
    · by_cases x4 : (lenD d : Int) ≤ x + 1
      · have HZ : Hid (N2 13 (.string ⟨#[48]⟩) (.int .i64 (((x + 1 - lenD d).toNat : Nat) : Int)) (.string ⟨(List.replicate (x + 1 - lenD d).toNat 48).toArray⟩)) := fun W => c_Rep48 _ (by omega) W
        refine (tx_w m (lenD d) _ _ _ _ ⟨#[]⟩ _ x cl w HT HCl c1 c2 c3 HF HC HA HR hDn (by omega) (by omega) (by omega) (by omega) x3 (x + 1 - lenD d).toNat (x + 1).toNat (by rw [IntWalk.i64_in _ (by omega)]; omega) (by omega) (by rw [IntWalk.i64_in _ (by omega)]; omega) HZ (by show (List.replicate _ _).length ≤ _; rw [List.length_replicate]; omega) hDl).mono fun e w' ⟨a, b⟩ => ⟨?_, b⟩
        rw [a, jn, numT_whole he x3 x4]
      · refine (tx_p m (lenD d) _ _ _ _ ⟨#[]⟩ ⟨#[]⟩ x cl w HT HCl c1 c2 c3 HF HC HA HR hDn (by omega) (by omega) (by omega) (by omega) x3 (x + 1).toNat (by rw [IntWalk.i64_in _ (by omega)]; omega) (by omega) (by omega) (by omega) hDl).mono fun e w' ⟨a, b⟩ => ⟨?_, b⟩
        rw [a, l2, ex1, ex2, jn, jn, numT_point he x3 x4]
        simp only [List.append_assoc, List.cons_append, List.nil_append]
/-- A class and a sign that Text answers at once. -/
theorem c_TextLow (m : Nat) (h : m < 9223372036854775808) (w : World) (ht : TabS w) : Calls Tryz.prog 5 #[.float .f64 m] w fun e w' => e = .returned (bstr (txtF m)) ∧ Below w.heap.size w w' := by
  have hmod : m % 9223372036854775808 = m := Nat.mod_eq_of_lt h
  have HCl := Lib.hid (fun W => c_Class m (by omega) W)
  by_cases hn : 9218868437227405312 < m
  · have hnn : fnan m = true := by unfold fnan; rw [hmod]; exact decide_eq_true hn
    rw [show fclass m = 1 from by unfold fclass; rw [hnn, if_pos rfl], show fneg m = false from by unfold fneg; rw [hnn]; rfl] at HCl
    rw [show txtF m = [110, 97, 110] from by unfold txtF; rw [hmod, if_pos hn]]
    clear hmod hn hnn ht h
    go_enter Tryz.func5, Tryz.ntmps5
    go_wp2_with fail
    refine (HCl.out _).mono ?_; rintro e w' ⟨rfl, rfl⟩
    go_wp2
    go_ret
    exact ⟨rfl, Below.refl _ _⟩
  have hnn : fnan m = false := by unfold fnan; rw [hmod]; exact decide_eq_false hn
  have hng : fneg m = false := by unfold fneg; rw [hnn, decide_eq_true h]; rfl
  rw [hng] at HCl
  by_cases hi : m = 9218868437227405312
  · rw [show fclass m = 2 from by unfold fclass; rw [hnn, hmod, if_neg (by decide), if_pos hi]] at HCl
    rw [show txtF m = [105, 110, 102] from by unfold txtF; rw [hmod, if_neg hn, if_pos h, if_pos hi]; rfl]
    clear hmod hn hnn ht h hi hng
    go_enter Tryz.func5, Tryz.ntmps5
    go_wp2_with fail
    refine (HCl.out _).mono ?_; rintro e w' ⟨rfl, rfl⟩
    go_wp2
    go_ret
    exact ⟨rfl, Below.refl _ _⟩
  by_cases hz : m = 0
  · subst hz
    rw [show fclass 0 = 3 from by decide +kernel] at HCl
    rw [show txtF 0 = [48] from by unfold txtF; rw [hmod, if_neg hn, if_pos h, if_neg hi, if_pos rfl]; rfl]
    clear hmod hn hnn ht h hi hng
    go_enter Tryz.func5, Tryz.ntmps5
    go_wp2_with fail
    refine (HCl.out _).mono ?_; rintro e w' ⟨rfl, rfl⟩
    go_wp2
    go_ret
    exact ⟨rfl, Below.refl _ _⟩
  · rw [show txtF m = numT (shortM m).1 (shortM m).2 from by unfold txtF; rw [hmod, if_neg hn, if_pos h, if_neg hi, if_neg hz]; rfl]
    exact c_TextPos m (by omega) (by omega) w ht
theorem tx_neg (c : Nat) (cl : Int) (R : List UInt8) (w : World) (h : c < 9223372036854775808) (HCl : Hid (∀ W : World, Calls Tryz.prog 7 #[.float .f64 (c + 9223372036854775808)] W fun e w' => e = .returned (.tuple #[.int .i64 cl, .bool true]) ∧ W = w')) (c1 : (cl == 1) = false) (c2 : (cl == 2) = false)
    (HR : Hid (Calls Tryz.prog 5 #[.float .f64 c] w fun e w' => e = .returned (bstr R) ∧ Below w.heap.size w w')) (hR : R.length ≤ 1000) :
    Calls Tryz.prog 5 #[.float .f64 (c + 9223372036854775808)] w fun e w' => e = .returned (bstr (45 :: R)) ∧ Below w.heap.size w w' := by
  have hng : ∀ W, (Op.unary UnOp.neg (.float .f64 (c + 9223372036854775808))).run Tryz.prog W = .ok (.float .f64 c) W := fun W => run_negHi h W
  have a1 : ∀ W, (Op.stringOp .add ⟨#[45]⟩ ⟨R.toArray⟩).run Tryz.prog W = .ok (.string (⟨#[45]⟩ ++ ⟨R.toArray⟩)) W := fun W => run_string_add_sum W _ _ (by show 1 + R.length ≤ _; omega)
  have HQ : Hid ((⟨#[45]⟩ : ByteArray) ++ ⟨R.toArray⟩ = ⟨(45 :: R).toArray⟩) := by
    show (⟨[45].toArray⟩ : ByteArray) ++ ⟨R.toArray⟩ = _
    rw [← bapp]; rfl
  clear h hR
  generalize c + 9223372036854775808 = b at *
  go_enter Tryz.func5, Tryz.ntmps5
  go_wp2_with fail
  refine (HCl.out _).mono ?_; rintro e w' ⟨rfl, rfl⟩
  go_wp2_with fail
  refine HR.out.mono ?_; rintro e w1 ⟨rfl, hb1⟩
  have HB1 := Lib.hid hb1
  clear hb1
  go_wp2
  go_ret
  exact ⟨by show _ = Ending.returned (.string ⟨(45 :: R).toArray⟩); rw [← HQ.out]; rfl, HB1.out⟩
/-- float.Text answers the document's text of a float, at all 64 bits. -/
theorem c_TextI (b : Nat) (hb : b < 18446744073709551616) (w : World) (ht : TabS w) : Calls Tryz.prog 5 #[.float .f64 b] w fun e w' => e = .returned (bstr (txtF b)) ∧ Below w.heap.size w w' := by
  by_cases hs : b < 9223372036854775808
  · exact c_TextLow b hs w ht
  obtain ⟨c, rfl⟩ : ∃ c, b = c + 9223372036854775808 := ⟨b - 9223372036854775808, by omega⟩
  have hc : c < 9223372036854775808 := by omega
  have hmod : (c + 9223372036854775808) % 9223372036854775808 = c := by omega
  have hmodc : c % 9223372036854775808 = c := by omega
  have HCl := Lib.hid (fun W => c_Class (c + 9223372036854775808) hb W)
  by_cases hn : 9218868437227405312 < c
  · have hnn : fnan (c + 9223372036854775808) = true := by unfold fnan; rw [hmod]; exact decide_eq_true hn
    rw [show fclass (c + 9223372036854775808) = 1 from by unfold fclass; rw [hnn, if_pos rfl], show fneg (c + 9223372036854775808) = false from by unfold fneg; rw [hnn]; rfl] at HCl
    rw [show txtF (c + 9223372036854775808) = [110, 97, 110] from by unfold txtF; rw [hmod, if_pos hn]]
    clear hmod hn hnn ht hc hs hb hmodc
    generalize c + 9223372036854775808 = b at *
    go_enter Tryz.func5, Tryz.ntmps5
    go_wp2_with fail
    refine (HCl.out _).mono ?_; rintro e w' ⟨rfl, rfl⟩
    go_wp2
    go_ret
    exact ⟨rfl, Below.refl _ _⟩
  have hnn : fnan (c + 9223372036854775808) = false := by unfold fnan; rw [hmod]; exact decide_eq_false hn
  have hng : fneg (c + 9223372036854775808) = true := by unfold fneg; rw [hnn, decide_eq_false hs]; rfl
  rw [hng] at HCl
  by_cases hi : c = 9218868437227405312
  · rw [show fclass (c + 9223372036854775808) = 2 from by unfold fclass; rw [hnn, hmod, if_neg (by decide), if_pos hi]] at HCl
    rw [show txtF (c + 9223372036854775808) = [45, 105, 110, 102] from by unfold txtF; rw [hmod, if_neg hn, if_neg hs, if_pos hi]; rfl]
    clear hmod hn hnn ht hc hs hb hmodc hi hng
    generalize c + 9223372036854775808 = b at *
    go_enter Tryz.func5, Tryz.ntmps5
    go_wp2_with fail
    refine (HCl.out _).mono ?_; rintro e w' ⟨rfl, rfl⟩
    go_wp2
    go_ret
    exact ⟨rfl, Below.refl _ _⟩
  · have hcl : ∃ cl, fclass (c + 9223372036854775808) = cl ∧ (cl == 1) = false ∧ (cl == 2) = false := by
      unfold fclass
      rw [hnn, hmod, if_neg (by decide), if_neg hi]
      by_cases h3 : c = 0
      · exact ⟨3, if_pos h3, by decide, by decide⟩
      · rw [if_neg h3]
        by_cases h : c < 4503599627370496
        · exact ⟨4, if_pos h, by decide, by decide⟩
        · exact ⟨5, if_neg h, by decide, by decide⟩
    obtain ⟨cl, hcl, c1, c2⟩ := hcl
    rw [hcl] at HCl
    have hlow : txtF (c + 9223372036854775808) = 45 :: txtF c := by
      unfold txtF
      rw [hmod, hmodc, if_neg hn, if_neg hn, if_neg hs, if_pos hc]
      rfl
    have hlen : (txtF c).length ≤ 1000 := by
      unfold txtF
      rw [hmodc, if_neg hn, if_pos hc, if_neg hi]
      by_cases h3 : c = 0
      · rw [if_pos h3]; decide
      · rw [if_neg h3, List.nil_append]
        obtain ⟨z1, z2, z3, z4, z5, z6⟩ := zM_facts (m := c) (by omega) (by omega)
        have hsl := (short_law (m := c) (by omega) (by omega) z1 z2 z5).1
        have hbd := shortM_bds (m := c) (by omega) (by omega)
        have hd : (shortM c).1 < 18446744073709551616 := by
          rw [hsl]; exact Nat.lt_of_le_of_lt (stripD_le _) (dM_lt (by omega) (by omega) z1 z2 z5)
        have := numT_len hd hbd.1 (by omega)
        omega
    rw [hlow]
    exact tx_neg c cl _ w hc HCl c1 c2 (c_TextLow c hc w ht) hlen
end Go.Proofs.YthoifpapdefheaaGreatDoor
