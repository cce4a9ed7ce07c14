/- Walks: the text of 0.1 (strings.Cut, strings.Replace, float.Text at that one input), and the call that the laws ask first. Conditions: the library's tables read as they were laid. -/
import Derived.Test.YtcohidjaehdbnaaGreatDoorVc
import Derived.Test.YtcohidjaehdbnaaGreatDoorLv
import Derived.Test.YtcohidjaehdbnaaGreatDoorHb
import Derived.BigQuiet
import Derived.Lib.AtoiErrMem
namespace Go.Proofs.YtcohidjaehdbnaaGreatDoor
open Go.RowKit Go.Shelf
set_option linter.unusedVariables false
attribute [local go_sem ↓] Go.wp_at_zero Go.wp_at_succ

theorem c_IdxE (w : World) : Calls Tryz.prog 68 #[bstr [49, 101, 45, 48, 49], .string ⟨#[101]⟩] w fun e w' => e = .returned (.int .i64 1) ∧ w = w' := by
  refine (Any.stringslite_Index_one lays219 ⟨#[49, 101, 45, 48, 49]⟩ 101 w).mono fun e w' ⟨h1, h2⟩ => ⟨?_, h2.symm⟩
  rw [h1]
  have : Lib.indexByte (⟨#[49, 101, 45, 48, 49]⟩ : ByteArray).data.toList 101 = 1 := by decide +kernel
  rw [this]
theorem c_CntP (w : World) : Calls Tryz.prog 50 #[bstr [49], .string ⟨#[46]⟩] w fun e w' => e = .returned (.int .i64 0) ∧ w = w' := by
  refine (Any.strings_Count_one lays138 ⟨#[49]⟩ 46 w).mono fun e w' ⟨h1, h2⟩ => ⟨?_, h2.symm⟩
  rw [h1]
  have : Lib.countByte (⟨#[49]⟩ : ByteArray).data.toList 46 = 0 := by decide +kernel
  rw [this]; rfl
theorem c_Rep0 (w : World) : Calls Tryz.prog 34 #[.string ⟨#[48]⟩, .int .i64 0] w fun e w' => e = .returned (.string ⟨#[]⟩) ∧ w = w' :=
  (Any.strings_Repeat_zero lays105 ⟨#[48]⟩ w).mono fun e w' ⟨h1, h2⟩ => ⟨h1, h2.symm⟩
theorem c_AtoiM (w : World) : Calls Tryz.prog 31 #[bstr [45, 48, 49]] w fun e w' => e = .returned (.tuple #[.int .i64 (-1), .nilIface]) ∧ Below w.heap.size w w' := by
  refine (Any.strconv_Atoi lays172 ⟨#[45, 48, 49]⟩ (-1) (by decide) (by decide +kernel) w).mono ?_
  rintro e w' ⟨rfl, t, rfl⟩
  exact ⟨rfl, Lib.bytesWorld_below _ _ _⟩
theorem c_CutE (w : World) : Calls Tryz.prog 30 #[bstr [49, 101, 45, 48, 49], .string ⟨#[101]⟩] w fun e w' => e = .returned (.tuple #[bstr [49], bstr [45, 48, 49], .bool true]) ∧ Below w.heap.size w w' := by
  have HI := Lib.hid c_IdxE
  have e1 : (⟨#[49, 101, 45, 48, 49]⟩ : ByteArray).extract 0 1 = ⟨#[49]⟩ := by decide +kernel
  have e2 : (⟨#[49, 101, 45, 48, 49]⟩ : ByteArray).extract 2 5 = ⟨#[45, 48, 49]⟩ := by decide +kernel
  have hsz : (⟨#[49, 101, 45, 48, 49]⟩ : ByteArray).size = 5 := rfl
  have HC : Hid (∀ W, Calls Tryz.prog 47 #[bstr [49, 101, 45, 48, 49], .string ⟨#[101]⟩] W fun e w' => e = .returned (.tuple #[bstr [49], bstr [45, 48, 49], .bool true]) ∧ Below W.heap.size W w') := fun W => by
    go_enter Tryz.func47, Tryz.ntmps47
    go_wp2_with (go_at_call 68; refine (HI.out _).mono ?_; rintro e w' ⟨rfl, rfl⟩)
    go_quiet (fail)
    go_wp2_with fail
    go_ret3
    exact ⟨by first | rfl | (show Ending.returned (.tuple #[.string ((⟨#[49, 101, 45, 48, 49]⟩ : ByteArray).extract 0 1), .string ((⟨#[49, 101, 45, 48, 49]⟩ : ByteArray).extract 2 5), .bool true]) = _; rw [e1, e2]), below_drewN (Below.refl _ _) _⟩
  go_enter Tryz.func30, Tryz.ntmps30
  go_wp2_with (go_at_call 47; refine (HC.out _).mono ?_; rintro e w1 ⟨rfl, hb⟩)
  go_ret3
  exact ⟨rfl, hb⟩
theorem c_ReplP (w : World) : Calls Tryz.prog 32 #[bstr [49], .string ⟨#[46]⟩, .string ⟨#[]⟩, .int .i64 1] w fun e w' => e = .returned (bstr [49]) ∧ w = w' := by
  have HI := Lib.hid c_CntP
  go_enter Tryz.func32, Tryz.ntmps32
  go_wp2_with fail
  refine (HI.out _).mono ?_; rintro e w' ⟨rfl, rfl⟩
  go_wp2
  go_ret
  exact ⟨rfl, rfl⟩
set_option maxRecDepth 100000 in
theorem c_Text1 (w : World) (ht : Tab w) : Calls Tryz.prog 14 #[.float .f64 4591870180066957722] w fun e w' => e = .returned (bstr [48, 46, 49]) ∧ Below w.heap.size w w' := by
  have HCl := Lib.hid (c_Class 4591870180066957722 (by decide) w)
  rw [show fclass 4591870180066957722 = 5 from by decide +kernel, show fneg 4591870180066957722 = false from by decide +kernel] at HCl
  have HF := Lib.hid (c_FF w ht)
  clear ht
  go_enter Tryz.func14, Tryz.ntmps14
  go_wp2_with fail
  refine HCl.out.mono ?_; rintro e w' ⟨rfl, rfl⟩
  go_wp2_with fail
  refine HF.out.mono ?_; rintro e w1 ⟨rfl, hb1⟩
  have HB1 := Lib.hid hb1
  clear hb1
  go_wp2_with fail
  refine (c_CutE _).mono ?_; rintro e w2 ⟨rfl, hb2⟩
  have HB2 := Lib.hid (HB1.out.trans (hb2.mono HB1.out.size))
  clear hb2
  go_wp2_with fail
  refine (c_AtoiM _).mono ?_; rintro e w3 ⟨rfl, hb3⟩
  have HB3 := Lib.hid (HB2.out.trans (hb3.mono HB2.out.size))
  clear hb3
  go_wp2_with fail
  refine (c_ReplP _).mono ?_; rintro e w4 ⟨rfl, rfl⟩
  go_wp2_with fail
  refine (c_Rep0 _).mono ?_; rintro e w4 ⟨rfl, rfl⟩
  go_wp2
  go_ret
  exact ⟨rfl, HB3.out⟩
theorem c_alive (w : World) (ht : Tab w) : Alive w := by
  have HF := Lib.hid (c_Text1 w ht)
  unfold Alive
  go_enter Tryz.func6, Tryz.ntmps6
  go_wp2_with fail
  refine HF.out.mono ?_; rintro e w1 ⟨rfl, hb1⟩
  have HB1 := Lib.hid hb1
  clear hb1
  go_wp2
  go_ret
  exact ⟨rfl, HB1.out⟩
end Go.Proofs.YtcohidjaehdbnaaGreatDoor
