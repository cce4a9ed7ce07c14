/- Walk: 0.1 as text in the form 'e', the shortest (strconv: ftoa64). Conditions: the library's tables read as they were laid; the text begins empty. -/
import Derived.Test.YtcohidjaehdbnaaGreatDoorVb
import Derived.Test.YtcohidjaehdbnaaGreatDoorTd
import Derived.Lib.AppendIntMem
import Derived.Deep.RegionHeld3
import Derived.Deep.RegionLaw
namespace Go.Proofs.YtcohidjaehdbnaaGreatDoor
open Go.RowKit
set_option linter.unusedVariables false
attribute [local go_sem ↓] Go.wp_at_zero Go.wp_at_succ

theorem call_bits64 (b : Nat) (w : World) : (callFunc 87 #[.float .f64 b]).run Tryz.prog w = .ok (.value (.int .u64 (b : Int))) w := by kernel_rfl
theorem c_Len53 (w : World) : Calls Tryz.prog 62 #[.int .u64 7205759403792794] w fun e w' => e = .returned (.int .i64 53) ∧ w = w' :=
  (Any.bits_Len64 lays129 7205759403792794 w (by decide) (by decide)).mono fun _ _ h => ⟨by rw [h.1]; rw [show Lib.bitLen (Int.toNat 7205759403792794) = 53 from by decide +kernel]; rfl, h.2.symm⟩
/-- What a print of 0.1 asks of memory: the table's row of 17, the table of tens. -/
structure Tab (w : World) : Prop where
  c0 : w.cell? ⟨10, 730, none⟩ = some (.int .u64 12800000000000000000)
  c1 : w.cell? ⟨10, 731, none⟩ = some (.int .u64 0)
  hg : 10 < w.heap.size
  tab : Lib.TabIs Tryz.prog w "internal/strconv.uint64pow10" .u64 Lib.pow10Tab
theorem Tab.below {w w' : World} (h : Tab w) (hb : Below w.heap.size w w') : Tab w' :=
  ⟨(hb.cell h.hg).trans h.c0, (hb.cell h.hg).trans h.c1, Nat.lt_of_lt_of_le h.hg hb.size, Lib.tabBelow_of_tabIs h.tab w' hb⟩
set_option maxRecDepth 100000 in
set_option maxHeartbeats 1000000 in
theorem c_ftoa (W w : World) (A : Option Addr) (c : Nat) (ho : OwnB W w A c []) (ht : Tab w) :
    Calls Tryz.prog 67 #[.slice A 0 c, .float .f64 4591870180066957722, .int .u8 101, .int .i64 (-1)] w fun e w' => ∃ A' c', e = .returned (.slice A' 5 c') ∧ OwnB W w' A' c' [49, 101, 45, 48, 49] := by
  have hcall : ∀ w : World, (callFunc 87 #[.float .f64 4591870180066957722]).run Tryz.prog w = .ok (.value (.int .u64 4591870180066957722)) w := fun w => call_bits64 4591870180066957722 w
  have b1 : bits BinOp.and .i64 1019 2047 = 1019 := by decide +kernel
  have b2 : bits BinOp.and .u64 4591870180066957722 4503599627370495 = 2702159776422298 := by decide +kernel
  have b3 : bits BinOp.or .u64 2702159776422298 4503599627370496 = 7205759403792794 := by decide +kernel
  have HO := Lib.hid ho
  have HT := Lib.hid ht
  clear ho ht
  go_enter Tryz.func67, Tryz.ntmps67
  go_wp2_with fail
  go_region
  go_wp2_with fail
  have HV : Hid (Below w.heap.size w (w.alloc (.cells zrs32 112)).drew) := ((Below.refl _ _).alloc (Nat.le_refl _) _).drew
  have HK : Hid (Blk (w.alloc (.cells zrs32 112)).drew w.heap.size 112 zrs32) := (Blk.new w _ _).drew
  have HV' : Hid (w.heap.size < (w.alloc (.cells zrs32 112)).drew.heap.size) := HK.out.lt
  change Calls _ _ _ (w.alloc (.cells zrs32 112)).drew _
  generalize (w.alloc (.cells zrs32 112)).drew = V at *
  have HTV := Lib.hid (HT.out.below HV.out)
  refine (c_Len53 _).mono ?_; rintro e w1 ⟨rfl, rfl⟩
  go_wp2_with fail
  refine (c_short V HTV.out.c0 HTV.out.c1 HTV.out.hg).mono ?_; rintro e w2 ⟨rfl, hb2⟩
  have HT2 := Lib.hid (HTV.out.below hb2)
  have HK2 := Lib.hid (HK.out.below hb2 HV'.out)
  have HB2 := Lib.hid (HV.out.trans (hb2.mono (Nat.le_of_lt HV'.out)))
  clear hb2
  go_wp2_with fail
  have HN := Lib.hid (c_numd w2.drew HT2.out.tab)
  have HS := Lib.hid (c_setD w.heap.size w2.drew HK2.out.drew)
  go_region_with (first
    | (go_at_call 93; (with_reducible refine HN.out.mono ?_); rintro e w3 ⟨rfl, rfl⟩)
    | (go_at_call 92; (with_reducible refine HS.out.mono ?_); rintro e w3 ⟨rfl, k3, hb3⟩))
  all_goals
    have hB3 : Below w.heap.size w w3 := HB2.out.drew.trans hb3
    have HO3 : Hid (OwnB W w3 A c []) := ⟨own_below HO.out.1 hB3, HO.out.2.trans (hB3.mono HO.out.2.size)⟩
    have HF := Lib.hid (c_fmtE W w3 A c w.heap.size HO3.out k3)
    clear hb3 hB3 HN HS HB2 HV HV' HTV HT HT2 HO
    go_wp2_with fail
    refine HF.out.mono ?_; rintro e w4 ⟨A4, c4, rfl, ho4⟩
    have HO4 := Lib.hid ho4
    clear ho4
    go_wp2
    go_ret
    exact ⟨_, _, rfl, HO4.out⟩
/-- Bytes as a string. -/
abbrev bstr (l : List UInt8) : Value := .string ⟨l.toArray⟩
theorem conv_nilb (w : World) : (convert 75 9 (.slice none 0 0)).run Tryz.prog w = .ok (.string ⟨#[]⟩) w := by kernel_rfl
theorem conv_bys {w : World} {base m : Nat} {v : Value} {l : List UInt8} (h : w.ownsRow base 5 1 v m (bys l)) : (convert 75 9 v).run Tryz.prog w = .ok (bstr l) w := by
  have hl : l.length = m := by simpa [bys] using h.1
  rcases h.2 with ⟨rfl, rfl⟩ | ⟨g, cap, cur, rfl, _⟩
  · obtain rfl := List.eq_nil_of_length_eq_zero hl
    exact conv_nilb w
  · have := run_convert_bytes_back (P := Tryz.prog) w 75 9 5 ⟨g, 0, none⟩ cap l Tryz.underlying75 Tryz.underlying5 Tryz.underlying9 (fun j hj => by
      rw [h.cells rfl j (.int .u8 (l[j].toNat : Int)) (by simp [bys, List.getElem?_eq_getElem hj])])
    rw [hl] at this
    exact this
set_option maxRecDepth 100000 in
theorem c_iFF (w : World) (ht : Tab w) :
    Calls Tryz.prog 46 #[.float .f64 4591870180066957722, .int .u8 101, .int .i64 (-1), .int .i64 64] w fun e w' => e = .returned (bstr [49, 101, 45, 48, 49]) ∧ Below w.heap.size w w' := by
  obtain ⟨i0, hi0, hz0, hz1, hz2⟩ := info_parts u8_info
  obtain ⟨w1, hmk, ho1, hg1⟩ := run_makeSlice_owned (P := Tryz.prog) w w.heap.size 75 5 i0 _ 1 Tryz.underlying75 hi0 hz0 hz1 .i64 .i64 24 (by decide) (by rw [hz2]; decide) (by decide) (Nat.le_refl _)
  replace hmk : (Instr.makeSlice 75 (.int .i64 0) (.int .i64 24)).run Tryz.prog w = .ok (.slice (some ⟨w.heap.size, 0, none⟩) 0 24) w1 := hmk
  have e24 : max (3 : Int) 24 = 24 := by decide
  have HB1 := Lib.hid (below_of_grown hg1)
  have HF := Lib.hid (c_ftoa w w1 (some ⟨w.heap.size, 0, none⟩) 24 ⟨ho1, HB1.out⟩ (ht.below HB1.out))
  clear ht ho1 hg1 hz0 hz1 hz2
  go_enter Tryz.func46, Tryz.ntmps46
  go_wp2_with fail
  refine HF.out.mono ?_; rintro e w2 ⟨A2, c2, rfl, ho2⟩
  have hcv : (convert 75 9 (.slice A2 5 c2)).run Tryz.prog w2 = .ok (bstr [49, 101, 45, 48, 49]) w2 := conv_bys (l := [49, 101, 45, 48, 49]) ho2.1
  have HB2 := Lib.hid ho2.2
  clear ho2
  go_wp2
  go_ret
  exact ⟨rfl, HB2.out⟩
theorem c_FF (w : World) (ht : Tab w) :
    Calls Tryz.prog 29 #[.float .f64 4591870180066957722, .int .u8 101, .int .i64 (-1), .int .i64 64] w fun e w' => e = .returned (bstr [49, 101, 45, 48, 49]) ∧ Below w.heap.size w w' := by
  have HF := Lib.hid (c_iFF w ht)
  go_enter Tryz.func29, Tryz.ntmps29
  go_wp2_with fail
  refine HF.out.mono ?_; rintro e w2 ⟨rfl, hb⟩
  have HB := Lib.hid hb
  go_wp2
  go_ret
  exact ⟨rfl, HB.out⟩
end Go.Proofs.YtcohidjaehdbnaaGreatDoor
