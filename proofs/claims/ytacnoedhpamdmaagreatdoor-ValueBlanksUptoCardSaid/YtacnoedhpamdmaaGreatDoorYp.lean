/- Walks: the bytes of the value 'true' (value.Encode at that one input). Conditions: none. -/
import Derived.Test.YtacnoedhpamdmaaGreatDoorYo
namespace Go.Proofs.YtacnoedhpamdmaaGreatDoor
open Go.RowKit
set_option linter.unusedVariables false
attribute [local go_sem ↓] Go.wp_at_zero Go.wp_at_succ

/-- The value 'true'. -/
def vTrue : Val := .mk 1 1 0 ⟨#[]⟩ [] []
abbrev csTrue : List Value := [.int .i64 1, .int .i64 1, .float .f64 0, .string ⟨#[]⟩, .slice none 0 0, .slice none 0 0]
theorem rv_true (w : World) : RV w vTrue csTrue := ⟨RdV_iff.2 ⟨none, none, 0, 0, rfl, Reads.none_, fun i h => absurd h (by show ¬ i < 0; omega)⟩, by unfold vTrue; rw [wfV, wfL]; exact ⟨rfl, rfl, rfl, trivial⟩, by decide +kernel⟩
theorem chk_true : chk fone vTrue = 0 := by decide +kernel
theorem leaf_true : leafV vTrue = .iface 110 (.bool true) := rfl
theorem u8_info : (Tryz.prog.info? 5).map (fun i => (i.zero, i.size, i.bytes)) = some (some (.int .u8 0), 1, 1) := by kernel_rfl
theorem c_bytesT (w : World) : Calls Tryz.prog 234 #[.bool true] w fun e w' => e = .returned (.slice (some ⟨w.heap.size, 0, none⟩) 1 1) ∧ w' = w.alloc (.cells #[.int .u8 1] 5) := by
  go_enter Tryz.func234, Tryz.ntmps234
  go_wp2
  go_ret
  exact ⟨rfl, rfl⟩
/-- A slice of a call's own that reads as these bytes. -/
def Own2 (w w' : World) (v : Value) (xs : List Value) : Prop := w'.ownsRow w.heap.size 5 1 v xs.length xs ∧ Below w.heap.size w w'
set_option maxRecDepth 100000 in
theorem c_layT (w : World) : Calls Tryz.prog 59 #[.slice none 0 0, .agg csTrue.toArray] w fun e w' => ∃ v, e = .returned v ∧ Own2 w w' v [.int .u8 1, .int .u8 1] := by
  obtain ⟨i0, hi0, hz0, hz1, hz2⟩ := info_parts u8_info
  have hb0 : Below w.heap.size w (w.alloc (.cells csTrue.toArray 30)) := (Below.refl w.heap.size w).alloc (Nat.le_refl _) _
  have HB0 := Lib.hid hb0
  have HX0 := Lib.hid (Box.new w csTrue)
  have HR := Lib.hid (rv_true w).row
  have K0 : Hid ((w.alloc (.cells csTrue.toArray 30)).cell? ⟨w.heap.size, 0, none⟩ = some (.int .i64 1)) := HX0.out.blk.cell 0
  clear hb0
  go_enter Tryz.func59, Tryz.ntmps59
  go_upto_region 1 with fail
  generalize w.alloc (.cells csTrue.toArray 30) = w0 at *
  have k0 := K0.out
  have HR1 := Lib.hid (Reads.of_own (World.ownsRow_lit (e := 5) (size := 1) (base := 0) w0 #[.int .u8 1] 1 (Nat.zero_le _) (by decide) rfl) : Reads (w0.alloc (.cells #[.int .u8 1] 5)) _ 1 (some ⟨w0.heap.size, 0, none⟩) 1 [.int .u8 1])
  have HBA : Hid (Below w.heap.size w (w0.alloc (.cells #[.int .u8 1] 5))) := HB0.out.alloc HB0.out.size _
  have HXA := Lib.hid (HX0.out.step ((Below.refl _ _).alloc (Nat.le_refl _) (.cells #[.int .u8 1] 5)))
  go_upto_region 2 with (at_builtin; refine wpList_append_any _ rfl (.tmp 8) (.tmp 12) 23 rfl w.heap.size 5 i0 _ 1 1 Tryz.underlying23 hi0 hz0 hz1 hz2 rfl (by omega) (.slice none 0 0) 0 [] rfl (World.ownsRow_nil _ _ _ _) _ (some ⟨w0.heap.size, 0, none⟩) 1 1 [.int .u8 1] rfl HR1.out (by simp [Value.oneCell']) (by simp only [maxLen]; omega) (by omega) HBA.out.size ?_; intro v1 w1 hown1 hg1 _; have HO1 : Hid (w1.ownsRow w.heap.size 5 1 v1 1 [.int .u8 1]) := hown1; have hb1 := below_of_grown hg1; have HB1 : Hid (Below w.heap.size w w1) := HBA.out.trans (hb1.mono HBA.out.size); have HX1 := Lib.hid (HXA.out.step hb1); clear hown1 hg1 hb1)
  have HLF := Lib.hid (c_leafOf vTrue csTrue w1 (rv_true w1))
  rw [leaf_true] at HLF
  clear HR1 HBA HXA k0 K0 HX0 HB0
  go_wp2_with (refine wpList_load_row rfl 30 (.tmp 3) rfl w.heap.size rfl 30 _ (0, 0) _ HX1.out.blk Tryz.underlying30 rfl HR.out ?_)
  refine HLF.out.mono ?_; rintro e w2 ⟨rfl, hb2⟩
  have HO2 := Lib.hid (own_below HO1.out hb2)
  have HB2 := Lib.hid (HB1.out.trans (hb2.mono HB1.out.size))
  clear hb2 HLF
  go_wp2_with fail
  refine (c_bytesT w2).mono ?_; rintro e w3 ⟨rfl, rfl⟩
  have HR3 := Lib.hid (Reads.of_own (World.ownsRow_lit (e := 5) (size := 1) (base := 0) w2 #[.int .u8 1] 1 (Nat.zero_le _) (by decide) rfl) : Reads (w2.alloc (.cells #[.int .u8 1] 5)) _ 1 (some ⟨w2.heap.size, 0, none⟩) 1 [.int .u8 1])
  have HO3 := Lib.hid (HO2.out.alloc (.cells #[.int .u8 1] 5))
  have HB3 : Hid (Below w.heap.size w (w2.alloc (.cells #[.int .u8 1] 5))) := HB2.out.alloc HB2.out.size _
  go_wp2_with (at_builtin; refine wpList_append_any _ rfl (.tmp 18) (.tmp 20) 23 rfl w.heap.size 5 i0 _ 1 1 Tryz.underlying23 hi0 hz0 hz1 hz2 rfl (by omega) v1 1 [.int .u8 1] rfl HO3.out _ (some ⟨w2.heap.size, 0, none⟩) 1 1 [.int .u8 1] rfl HR3.out (by simp [Value.oneCell']) (by simp only [maxLen]; omega) (by omega) HB3.out.size ?_; intro v4 w4 hown4 hg4 _; have HO4 : Hid (w4.ownsRow w.heap.size 5 1 v4 2 [.int .u8 1, .int .u8 1]) := hown4; have HB4 := Lib.hid (below_own HB3.out HO3.out hg4); clear hown4 hg4)
  go_ret
  exact ⟨v4, rfl, HO4.out, HB4.out⟩
set_option maxRecDepth 100000 in
theorem c_EncT (w : World) : Calls Tryz.prog 29 #[.agg csTrue.toArray] w fun e w' => ∃ v, e = .returned (.tuple #[v, .int .i64 0]) ∧ Own2 w w' v [.int .u8 1, .int .u8 1] := by
  have HB0 : Hid (Below w.heap.size w (w.alloc (.cells csTrue.toArray 30))) := (Below.refl w.heap.size w).alloc (Nat.le_refl _) _
  have HX0 := Lib.hid (Box.new w csTrue)
  have HR := Lib.hid (rv_true w).row
  go_enter Tryz.func29, Tryz.ntmps29
  go_upto_region 1 with fail
  generalize w.alloc (.cells csTrue.toArray 30) = w0 at *
  have HC := Lib.hid (c_Check vTrue csTrue w0 (rv_true w0))
  rw [chk_true] at HC
  go_wp2_with (refine wpList_load_row rfl 30 (.tmp 1) rfl w.heap.size rfl 30 _ (0, 0) _ HX0.out.blk Tryz.underlying30 rfl HR.out ?_)
  refine HC.out.mono ?_; rintro e w1 ⟨rfl, hb1⟩
  have HX1 := Lib.hid (HX0.out.step hb1)
  have HB1 := Lib.hid (HB0.out.trans (hb1.mono HB0.out.size))
  clear hb1 HC
  go_wp2_with (refine wpList_load_row rfl 30 (.tmp 1) rfl w.heap.size rfl 30 _ (0, 0) _ HX1.out.blk Tryz.underlying30 rfl HR.out ?_)
  refine (c_layT w1).mono ?_; rintro e w2 ⟨v, rfl, ho, hb⟩
  have HO := Lib.hid (own_base ho HB1.out.size)
  have HB2 := Lib.hid (HB1.out.trans (hb.mono HB1.out.size))
  clear ho hb
  go_wp2_with fail
  go_ret2
  exact ⟨v, rfl, HO.out, HB2.out⟩
end Go.Proofs.YtacnoedhpamdmaaGreatDoor
