/- The statement ParamMemorySaid, proved: for every input the law returns true and leaves its arguments as they were. Conditions: none beyond the given row. (Written by wip/gen/lift.py.) -/
import Derived.Test.YtbpbokcglicggaaLmem
import Derived.Test.YtbpbokcglicggaaLaw
import Derived.ProofKit
import Derived.OpenShut
import Derived.JoinedOf
import Derived.Handed
namespace Go.Proofs.Ytbpbokcglicggaa.paramMemory
open Go.ChangeShapes Go.WideShapes Go.ChangeAt Go.RowKit
set_option linter.unusedVariables false
theorem own : ownKnob Try.prog.godebug = none := by kernel_rfl
theorem laid : laidOutB Try.prog = true := by kernel_rfl
theorem book : (Try.f11.params.toList.all fun t => Try.prog.readableRec t && decide (t < Try.prog.types.size)) = true := by kernel_rfl
set_option maxRecDepth 100000 in
theorem lifted (os : Os) (started : os.Started) (H : Type) (enc : TypeId × Value → H) :
    ReturnsInHanded {} Try.checked os 11 .any (Rows.paramMemorySpec.pre6 enc Try.prog Try.f11 Rows.paramMemoryRow.domain false) (Rows.paramMemorySpec.post enc Try.prog Try.f11 false true false false) := by
  refine returnsInHanded_of_change_sized (C := Try.checked) own started (by kernel_rfl) Try.func11
    (ChangeSpec.witness6 (enc := enc) (C := Try.checked) false ⟨#[], #[.agg #[.int .i64 0, .int .i64 0, .int .i64 0, .int .i64 0, .int .u32 0, .int .u64 0, .int .u32 0, .int .i64 0, .int .i64 0, .slice none 0 0, .slice none 0 0], .agg #[.int .i64 0, .slice none 0 0, .int .i64 0, .int .i64 0, .int .u64 0]], []⟩ 8 (by kernel_rfl) (by kernel_rfl) (by kernel_rfl) (by kernel_rfl)) ?_
  intro W base args ds gs before hval0 hW hcnd hsz0 _
  have hval : ∀ (j : Nat) t v, Try.f11.params[j]? = some t → args[j]? = some v → Value.okWide Try.prog W .any base t v := hval0
  have hsz : (DataW.weightsEach Try.prog (Try.f11.params.toList ++ Rows.paramMemorySpec.plain.varTypes Try.prog) (ds ++ gs)).all (· ≤ reachBytes) = true := hsz0
  have hW' := hW
  obtain ⟨p, q, hA0, hV, rfl, hfz, hnd⟩ := hW
  have hA : DataW.TrodAll enc Try.prog W 0 (fun _ => true) true Try.f11.params.toList args.toList ds p := hA0
  rw [Try.params11] at hA hval hsz
  clear hA0 hval0 hsz0
  obtain ⟨v0, vs0, d0, ds0, p0, q0, hargs, rfl, rfl, h0, r0⟩ := trodAll_cons hA
  obtain ⟨v1, vs1, d1, ds1, p1, q1, rfl, rfl, rfl, h1, r1⟩ := trodAll_cons r0
  obtain ⟨rfl, rfl, rfl⟩ := trodAll_nil r1
  obtain rfl : args = #[v0, v1] := by cases args; simp_all
  obtain ⟨rfl, rfl⟩ := trodVars_none hV
  have z0 := rd_each hsz (j := 0) (t := 31) (d := d0) rfl rfl
  have z1 := rd_each hsz (j := 1) (t := 49) (d := d1) rfl rfl
  clear hsz
  obtain ⟨cs0, rfl, hcs0⟩ := rd_agg Try.underlying31 (hval 0 31 v0 rfl rfl)
  obtain ⟨fu0, hf0⟩ := h0
  rw [hcs0] at hf0
  obtain ⟨hl0, hfl0⟩ := rd_struct Try.underlying31 (by kernel_rfl) (by kernel_rfl) hf0 z0
  obtain ⟨c0_0, c0_1, c0_2, c0_3, c0_4, c0_5, c0_6, c0_7, c0_8, c0_9, c0_10, rfl⟩ := list_len11 hl0
  obtain ⟨u0_0, m0_0, y0_0, e0_0, t0_0, w0_0⟩ := hfl0 0 _ rfl
  cases e0_0
  obtain ⟨x1, rfl, wx2⟩ := fld_int Try.underlying3 t0_0
  obtain ⟨u0_1, m0_1, y0_1, e0_1, t0_1, w0_1⟩ := hfl0 1 _ rfl
  cases e0_1
  obtain ⟨x3, rfl, wx4⟩ := fld_int Try.underlying3 t0_1
  obtain ⟨u0_2, m0_2, y0_2, e0_2, t0_2, w0_2⟩ := hfl0 2 _ rfl
  cases e0_2
  obtain ⟨x5, rfl, wx6⟩ := fld_int Try.underlying3 t0_2
  obtain ⟨u0_3, m0_3, y0_3, e0_3, t0_3, w0_3⟩ := hfl0 3 _ rfl
  cases e0_3
  obtain ⟨x7, rfl, wx8⟩ := fld_int Try.underlying3 t0_3
  obtain ⟨u0_4, m0_4, y0_4, e0_4, t0_4, w0_4⟩ := hfl0 4 _ rfl
  cases e0_4
  obtain ⟨x9, rfl, wx10⟩ := fld_int Try.underlying27 t0_4
  obtain ⟨u0_5, m0_5, y0_5, e0_5, t0_5, w0_5⟩ := hfl0 5 _ rfl
  cases e0_5
  obtain ⟨x11, rfl, wx12⟩ := fld_int Try.underlying28 t0_5
  obtain ⟨u0_6, m0_6, y0_6, e0_6, t0_6, w0_6⟩ := hfl0 6 _ rfl
  cases e0_6
  obtain ⟨x13, rfl, wx14⟩ := fld_int Try.underlying27 t0_6
  obtain ⟨u0_7, m0_7, y0_7, e0_7, t0_7, w0_7⟩ := hfl0 7 _ rfl
  cases e0_7
  obtain ⟨x15, rfl, wx16⟩ := fld_int Try.underlying3 t0_7
  obtain ⟨u0_8, m0_8, y0_8, e0_8, t0_8, w0_8⟩ := hfl0 8 _ rfl
  cases e0_8
  obtain ⟨x17, rfl, wx18⟩ := fld_int Try.underlying3 t0_8
  obtain ⟨u0_9, m0_9, y0_9, e0_9, t0_9, w0_9⟩ := hfl0 9 _ rfl
  cases e0_9
  obtain ⟨A19, n20, c21, xs22, rfl, hr23⟩ := fld_ints (by_ := 1) Try.underlying29 Try.underlying5 (by kernel_rfl) (by kernel_rfl) t0_9 w0_9
  obtain ⟨u0_10, m0_10, y0_10, e0_10, t0_10, w0_10⟩ := hfl0 10 _ rfl
  cases e0_10
  obtain ⟨A24, n25, c26, xs27, rfl, hr28⟩ := fld_ints (by_ := 1) Try.underlying29 Try.underlying5 (by kernel_rfl) (by kernel_rfl) t0_10 w0_10
  obtain ⟨cs1, rfl, hcs1⟩ := rd_agg Try.underlying49 (hval 1 49 v1 rfl rfl)
  obtain ⟨fu1, hf1⟩ := h1
  rw [hcs1] at hf1
  obtain ⟨hl1, hfl1⟩ := rd_struct Try.underlying49 (by kernel_rfl) (by kernel_rfl) hf1 z1
  obtain ⟨c1_0, c1_1, c1_2, c1_3, c1_4, rfl⟩ := list_len5 hl1
  obtain ⟨u1_0, m1_0, y1_0, e1_0, t1_0, w1_0⟩ := hfl1 0 _ rfl
  cases e1_0
  obtain ⟨x29, rfl, wx30⟩ := fld_int Try.underlying3 t1_0
  obtain ⟨u1_1, m1_1, y1_1, e1_1, t1_1, w1_1⟩ := hfl1 1 _ rfl
  cases e1_1
  obtain ⟨A31, n32, c33, xs34, rfl, hr35⟩ := fld_ints (by_ := 1) Try.underlying29 Try.underlying5 (by kernel_rfl) (by kernel_rfl) t1_1 w1_1
  obtain ⟨u1_2, m1_2, y1_2, e1_2, t1_2, w1_2⟩ := hfl1 2 _ rfl
  cases e1_2
  obtain ⟨x36, rfl, wx37⟩ := fld_int Try.underlying3 t1_2
  obtain ⟨u1_3, m1_3, y1_3, e1_3, t1_3, w1_3⟩ := hfl1 3 _ rfl
  cases e1_3
  obtain ⟨x38, rfl, wx39⟩ := fld_int Try.underlying3 t1_3
  obtain ⟨u1_4, m1_4, y1_4, e1_4, t1_4, w1_4⟩ := hfl1 4 _ rfl
  cases e1_4
  obtain ⟨x40, rfl, wx41⟩ := fld_int Try.underlying28 t1_4
  refine (l_ParamMemory W x1 wx2 x3 wx4 x5 wx6 x7 wx8 x9 wx10 x11 wx12 x13 wx14 x15 wx16 x17 wx18 A19 n20 c21 xs22 hr23 A24 n25 c26 xs27 hr28 x29 wx30 A31 n32 c33 xs34 hr35 x36 wx37 x38 wx39 x40 wx41).mono fun e W' ⟨he, hb⟩ => ?_
  subst he
  exact ⟨_, rfl, law_post laid (fun t ht => by
    have := List.all_eq_true.1 book t ht
    rw [Bool.and_eq_true, decide_eq_true_eq] at this
    exact this) hW' rfl (by kernel_rfl) (tb := 4) Try.underlying4 rfl hb⟩

theorem over : Rows.paramMemoryRow.holds Try.pinned (OpenSpec.ofChange Rows.paramMemorySpec) :=
  OpenClaim.holds_of_wide 11 Try.f11 rfl rfl rfl rfl rfl rfl rfl ⟨rfl, rfl, rfl, rfl, rfl⟩ rfl rfl rfl rfl rfl (by kernel_rfl) Try.func11 (by kernel_rfl)
    (of_decide_eq_true (by kernel_rfl)) (by unfold Func.isWrapper; first | (rw [if_pos (by decide +kernel)]; kernel_rfl) | (rw [if_neg (by decide +kernel)]; exact ⟨rfl, rfl⟩))
    (fun os started H enc _ => lifted os started H enc)
/-- The statement. -/
theorem proved : Rows.ParamMemorySaid :=
  over
#print axioms proved
end Go.Proofs.Ytbpbokcglicggaa.paramMemory
