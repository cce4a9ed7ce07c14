/- The statement ParamPutsSaid, proved: for every input the law returns true and leaves its arguments as they were. Conditions: none beyond the given row. (Written by wip/gen/lift.py.) -/
import Derived.Test.YtbpbokcglicggaaLput
import Derived.Test.YtbpbokcglicggaaLaw
import Derived.ProofKit
import Derived.OpenShut
import Derived.JoinedOf
import Derived.Handed
namespace Go.Proofs.Ytbpbokcglicggaa.paramPuts
open Go.ChangeShapes Go.WideShapes Go.ChangeAt Go.RowKit
set_option linter.unusedVariables false
theorem own : ownKnob Try.prog.godebug = none := by kernel_rfl
theorem laid : laidOutB Try.prog = true := by kernel_rfl
theorem book : (Try.f9.params.toList.all fun t => Try.prog.readableRec t && decide (t < Try.prog.types.size)) = true := by kernel_rfl
set_option maxRecDepth 100000 in
theorem lifted (os : Os) (started : os.Started) (H : Type) (enc : TypeId × Value → H) :
    ReturnsInHanded {} Try.checked os 9 .any (Rows.paramPutsSpec.pre6 enc Try.prog Try.f9 Rows.paramPutsRow.domain false) (Rows.paramPutsSpec.post enc Try.prog Try.f9 false true false false) := by
  refine returnsInHanded_of_change_sized (C := Try.checked) own started (by kernel_rfl) Try.func9
    (ChangeSpec.witness6 (enc := enc) (C := Try.checked) false ⟨#[], #[.agg #[.int .i64 0, .slice none 0 0, .int .i64 0, .int .i64 0, .int .u64 0]], []⟩ 8 (by kernel_rfl) (by kernel_rfl) (by kernel_rfl) (by kernel_rfl)) ?_
  intro W base args ds gs before hval0 hW hcnd hsz0 _
  have hval : ∀ (j : Nat) t v, Try.f9.params[j]? = some t → args[j]? = some v → Value.okWide Try.prog W .any base t v := hval0
  have hsz : (DataW.weightsEach Try.prog (Try.f9.params.toList ++ Rows.paramPutsSpec.plain.varTypes Try.prog) (ds ++ gs)).all (· ≤ reachBytes) = true := hsz0
  have hW' := hW
  obtain ⟨p, q, hA0, hV, rfl, hfz, hnd⟩ := hW
  have hA : DataW.TrodAll enc Try.prog W 0 (fun _ => true) true Try.f9.params.toList args.toList ds p := hA0
  rw [Try.params9] at hA hval hsz
  clear hA0 hval0 hsz0
  obtain ⟨v0, vs0, d0, ds0, p0, q0, hargs, rfl, rfl, h0, r0⟩ := trodAll_cons hA
  obtain ⟨rfl, rfl, rfl⟩ := trodAll_nil r0
  obtain rfl : args = #[v0] := by cases args; simp_all
  obtain ⟨rfl, rfl⟩ := trodVars_none hV
  have z0 := rd_each hsz (j := 0) (t := 49) (d := d0) rfl rfl
  clear hsz
  obtain ⟨cs0, rfl, hcs0⟩ := rd_agg Try.underlying49 (hval 0 49 v0 rfl rfl)
  obtain ⟨fu0, hf0⟩ := h0
  rw [hcs0] at hf0
  obtain ⟨hl0, hfl0⟩ := rd_struct Try.underlying49 (by kernel_rfl) (by kernel_rfl) hf0 z0
  obtain ⟨c0_0, c0_1, c0_2, c0_3, c0_4, rfl⟩ := list_len5 hl0
  obtain ⟨u0_0, m0_0, y0_0, e0_0, t0_0, w0_0⟩ := hfl0 0 _ rfl
  cases e0_0
  obtain ⟨x1, rfl, wx2⟩ := fld_int Try.underlying3 t0_0
  obtain ⟨u0_1, m0_1, y0_1, e0_1, t0_1, w0_1⟩ := hfl0 1 _ rfl
  cases e0_1
  obtain ⟨A3, n4, c5, xs6, rfl, hr7⟩ := fld_ints (by_ := 1) Try.underlying29 Try.underlying5 (by kernel_rfl) (by kernel_rfl) t0_1 w0_1
  obtain ⟨u0_2, m0_2, y0_2, e0_2, t0_2, w0_2⟩ := hfl0 2 _ rfl
  cases e0_2
  obtain ⟨x8, rfl, wx9⟩ := fld_int Try.underlying3 t0_2
  obtain ⟨u0_3, m0_3, y0_3, e0_3, t0_3, w0_3⟩ := hfl0 3 _ rfl
  cases e0_3
  obtain ⟨x10, rfl, wx11⟩ := fld_int Try.underlying3 t0_3
  obtain ⟨u0_4, m0_4, y0_4, e0_4, t0_4, w0_4⟩ := hfl0 4 _ rfl
  cases e0_4
  obtain ⟨x12, rfl, wx13⟩ := fld_int Try.underlying28 t0_4
  refine (l_ParamPuts W x1 wx2 A3 n4 c5 xs6 hr7 x8 wx9 x10 wx11 x12 wx13).mono fun e W' ⟨he, hb⟩ => ?_
  subst he
  exact ⟨_, rfl, law_post laid (fun t ht => by
    have := List.all_eq_true.1 book t ht
    rw [Bool.and_eq_true, decide_eq_true_eq] at this
    exact this) hW' rfl (by kernel_rfl) (tb := 4) Try.underlying4 rfl hb⟩

theorem over : Rows.paramPutsRow.holds Try.pinned (OpenSpec.ofChange Rows.paramPutsSpec) :=
  OpenClaim.holds_of_wide 9 Try.f9 rfl rfl rfl rfl rfl rfl rfl ⟨rfl, rfl, rfl, rfl, rfl⟩ rfl rfl rfl rfl rfl (by kernel_rfl) Try.func9 (by kernel_rfl)
    (of_decide_eq_true (by kernel_rfl)) (by unfold Func.isWrapper; first | (rw [if_pos (by decide +kernel)]; kernel_rfl) | (rw [if_neg (by decide +kernel)]; exact ⟨rfl, rfl⟩))
    (fun os started H enc _ => lifted os started H enc)
/-- The statement. -/
theorem proved : Rows.ParamPutsSaid :=
  over
#print axioms proved
end Go.Proofs.Ytbpbokcglicggaa.paramPuts
