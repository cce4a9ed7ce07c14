/- The statement ParamDecodesSaid, proved: for every input the law returns true and leaves its arguments as they were. Conditions: none beyond the given row. (Written by wip/gen/lift.py.) -/
import Derived.Test.YtbpbokcglicggaaLdec
import Derived.Test.YtbpbokcglicggaaLaw
import Derived.ProofKit
import Derived.OpenShut
import Derived.JoinedOf
import Derived.Handed
namespace Go.Proofs.Ytbpbokcglicggaa.paramDecodes
open Go.ChangeShapes Go.WideShapes Go.ChangeAt Go.RowKit
set_option linter.unusedVariables false
theorem own : ownKnob Try.prog.godebug = none := by kernel_rfl
theorem laid : laidOutB Try.prog = true := by kernel_rfl
theorem book : (Try.f6.params.toList.all fun t => Try.prog.readableRec t && decide (t < Try.prog.types.size)) = true := by kernel_rfl
set_option maxRecDepth 100000 in
theorem lifted (os : Os) (started : os.Started) (H : Type) (enc : TypeId × Value → H) :
    ReturnsInHanded {} Try.checked os 6 .any (Rows.paramDecodesSpec.pre6 enc Try.prog Try.f6 Rows.paramDecodesRow.domain false) (Rows.paramDecodesSpec.post enc Try.prog Try.f6 false true false false) := by
  refine returnsInHanded_of_change_sized (C := Try.checked) own started (by kernel_rfl) Try.func6
    (ChangeSpec.witness6 (enc := enc) (C := Try.checked) false ⟨#[], #[.int .i64 0, .slice none 0 0, .bool false], []⟩ 8 (by kernel_rfl) (by kernel_rfl) (by kernel_rfl) (by kernel_rfl)) ?_
  intro W base args ds gs before hval0 hW hcnd hsz0 _
  have hval : ∀ (j : Nat) t v, Try.f6.params[j]? = some t → args[j]? = some v → Value.okWide Try.prog W .any base t v := hval0
  have hsz : (DataW.weightsEach Try.prog (Try.f6.params.toList ++ Rows.paramDecodesSpec.plain.varTypes Try.prog) (ds ++ gs)).all (· ≤ reachBytes) = true := hsz0
  have hW' := hW
  obtain ⟨p, q, hA0, hV, rfl, hfz, hnd⟩ := hW
  have hA : DataW.TrodAll enc Try.prog W 0 (fun _ => true) true Try.f6.params.toList args.toList ds p := hA0
  rw [Try.params6] at hA hval hsz
  clear hA0 hval0 hsz0
  obtain ⟨v0, vs0, d0, ds0, p0, q0, hargs, rfl, rfl, h0, r0⟩ := trodAll_cons hA
  obtain ⟨v1, vs1, d1, ds1, p1, q1, rfl, rfl, rfl, h1, r1⟩ := trodAll_cons r0
  obtain ⟨v2, vs2, d2, ds2, p2, q2, rfl, rfl, rfl, h2, r2⟩ := trodAll_cons r1
  obtain ⟨rfl, rfl, rfl⟩ := trodAll_nil r2
  obtain rfl : args = #[v0, v1, v2] := by cases args; simp_all
  obtain ⟨rfl, rfl⟩ := trodVars_none hV
  have z0 := rd_each hsz (j := 0) (t := 3) (d := d0) rfl rfl
  have z1 := rd_each hsz (j := 1) (t := 29) (d := d1) rfl rfl
  have z2 := rd_each hsz (j := 2) (t := 4) (d := d2) rfl rfl
  clear hsz
  obtain ⟨c0, hc0, rfl⟩ := rd_one (.inl ⟨_, Try.underlying3⟩) (hval 0 3 v0 rfl rfl)
  obtain ⟨fu0, hf0⟩ := h0
  rw [hc0] at hf0
  obtain ⟨x1, rfl, wx2⟩ := fld_int Try.underlying3 hf0
  obtain ⟨c1, hc1, rfl⟩ := rd_one (.inr (.inr (.inr ⟨_, Try.underlying29⟩))) (hval 1 29 v1 rfl rfl)
  obtain ⟨fu1, hf1⟩ := h1
  rw [hc1] at hf1
  obtain ⟨A3, n4, c5, xs6, rfl, hr7⟩ := fld_ints (by_ := 1) Try.underlying29 Try.underlying5 (by kernel_rfl) (by kernel_rfl) hf1 z1
  obtain ⟨c2, hc2, rfl⟩ := rd_one (.inr (.inl Try.underlying4)) (hval 2 4 v2 rfl rfl)
  obtain ⟨fu2, hf2⟩ := h2
  rw [hc2] at hf2
  obtain ⟨x8, rfl⟩ := fld_bool Try.underlying4 hf2
  refine (l_ParamDecodes W x1 wx2 A3 n4 c5 xs6 hr7 x8).mono fun e W' ⟨he, hb⟩ => ?_
  subst he
  exact ⟨_, rfl, law_post laid (fun t ht => by
    have := List.all_eq_true.1 book t ht
    rw [Bool.and_eq_true, decide_eq_true_eq] at this
    exact this) hW' rfl (by kernel_rfl) (tb := 4) Try.underlying4 rfl hb⟩

theorem over : Rows.paramDecodesRow.holds Try.pinned (OpenSpec.ofChange Rows.paramDecodesSpec) :=
  OpenClaim.holds_of_wide 6 Try.f6 rfl rfl rfl rfl rfl rfl rfl ⟨rfl, rfl, rfl, rfl, rfl⟩ rfl rfl rfl rfl rfl (by kernel_rfl) Try.func6 (by kernel_rfl)
    (of_decide_eq_true (by kernel_rfl)) (by unfold Func.isWrapper; first | (rw [if_pos (by decide +kernel)]; kernel_rfl) | (rw [if_neg (by decide +kernel)]; exact ⟨rfl, rfl⟩))
    (fun os started H enc _ => lifted os started H enc)
/-- The statement. -/
theorem proved : Rows.ParamDecodesSaid :=
  over
#print axioms proved
end Go.Proofs.Ytbpbokcglicggaa.paramDecodes
