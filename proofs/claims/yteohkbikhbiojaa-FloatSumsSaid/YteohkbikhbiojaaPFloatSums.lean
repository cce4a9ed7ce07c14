/- The statement FloatSumsSaid, proved: for every input the law returns true and leaves its arguments as they were. Conditions: none beyond the given row. (Written by wip/gen/lift.py.) -/
import Derived.Test.YteohkbikhbiojaaLfs
import Derived.Test.YteohkbikhbiojaaLaw
import Derived.ProofKit
import Derived.OpenShut
import Derived.JoinedOf
import Derived.Handed
namespace Go.Proofs.Yteohkbikhbiojaa.floatSums
open Go.ChangeShapes Go.WideShapes Go.ChangeAt Go.RowKit
set_option linter.unusedVariables false
theorem own : ownKnob Try.prog.godebug = none := by kernel_rfl
theorem laid : laidOutB Try.prog = true := by kernel_rfl
theorem book : (Try.f3.params.toList.all fun t => Try.prog.readableRec t && decide (t < Try.prog.types.size)) = true := by kernel_rfl
set_option maxRecDepth 100000 in
theorem lifted (os : Os) (started : os.Started) (H : Type) (enc : TypeId × Value → H) :
    ReturnsInHanded {} Try.checked os 3 .any (Rows.floatSumsSpec.pre6 enc Try.prog Try.f3 Rows.floatSumsRow.domain false) (Rows.floatSumsSpec.post enc Try.prog Try.f3 false true false false) := by
  refine returnsInHanded_of_change_sized (C := Try.checked) own started (by kernel_rfl) Try.func3
    (ChangeSpec.witness6 (enc := enc) (C := Try.checked) false ⟨#[], #[.slice none 0 0], []⟩ 8 (by kernel_rfl) (by kernel_rfl) (by kernel_rfl) (by kernel_rfl)) ?_
  intro W base args ds gs before hval0 hW hcnd hsz0 _
  have hval : ∀ (j : Nat) t v, Try.f3.params[j]? = some t → args[j]? = some v → Value.okWide Try.prog W .any base t v := hval0
  have hsz : (DataW.weightsEach Try.prog (Try.f3.params.toList ++ Rows.floatSumsSpec.plain.varTypes Try.prog) (ds ++ gs)).all (· ≤ reachBytes) = true := hsz0
  have hW' := hW
  obtain ⟨p, q, hA0, hV, rfl, hfz, hnd⟩ := hW
  have hA : DataW.TrodAll enc Try.prog W 0 (fun _ => true) true Try.f3.params.toList args.toList ds p := hA0
  rw [Try.params3] at hA hval hsz
  clear hA0 hval0 hsz0
  obtain ⟨v0, vs0, d0, ds0, p0, q0, hargs, rfl, rfl, h0, r0⟩ := trodAll_cons hA
  obtain ⟨rfl, rfl, rfl⟩ := trodAll_nil r0
  obtain rfl : args = #[v0] := by cases args; simp_all
  obtain ⟨rfl, rfl⟩ := trodVars_none hV
  have z0 := rd_each hsz (j := 0) (t := 22) (d := d0) rfl rfl
  clear hsz
  obtain ⟨c0, hc0, rfl⟩ := rd_one (.inr (.inr (.inr ⟨_, Try.underlying22⟩))) (hval 0 22 v0 rfl rfl)
  obtain ⟨fu0, hf0⟩ := h0
  rw [hc0] at hf0
  obtain ⟨A1, n2, c3, xs4, rfl, hr5⟩ := fld_floats Try.underlying22 Try.underlying25 (by kernel_rfl) (by kernel_rfl) hf0 z0
  refine (l_FloatSums W A1 n2 c3 xs4 hr5).mono fun e W' ⟨he, hb⟩ => ?_
  subst he
  exact ⟨_, rfl, law_post laid (fun t ht => by
    have := List.all_eq_true.1 book t ht
    rw [Bool.and_eq_true, decide_eq_true_eq] at this
    exact this) hW' rfl (by kernel_rfl) (tb := 4) Try.underlying4 rfl hb⟩

theorem over : Rows.floatSumsRow.holds Try.pinned (OpenSpec.ofChange Rows.floatSumsSpec) :=
  OpenClaim.holds_of_wide 3 Try.f3 rfl rfl rfl rfl rfl rfl rfl ⟨rfl, rfl, rfl, rfl, rfl⟩ rfl rfl rfl rfl rfl (by kernel_rfl) Try.func3 (by kernel_rfl)
    (of_decide_eq_true (by kernel_rfl)) (by unfold Func.isWrapper; first | (rw [if_pos (by decide +kernel)]; kernel_rfl) | (rw [if_neg (by decide +kernel)]; exact ⟨rfl, rfl⟩))
    (fun os started H enc _ => lifted os started H enc)
/-- The statement. -/
theorem proved : Rows.FloatSumsSaid :=
  over
#print axioms proved
end Go.Proofs.Yteohkbikhbiojaa.floatSums
