/- The statement FloatPartsUptoSaid, proved: where the arguments are of the bound given in the row, the law returns true and leaves them as they were. Conditions: none beyond the given row. (Written by wip/gen/liftu.py.) -/
import Derived.Test.YtpgdiiplnnaegaaFu
import Derived.Test.YtpgdiiplnnaegaaLaw
import Derived.Test.YtpgdiiplnnaegaaRows
import Derived.ProofKit
import Derived.OpenShut
import Derived.JoinedOf
import Derived.JoinedCond
import Derived.Deep.CondSized
import Derived.Handed
namespace Go.Proofs.Ytpgdiiplnnaegaa.floatPartsUpto
open Go.ChangeShapes Go.WideShapes Go.ChangeAt Go.RowKit
set_option linter.unusedVariables false
theorem one_le {H : Type} (d : DataW H) : 1 ≤ Rows.uptoBulk d := by
  cases d with
  | lit l => cases l <;> simp [Rows.uptoBulk]
  | _ => simp [Rows.uptoBulk]
theorem length_le {H : Type} (l : List (DataW H)) : l.length ≤ Rows.uptoBulkAll l := by
  induction l with
  | nil => simp [Rows.uptoBulkAll]
  | cons x r ih => have := one_le x; simp only [Rows.uptoBulkAll, List.length_cons]; omega
/-- A slice's length by what it reads as. -/
theorem bulk_slice {H : Type} {enc : TypeId × Value → H} {P : Program} {W : World} {t e : TypeId} (ht : P.underlying t = some (.slice e)) {fuel : Nat} {A : Option Addr} {n c : Nat} {x : DataW H × List MemPlace}
    (h : DataW.trod enc P W 0 (fun _ => true) true fuel t [.slice A n c] = some x) : n ≤ Rows.uptoBulk x.1 := by
  rcases DataW.trod_slice ht h with ⟨h1, _⟩ | ⟨a, len, cap, elems, rest, m, _, h1, rfl, hb, hl, hm, hlen, _⟩
  · injection h1 with h1
    injection h1 with _ h3 _
    omega
  · injection h1 with h1
    injection h1 with _ h3 _
    have := length_le (elems.map (·.1))
    simp only [List.length_map] at this
    simp only [Rows.uptoBulk]
    omega
theorem own : ownKnob Try.prog.godebug = none := by kernel_rfl
theorem laid : laidOutB Try.prog = true := by kernel_rfl
theorem book : (Try.f6.params.toList.all fun t => Try.prog.readableRec t && decide (t < Try.prog.types.size)) = true := by kernel_rfl
set_option maxRecDepth 100000 in
theorem lifted (os : Os) (started : os.Started) (H : Type) (enc : TypeId × Value → H) (F : Stop.Interp) :
    ReturnsInHanded {} Try.checked os 6 .any ((Rows.OpenSpec.upto Rows.floatPartsSpec).pre6 enc Try.prog Try.f6 Rows.floatPartsUptoRow.domain false) (((Rows.OpenSpec.upto Rows.floatPartsSpec).at F).post enc Try.prog Try.f6 false true false false) := by
  refine returnsInHanded_of_cond_sized (C := Try.checked) (s := Rows.OpenSpec.upto Rows.floatPartsSpec) (k := Rows.uptoSmall) rfl own started (by kernel_rfl) Try.func6
    (OpenSpec.witness (enc := enc) (C := Try.checked) (s := Rows.OpenSpec.upto Rows.floatPartsSpec) (k := Rows.uptoSmall) rfl false ⟨#[], #[.slice none 0 0, .int .i64 0, .int .i64 0], []⟩ 8 (by kernel_rfl) (by kernel_rfl) (by kernel_rfl)
      (x := ([.nil, .lit (.int .i64 0), .lit (.int .i64 0)], [], [])) (by kernel_rfl) rfl (by kernel_rfl)) ?_
  intro W base args ds gs before hval0 hW hcnd hk0 hsz0 _
  have hval : ∀ (j : Nat) t v, Try.f6.params[j]? = some t → args[j]? = some v → Value.okWide Try.prog W .any base t v := hval0
  have hsz : (DataW.weightsEach Try.prog (Try.f6.params.toList ++ Rows.floatPartsSpec.plain.varTypes Try.prog) (ds ++ gs)).all (· ≤ reachBytes) = true := hsz0
  have hW' : DataW.Whole enc Try.prog Try.f6.params.toList ((Rows.OpenSpec.upto Rows.floatPartsSpec).at F).vars false W args.toList ds gs before := hW
  obtain ⟨p, q, hA0, hV, rfl, hfz, hnd⟩ := hW
  have hA : DataW.TrodAll enc Try.prog W 0 (fun _ => true) true Try.f6.params.toList args.toList ds p := hA0
  rw [Try.params6] at hA hval hsz
  clear hA0 hval0 hsz0
  obtain ⟨v0, vs0, d0, ds0, p0, q0, hargs, rfl, rfl, h0, r0⟩ := trodAll_cons hA
  obtain ⟨v1, vs1, d1, ds1, p1, q1, rfl, rfl, rfl, h1, r1⟩ := trodAll_cons r0
  obtain ⟨v2, vs2, d2, ds2, p2, q2, rfl, rfl, rfl, h2, r2⟩ := trodAll_cons r1
  obtain ⟨rfl, rfl, rfl⟩ := trodAll_nil r2
  obtain rfl : args = #[v0, v1, v2] := by cases args; simp_all
  obtain ⟨rfl, rfl⟩ := trodVars_none hV
  have z0 := rd_each hsz (j := 0) (t := 31) (d := d0) rfl rfl
  have z1 := rd_each hsz (j := 1) (t := 3) (d := d1) rfl rfl
  have z2 := rd_each hsz (j := 2) (t := 3) (d := d2) rfl rfl
  clear hsz
  obtain ⟨c0, hc0, rfl⟩ := rd_one (.inr (.inr (.inr ⟨_, Try.underlying31⟩))) (hval 0 31 v0 rfl rfl)
  obtain ⟨fu0, hf0⟩ := h0
  rw [hc0] at hf0
  obtain ⟨A1, n2, c3, xs4, rfl, hr5⟩ := fld_floats Try.underlying31 Try.underlying23 (by kernel_rfl) (by kernel_rfl) hf0 z0
  obtain ⟨c1, hc1, rfl⟩ := rd_one (.inl ⟨_, Try.underlying3⟩) (hval 1 3 v1 rfl rfl)
  obtain ⟨fu1, hf1⟩ := h1
  rw [hc1] at hf1
  obtain ⟨x6, rfl, wx7⟩ := fld_int Try.underlying3 hf1
  obtain ⟨c2, hc2, rfl⟩ := rd_one (.inl ⟨_, Try.underlying3⟩) (hval 2 3 v2 rfl rfl)
  obtain ⟨fu2, hf2⟩ := h2
  rw [hc2] at hf2
  obtain ⟨x8, rfl, wx9⟩ := fld_int Try.underlying3 hf2
  have hk : Rows.uptoBulkAll [d0, d1, d2] ≤ 1048576 := of_decide_eq_true hk0
  simp only [Rows.uptoBulkAll] at hk
  have hbs0 := bulk_slice Try.underlying31 hf0
  dsimp only at hbs0
  refine (l_FloatParts W A1 n2 c3 xs4 hr5 x6 wx7 x8 wx9 (by omega)).mono fun e W' ⟨he, hb⟩ => ?_
  subst he
  exact ⟨_, rfl, law_post (s := (Rows.OpenSpec.upto Rows.floatPartsSpec).at F) laid (fun t ht => by
    have := List.all_eq_true.1 book t ht
    rw [Bool.and_eq_true, decide_eq_true_eq] at this
    exact this) hW' rfl (by kernel_rfl) (tb := 4) Try.underlying4 rfl hb⟩
/-- The statement. -/
theorem proved : Rows.FloatPartsUptoSaid :=
  OpenClaim.holds_of_cond 6 Try.f6 rfl rfl rfl rfl rfl rfl rfl ⟨rfl, rfl, rfl, rfl, rfl⟩ rfl rfl rfl rfl rfl (by kernel_rfl) Try.func6 (by kernel_rfl)
    (of_decide_eq_true (by kernel_rfl)) (by unfold Func.isWrapper; first | (rw [if_pos (by decide +kernel)]; kernel_rfl) | (rw [if_neg (by decide +kernel)]; exact ⟨rfl, rfl⟩))
    (fun os started H enc _ F => lifted os started H enc F)
#print axioms proved
end Go.Proofs.Ytpgdiiplnnaegaa.floatPartsUpto
