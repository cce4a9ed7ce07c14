/- The statement ParamBackSaid, proved: for every input the law returns true and leaves its arguments as they were. Conditions: none beyond the given row. (Written by wip/gen/lift.py.) -/
import Derived.Test.YtofcdffcaiajmaaDoorM1
import Derived.Test.YtofcdffcaiajmaaDoorLaw
import Derived.Test.YtofcdffcaiajmaaDoorCards
import Derived.Test.YtofcdffcaiajmaaDoorTie
import Derived.ProofKit
import Derived.Lay
import Derived.OpenShut
import Derived.Stop.Joined
import Derived.Lib.LaidTab
import Derived.LaidSub
import Derived.SevenTiedAt
import Derived.JoinedOf
import Derived.Handed
namespace Go.Proofs.YtofcdffcaiajmaaDoor.paramBack
open Go.ChangeShapes Go.WideShapes Go.ChangeAt Go.RowKit
set_option linter.unusedVariables false
theorem own : ownKnob Tryd.prog.godebug = none := by kernel_rfl
theorem laid : laidOutB Tryd.prog = true := by kernel_rfl
theorem book : (Tryd.f3.params.toList.all fun t => Tryd.prog.readableRec t && decide (t < Tryd.prog.types.size)) = true := by kernel_rfl
theorem tab0 {W : World} (h : laidMetH Tryd.prog Rows.paramBackRow.laid W) : Lib.TabIs Tryd.prog W "internal/strconv.uint64pow10" .u64 Lib.pow10Tab := by
  have h2 := h.filter (fun x => x.1 == "internal/strconv.uint64pow10")
  rw [show (Rows.paramBackRow.laid.filter fun x => x.1 == "internal/strconv.uint64pow10") = [("internal/strconv.uint64pow10", Lib.tabData .u64 Lib.pow10Tab)] by kernel_rfl] at h2
  rw [MakeChecks.laidMetH_plain _ _ _ (by kernel_rfl)] at h2
  exact Lib.tabIs_of_head (g := 0) (t := 88) (e := 23) (by kernel_rfl) (by kernel_rfl) Tryd.underlying88 Tryd.underlying23 (by kernel_rfl) (by kernel_rfl) h2
set_option maxRecDepth 100000 in
theorem lifted (os : Os) (started : os.Started) (H : Type) (enc : TypeId × Value → H) :
    ReturnsInHanded {} Tryd.checked os 3 .any (fun w args => (Rows.paramBackSpec.pre enc Tryd.prog Tryd.f3 [] false w args ∧ laidMetH Tryd.prog Rows.paramBackRow.laid w) ∧ sizedMet enc Tryd.prog Tryd.f3 (OpenSpec.ofChange Rows.paramBackSpec) false w args)
      (Rows.paramBackSpec.post enc Tryd.prog Tryd.f3 false true false false) := by
  refine returnsInHanded_of_change_and (C := Tryd.checked) (X := fun w _ => laidMetH Tryd.prog Rows.paramBackRow.laid w) (fun _ _ _ hh h => h.of_heap hh) own started (by kernel_rfl) Tryd.func3
    (ChangeSpec.witness_shaped (enc := enc) (C := Tryd.checked) (os := os) (X := fun w _ => laidMetH Tryd.prog Rows.paramBackRow.laid w) false (World.laidAll Tryd.prog os Rows.paramBackRow.laid) #[.int .i64 0, .agg #[.int .i64 0, .int .i64 0, .int .i64 0, .int .i64 0, .int .u32 0, .int .u64 0, .int .u32 0, .int .i64 0, .int .i64 0, .slice none 0 0, .slice none 0 0]] 8 (World.laidAll_os _ _ _)
      (World.shaped_of_ZipB (by kernel_rfl) (by kernel_rfl)) (by kernel_rfl) (by kernel_rfl) (by kernel_rfl)
      (by rw [MakeChecks.laidMetH_plain _ _ _ (by kernel_rfl)]; exact laidMet_laidAll _ (by kernel_rfl) (by kernel_rfl))) ?_
  intro W base args ds gs before hval0 hW hcnd hsz0 hL _
  have hval : ∀ (j : Nat) t v, Tryd.f3.params[j]? = some t → args[j]? = some v → Value.okWide Tryd.prog W .any base t v := hval0
  have hsz : (DataW.weightsEach Tryd.prog (Tryd.f3.params.toList ++ Rows.paramBackSpec.plain.varTypes Tryd.prog) (ds ++ gs)).all (· ≤ reachBytes) = true := hsz0
  have hW' := hW
  obtain ⟨p, q, hA0, hV, rfl, hfz, hnd⟩ := hW
  have hA : DataW.TrodAll enc Tryd.prog W 0 (fun _ => true) true Tryd.f3.params.toList args.toList ds p := hA0
  rw [Tryd.params3] at hA hval hsz
  clear hA0 hval0 hsz0
  obtain ⟨v0, vs0, d0, ds0, p0, q0, hargs, rfl, rfl, h0, r0⟩ := trodAll_cons hA
  obtain ⟨v1, vs1, d1, ds1, p1, q1, rfl, rfl, rfl, h1, r1⟩ := trodAll_cons r0
  obtain ⟨rfl, rfl, rfl⟩ := trodAll_nil r1
  obtain rfl : args = #[v0, v1] := by cases args; simp_all
  obtain ⟨rfl, rfl⟩ := trodVars_none hV
  have z0 := rd_each hsz (j := 0) (t := 3) (d := d0) rfl rfl
  have z1 := rd_each hsz (j := 1) (t := 26) (d := d1) rfl rfl
  clear hsz
  obtain ⟨c0, hc0, rfl⟩ := rd_one (.inl ⟨_, Tryd.underlying3⟩) (hval 0 3 v0 rfl rfl)
  obtain ⟨fu0, hf0⟩ := h0
  rw [hc0] at hf0
  obtain ⟨x1, rfl, wx2⟩ := fld_int Tryd.underlying3 hf0
  obtain ⟨cs1, rfl, hcs1⟩ := rd_agg Tryd.underlying26 (hval 1 26 v1 rfl rfl)
  obtain ⟨fu1, hf1⟩ := h1
  rw [hcs1] at hf1
  obtain ⟨hl1, hfl1⟩ := rd_struct Tryd.underlying26 (by kernel_rfl) (by kernel_rfl) hf1 z1
  obtain ⟨c1_0, c1_1, c1_2, c1_3, c1_4, c1_5, c1_6, c1_7, c1_8, c1_9, c1_10, rfl⟩ := list_len11 hl1
  obtain ⟨u1_0, m1_0, y1_0, e1_0, t1_0, w1_0⟩ := hfl1 0 _ rfl
  cases e1_0
  obtain ⟨x3, rfl, wx4⟩ := fld_int Tryd.underlying3 t1_0
  obtain ⟨u1_1, m1_1, y1_1, e1_1, t1_1, w1_1⟩ := hfl1 1 _ rfl
  cases e1_1
  obtain ⟨x5, rfl, wx6⟩ := fld_int Tryd.underlying3 t1_1
  obtain ⟨u1_2, m1_2, y1_2, e1_2, t1_2, w1_2⟩ := hfl1 2 _ rfl
  cases e1_2
  obtain ⟨x7, rfl, wx8⟩ := fld_int Tryd.underlying3 t1_2
  obtain ⟨u1_3, m1_3, y1_3, e1_3, t1_3, w1_3⟩ := hfl1 3 _ rfl
  cases e1_3
  obtain ⟨x9, rfl, wx10⟩ := fld_int Tryd.underlying3 t1_3
  obtain ⟨u1_4, m1_4, y1_4, e1_4, t1_4, w1_4⟩ := hfl1 4 _ rfl
  cases e1_4
  obtain ⟨x11, rfl, wx12⟩ := fld_int Tryd.underlying22 t1_4
  obtain ⟨u1_5, m1_5, y1_5, e1_5, t1_5, w1_5⟩ := hfl1 5 _ rfl
  cases e1_5
  obtain ⟨x13, rfl, wx14⟩ := fld_int Tryd.underlying23 t1_5
  obtain ⟨u1_6, m1_6, y1_6, e1_6, t1_6, w1_6⟩ := hfl1 6 _ rfl
  cases e1_6
  obtain ⟨x15, rfl, wx16⟩ := fld_int Tryd.underlying22 t1_6
  obtain ⟨u1_7, m1_7, y1_7, e1_7, t1_7, w1_7⟩ := hfl1 7 _ rfl
  cases e1_7
  obtain ⟨x17, rfl, wx18⟩ := fld_int Tryd.underlying3 t1_7
  obtain ⟨u1_8, m1_8, y1_8, e1_8, t1_8, w1_8⟩ := hfl1 8 _ rfl
  cases e1_8
  obtain ⟨x19, rfl, wx20⟩ := fld_int Tryd.underlying3 t1_8
  obtain ⟨u1_9, m1_9, y1_9, e1_9, t1_9, w1_9⟩ := hfl1 9 _ rfl
  cases e1_9
  obtain ⟨A21, n22, c23, xs24, rfl, hr25⟩ := fld_ints (by_ := 1) Tryd.underlying24 Tryd.underlying5 (by kernel_rfl) (by kernel_rfl) t1_9 w1_9
  obtain ⟨u1_10, m1_10, y1_10, e1_10, t1_10, w1_10⟩ := hfl1 10 _ rfl
  cases e1_10
  obtain ⟨A26, n27, c28, xs29, rfl, hr30⟩ := fld_ints (by_ := 1) Tryd.underlying24 Tryd.underlying5 (by kernel_rfl) (by kernel_rfl) t1_10 w1_10
  refine (l_ParamBack W (tab0 hL) x1 wx2 x3 wx4 x5 wx6 x7 wx8 x9 wx10 x11 wx12 x13 wx14 x15 wx16 x17 wx18 x19 wx20 A21 n22 c23 xs24 hr25 A26 n27 c28 xs29 hr30).mono fun e W' ⟨he, hb⟩ => ?_
  subst he
  exact ⟨_, rfl, law_post laid (fun t ht => by
    have := List.all_eq_true.1 book t ht
    rw [Bool.and_eq_true, decide_eq_true_eq] at this
    exact this) hW' rfl (by kernel_rfl) (tb := 4) Tryd.underlying4 rfl hb⟩

theorem over : Rows.ParamBackSaid :=
  OpenClaim.holds_of_wide 3 Tryd.f3 rfl rfl rfl rfl rfl rfl rfl ⟨rfl, rfl, rfl, rfl, rfl⟩ rfl rfl rfl rfl rfl (by kernel_rfl) Tryd.func3 (by kernel_rfl)
    (of_decide_eq_true (by kernel_rfl)) (by unfold Func.isWrapper; first | (rw [if_pos (by decide +kernel)]; kernel_rfl) | (rw [if_neg (by decide +kernel)]; exact ⟨rfl, rfl⟩))
    (fun os started H enc _ => lifted os started H enc)

/-- THE STATEMENT: the tied card. -/
theorem proved : Rows.ParamBackCardSaid :=
  Claim7.holds_tied_plain_at .later [] [.data, .data, .data, .data, .sentinel, .sentinel, .pinned] true (true, Rows.paramBackCard.stood.harness.2) true
    over (fun _ h => by cases h) (by kernel_rfl) (fun _ h => by cases h) paramBack_row_tie rfl ⟨rfl, rfl⟩ (by kernel_rfl) rfl
    (fun f fn hf hfn => by
      obtain rfl : f = 3 := Option.some.inj ((show Tryd.prog.funcNamed "quern/quernlaw02.ParamBack" = some 3 by kernel_rfl).symm.trans hf) |>.symm
      obtain rfl : fn = Tryd.f3 := (Option.some.inj (Tryd.func3.symm.trans hfn)).symm
      exact ⟨by kernel_rfl, fun j t ht => by
        rw [Tryd.params3] at ht
        have hm : t ∈ [3, 26] := by simpa using Array.mem_of_getElem? ht
        have hall : ([3, 26].all fun u => !Tryd.prog.wantsStandIn u) = true := by kernel_rfl
        exact (show Tryd.prog.wantsStandIn t = false by simpa using List.all_eq_true.1 hall t hm)⟩)
    (by kernel_rfl)
#print axioms proved
end Go.Proofs.YtofcdffcaiajmaaDoor.paramBack
