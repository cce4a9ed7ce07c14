/- The statement FloatLineSaid, proved: for every input the law returns true and leaves its arguments as they were. Conditions: none beyond the given row. (Written by wip/gen/lift.py.) -/
import Derived.Test.YtcohidjaehdbnaaGreatDoorVf
import Derived.Test.YtcohidjaehdbnaaGreatDoorLaw
import Derived.Test.YtcohidjaehdbnaaGreatDoorCards
import Derived.Test.YtcohidjaehdbnaaGreatDoorTie
import Derived.ProofKit
import Derived.Lay
import Derived.OpenShut
import Derived.Stop.Joined
import Derived.Lib.LaidTab
import Derived.LaidSub
import Derived.SevenTiedAt
import Derived.JoinedOf
import Derived.Handed
import Derived.LaidHandle
import Derived.Stop.LaidErr
namespace Go.Proofs.YtcohidjaehdbnaaGreatDoor.floatLine
open Go.ChangeShapes Go.WideShapes Go.ChangeAt Go.RowKit
set_option linter.unusedVariables false
theorem own : ownKnob Tryz.prog.godebug = none := by kernel_rfl
theorem laid : laidOutB Tryz.prog = true := by kernel_rfl
theorem book : (Tryz.f3.params.toList.all fun t => Tryz.prog.readableRec t && decide (t < Tryz.prog.types.size)) = true := by kernel_rfl
theorem tab9 {W : World} (h : laidMetH Tryz.prog Rows.floatLineRow.laid W) : Lib.TabIs Tryz.prog W "internal/strconv.uint64pow10" .u64 Lib.pow10Tab := by
  have h2 := h.filter (fun x => x.1 == "internal/strconv.uint64pow10")
  rw [show (Rows.floatLineRow.laid.filter fun x => x.1 == "internal/strconv.uint64pow10") = [("internal/strconv.uint64pow10", Lib.tabData .u64 Lib.pow10Tab)] by kernel_rfl] at h2
  rw [MakeChecks.laidMetH_plain _ _ _ (by kernel_rfl)] at h2
  exact Lib.tabIs_of_head (g := 9) (t := 153) (e := 22) (by kernel_rfl) (by kernel_rfl) Tryz.underlying153 Tryz.underlying22 (by kernel_rfl) (by kernel_rfl) h2
theorem tabR {W : World} (h : laidMetH Tryz.prog Rows.floatLineRow.laid W) : W.cell? ⟨10, 730, none⟩ = some (.int .u64 12800000000000000000) ∧ W.cell? ⟨10, 731, none⟩ = some (.int .u64 0) := by
  have hs := h.filter (fun x => x.1 == "internal/strconv.pow10Tab")
  rw [show (Rows.floatLineRow.laid.filter fun x => x.1 == "internal/strconv.pow10Tab") = [("internal/strconv.pow10Tab", Go.Pinned.pow10Tab)] by kernel_rfl] at hs
  rw [MakeChecks.laidMetH_plain _ _ _ (by kernel_rfl)] at hs
  exact rows_of_head (g := 10) (t := 168) (e := 167) (i := 365) (by kernel_rfl) (by kernel_rfl) Tryz.underlying168 Tryz.underlying167 (by kernel_rfl) rfl rfl (by kernel_rfl) (by kernel_rfl) (by kernel_rfl) (by kernel_rfl) hs (by kernel_rfl)
theorem tab_of {W : World} (h : laidMetH Tryz.prog Rows.floatLineRow.laid W) : Tab W :=
  ⟨(tabR h).1, (tabR h).2, World.block_lt_of_cell? _ _ (tabR h).1, tab9 h⟩
noncomputable def hw (os : Os) : World := (World.holding Tryz.prog os ⟨#[], #[], []⟩).layVars Tryz.prog Rows.floatLineRow.laid
theorem hw_os (os : Os) : (hw os).os = os := World.layVars_os _ _ _
theorem hw_met (os : Os) (args : Array Value) : laidMetH Tryz.prog Rows.floatLineRow.laid ((hw os).forCall (fun _ _ => 0) ⟨#[], args, []⟩).memory := by
  rw [MakeChecks.laidMetH_plain _ _ _ (by kernel_rfl)]
  have e1 : (Rows.floatLineRow.laid.filter fun x => (Rows.floatLineRow.laid.map (·.1)).contains x.1) = Rows.floatLineRow.laid := List.filter_eq_self.2 fun x hx => List.contains_iff_mem.2 (List.mem_map.2 ⟨x, hx, rfl⟩)
  have e2 : (Rows.floatLineRow.laid.filter fun x => !(Rows.floatLineRow.laid.map (·.1)).contains x.1) = [] := List.filter_eq_nil_iff.2 fun x hx => by rw [List.contains_iff_mem.2 (List.mem_map.2 ⟨x, hx, rfl⟩)]; simp
  have h : laidMet Tryz.prog Rows.floatLineRow.laid (hw os) := laidMet_layVars (w0 := World.holding Tryz.prog os ⟨#[], #[], []⟩) (Rows.floatLineRow.laid.map (·.1)) [] (by rw [e1]; rfl) (by rw [e1]; kernel_rfl) (by rw [e1]; kernel_rfl) (by rw [e2]; exact LaidIn.none)
  exact h.of_heap (by simp [World.memory, World.forCall, Input.heap])
set_option maxRecDepth 100000 in
theorem lifted (os : Os) (started : os.Started) (H : Type) (enc : TypeId × Value → H) :
    ReturnsInHanded {} Tryz.checked os 3 .any (fun w args => (Rows.floatLineSpec.pre enc Tryz.prog Tryz.f3 [] false w args ∧ laidMetH Tryz.prog Rows.floatLineRow.laid w) ∧ sizedMet enc Tryz.prog Tryz.f3 (OpenSpec.ofChange Rows.floatLineSpec) false w args)
      (Rows.floatLineSpec.post enc Tryz.prog Tryz.f3 false true false false) := by
  refine returnsInHanded_of_change_and (C := Tryz.checked) (X := fun w _ => laidMetH Tryz.prog Rows.floatLineRow.laid w) (fun _ _ _ hh h => h.of_heap hh) own started (by kernel_rfl) Tryz.func3
    (ChangeSpec.witness_shaped (enc := enc) (C := Tryz.checked) (os := os) (X := fun w _ => laidMetH Tryz.prog Rows.floatLineRow.laid w) false (hw os) #[.int .u64 0, .int .u64 0, .int .u64 0] 8 (hw_os os)
      (World.shaped_of_ZipB (by kernel_rfl) (by kernel_rfl)) (by kernel_rfl) (by kernel_rfl) (by kernel_rfl)
      (hw_met os _)) ?_
  intro W base args ds gs before hval0 hW hcnd hsz0 hL _
  have hval : ∀ (j : Nat) t v, Tryz.f3.params[j]? = some t → args[j]? = some v → Value.okWide Tryz.prog W .any base t v := hval0
  have hsz : (DataW.weightsEach Tryz.prog (Tryz.f3.params.toList ++ Rows.floatLineSpec.plain.varTypes Tryz.prog) (ds ++ gs)).all (· ≤ reachBytes) = true := hsz0
  have hW' := hW
  obtain ⟨p, q, hA0, hV, rfl, hfz, hnd⟩ := hW
  have hA : DataW.TrodAll enc Tryz.prog W 0 (fun _ => true) true Tryz.f3.params.toList args.toList ds p := hA0
  rw [Tryz.params3] at hA hval hsz
  clear hA0 hval0 hsz0
  obtain ⟨v0, vs0, d0, ds0, p0, q0, hargs, rfl, rfl, h0, r0⟩ := trodAll_cons hA
  obtain ⟨v1, vs1, d1, ds1, p1, q1, rfl, rfl, rfl, h1, r1⟩ := trodAll_cons r0
  obtain ⟨v2, vs2, d2, ds2, p2, q2, rfl, rfl, rfl, h2, r2⟩ := trodAll_cons r1
  obtain ⟨rfl, rfl, rfl⟩ := trodAll_nil r2
  obtain rfl : args = #[v0, v1, v2] := by cases args; simp_all
  obtain ⟨rfl, rfl⟩ := trodVars_none hV
  have z0 := rd_each hsz (j := 0) (t := 22) (d := d0) rfl rfl
  have z1 := rd_each hsz (j := 1) (t := 22) (d := d1) rfl rfl
  have z2 := rd_each hsz (j := 2) (t := 22) (d := d2) rfl rfl
  clear hsz
  obtain ⟨c0, hc0, rfl⟩ := rd_one (.inl ⟨_, Tryz.underlying22⟩) (hval 0 22 v0 rfl rfl)
  obtain ⟨fu0, hf0⟩ := h0
  rw [hc0] at hf0
  obtain ⟨x1, rfl, wx2⟩ := fld_int Tryz.underlying22 hf0
  obtain ⟨c1, hc1, rfl⟩ := rd_one (.inl ⟨_, Tryz.underlying22⟩) (hval 1 22 v1 rfl rfl)
  obtain ⟨fu1, hf1⟩ := h1
  rw [hc1] at hf1
  obtain ⟨x3, rfl, wx4⟩ := fld_int Tryz.underlying22 hf1
  obtain ⟨c2, hc2, rfl⟩ := rd_one (.inl ⟨_, Tryz.underlying22⟩) (hval 2 22 v2 rfl rfl)
  obtain ⟨fu2, hf2⟩ := h2
  rw [hc2] at hf2
  obtain ⟨x5, rfl, wx6⟩ := fld_int Tryz.underlying22 hf2
  refine (l_FloatLineT W (tab_of hL) x1 wx2 x3 wx4 x5 wx6).mono fun e W' ⟨he, hb⟩ => ?_
  subst he
  exact ⟨_, rfl, law_post laid (fun t ht => by
    have := List.all_eq_true.1 book t ht
    rw [Bool.and_eq_true, decide_eq_true_eq] at this
    exact this) hW' rfl (by kernel_rfl) (tb := 4) Tryz.underlying4 rfl hb⟩

theorem over : Rows.FloatLineSaid :=
  OpenClaim.holds_of_wide 3 Tryz.f3 rfl rfl rfl rfl rfl rfl rfl ⟨rfl, rfl, rfl, rfl, rfl⟩ rfl rfl rfl rfl rfl (by kernel_rfl) Tryz.func3 (by kernel_rfl)
    (of_decide_eq_true (by kernel_rfl)) (by unfold Func.isWrapper; first | (rw [if_pos (by decide +kernel)]; kernel_rfl) | (rw [if_neg (by decide +kernel)]; exact ⟨rfl, rfl⟩))
    (fun os started H enc _ => lifted os started H enc)

/-- THE STATEMENT: the tied card. -/
theorem proved : Rows.FloatLineCardSaid :=
  Claim7.holds_tied_plain_at .later [] [.data, .data, .data, .data, .data, .sentinel, .sentinel, .pinned, .pinned, .pinned] true (true, Rows.floatLineCard.stood.harness.2) true
    over (fun _ h => by cases h) (by kernel_rfl) (fun _ h => by cases h) floatLine_row_tie rfl ⟨rfl, rfl⟩ (by kernel_rfl) rfl
    (fun f fn hf hfn => by
      obtain rfl : f = 3 := Option.some.inj ((show Tryz.prog.funcNamed "quern/quernlaw22.FloatLine" = some 3 by kernel_rfl).symm.trans hf) |>.symm
      obtain rfl : fn = Tryz.f3 := (Option.some.inj (Tryz.func3.symm.trans hfn)).symm
      exact ⟨by kernel_rfl, fun j t ht => by
        rw [Tryz.params3] at ht
        have hm : t ∈ [22, 22, 22] := by simpa using Array.mem_of_getElem? ht
        have hall : ([22, 22, 22].all fun u => !Tryz.prog.wantsStandIn u) = true := by kernel_rfl
        exact (show Tryz.prog.wantsStandIn t = false by simpa using List.all_eq_true.1 hall t hm)⟩)
    (by kernel_rfl)
#print axioms proved
end Go.Proofs.YtcohidjaehdbnaaGreatDoor.floatLine
