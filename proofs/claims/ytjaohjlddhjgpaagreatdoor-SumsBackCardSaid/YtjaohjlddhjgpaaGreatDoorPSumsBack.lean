/- The statement SumsBackSaid, proved: for every input the law returns true and leaves its arguments as they were. Conditions: none beyond the given row. (Written by wip/gen/lift.py.) -/
import Derived.Test.YtjaohjlddhjgpaaGreatDoorLbk
import Derived.Test.YtjaohjlddhjgpaaGreatDoorLaw
import Derived.Test.YtjaohjlddhjgpaaGreatDoorCards
import Derived.Test.YtjaohjlddhjgpaaGreatDoorTie
import Derived.ProofKit
import Derived.Lay
import Derived.OpenShut
import Derived.Stop.Joined
import Derived.Lib.LaidTab
import Derived.LaidSub
import Derived.SevenTiedAt
import Derived.JoinedOf
import Derived.Handed
import Derived.LaidHandle
import Derived.Stop.LaidErr
namespace Go.Proofs.YtjaohjlddhjgpaaGreatDoor.sumsBack
open Go.ChangeShapes Go.WideShapes Go.ChangeAt Go.RowKit
set_option linter.unusedVariables false
theorem own : ownKnob Tryz.prog.godebug = none := by kernel_rfl
theorem laid : laidOutB Tryz.prog = true := by kernel_rfl
theorem book : (Tryz.f6.params.toList.all fun t => Tryz.prog.readableRec t && decide (t < Tryz.prog.types.size)) = true := by kernel_rfl
theorem tab1 {W : World} (h : laidMetH Tryz.prog Rows.sumsBackRow.laid W) : Lib.TabIs Tryz.prog W "internal/strconv.uint64pow10" .u64 Lib.pow10Tab := by
  have h2 := h.filter (fun x => x.1 == "internal/strconv.uint64pow10")
  rw [show (Rows.sumsBackRow.laid.filter fun x => x.1 == "internal/strconv.uint64pow10") = [("internal/strconv.uint64pow10", Lib.tabData .u64 Lib.pow10Tab)] by kernel_rfl] at h2
  rw [MakeChecks.laidMetH_plain _ _ _ (by kernel_rfl)] at h2
  exact Lib.tabIs_of_head (g := 1) (t := 181) (e := 157) (by kernel_rfl) (by kernel_rfl) Tryz.underlying181 Tryz.underlying157 (by kernel_rfl) (by kernel_rfl) h2
theorem star : "*" ++ "errors.errorString" = "*errors.errorString" := by decide
theorem rowE (u : TypeId) (h : Tryz.prog.typeName? 3 u = some "*errors.errorString") : u = 229 :=
  typeName_ptr_named (nm := "errors.errorString") (by rw [star]; kernel_rfl) (by kernel_rfl) (by decide) u (by rw [star]; exact h)
theorem ok5 {W : World} (h : laidMetH Tryz.prog Rows.sumsBackRow.laid W) : ErrOK W 5 := by
  have hs := h.filter (fun x => x.1 == "strconv.ErrSyntax")
  rw [show (Rows.sumsBackRow.laid.filter fun x => x.1 == "strconv.ErrSyntax") = [("strconv.ErrSyntax", Rows.laid_strconv_ErrSyntax)] by kernel_rfl] at hs
  rw [MakeChecks.laidMetH_plain _ _ _ (by kernel_rfl)] at hs
  have hgn : Tryz.prog.globalNamed "strconv.ErrSyntax" = some 5 := by kernel_rfl
  obtain ⟨a, s, hv, _⟩ := laid_sentinel hs hgn (by kernel_rfl) Tryz.underlying63 rowE Tryz.underlying229 Tryz.underlying231 rfl rfl Tryz.underlying9 (by kernel_rfl) (by kernel_rfl)
  exact ⟨.iface 229 (.pointer (some a)), by simpa using World.var?_cell hgn hv 0, .inr ⟨_, _, rfl⟩⟩
theorem ok6 {W : World} (h : laidMetH Tryz.prog Rows.sumsBackRow.laid W) : ErrOK W 6 := by
  have hs := h.filter (fun x => x.1 == "strconv.ErrRange")
  rw [show (Rows.sumsBackRow.laid.filter fun x => x.1 == "strconv.ErrRange") = [("strconv.ErrRange", Rows.laid_strconv_ErrRange)] by kernel_rfl] at hs
  rw [MakeChecks.laidMetH_plain _ _ _ (by kernel_rfl)] at hs
  have hgn : Tryz.prog.globalNamed "strconv.ErrRange" = some 6 := by kernel_rfl
  obtain ⟨a, s, hv, _⟩ := laid_sentinel hs hgn (by kernel_rfl) Tryz.underlying63 rowE Tryz.underlying229 Tryz.underlying231 rfl rfl Tryz.underlying9 (by kernel_rfl) (by kernel_rfl)
  exact ⟨.iface 229 (.pointer (some a)), by simpa using World.var?_cell hgn hv 0, .inr ⟨_, _, rfl⟩⟩
theorem typesSize : Tryz.prog.types.size = 274 := by kernel_rfl
theorem rt : (Tryz.prog.cutTypes.find? (·.1 == "internal/reflectlite.rtype")).map (·.2) = some 142 := by kernel_rfl
theorem oneRow : ((List.range 274).filter fun t => Tryz.prog.rowNamed t [101, 114, 114, 111, 114]) = [63] := by kernel_rfl
theorem handle_of_laid {W : World} (h : laidMetH Tryz.prog Rows.sumsBackRow.laid W) : W.cell? ⟨0, 0, none⟩ = some (.iface 142 (.agg #[.pointer (some ⟨7, 63, none⟩)])) := by
  have hs := h.filter (fun x => x.1 == "errors.errorType")
  rw [show (Rows.sumsBackRow.laid.filter fun x => x.1 == "errors.errorType") = [("errors.errorType", Rows.laid_errors_errorType)] by kernel_rfl] at hs
  have h' : laidMet Tryz.prog [] W ∧ handlesMet Tryz.prog [("errors.errorType", Rows.laid_errors_errorType)] W := hs
  obtain ⟨name, u, ty, e1, e2, e3, e4, e5⟩ := h'.2 _ (List.mem_singleton.2 rfl)
  have en : name = [101, 114, 114, 111, 114] := (Option.some.inj e1).symm
  subst en
  obtain rfl := Option.some.inj (rt.symm.trans e2)
  have hm : ty ∈ (List.range 274).filter fun t => Tryz.prog.rowNamed t [101, 114, 114, 111, 114] := List.mem_filter.2 ⟨List.mem_range.2 (by rw [← typesSize]; exact e3), e4⟩
  rw [oneRow] at hm
  obtain rfl := List.mem_singleton.1 hm
  have hh : typeHandle Tryz.prog 63 = .pointer (some ⟨7, 63, none⟩) := by kernel_rfl
  rw [hh] at e5
  have hgn : Tryz.prog.globalNamed "errors.errorType" = some 0 := by kernel_rfl
  simpa using World.var?_cell hgn e5 0
theorem laid_of {W : World} (h : laidMetH Tryz.prog Rows.sumsBackRow.laid W) : Laid W := ⟨⟨ok5 h, ok6 h⟩, handle_of_laid h⟩
/-- The listed variables that are no handles. -/
def restL : List (String × DataW Unit) := Rows.sumsBackRow.laid.filter fun x => x.2.handleName?.isNone
noncomputable def hw0 (os : Os) : World :=
  let w0 := World.holding Tryz.prog os ⟨#[], #[], []⟩
  { w0 with heap := w0.heap.modify 0 fun
      | .cells _ t frozen => .cells #[.iface 142 (.agg #[.pointer (some ⟨7, 63, none⟩)])] t frozen
      | o => o }
noncomputable def hw (os : Os) : World := (hw0 os).layVars Tryz.prog restL
theorem hw_os (os : Os) : (hw os).os = os := World.layVars_os _ _ _
theorem hw_met (os : Os) (args : Array Value) : laidMetH Tryz.prog Rows.sumsBackRow.laid ((hw os).forCall (fun _ _ => 0) ⟨#[], args, []⟩).memory := by
  refine laidMetH_of_parts ?_ (by kernel_rfl)
  have e1 : (restL.filter fun x => (restL.map (·.1)).contains x.1) = restL := List.filter_eq_self.2 fun x hx => List.contains_iff_mem.2 (List.mem_map.2 ⟨x, hx, rfl⟩)
  have e2 : (restL.filter fun x => !(restL.map (·.1)).contains x.1) = [] := List.filter_eq_nil_iff.2 fun x hx => by rw [List.contains_iff_mem.2 (List.mem_map.2 ⟨x, hx, rfl⟩)]; simp
  have h : laidMet Tryz.prog restL (hw os) := laidMet_layVars (w0 := hw0 os) (restL.map (·.1)) [] (by rw [e1]; rfl) (by rw [e1]; kernel_rfl) (by rw [e1]; kernel_rfl) (by rw [e2]; exact LaidIn.none)
  exact h.of_heap (by simp [World.memory, World.forCall, Input.heap])
set_option maxRecDepth 100000 in
theorem lifted (os : Os) (started : os.Started) (H : Type) (enc : TypeId × Value → H) :
    ReturnsInHanded {} Tryz.checked os 6 .any (fun w args => (Rows.sumsBackSpec.pre enc Tryz.prog Tryz.f6 [] false w args ∧ laidMetH Tryz.prog Rows.sumsBackRow.laid w) ∧ sizedMet enc Tryz.prog Tryz.f6 (OpenSpec.ofChange Rows.sumsBackSpec) false w args)
      (Rows.sumsBackSpec.post enc Tryz.prog Tryz.f6 false true false false) := by
  refine returnsInHanded_of_change_and (C := Tryz.checked) (X := fun w _ => laidMetH Tryz.prog Rows.sumsBackRow.laid w) (fun _ _ _ hh h => h.of_heap hh) own started (by kernel_rfl) Tryz.func6
    (ChangeSpec.witness_shaped (enc := enc) (C := Tryz.checked) (os := os) (X := fun w _ => laidMetH Tryz.prog Rows.sumsBackRow.laid w) false (hw os) #[.agg #[.int .i64 0, .string ⟨#[]⟩, .slice none 0 0, .bool false]] 8 (hw_os os)
      (World.shaped_of_ZipB (by kernel_rfl) (by kernel_rfl)) (by kernel_rfl) (by kernel_rfl) (by kernel_rfl)
      (hw_met os _)) ?_
  intro W base args ds gs before hval0 hW hcnd hsz0 hL _
  have hval : ∀ (j : Nat) t v, Tryz.f6.params[j]? = some t → args[j]? = some v → Value.okWide Tryz.prog W .any base t v := hval0
  have hsz : (DataW.weightsEach Tryz.prog (Tryz.f6.params.toList ++ Rows.sumsBackSpec.plain.varTypes Tryz.prog) (ds ++ gs)).all (· ≤ reachBytes) = true := hsz0
  have hW' := hW
  obtain ⟨p, q, hA0, hV, rfl, hfz, hnd⟩ := hW
  have hA : DataW.TrodAll enc Tryz.prog W 0 (fun _ => true) true Tryz.f6.params.toList args.toList ds p := hA0
  rw [Tryz.params6] at hA hval hsz
  clear hA0 hval0 hsz0
  obtain ⟨v0, vs0, d0, ds0, p0, q0, hargs, rfl, rfl, h0, r0⟩ := trodAll_cons hA
  obtain ⟨rfl, rfl, rfl⟩ := trodAll_nil r0
  obtain rfl : args = #[v0] := by cases args; simp_all
  obtain ⟨rfl, rfl⟩ := trodVars_none hV
  have z0 := rd_each hsz (j := 0) (t := 25) (d := d0) rfl rfl
  clear hsz
  obtain ⟨cs0, rfl, hcs0⟩ := rd_agg Tryz.underlying25 (hval 0 25 v0 rfl rfl)
  obtain ⟨fu0, hf0⟩ := h0
  rw [hcs0] at hf0
  obtain ⟨hl0, hfl0⟩ := rd_struct Tryz.underlying25 (by kernel_rfl) (by kernel_rfl) hf0 z0
  obtain ⟨c0_0, c0_1, c0_2, c0_3, rfl⟩ := list_len4 hl0
  obtain ⟨u0_0, m0_0, y0_0, e0_0, t0_0, w0_0⟩ := hfl0 0 _ rfl
  cases e0_0
  obtain ⟨x1, rfl, wx2⟩ := fld_int Tryz.underlying22 t0_0
  obtain ⟨u0_1, m0_1, y0_1, e0_1, t0_1, w0_1⟩ := hfl0 1 _ rfl
  cases e0_1
  obtain ⟨s3, rfl, hs4⟩ := fld_string Tryz.underlying9 t0_1 w0_1
  obtain ⟨u0_2, m0_2, y0_2, e0_2, t0_2, w0_2⟩ := hfl0 2 _ rfl
  cases e0_2
  obtain ⟨A5, n6, c7, xs8, rfl, hr9⟩ := fld_ints (by_ := 1) Tryz.underlying23 Tryz.underlying5 (by kernel_rfl) (by kernel_rfl) t0_2 w0_2
  obtain ⟨u0_3, m0_3, y0_3, e0_3, t0_3, w0_3⟩ := hfl0 3 _ rfl
  cases e0_3
  obtain ⟨x10, rfl⟩ := fld_bool Tryz.underlying4 t0_3
  refine (l_SumsBack W (tab1 hL) (laid_of hL) x1 wx2 s3 hs4 A5 n6 c7 xs8 hr9 x10).mono fun e W' ⟨he, hb⟩ => ?_
  subst he
  exact ⟨_, rfl, law_post laid (fun t ht => by
    have := List.all_eq_true.1 book t ht
    rw [Bool.and_eq_true, decide_eq_true_eq] at this
    exact this) hW' rfl (by kernel_rfl) (tb := 4) Tryz.underlying4 rfl hb⟩

theorem over : Rows.SumsBackSaid :=
  OpenClaim.holds_of_wide 6 Tryz.f6 rfl rfl rfl rfl rfl rfl rfl ⟨rfl, rfl, rfl, rfl, rfl⟩ rfl rfl rfl rfl rfl (by kernel_rfl) Tryz.func6 (by kernel_rfl)
    (of_decide_eq_true (by kernel_rfl)) (by unfold Func.isWrapper; first | (rw [if_pos (by decide +kernel)]; kernel_rfl) | (rw [if_neg (by decide +kernel)]; exact ⟨rfl, rfl⟩))
    (fun os started H enc _ => lifted os started H enc)

/-- THE STATEMENT: the tied card. -/
theorem proved : Rows.SumsBackCardSaid :=
  Claim7.holds_tied_plain_at .later [] [.data, .data, .data, .handle, .sentinel, .sentinel] true (true, Rows.sumsBackCard.stood.harness.2) true
    over (fun _ h => by cases h) (by kernel_rfl) (fun _ h => by cases h) sumsBack_row_tie rfl ⟨rfl, rfl⟩ (by kernel_rfl) rfl
    (fun f fn hf hfn => by
      obtain rfl : f = 6 := Option.some.inj ((show Tryz.prog.funcNamed "quern/quernlaw26.SumsBack" = some 6 by kernel_rfl).symm.trans hf) |>.symm
      obtain rfl : fn = Tryz.f6 := (Option.some.inj (Tryz.func6.symm.trans hfn)).symm
      exact ⟨by kernel_rfl, fun j t ht => by
        rw [Tryz.params6] at ht
        have hm : t ∈ [25] := by simpa using Array.mem_of_getElem? ht
        have hall : ([25].all fun u => !Tryz.prog.wantsStandIn u) = true := by kernel_rfl
        exact (show Tryz.prog.wantsStandIn t = false by simpa using List.all_eq_true.1 hall t hm)⟩)
    (by kernel_rfl)
#print axioms proved
end Go.Proofs.YtjaohjlddhjgpaaGreatDoor.sumsBack
