/- The statement ValuePrintsUptoCardSaid, proved: where the arguments are of the bound given in the row, the law returns true and leaves its arguments as they were. Conditions: none beyond the given row. (Written by wip/gen/lift.py.) -/
import Derived.Test.YtigbbogfnchgnaaGreatDoorIe
import Derived.Test.YtigbbogfnchgnaaGreatDoorLaw
import Derived.Test.YtigbbogfnchgnaaGreatDoorCards
import Derived.Test.YtigbbogfnchgnaaGreatDoorTie
import Derived.Test.YtigbbogfnchgnaaGreatDoorUp
import Derived.ProofKit
import Derived.Lay
import Derived.OpenShut
import Derived.Stop.Joined
import Derived.Lib.LaidTab
import Derived.LaidSub
import Derived.SevenTiedAt
import Derived.JoinedOf
import Derived.Handed
import Derived.LaidHandle
import Derived.Stop.LaidErr
namespace Go.Proofs.YtigbbogfnchgnaaGreatDoor.valuePrintsUpto
open Go.ChangeShapes Go.WideShapes Go.ChangeAt Go.RowKit
set_option linter.unusedVariables false
theorem one_le {H : Type} (d : DataW H) : 1 ≤ Rows.uptoBulk d := by
  cases d with
  | lit l => cases l <;> simp [Rows.uptoBulk]
  | _ => simp [Rows.uptoBulk]
theorem length_le {H : Type} (l : List (DataW H)) : l.length ≤ Rows.uptoBulkAll l := by
  induction l with
  | nil => simp [Rows.uptoBulkAll]
  | cons x r ih => have := one_le x; simp only [Rows.uptoBulkAll, List.length_cons]; omega
theorem bulk_slice {H : Type} {enc : TypeId × Value → H} {P : Program} {W : World} {t e : TypeId} (ht : P.underlying t = some (.slice e)) {fuel : Nat} {A : Option Addr} {n c : Nat} {x : DataW H × List MemPlace}
    (h : DataW.trod enc P W 0 (fun _ => true) true fuel t [.slice A n c] = some x) : n + 1 ≤ Rows.uptoBulk x.1 := by
  have h1le := one_le x.1
  rcases DataW.trod_slice ht h with ⟨h1, _⟩ | ⟨a, len, cap, elems, rest, m, _, h1, rfl, hb, hl, hm, hlen, _⟩
  · injection h1 with h1
    injection h1 with _ h3 _
    omega
  · injection h1 with h1
    injection h1 with _ h3 _
    have := length_le (elems.map (·.1))
    simp only [List.length_map] at this
    simp only [Rows.uptoBulk]
    omega
theorem bulk_string {H : Type} {enc : TypeId × Value → H} {P : Program} {W : World} {t : TypeId} (ht : P.underlying t = some .string) {fuel : Nat} {s : ByteArray} {x : DataW H × List MemPlace}
    (h : DataW.trod enc P W 0 (fun _ => true) true fuel t [.string s] = some x) : s.size + 1 ≤ Rows.uptoBulk x.1 := by
  obtain ⟨s', h1, rfl, _⟩ := DataW.trod_string ht h
  injection h1 with h1
  injection h1 with h1
  subst h1
  exact Nat.le_refl _
theorem trod_slice_form {H : Type} {enc : TypeId × Value → H} {P : Program} {W : World} {t e : TypeId} (ht : P.underlying t = some (.slice e)) {fuel : Nat} {u : Value} {x : DataW H × List MemPlace}
    (h : DataW.trod enc P W 0 (fun _ => true) true fuel t [u] = some x) : ∃ A n c, u = .slice A n c := by
  rcases DataW.trod_slice ht h with ⟨h1, _⟩ | ⟨a, len, cap, _, _, _, _, h1, _⟩
  · injection h1 with h1; exact ⟨_, _, _, h1⟩
  · injection h1 with h1; exact ⟨_, _, _, h1⟩
theorem own : ownKnob Tryz.prog.godebug = none := by kernel_rfl
theorem laid : laidOutB Tryz.prog = true := by kernel_rfl
theorem book : (Tryz.f3.params.toList.all fun t => Tryz.prog.readableRec t && decide (t < Tryz.prog.types.size)) = true := by kernel_rfl
theorem tab9 {W : World} (h : laidMetH Tryz.prog Rows.valuePrintsUptoRow.laid W) : Lib.TabIs Tryz.prog W "internal/strconv.uint64pow10" .u64 Lib.pow10Tab := by
  have h2 := h.filter (fun x => x.1 == "internal/strconv.uint64pow10")
  rw [show (Rows.valuePrintsUptoRow.laid.filter fun x => x.1 == "internal/strconv.uint64pow10") = [("internal/strconv.uint64pow10", Lib.tabData .u64 Lib.pow10Tab)] by kernel_rfl] at h2
  rw [MakeChecks.laidMetH_plain _ _ _ (by kernel_rfl)] at h2
  exact Lib.tabIs_of_head (g := 9) (t := 201) (e := 73) (by kernel_rfl) (by kernel_rfl) Tryz.underlying201 Tryz.underlying73 (by kernel_rfl) (by kernel_rfl) h2
theorem tabR {W : World} (h : laidMetH Tryz.prog Rows.valuePrintsUptoRow.laid W) (i : Nat) (hi : i < 696) : W.cell? ⟨10, i * 2, none⟩ = some (.int .u64 ((hiN ((i : Int) - 348) : Nat) : Int)) ∧ W.cell? ⟨10, i * 2 + 1, none⟩ = some (.int .u64 ((loN ((i : Int) - 348) : Nat) : Int)) := by
  have hs := h.filter (fun x => x.1 == "internal/strconv.pow10Tab")
  rw [show (Rows.valuePrintsUptoRow.laid.filter fun x => x.1 == "internal/strconv.pow10Tab") = [("internal/strconv.pow10Tab", Go.Pinned.pow10Tab)] by kernel_rfl] at hs
  rw [MakeChecks.laidMetH_plain _ _ _ (by kernel_rfl)] at hs
  exact rows_of_head (g := 10) (t := 207) (e := 206) (i := i) (by kernel_rfl) (by kernel_rfl) Tryz.underlying207 Tryz.underlying206 (by kernel_rfl) rfl rfl (by kernel_rfl) (by kernel_rfl) (by kernel_rfl) (by kernel_rfl) hs (row_pinned i hi)
theorem tab_of {W : World} (h : laidMetH Tryz.prog Rows.valuePrintsUptoRow.laid W) : TabS W :=
  ⟨fun i hi => tabR h i hi, World.block_lt_of_cell? _ _ (tabR h 0 (by decide)).1, tab9 h⟩
noncomputable def hw (os : Os) : World := (World.holding Tryz.prog os ⟨#[], #[], []⟩).layVars Tryz.prog Rows.valuePrintsUptoRow.laid
theorem hw_os (os : Os) : (hw os).os = os := World.layVars_os _ _ _
theorem hw_met (os : Os) (args : Array Value) : laidMetH Tryz.prog Rows.valuePrintsUptoRow.laid ((hw os).forCall (fun _ _ => 0) ⟨#[], args, []⟩).memory := by
  rw [MakeChecks.laidMetH_plain _ _ _ (by kernel_rfl)]
  have e1 : (Rows.valuePrintsUptoRow.laid.filter fun x => (Rows.valuePrintsUptoRow.laid.map (·.1)).contains x.1) = Rows.valuePrintsUptoRow.laid := List.filter_eq_self.2 fun x hx => List.contains_iff_mem.2 (List.mem_map.2 ⟨x, hx, rfl⟩)
  have e2 : (Rows.valuePrintsUptoRow.laid.filter fun x => !(Rows.valuePrintsUptoRow.laid.map (·.1)).contains x.1) = [] := List.filter_eq_nil_iff.2 fun x hx => by rw [List.contains_iff_mem.2 (List.mem_map.2 ⟨x, hx, rfl⟩)]; simp
  have h : laidMet Tryz.prog Rows.valuePrintsUptoRow.laid (hw os) := laidMet_layVars (w0 := World.holding Tryz.prog os ⟨#[], #[], []⟩) (Rows.valuePrintsUptoRow.laid.map (·.1)) [] (by rw [e1]; rfl) (by rw [e1]; kernel_rfl) (by rw [e1]; kernel_rfl) (by rw [e2]; exact LaidIn.none)
  exact h.of_heap (by simp [World.memory, World.forCall, Input.heap])
set_option maxRecDepth 100000 in
theorem lifted (os : Os) (started : os.Started) (H : Type) (enc : TypeId × Value → H) (F : Stop.Interp) :
    ReturnsInHanded {} Tryz.checked os 3 .any (fun w args => ((Rows.OpenSpec.upto Rows.valuePrintsSpec).pre enc Tryz.prog Tryz.f3 [] false w args ∧ laidMetH Tryz.prog Rows.valuePrintsUptoRow.laid w) ∧ sizedMet enc Tryz.prog Tryz.f3 (Rows.OpenSpec.upto Rows.valuePrintsSpec) false w args)
      (((Rows.OpenSpec.upto Rows.valuePrintsSpec).at F).post enc Tryz.prog Tryz.f3 false true false false) := by
  refine returnsInHanded_of_cond_and (C := Tryz.checked) (s := Rows.OpenSpec.upto Rows.valuePrintsSpec) (k := Rows.uptoSmall) rfl (X := fun w _ => laidMetH Tryz.prog Rows.valuePrintsUptoRow.laid w) (fun _ _ _ hh h => h.of_heap hh) own started (by kernel_rfl) Tryz.func3
    (cond_witness (enc := enc) (C := Tryz.checked) (os := os) (s := Rows.OpenSpec.upto Rows.valuePrintsSpec) (k := Rows.uptoSmall) rfl (X := fun w _ => laidMetH Tryz.prog Rows.valuePrintsUptoRow.laid w) false (hw os) #[.agg #[.int .i64 0, .int .i64 0, .float .f64 0, .string ⟨#[]⟩, .slice none 0 0, .slice none 0 0]] 8 (hw_os os)
      (World.shaped_of_ZipB (by kernel_rfl) (by kernel_rfl)) (by kernel_rfl) (x := ([.agg [.lit (.int .i64 0), .lit (.int .i64 0), .lit (.float .f64 0), .lit (.string []), .nil, .nil]], [], [])) (by kernel_rfl) rfl (by kernel_rfl) (by kernel_rfl)
      (hw_met os _)) ?_
  intro W base args ds gs before hval0 hW hk0 hsz0 hL
  have hval : ∀ (j : Nat) t v, Tryz.f3.params[j]? = some t → args[j]? = some v → Value.okWide Tryz.prog W .any base t v := hval0
  have hsz : (DataW.weightsEach Tryz.prog (Tryz.f3.params.toList ++ Rows.valuePrintsSpec.plain.varTypes Tryz.prog) (ds ++ gs)).all (· ≤ reachBytes) = true := hsz0
  have hW' : DataW.Whole enc Tryz.prog Tryz.f3.params.toList ((Rows.OpenSpec.upto Rows.valuePrintsSpec).at F).vars false W args.toList ds gs before := hW
  obtain ⟨p, q, hA0, hV, rfl, hfz, hnd⟩ := hW
  have hA : DataW.TrodAll enc Tryz.prog W 0 (fun _ => true) true Tryz.f3.params.toList args.toList ds p := hA0
  rw [Tryz.params3] at hA hval hsz
  clear hA0 hval0 hsz0
  obtain ⟨v0, vs0, d0, ds0, p0, q0, hargs, rfl, rfl, h0, r0⟩ := trodAll_cons hA
  obtain ⟨rfl, rfl, rfl⟩ := trodAll_nil r0
  obtain rfl : args = #[v0] := by cases args; simp_all
  obtain ⟨rfl, rfl⟩ := trodVars_none hV
  have z0 := rd_each hsz (j := 0) (t := 26) (d := d0) rfl rfl
  clear hsz
  obtain ⟨cs0, rfl, hcs0⟩ := rd_agg Tryz.underlying26 (hval 0 26 v0 rfl rfl)
  obtain ⟨fu0, hf0⟩ := h0
  rw [hcs0] at hf0
  obtain ⟨V0, hr0, hw0, hb0⟩ := rd_vs (t0 := 0) (t1 := 0) (t2 := 0) (t3 := 0) (t4 := 0) Tryz.underlying26 (by kernel_rfl) ⟨by kernel_rfl, by kernel_rfl, Tryz.underlying3⟩ ⟨by kernel_rfl, by kernel_rfl, Tryz.underlying2⟩ ⟨by kernel_rfl, by kernel_rfl, Tryz.underlying22⟩ ⟨by kernel_rfl, by kernel_rfl, Tryz.underlying9⟩ ⟨by kernel_rfl, by kernel_rfl, Tryz.underlying23⟩ ⟨by kernel_rfl, by kernel_rfl, Tryz.underlying24⟩ Tryz.underlying9 (by kernel_rfl) fu0 cs0 _ hf0
  have hk : Rows.uptoBulkAll [d0] ≤ 1048576 := of_decide_eq_true hk0
  simp only [Rows.uptoBulkAll] at hk
  dsimp only at hb0
  refine (l_ValuePrints W (tab_of hL) V0 cs0 ⟨hr0, hw0, by omega⟩ ).mono fun e W' ⟨he, hb⟩ => ?_
  subst he
  exact ⟨_, rfl, law_post (s := (Rows.OpenSpec.upto Rows.valuePrintsSpec).at F) laid (fun t ht => by
    have := List.all_eq_true.1 book t ht
    rw [Bool.and_eq_true, decide_eq_true_eq] at this
    exact this) hW' rfl (by kernel_rfl) (tb := 4) Tryz.underlying4 rfl hb⟩

theorem over : Rows.ValuePrintsUptoSaid :=
  OpenClaim.holds_of_cond 3 Tryz.f3 rfl rfl rfl rfl rfl rfl rfl ⟨rfl, rfl, rfl, rfl, rfl⟩ rfl rfl rfl rfl rfl (by kernel_rfl) Tryz.func3 (by kernel_rfl)
    (of_decide_eq_true (by kernel_rfl)) (by unfold Func.isWrapper; first | (rw [if_pos (by decide +kernel)]; kernel_rfl) | (rw [if_neg (by decide +kernel)]; exact ⟨rfl, rfl⟩))
    (fun os started H enc _ F => lifted os started H enc F)

/-- THE STATEMENT: the tied card. -/
theorem proved : Rows.ValuePrintsUptoCardSaid :=
  Claim7.holds_tied_plain_at .later [] [.data, .data, .widerDeep, .widerDeep, .data, .data, .data, .data, .data, .sentinel, .sentinel, .pinned, .pinned] true (true, Rows.valuePrintsUptoCard.stood.harness.2) true
    over (fun _ h => by cases h) (by kernel_rfl) (fun _ h => by cases h) valuePrintsUpto_row_tie rfl ⟨rfl, rfl⟩ (by kernel_rfl) rfl
    (fun f fn hf hfn => by
      obtain rfl : f = 3 := Option.some.inj ((show Tryz.prog.funcNamed "quern/quernlaw23.ValuePrints" = some 3 by kernel_rfl).symm.trans hf) |>.symm
      obtain rfl : fn = Tryz.f3 := (Option.some.inj (Tryz.func3.symm.trans hfn)).symm
      exact ⟨by kernel_rfl, fun j t ht => by
        rw [Tryz.params3] at ht
        have hm : t ∈ [26] := by simpa using Array.mem_of_getElem? ht
        have hall : ([26].all fun u => !Tryz.prog.wantsStandIn u) = true := by kernel_rfl
        exact (show Tryz.prog.wantsStandIn t = false by simpa using List.all_eq_true.1 hall t hm)⟩)
    (by kernel_rfl)
#print axioms proved
end Go.Proofs.YtigbbogfnchgnaaGreatDoor.valuePrintsUpto
