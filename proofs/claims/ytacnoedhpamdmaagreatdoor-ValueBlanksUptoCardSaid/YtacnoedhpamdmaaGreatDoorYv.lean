/- Walk: what value.Parse defers, at a frame that panics with a fault at 3. Conditions: as stated. -/
import Derived.Test.YtacnoedhpamdmaaGreatDoorYu
import Derived.Defers
import Derived.Recover
namespace Go.Proofs.YtacnoedhpamdmaaGreatDoor
open Go.RowKit Go.Shelf
set_option linter.unusedVariables false
attribute [local go_sem ↓] Go.wp_at_zero Go.wp_at_succ

theorem step_storeB {P : Program} {ops : Array Oper} {o : Oper} {a : Act} {w : World} {K : Act → World → Prop} {Q : Exit → Act → World → Prop} {E : Prop} (hgd : o.guard = none) (ty : TypeId) (x y : Operand) (ho : o.op = .store ty x y) (hdst : o.dst = none)
    (g : Nat) (cs' : Array Value) (hx : a.eval x = .pointer (some ⟨g, 0, none⟩)) (hy : a.eval y = .agg cs') {t : TypeId} {cs : Array Value} (hg : Blk w g t cs) (hi : (P.info? ty).map (·.size) = some cs'.size) (hs : cs.size = cs'.size) (h1' : cs'.toList.all (·.oneCell') = true)
    (h : ∀ w', Blk w' g t cs' → w.grownBy w' (some g) → w'.heap.size = w.heap.size → K a w') : if Region.wanted o (yielded ops a.tmps) = true then Oper.wp P o a w K Q else E := by
  have h1 : cs'.all (·.oneCell') = true := by rw [← Array.all_toList]; exact h1'
  have hw : Region.wanted o (yielded ops a.tmps) = true := by simp [Region.wanted, hgd]
  rw [if_pos hw]
  unfold Oper.wp execOp
  simp only [ho, hx, hy, Instr.storeAt, Instr.sureAddr, Sem.run_bind, Sem.run_pure, Result.andThen_ok, run_storeVar_row w g t ty cs cs' hg hi hs h1]
  have := h (w.setRow g cs') (hg.setRow cs') (only_setRow w g cs') (by simp)
  simpa [Oper.upon, Act.put, hdst] using this
theorem ta_fault (x : Value) (W : World) : (Instr.typeAssert (.iface 76 x) 20 76 false).run Tryz.prog W = .ok x W := by kernel_rfl
set_option maxRecDepth 100000 in
set_option maxHeartbeats 1000000 in
theorem c_Parse1 (B a b c : Nat) (w : World) (hA : Blk w a 30 vz) (hB : Blk w b 3 #[.int .i64 0]) (hC : Blk w c 33 #[.int .i64 0]) (h1 : B ≤ a) (h2 : B ≤ b) (h3 : B ≤ c) :
    CallsD Tryz.prog 39 #[.pointer (some ⟨a, 0, none⟩), .pointer (some ⟨b, 0, none⟩), .pointer (some ⟨c, 0, none⟩)] (.panicking [flt3]) w fun e u' w' =>
      e = .returned (.tuple #[]) ∧ u' = .panicking [{ v := .iface 76 (.agg #[.int .i64 3, .int .i64 4]), recovered := true }] ∧
      Blk w' a 30 vz ∧ Blk w' b 3 #[.int .i64 3] ∧ Blk w' c 33 #[.int .i64 4] ∧ Below B w w' := by
  have hab : a ≠ b := hA.ne_ hB (by decide)
  have hac : a ≠ c := hA.ne_ hC (by decide)
  have hbc : b ≠ c := hB.ne_ hC (by decide)
  refine callsD_of_wpS Tryz.func39 rfl fun c₀ cs hu => ?_
  simp only [Tryz.ntmps39, List.size_toArray, List.length_cons, List.length_nil, Nat.reduceAdd, Nat.reduceSub, Array.replicate_succ, Array.replicate_zero, List.push_toArray, List.append_toArray, List.nil_append, List.cons_append]
  apply wpS_seq
  apply wpS_region
  simp [wpOpsS, go_sem, recoverD, hu, Exit.thenS]
  apply wpS_seq
  apply wpS_region
  simp [wpOpsS, go_sem, recoverD, Exit.thenS]
  refine wpS_cond (t := true) (by simp [Act.eval]) ?_
  simp only [if_true]
  refine wpS_of_wp ?_
  have HF := Lib.hid (Blk.new w 76 #[.int .i64 0, .int .i64 0])
  have la := hA.lt
  have HA := Lib.hid (hA.alloc (.cells #[.int .i64 0, .int .i64 0] 76))
  have HB := Lib.hid (hB.alloc (.cells #[.int .i64 0, .int .i64 0] 76))
  have HC := Lib.hid (hC.alloc (.cells #[.int .i64 0, .int .i64 0] 76))
  have HW : Hid (Below B w (w.alloc (.cells #[.int .i64 0, .int .i64 0] 76))) := (Below.refl B w).alloc (by have := hB.lt; omega) _
  have lb := hB.lt
  have lc := hC.lt
  have ta := ta_fault
  clear hA hB hC hu
  go_upto_region 3 with (first
    | (refine wpList_storeB rfl 76 (.tmp 4) (.tmp 9) rfl rfl w.heap.size #[.int .i64 3, .int .i64 4] rfl rfl HF.out (by kernel_rfl) rfl rfl ?_; intro w1 hB1 hg1 hy1))
  replace HW := Lib.hid (HW.out.grown hg1 (by have := HA.out.lt; omega) (fun x e => by have := Option.some.inj e; omega))
  replace HA := Lib.hid (HA.out.grown hg1 (by intro e; have := Option.some.inj e; omega))
  replace HB := Lib.hid (HB.out.grown hg1 (by intro e; have := Option.some.inj e; omega))
  replace HC := Lib.hid (HC.out.grown hg1 (by intro e; have := Option.some.inj e; omega))
  replace HF := Lib.hid hB1
  clear hB1 hg1 hy1 ta
  refine wp_region_any (by kernel_rfl) ?_
  try (change wpAny _ _ _ _ _ _ _ (World.drew _))
  replace HA := Lib.hid HA.out.drew
  replace HB := Lib.hid HB.out.drew
  replace HC := Lib.hid HC.out.drew
  replace HF := Lib.hid HF.out.drew
  replace HW := Lib.hid HW.out.drew
  generalize w1.drew = w2 at *
  refine wpAny_take (i := 0) (v := .agg vz) rfl (by kernel_rfl) (by kernel_rfl) (by kernel_rfl) (fun _ _ _ h => h) (Or.inl ⟨by rfl, fun w => by go_simp⟩) ?_
  refine wpAny_take (i := 1) (v := .pointer (some ⟨w.heap.size, 0, none⟩)) rfl (by kernel_rfl) (by kernel_rfl) (by kernel_rfl) (fun _ _ _ h => h) (Or.inl ⟨by rfl, fun w => by go_simp⟩) ?_
  refine wpAny_take (i := 3) (v := .pointer (some ⟨w.heap.size, 1, none⟩)) rfl (by kernel_rfl) (by kernel_rfl) (by kernel_rfl) (fun _ _ _ h => h) (Or.inl ⟨by rfl, fun w => by go_simp⟩) ?_
  refine wpAny_ready (rs := [2, 4, 5]) (by kernel_rfl) (by simp) ?_
  refine AllReady.cons rfl (fun K hK => ?_) ?_
  · have q0 := HF.out.cell 0
    go_simp
    clear q0
    refine hK _ _ ?_
    clear hK K
    refine wpAny_ready (rs := [4, 5]) (by kernel_rfl) (by simp) ?_
    refine AllReady.cons rfl (fun K hK => ?_) ?_
    · have q0 := HF.out.cell 1
      go_simp
      clear q0
      refine hK _ _ ?_
      clear hK K
      refine wpAny_ready (rs := [5]) (by kernel_rfl) (by simp) ?_
      refine AllReady.cons rfl (fun K hK => ?_) ?_
      · have hsz := HA.out.lt
        refine step_storeB rfl 30 (.tmp 0) (.tmp 10) rfl rfl a vz rfl rfl HA.out v_info rfl rfl ?_
        intro y1 hA5 hg5 hz5
        replace HW := Lib.hid (HW.out.grown hg5 (by omega) (fun x e => by have := Option.some.inj e; omega))
        replace HA := Lib.hid hA5
        replace HB := Lib.hid (HB.out.grown hg5 (by intro e; have := Option.some.inj e; omega))
        replace HC := Lib.hid (HC.out.grown hg5 (by intro e; have := Option.some.inj e; omega))
        replace HF := Lib.hid (HF.out.grown hg5 (by intro e; have := Option.some.inj e; omega))
        clear hA5 hg5 hz5 hsz
        refine hK _ _ ?_
        clear hK K
        refine wpAny_ready (rs := [6]) (by kernel_rfl) (by simp) ?_
        refine AllReady.cons rfl (fun K hK => ?_) ?_
        · have q0 := HB.out.cell 0
          have f0 := HB.out.frozen 0
          go_simp
          clear q0 f0
          replace HA := Lib.hid (HA.out.far (p := ⟨b, 0, none⟩) (by simp only; omega) (.int .i64 3))
          replace HC := Lib.hid (HC.out.far (p := ⟨b, 0, none⟩) (by simp only; omega) (.int .i64 3))
          replace HF := Lib.hid (HF.out.far (p := ⟨b, 0, none⟩) (by simp only; omega) (.int .i64 3))
          replace HB := Lib.hid (HB.out.set_ 0 (.int .i64 3))
          replace HW := Lib.hid (HW.out.setCell (p := ⟨b, 0, none⟩) (by simp only; omega) (.int .i64 3))
          refine hK _ _ ?_
          clear hK K
          refine wpAny_ready (rs := [7]) (by kernel_rfl) (by simp) ?_
          refine AllReady.cons rfl (fun K hK => ?_) ?_
          · have q0 := HC.out.cell 0
            have f0 := HC.out.frozen 0
            go_simp
            clear q0 f0
            replace HA := Lib.hid (HA.out.far (p := ⟨c, 0, none⟩) (by simp only; omega) (.int .i64 4))
            replace HB := Lib.hid (HB.out.far (p := ⟨c, 0, none⟩) (by simp only; omega) (.int .i64 4))
            replace HF := Lib.hid (HF.out.far (p := ⟨c, 0, none⟩) (by simp only; omega) (.int .i64 4))
            replace HC := Lib.hid (HC.out.set_ 0 (.int .i64 4))
            replace HW := Lib.hid (HW.out.setCell (p := ⟨c, 0, none⟩) (by simp only; omega) (.int .i64 4))
            refine hK _ _ ?_
            clear hK K
            refine wpAny_done (by kernel_rfl) ?_ _
            exact ⟨rfl, _, rfl, .tuple #[], by simp [results, Tryz.results39], rfl, rfl, HA.out, HB.out, HC.out, HW.out⟩
          exact AllReady.nil
        exact AllReady.nil
      exact AllReady.nil
    refine AllReady.cons rfl (fun K hK => ?_) ?_
    · have hsz := HA.out.lt
      refine step_storeB rfl 30 (.tmp 0) (.tmp 10) rfl rfl a vz rfl rfl HA.out v_info rfl rfl ?_
      intro y4 hA5 hg5 hz5
      replace HW := Lib.hid (HW.out.grown hg5 (by omega) (fun x e => by have := Option.some.inj e; omega))
      replace HA := Lib.hid hA5
      replace HB := Lib.hid (HB.out.grown hg5 (by intro e; have := Option.some.inj e; omega))
      replace HC := Lib.hid (HC.out.grown hg5 (by intro e; have := Option.some.inj e; omega))
      replace HF := Lib.hid (HF.out.grown hg5 (by intro e; have := Option.some.inj e; omega))
      clear hA5 hg5 hz5 hsz
      refine hK _ _ ?_
      clear hK K
      refine wpAny_ready (rs := [4, 6]) (by kernel_rfl) (by simp) ?_
      refine AllReady.cons rfl (fun K hK => ?_) ?_
      · have q0 := HF.out.cell 1
        go_simp
        clear q0
        refine hK _ _ ?_
        clear hK K
        refine wpAny_ready (rs := [6]) (by kernel_rfl) (by simp) ?_
        refine AllReady.cons rfl (fun K hK => ?_) ?_
        · have q0 := HB.out.cell 0
          have f0 := HB.out.frozen 0
          go_simp
          clear q0 f0
          replace HA := Lib.hid (HA.out.far (p := ⟨b, 0, none⟩) (by simp only; omega) (.int .i64 3))
          replace HC := Lib.hid (HC.out.far (p := ⟨b, 0, none⟩) (by simp only; omega) (.int .i64 3))
          replace HF := Lib.hid (HF.out.far (p := ⟨b, 0, none⟩) (by simp only; omega) (.int .i64 3))
          replace HB := Lib.hid (HB.out.set_ 0 (.int .i64 3))
          replace HW := Lib.hid (HW.out.setCell (p := ⟨b, 0, none⟩) (by simp only; omega) (.int .i64 3))
          refine hK _ _ ?_
          clear hK K
          refine wpAny_ready (rs := [7]) (by kernel_rfl) (by simp) ?_
          refine AllReady.cons rfl (fun K hK => ?_) ?_
          · have q0 := HC.out.cell 0
            have f0 := HC.out.frozen 0
            go_simp
            clear q0 f0
            replace HA := Lib.hid (HA.out.far (p := ⟨c, 0, none⟩) (by simp only; omega) (.int .i64 4))
            replace HB := Lib.hid (HB.out.far (p := ⟨c, 0, none⟩) (by simp only; omega) (.int .i64 4))
            replace HF := Lib.hid (HF.out.far (p := ⟨c, 0, none⟩) (by simp only; omega) (.int .i64 4))
            replace HC := Lib.hid (HC.out.set_ 0 (.int .i64 4))
            replace HW := Lib.hid (HW.out.setCell (p := ⟨c, 0, none⟩) (by simp only; omega) (.int .i64 4))
            refine hK _ _ ?_
            clear hK K
            refine wpAny_done (by kernel_rfl) ?_ _
            exact ⟨rfl, _, rfl, .tuple #[], by simp [results, Tryz.results39], rfl, rfl, HA.out, HB.out, HC.out, HW.out⟩
          exact AllReady.nil
        exact AllReady.nil
      refine AllReady.cons rfl (fun K hK => ?_) ?_
      · have q0 := HB.out.cell 0
        have f0 := HB.out.frozen 0
        go_simp
        clear q0 f0
        replace HA := Lib.hid (HA.out.far (p := ⟨b, 0, none⟩) (by simp only; omega) (.int .i64 3))
        replace HC := Lib.hid (HC.out.far (p := ⟨b, 0, none⟩) (by simp only; omega) (.int .i64 3))
        replace HF := Lib.hid (HF.out.far (p := ⟨b, 0, none⟩) (by simp only; omega) (.int .i64 3))
        replace HB := Lib.hid (HB.out.set_ 0 (.int .i64 3))
        replace HW := Lib.hid (HW.out.setCell (p := ⟨b, 0, none⟩) (by simp only; omega) (.int .i64 3))
        refine hK _ _ ?_
        clear hK K
        refine wpAny_ready (rs := [4]) (by kernel_rfl) (by simp) ?_
        refine AllReady.cons rfl (fun K hK => ?_) ?_
        · have q0 := HF.out.cell 1
          go_simp
          clear q0
          refine hK _ _ ?_
          clear hK K
          refine wpAny_ready (rs := [7]) (by kernel_rfl) (by simp) ?_
          refine AllReady.cons rfl (fun K hK => ?_) ?_
          · have q0 := HC.out.cell 0
            have f0 := HC.out.frozen 0
            go_simp
            clear q0 f0
            replace HA := Lib.hid (HA.out.far (p := ⟨c, 0, none⟩) (by simp only; omega) (.int .i64 4))
            replace HB := Lib.hid (HB.out.far (p := ⟨c, 0, none⟩) (by simp only; omega) (.int .i64 4))
            replace HF := Lib.hid (HF.out.far (p := ⟨c, 0, none⟩) (by simp only; omega) (.int .i64 4))
            replace HC := Lib.hid (HC.out.set_ 0 (.int .i64 4))
            replace HW := Lib.hid (HW.out.setCell (p := ⟨c, 0, none⟩) (by simp only; omega) (.int .i64 4))
            refine hK _ _ ?_
            clear hK K
            refine wpAny_done (by kernel_rfl) ?_ _
            exact ⟨rfl, _, rfl, .tuple #[], by simp [results, Tryz.results39], rfl, rfl, HA.out, HB.out, HC.out, HW.out⟩
          exact AllReady.nil
        exact AllReady.nil
      exact AllReady.nil
    exact AllReady.nil
  refine AllReady.cons rfl (fun K hK => ?_) ?_
  · have q0 := HF.out.cell 1
    go_simp
    clear q0
    refine hK _ _ ?_
    clear hK K
    refine wpAny_ready (rs := [2, 5]) (by kernel_rfl) (by simp) ?_
    refine AllReady.cons rfl (fun K hK => ?_) ?_
    · have q0 := HF.out.cell 0
      go_simp
      clear q0
      refine hK _ _ ?_
      clear hK K
      refine wpAny_ready (rs := [5]) (by kernel_rfl) (by simp) ?_
      refine AllReady.cons rfl (fun K hK => ?_) ?_
      · have hsz := HA.out.lt
        refine step_storeB rfl 30 (.tmp 0) (.tmp 10) rfl rfl a vz rfl rfl HA.out v_info rfl rfl ?_
        intro y9 hA5 hg5 hz5
        replace HW := Lib.hid (HW.out.grown hg5 (by omega) (fun x e => by have := Option.some.inj e; omega))
        replace HA := Lib.hid hA5
        replace HB := Lib.hid (HB.out.grown hg5 (by intro e; have := Option.some.inj e; omega))
        replace HC := Lib.hid (HC.out.grown hg5 (by intro e; have := Option.some.inj e; omega))
        replace HF := Lib.hid (HF.out.grown hg5 (by intro e; have := Option.some.inj e; omega))
        clear hA5 hg5 hz5 hsz
        refine hK _ _ ?_
        clear hK K
        refine wpAny_ready (rs := [6]) (by kernel_rfl) (by simp) ?_
        refine AllReady.cons rfl (fun K hK => ?_) ?_
        · have q0 := HB.out.cell 0
          have f0 := HB.out.frozen 0
          go_simp
          clear q0 f0
          replace HA := Lib.hid (HA.out.far (p := ⟨b, 0, none⟩) (by simp only; omega) (.int .i64 3))
          replace HC := Lib.hid (HC.out.far (p := ⟨b, 0, none⟩) (by simp only; omega) (.int .i64 3))
          replace HF := Lib.hid (HF.out.far (p := ⟨b, 0, none⟩) (by simp only; omega) (.int .i64 3))
          replace HB := Lib.hid (HB.out.set_ 0 (.int .i64 3))
          replace HW := Lib.hid (HW.out.setCell (p := ⟨b, 0, none⟩) (by simp only; omega) (.int .i64 3))
          refine hK _ _ ?_
          clear hK K
          refine wpAny_ready (rs := [7]) (by kernel_rfl) (by simp) ?_
          refine AllReady.cons rfl (fun K hK => ?_) ?_
          · have q0 := HC.out.cell 0
            have f0 := HC.out.frozen 0
            go_simp
            clear q0 f0
            replace HA := Lib.hid (HA.out.far (p := ⟨c, 0, none⟩) (by simp only; omega) (.int .i64 4))
            replace HB := Lib.hid (HB.out.far (p := ⟨c, 0, none⟩) (by simp only; omega) (.int .i64 4))
            replace HF := Lib.hid (HF.out.far (p := ⟨c, 0, none⟩) (by simp only; omega) (.int .i64 4))
            replace HC := Lib.hid (HC.out.set_ 0 (.int .i64 4))
            replace HW := Lib.hid (HW.out.setCell (p := ⟨c, 0, none⟩) (by simp only; omega) (.int .i64 4))
            refine hK _ _ ?_
            clear hK K
            refine wpAny_done (by kernel_rfl) ?_ _
            exact ⟨rfl, _, rfl, .tuple #[], by simp [results, Tryz.results39], rfl, rfl, HA.out, HB.out, HC.out, HW.out⟩
          exact AllReady.nil
        exact AllReady.nil
      exact AllReady.nil
    refine AllReady.cons rfl (fun K hK => ?_) ?_
    · have hsz := HA.out.lt
      refine step_storeB rfl 30 (.tmp 0) (.tmp 10) rfl rfl a vz rfl rfl HA.out v_info rfl rfl ?_
      intro y12 hA5 hg5 hz5
      replace HW := Lib.hid (HW.out.grown hg5 (by omega) (fun x e => by have := Option.some.inj e; omega))
      replace HA := Lib.hid hA5
      replace HB := Lib.hid (HB.out.grown hg5 (by intro e; have := Option.some.inj e; omega))
      replace HC := Lib.hid (HC.out.grown hg5 (by intro e; have := Option.some.inj e; omega))
      replace HF := Lib.hid (HF.out.grown hg5 (by intro e; have := Option.some.inj e; omega))
      clear hA5 hg5 hz5 hsz
      refine hK _ _ ?_
      clear hK K
      refine wpAny_ready (rs := [2]) (by kernel_rfl) (by simp) ?_
      refine AllReady.cons rfl (fun K hK => ?_) ?_
      · have q0 := HF.out.cell 0
        go_simp
        clear q0
        refine hK _ _ ?_
        clear hK K
        refine wpAny_ready (rs := [6]) (by kernel_rfl) (by simp) ?_
        refine AllReady.cons rfl (fun K hK => ?_) ?_
        · have q0 := HB.out.cell 0
          have f0 := HB.out.frozen 0
          go_simp
          clear q0 f0
          replace HA := Lib.hid (HA.out.far (p := ⟨b, 0, none⟩) (by simp only; omega) (.int .i64 3))
          replace HC := Lib.hid (HC.out.far (p := ⟨b, 0, none⟩) (by simp only; omega) (.int .i64 3))
          replace HF := Lib.hid (HF.out.far (p := ⟨b, 0, none⟩) (by simp only; omega) (.int .i64 3))
          replace HB := Lib.hid (HB.out.set_ 0 (.int .i64 3))
          replace HW := Lib.hid (HW.out.setCell (p := ⟨b, 0, none⟩) (by simp only; omega) (.int .i64 3))
          refine hK _ _ ?_
          clear hK K
          refine wpAny_ready (rs := [7]) (by kernel_rfl) (by simp) ?_
          refine AllReady.cons rfl (fun K hK => ?_) ?_
          · have q0 := HC.out.cell 0
            have f0 := HC.out.frozen 0
            go_simp
            clear q0 f0
            replace HA := Lib.hid (HA.out.far (p := ⟨c, 0, none⟩) (by simp only; omega) (.int .i64 4))
            replace HB := Lib.hid (HB.out.far (p := ⟨c, 0, none⟩) (by simp only; omega) (.int .i64 4))
            replace HF := Lib.hid (HF.out.far (p := ⟨c, 0, none⟩) (by simp only; omega) (.int .i64 4))
            replace HC := Lib.hid (HC.out.set_ 0 (.int .i64 4))
            replace HW := Lib.hid (HW.out.setCell (p := ⟨c, 0, none⟩) (by simp only; omega) (.int .i64 4))
            refine hK _ _ ?_
            clear hK K
            refine wpAny_done (by kernel_rfl) ?_ _
            exact ⟨rfl, _, rfl, .tuple #[], by simp [results, Tryz.results39], rfl, rfl, HA.out, HB.out, HC.out, HW.out⟩
          exact AllReady.nil
        exact AllReady.nil
      exact AllReady.nil
    exact AllReady.nil
  refine AllReady.cons rfl (fun K hK => ?_) ?_
  · have hsz := HA.out.lt
    refine step_storeB rfl 30 (.tmp 0) (.tmp 10) rfl rfl a vz rfl rfl HA.out v_info rfl rfl ?_
    intro y15 hA5 hg5 hz5
    replace HW := Lib.hid (HW.out.grown hg5 (by omega) (fun x e => by have := Option.some.inj e; omega))
    replace HA := Lib.hid hA5
    replace HB := Lib.hid (HB.out.grown hg5 (by intro e; have := Option.some.inj e; omega))
    replace HC := Lib.hid (HC.out.grown hg5 (by intro e; have := Option.some.inj e; omega))
    replace HF := Lib.hid (HF.out.grown hg5 (by intro e; have := Option.some.inj e; omega))
    clear hA5 hg5 hz5 hsz
    refine hK _ _ ?_
    clear hK K
    refine wpAny_ready (rs := [2, 4]) (by kernel_rfl) (by simp) ?_
    refine AllReady.cons rfl (fun K hK => ?_) ?_
    · have q0 := HF.out.cell 0
      go_simp
      clear q0
      refine hK _ _ ?_
      clear hK K
      refine wpAny_ready (rs := [4, 6]) (by kernel_rfl) (by simp) ?_
      refine AllReady.cons rfl (fun K hK => ?_) ?_
      · have q0 := HF.out.cell 1
        go_simp
        clear q0
        refine hK _ _ ?_
        clear hK K
        refine wpAny_ready (rs := [6]) (by kernel_rfl) (by simp) ?_
        refine AllReady.cons rfl (fun K hK => ?_) ?_
        · have q0 := HB.out.cell 0
          have f0 := HB.out.frozen 0
          go_simp
          clear q0 f0
          replace HA := Lib.hid (HA.out.far (p := ⟨b, 0, none⟩) (by simp only; omega) (.int .i64 3))
          replace HC := Lib.hid (HC.out.far (p := ⟨b, 0, none⟩) (by simp only; omega) (.int .i64 3))
          replace HF := Lib.hid (HF.out.far (p := ⟨b, 0, none⟩) (by simp only; omega) (.int .i64 3))
          replace HB := Lib.hid (HB.out.set_ 0 (.int .i64 3))
          replace HW := Lib.hid (HW.out.setCell (p := ⟨b, 0, none⟩) (by simp only; omega) (.int .i64 3))
          refine hK _ _ ?_
          clear hK K
          refine wpAny_ready (rs := [7]) (by kernel_rfl) (by simp) ?_
          refine AllReady.cons rfl (fun K hK => ?_) ?_
          · have q0 := HC.out.cell 0
            have f0 := HC.out.frozen 0
            go_simp
            clear q0 f0
            replace HA := Lib.hid (HA.out.far (p := ⟨c, 0, none⟩) (by simp only; omega) (.int .i64 4))
            replace HB := Lib.hid (HB.out.far (p := ⟨c, 0, none⟩) (by simp only; omega) (.int .i64 4))
            replace HF := Lib.hid (HF.out.far (p := ⟨c, 0, none⟩) (by simp only; omega) (.int .i64 4))
            replace HC := Lib.hid (HC.out.set_ 0 (.int .i64 4))
            replace HW := Lib.hid (HW.out.setCell (p := ⟨c, 0, none⟩) (by simp only; omega) (.int .i64 4))
            refine hK _ _ ?_
            clear hK K
            refine wpAny_done (by kernel_rfl) ?_ _
            exact ⟨rfl, _, rfl, .tuple #[], by simp [results, Tryz.results39], rfl, rfl, HA.out, HB.out, HC.out, HW.out⟩
          exact AllReady.nil
        exact AllReady.nil
      refine AllReady.cons rfl (fun K hK => ?_) ?_
      · have q0 := HB.out.cell 0
        have f0 := HB.out.frozen 0
        go_simp
        clear q0 f0
        replace HA := Lib.hid (HA.out.far (p := ⟨b, 0, none⟩) (by simp only; omega) (.int .i64 3))
        replace HC := Lib.hid (HC.out.far (p := ⟨b, 0, none⟩) (by simp only; omega) (.int .i64 3))
        replace HF := Lib.hid (HF.out.far (p := ⟨b, 0, none⟩) (by simp only; omega) (.int .i64 3))
        replace HB := Lib.hid (HB.out.set_ 0 (.int .i64 3))
        replace HW := Lib.hid (HW.out.setCell (p := ⟨b, 0, none⟩) (by simp only; omega) (.int .i64 3))
        refine hK _ _ ?_
        clear hK K
        refine wpAny_ready (rs := [4]) (by kernel_rfl) (by simp) ?_
        refine AllReady.cons rfl (fun K hK => ?_) ?_
        · have q0 := HF.out.cell 1
          go_simp
          clear q0
          refine hK _ _ ?_
          clear hK K
          refine wpAny_ready (rs := [7]) (by kernel_rfl) (by simp) ?_
          refine AllReady.cons rfl (fun K hK => ?_) ?_
          · have q0 := HC.out.cell 0
            have f0 := HC.out.frozen 0
            go_simp
            clear q0 f0
            replace HA := Lib.hid (HA.out.far (p := ⟨c, 0, none⟩) (by simp only; omega) (.int .i64 4))
            replace HB := Lib.hid (HB.out.far (p := ⟨c, 0, none⟩) (by simp only; omega) (.int .i64 4))
            replace HF := Lib.hid (HF.out.far (p := ⟨c, 0, none⟩) (by simp only; omega) (.int .i64 4))
            replace HC := Lib.hid (HC.out.set_ 0 (.int .i64 4))
            replace HW := Lib.hid (HW.out.setCell (p := ⟨c, 0, none⟩) (by simp only; omega) (.int .i64 4))
            refine hK _ _ ?_
            clear hK K
            refine wpAny_done (by kernel_rfl) ?_ _
            exact ⟨rfl, _, rfl, .tuple #[], by simp [results, Tryz.results39], rfl, rfl, HA.out, HB.out, HC.out, HW.out⟩
          exact AllReady.nil
        exact AllReady.nil
      exact AllReady.nil
    refine AllReady.cons rfl (fun K hK => ?_) ?_
    · have q0 := HF.out.cell 1
      go_simp
      clear q0
      refine hK _ _ ?_
      clear hK K
      refine wpAny_ready (rs := [2]) (by kernel_rfl) (by simp) ?_
      refine AllReady.cons rfl (fun K hK => ?_) ?_
      · have q0 := HF.out.cell 0
        go_simp
        clear q0
        refine hK _ _ ?_
        clear hK K
        refine wpAny_ready (rs := [6]) (by kernel_rfl) (by simp) ?_
        refine AllReady.cons rfl (fun K hK => ?_) ?_
        · have q0 := HB.out.cell 0
          have f0 := HB.out.frozen 0
          go_simp
          clear q0 f0
          replace HA := Lib.hid (HA.out.far (p := ⟨b, 0, none⟩) (by simp only; omega) (.int .i64 3))
          replace HC := Lib.hid (HC.out.far (p := ⟨b, 0, none⟩) (by simp only; omega) (.int .i64 3))
          replace HF := Lib.hid (HF.out.far (p := ⟨b, 0, none⟩) (by simp only; omega) (.int .i64 3))
          replace HB := Lib.hid (HB.out.set_ 0 (.int .i64 3))
          replace HW := Lib.hid (HW.out.setCell (p := ⟨b, 0, none⟩) (by simp only; omega) (.int .i64 3))
          refine hK _ _ ?_
          clear hK K
          refine wpAny_ready (rs := [7]) (by kernel_rfl) (by simp) ?_
          refine AllReady.cons rfl (fun K hK => ?_) ?_
          · have q0 := HC.out.cell 0
            have f0 := HC.out.frozen 0
            go_simp
            clear q0 f0
            replace HA := Lib.hid (HA.out.far (p := ⟨c, 0, none⟩) (by simp only; omega) (.int .i64 4))
            replace HB := Lib.hid (HB.out.far (p := ⟨c, 0, none⟩) (by simp only; omega) (.int .i64 4))
            replace HF := Lib.hid (HF.out.far (p := ⟨c, 0, none⟩) (by simp only; omega) (.int .i64 4))
            replace HC := Lib.hid (HC.out.set_ 0 (.int .i64 4))
            replace HW := Lib.hid (HW.out.setCell (p := ⟨c, 0, none⟩) (by simp only; omega) (.int .i64 4))
            refine hK _ _ ?_
            clear hK K
            refine wpAny_done (by kernel_rfl) ?_ _
            exact ⟨rfl, _, rfl, .tuple #[], by simp [results, Tryz.results39], rfl, rfl, HA.out, HB.out, HC.out, HW.out⟩
          exact AllReady.nil
        exact AllReady.nil
      exact AllReady.nil
    exact AllReady.nil
  exact AllReady.nil
end Go.Proofs.YtacnoedhpamdmaaGreatDoor
