/- Walks: are two parameters the same when both are normal (param.Same, quernref02.Same)? Conditions: as stated. -/
import Derived.Test.YtofcdffcaiajmaaDoorNm3
import Derived.Test.YtofcdffcaiajmaaDoorPa
import Derived.Test.YtofcdffcaiajmaaDoorWs
import Derived.Test.YtofcdffcaiajmaaDoorTwP
import Derived.Deep.DeepCutAuto
import Derived.Outline
namespace Go.Proofs.YtofcdffcaiajmaaDoor
open Go.RowKit
set_option linter.unusedVariables false

theorem ret_tb {k : IntKind} {a b : Bool} {e : Int} (h : a = b) : Ending.returned (.tuple #[.bool a, .int k e]) = .returned (.tuple #[.bool b, .int k e]) := by rw [h]
theorem step_load_row {P : Program} {ops : Array Oper} {o : Oper} {a : Act} {w : World} {K : Act → World → Prop} {Q : Exit → Act → World → Prop} {E : Prop} (hgd : o.guard = none) (ty : TypeId) (x : Operand) (ho : o.op = .load ty x)
    (g : Nat) (hx : a.eval x = .pointer (some ⟨g, 0, none⟩)) {t : TypeId} {cs : Array Value} (hg : Blk w g t cs) (d : TypeDesc)
    (hu : P.underlying ty = some d) (hd : (match d with | .struct _ | .array _ _ => true | _ => false) = true) (hi : (P.info? ty).map (·.size) = some cs.size)
    (h : K (a.put o.dst (.agg cs)) w) : if Region.wanted o (yielded ops a.tmps) = true then Oper.wp P o a w K Q else E := by
  have hw : Region.wanted o (yielded ops a.tmps) = true := by simp [Region.wanted, hgd]
  rw [if_pos hw]
  exact wp_load_row ty x ho g hx t cs (0, 0) d hg hu hd hi h
theorem step_storeB {P : Program} {ops : Array Oper} {o : Oper} {a : Act} {w : World} {K : Act → World → Prop} {Q : Exit → Act → World → Prop} {E : Prop} (hgd : o.guard = none) (ty : TypeId) (x y : Operand) (ho : o.op = .store ty x y) (hdst : o.dst = none)
    (g : Nat) (cs' : Array Value) (hx : a.eval x = .pointer (some ⟨g, 0, none⟩)) (hy : a.eval y = .agg cs') {t : TypeId} {cs : Array Value} (hg : Blk w g t cs) (hi : (P.info? ty).map (·.size) = some cs'.size) (hs : cs.size = cs'.size) (h1' : cs'.toList.all (·.oneCell') = true)
    (h : ∀ w', Blk w' g t cs' → w.grownBy w' (some g) → w'.heap.size = w.heap.size → K a w') : if Region.wanted o (yielded ops a.tmps) = true then Oper.wp P o a w K Q else E := by
  have h1 : cs'.all (·.oneCell') = true := by rw [← Array.all_toList]; exact h1'
  have hw : Region.wanted o (yielded ops a.tmps) = true := by simp [Region.wanted, hgd]
  rw [if_pos hw]
  unfold Oper.wp execOp
  simp only [ho, hx, hy, Instr.storeAt, Instr.sureAddr, Sem.run_bind, Sem.run_pure, Result.andThen_ok, run_storeVar_row w g t ty cs cs' hg hi hs h1]
  have := h (w.setRow g cs') (hg.setRow cs') (only_setRow w g cs') (by simp)
  simpa [Oper.upon, Act.put, hdst] using this
def smE (k : Int) (p q : Pm) : Int := if chkP k p ≠ 0 then chkP k p else chkP k q
def smB (k : Int) (p q : Pm) : Bool := decide (smE k p q = 0 ∧ p.norm = q.norm)
theorem trim_wf {xs : List Int} (h : ∀ z ∈ xs, 0 ≤ z ∧ z < 256) : ∀ z ∈ trim xs, 0 ≤ z ∧ z < 256 := trim_mem h
theorem norm_eq_iff {p q : Pm} : p.norm = q.norm ↔ (p.d = q.d ∧ p.key = q.key ∧ p.fo = q.fo ∧ p.de = q.de ∧ p.leaf = q.leaf ∧ p.off = q.off ∧ p.xof = q.xof ∧ p.nd = q.nd ∧ p.inn = q.inn ∧ trim p.s = trim q.s ∧ trim p.t = trim q.t) := by
  cases p; cases q
  simp [Pm.norm]
set_option maxRecDepth 100000 in
set_option maxHeartbeats 4000000 in
theorem c_Same_ok (k : Int) (p q : Pm) (sa1 sa2 ta1 ta2 : Option Addr) (sc1 sc2 tc1 tc2 : Nat) (w : World) (h1 : RdP w p sa1 sc1 ta1 tc1) (h2 : RdP w q sa2 sc2 ta2 tc2) (hp0 : chkP k p = 0) (hq0 : chkP k q = 0)
    (hps : ∀ z ∈ p.s, 0 ≤ z ∧ z < 256) (hpt : ∀ z ∈ p.t, 0 ≤ z ∧ z < 256) (hqs : ∀ z ∈ q.s, 0 ≤ z ∧ z < 256) (hqt : ∀ z ∈ q.t, 0 ≤ z ∧ z < 256) :
    Calls Tryd.prog 9 #[.int .i64 k, pvS p sa1 sc1 ta1 tc1, pvS q sa2 sc2 ta2 tc2] w fun e w' => e = .returned (.tuple #[.bool (decide (p.norm = q.norm)), .int .i64 0]) ∧ Below w.heap.size w w' := by
  have hb0 := ((Below.refl w.heap.size w).alloc (Nat.le_refl _) (.cells (pvC p sa1 sc1 ta1 tc1) 26)).alloc (by simp) (.cells (pvC q sa2 sc2 ta2 tc2) 26)
  have hP0 := (Blk.new w 26 (pvC p sa1 sc1 ta1 tc1)).alloc (.cells (pvC q sa2 sc2 ta2 tc2) 26)
  have hQ0 := Blk.new (w.alloc (.cells (pvC p sa1 sc1 ta1 tc1) 26)) 26 (pvC q sa2 sc2 ta2 tc2)
  simp only [World.size_alloc] at hQ0
  have hrp := h1.step hb0
  have hrq := h2.step hb0
  have hC1 := c_CheckP k p sa1 sc1 ta1 tc1
  have hC2 := c_CheckP k q sa2 sc2 ta2 tc2
  rw [hp0] at hC1
  rw [hq0] at hC2
  have HNP : Hid (∀ w, RdP w p sa1 sc1 ta1 tc1 → Calls Tryd.prog 20 #[pvS p sa1 sc1 ta1 tc1] w (GivesQ w p.norm)) := fun w h => c_normal p sa1 sc1 ta1 tc1 w h
  have HNQ : Hid (∀ w, RdP w q sa2 sc2 ta2 tc2 → Calls Tryd.prog 20 #[pvS q sa2 sc2 ta2 tc2] w (GivesQ w q.norm)) := fun w h => c_normal q sa2 sc2 ta2 tc2 w h
  have HC1 := Lib.hid hC1
  have HC2 := Lib.hid hC2
  have HP := Lib.hid hP0
  have HQ := Lib.hid hQ0
  have HB := Lib.hid hb0
  have bs1 : p.norm.s.length ≤ 140737488351232 := Nat.le_trans (trim_le _) h1.bs
  have bt1 : p.norm.t.length ≤ 140737488351232 := Nat.le_trans (trim_le _) h1.bt
  have bs2 : q.norm.s.length ≤ 140737488351232 := Nat.le_trans (trim_le _) h2.bs
  have bt2 : q.norm.t.length ≤ 140737488351232 := Nat.le_trans (trim_le _) h2.bt
  have HBY : Hid ((∀ z ∈ p.norm.s, 0 ≤ z ∧ z < 256) ∧ (∀ z ∈ p.norm.t, 0 ≤ z ∧ z < 256) ∧ (∀ z ∈ q.norm.s, 0 ≤ z ∧ z < 256) ∧ (∀ z ∈ q.norm.t, 0 ≤ z ∧ z < 256)) := ⟨trim_mem hps, trim_mem hpt, trim_mem hqs, trim_mem hqt⟩
  have HEQ : Hid (p.norm = q.norm ↔ (p.d = q.d ∧ p.key = q.key ∧ p.fo = q.fo ∧ p.de = q.de ∧ p.leaf = q.leaf ∧ p.off = q.off ∧ p.xof = q.xof ∧ p.nd = q.nd ∧ p.inn = q.inn ∧ p.norm.s = q.norm.s ∧ p.norm.t = q.norm.t)) := norm_eq_iff
  obtain ⟨D, hD⟩ : ∃ D, decide (p.norm = q.norm) = D := ⟨_, rfl⟩
  rw [hD]
  have HD : Hid (D = true ↔ p.norm = q.norm) := by show _ ↔ _; rw [← hD]; simp
  clear hb0 hP0 hQ0 h1 h2 hC1 hC2 hp0 hq0 hps hpt hqs hqt hD
  simp only [pvS, pv]
  go_enter Tryd.func9, Tryd.ntmps9
  go_wp2_with fail
  refine (HC1.out _).mono ?_
  rintro e w1 ⟨rfl, hb1⟩
  have hrp1 := hrp.step hb1
  have hrq1 := hrq.step hb1
  have HP1 := Lib.hid (HP.out.below hb1 HP.out.lt)
  have HQ1 := Lib.hid (HQ.out.below hb1 HQ.out.lt)
  have HB1 := Lib.hid (HB.out.trans (hb1.mono HB.out.size))
  clear hb1 HP HQ HB hrp hrq
  go_wp2_with (refine wpList_load_row rfl 26 (.tmp 5) rfl (w.heap.size + 1) rfl 26 _ (0, 0) _ HQ1.out Tryd.underlying26 rfl (by kernel_rfl) ?_)
  refine (HC2.out _).mono ?_
  rintro e w2 ⟨rfl, hb2⟩
  have hrp := (hrp1.step hb2)
  have hrq := (hrq1.step hb2)
  have HP := Lib.hid (HP1.out.below hb2 HP1.out.lt)
  have HQ := Lib.hid (HQ1.out.below hb2 HQ1.out.lt)
  have HB := Lib.hid (HB1.out.trans (hb2.mono HB1.out.size))
  clear hb2 HP1 HQ1 HB1 hrp1 hrq1
  go_upto_region 7 with fail
  go_cut [] (fun wx => ∃ As cs At ct As2 cs2 At2 ct2, Blk wx w.heap.size 26 (pvC p.norm As cs At ct) ∧ Blk wx (w.heap.size + 1) 26 (pvC q.norm As2 cs2 At2 ct2) ∧ RdP wx p.norm As cs At ct ∧ RdP wx q.norm As2 cs2 At2 ct2 ∧ Below w.heap.size w wx)
  case first =>
    refine wp_region_any (by kernel_rfl) ?_
    try (change wpAny _ _ _ _ _ _ _ (World.drew _))
    have HPd := Lib.hid HP.out.drew
    have HQd := Lib.hid HQ.out.drew
    have HBd := Lib.hid HB.out.drew
    have hrpd : RdP w2.drew p sa1 sc1 ta1 tc1 := hrp.step (Below.refl _ _).drew
    have hrqd : RdP w2.drew q sa2 sc2 ta2 tc2 := hrq.step (Below.refl _ _).drew
    clear HP HQ HB hrp hrq
    have HP := HPd
    have HQ := HQd
    have HB := HBd
    have hrp := hrpd
    have hrq := hrqd
    clear HPd HQd HBd hrpd hrqd
    have hszB := HB.out.size
    refine wpAny_ready (rs := [0, 2]) (by kernel_rfl) (by simp) ?_
    refine AllReady.cons rfl (fun K hK => ?_) ?_
    · refine step_load_row rfl 26 (.tmp 4) rfl w.heap.size rfl HP.out _ Tryd.underlying26 rfl (by kernel_rfl) ?_
      refine hK _ _ ?_
      clear hK K
      refine wpAny_ready (rs := [1, 2]) (by kernel_rfl) (by simp) ?_
      refine AllReady.cons rfl (fun K hK => ?_) ?_
      · go_simp
        refine (HNP.out _ hrp).mono ?_
        rintro e w1 ⟨As, cs, At, ct, rfl, o1, o2, hb1⟩
        have hrq1 := hrq.step hb1
        have HP1 := Lib.hid (HP.out.below hb1 HP.out.lt)
        have HQ1 := Lib.hid (HQ.out.below hb1 HQ.out.lt)
        have HB1 := Lib.hid (HB.out.trans (hb1.mono HB.out.size))
        have hz1 := hb1.size
        have hl1 := HQ.out.lt
        clear hb1 HP HQ HB hrq
        have HP := HP1
        have HQ := HQ1
        have HB := HB1
        have hrq := hrq1
        clear HP1 HQ1 HB1 hrq1
        go_simp
        refine hK _ _ ?_
        clear hK K
        refine wpAny_ready (rs := [2]) (by kernel_rfl) (by simp) ?_
        refine AllReady.cons rfl (fun K hK => ?_) ?_
        · refine step_load_row rfl 26 (.tmp 5) rfl (w.heap.size + 1) rfl HQ.out _ Tryd.underlying26 rfl (by kernel_rfl) ?_
          refine hK _ _ ?_
          clear hK K
          refine wpAny_ready (rs := [3]) (by kernel_rfl) (by simp) ?_
          refine AllReady.cons rfl (fun K hK => ?_) ?_
          · go_simp
            refine (HNQ.out _ hrq).mono ?_
            rintro e w2 ⟨As2, cs2, At2, ct2, rfl, o3, o4, hb2⟩
            have o1b := own_below o1 hb2
            have o2b := own_below o2 hb2
            have HP2 := Lib.hid (HP.out.below hb2 HP.out.lt)
            have HQ2 := Lib.hid (HQ.out.below hb2 HQ.out.lt)
            have HB2 := Lib.hid (HB.out.trans (hb2.mono HB.out.size))
            have hz2 := hb2.size
            have hl2 := HQ.out.lt
            have o1 := own_base (base' := w.heap.size + 2) o1b (by omega)
            have o2 := own_base (base' := w.heap.size + 2) o2b (by omega)
            have o3 := own_base (base' := w.heap.size + 2) o3 (by omega)
            have o4 := own_base (base' := w.heap.size + 2) o4 (by omega)
            clear hb2 HP HQ HB
            have HP := HP2
            have HQ := HQ2
            have HB := HB2
            clear HP2 HQ2 HB2
            go_simp
            refine hK _ _ ?_
            clear hK K
            refine wpAny_ready (rs := [4]) (by kernel_rfl) (by simp) ?_
            refine AllReady.cons rfl (fun K hK => ?_) ?_
            · refine step_storeB rfl 26 (.tmp 4) (.tmp 23) rfl rfl w.heap.size (pvC p.norm As cs At ct) rfl rfl HP.out (by kernel_rfl) rfl rfl ?_
              intro w4 hB4 hg4 hz4
              have o14 := own_far o1 hg4 (by omega)
              have o24 := own_far o2 hg4 (by omega)
              have o34 := own_far o3 hg4 (by omega)
              have o44 := own_far o4 hg4 (by omega)
              have HX := Lib.hid (HQ.out.grown hg4 (by simp))
              have HBX := Lib.hid (HB.out.grown hg4 HB.out.size (fun _ h => by injection h with h; omega))
              have HY := Lib.hid hB4
              clear hB4 hg4 o1 o2 o3 o4 HP HQ HB
              have HQ := HX
              have HP := HY
              have HB := HBX
              have o1 := o14
              have o2 := o24
              have o3 := o34
              have o4 := o44
              clear HX HY HBX o14 o24 o34 o44
              refine hK _ _ ?_
              clear hK K
              refine wpAny_ready (rs := [5]) (by kernel_rfl) (by simp) ?_
              refine AllReady.cons rfl (fun K hK => ?_) ?_
              · refine step_storeB rfl 26 (.tmp 5) (.tmp 25) rfl rfl (w.heap.size + 1) (pvC q.norm As2 cs2 At2 ct2) rfl rfl HQ.out (by kernel_rfl) rfl rfl ?_
                intro w5 hB5 hg5 hz5
                have o15 := own_far o1 hg5 (by omega)
                have o25 := own_far o2 hg5 (by omega)
                have o35 := own_far o3 hg5 (by omega)
                have o45 := own_far o4 hg5 (by omega)
                have HX := Lib.hid (HP.out.grown hg5 (by simp))
                have HBX := Lib.hid (HB.out.grown hg5 HB.out.size (fun _ h => by injection h with h; omega))
                have HY := Lib.hid hB5
                clear hB5 hg5 o1 o2 o3 o4 HP HQ HB
                have HP := HX
                have HQ := HY
                have HB := HBX
                have o1 := o15
                have o2 := o25
                have o3 := o35
                have o4 := o45
                clear HX HY HBX o15 o25 o35 o45
                refine hK _ _ ?_
                clear hK K
                refine wpAny_done (by kernel_rfl) ?_ _
                go_wp2_with fail
                go_meet
                exact ⟨As, cs, At, ct, As2, cs2, At2, ct2, HP.out, HQ.out, own_rd o1 o2 bs1 bt1, own_rd o3 o4 bs2 bt2, HB.out⟩
              exact AllReady.nil
            exact AllReady.nil
          exact AllReady.nil
        exact AllReady.nil
      refine AllReady.cons rfl (fun K hK => ?_) ?_
      · refine step_load_row rfl 26 (.tmp 5) rfl (w.heap.size + 1) rfl HQ.out _ Tryd.underlying26 rfl (by kernel_rfl) ?_
        refine hK _ _ ?_
        clear hK K
        refine wpAny_ready (rs := [1]) (by kernel_rfl) (by simp) ?_
        refine AllReady.cons rfl (fun K hK => ?_) ?_
        · go_simp
          refine (HNP.out _ hrp).mono ?_
          rintro e w1 ⟨As, cs, At, ct, rfl, o1, o2, hb1⟩
          have hrq1 := hrq.step hb1
          have HP1 := Lib.hid (HP.out.below hb1 HP.out.lt)
          have HQ1 := Lib.hid (HQ.out.below hb1 HQ.out.lt)
          have HB1 := Lib.hid (HB.out.trans (hb1.mono HB.out.size))
          have hz1 := hb1.size
          have hl1 := HQ.out.lt
          clear hb1 HP HQ HB hrq
          have HP := HP1
          have HQ := HQ1
          have HB := HB1
          have hrq := hrq1
          clear HP1 HQ1 HB1 hrq1
          go_simp
          refine hK _ _ ?_
          clear hK K
          refine wpAny_ready (rs := [3]) (by kernel_rfl) (by simp) ?_
          refine AllReady.cons rfl (fun K hK => ?_) ?_
          · go_simp
            refine (HNQ.out _ hrq).mono ?_
            rintro e w2 ⟨As2, cs2, At2, ct2, rfl, o3, o4, hb2⟩
            have o1b := own_below o1 hb2
            have o2b := own_below o2 hb2
            have HP2 := Lib.hid (HP.out.below hb2 HP.out.lt)
            have HQ2 := Lib.hid (HQ.out.below hb2 HQ.out.lt)
            have HB2 := Lib.hid (HB.out.trans (hb2.mono HB.out.size))
            have hz2 := hb2.size
            have hl2 := HQ.out.lt
            have o1 := own_base (base' := w.heap.size + 2) o1b (by omega)
            have o2 := own_base (base' := w.heap.size + 2) o2b (by omega)
            have o3 := own_base (base' := w.heap.size + 2) o3 (by omega)
            have o4 := own_base (base' := w.heap.size + 2) o4 (by omega)
            clear hb2 HP HQ HB
            have HP := HP2
            have HQ := HQ2
            have HB := HB2
            clear HP2 HQ2 HB2
            go_simp
            refine hK _ _ ?_
            clear hK K
            refine wpAny_ready (rs := [4]) (by kernel_rfl) (by simp) ?_
            refine AllReady.cons rfl (fun K hK => ?_) ?_
            · refine step_storeB rfl 26 (.tmp 4) (.tmp 23) rfl rfl w.heap.size (pvC p.norm As cs At ct) rfl rfl HP.out (by kernel_rfl) rfl rfl ?_
              intro w4 hB4 hg4 hz4
              have o14 := own_far o1 hg4 (by omega)
              have o24 := own_far o2 hg4 (by omega)
              have o34 := own_far o3 hg4 (by omega)
              have o44 := own_far o4 hg4 (by omega)
              have HX := Lib.hid (HQ.out.grown hg4 (by simp))
              have HBX := Lib.hid (HB.out.grown hg4 HB.out.size (fun _ h => by injection h with h; omega))
              have HY := Lib.hid hB4
              clear hB4 hg4 o1 o2 o3 o4 HP HQ HB
              have HQ := HX
              have HP := HY
              have HB := HBX
              have o1 := o14
              have o2 := o24
              have o3 := o34
              have o4 := o44
              clear HX HY HBX o14 o24 o34 o44
              refine hK _ _ ?_
              clear hK K
              refine wpAny_ready (rs := [5]) (by kernel_rfl) (by simp) ?_
              refine AllReady.cons rfl (fun K hK => ?_) ?_
              · refine step_storeB rfl 26 (.tmp 5) (.tmp 25) rfl rfl (w.heap.size + 1) (pvC q.norm As2 cs2 At2 ct2) rfl rfl HQ.out (by kernel_rfl) rfl rfl ?_
                intro w5 hB5 hg5 hz5
                have o15 := own_far o1 hg5 (by omega)
                have o25 := own_far o2 hg5 (by omega)
                have o35 := own_far o3 hg5 (by omega)
                have o45 := own_far o4 hg5 (by omega)
                have HX := Lib.hid (HP.out.grown hg5 (by simp))
                have HBX := Lib.hid (HB.out.grown hg5 HB.out.size (fun _ h => by injection h with h; omega))
                have HY := Lib.hid hB5
                clear hB5 hg5 o1 o2 o3 o4 HP HQ HB
                have HP := HX
                have HQ := HY
                have HB := HBX
                have o1 := o15
                have o2 := o25
                have o3 := o35
                have o4 := o45
                clear HX HY HBX o15 o25 o35 o45
                refine hK _ _ ?_
                clear hK K
                refine wpAny_done (by kernel_rfl) ?_ _
                go_wp2_with fail
                go_meet
                exact ⟨As, cs, At, ct, As2, cs2, At2, ct2, HP.out, HQ.out, own_rd o1 o2 bs1 bt1, own_rd o3 o4 bs2 bt2, HB.out⟩
              exact AllReady.nil
            exact AllReady.nil
          exact AllReady.nil
        exact AllReady.nil
      exact AllReady.nil
    refine AllReady.cons rfl (fun K hK => ?_) ?_
    · refine step_load_row rfl 26 (.tmp 5) rfl (w.heap.size + 1) rfl HQ.out _ Tryd.underlying26 rfl (by kernel_rfl) ?_
      refine hK _ _ ?_
      clear hK K
      refine wpAny_ready (rs := [0]) (by kernel_rfl) (by simp) ?_
      refine AllReady.cons rfl (fun K hK => ?_) ?_
      · refine step_load_row rfl 26 (.tmp 4) rfl w.heap.size rfl HP.out _ Tryd.underlying26 rfl (by kernel_rfl) ?_
        refine hK _ _ ?_
        clear hK K
        refine wpAny_ready (rs := [1]) (by kernel_rfl) (by simp) ?_
        refine AllReady.cons rfl (fun K hK => ?_) ?_
        · go_simp
          refine (HNP.out _ hrp).mono ?_
          rintro e w1 ⟨As, cs, At, ct, rfl, o1, o2, hb1⟩
          have hrq1 := hrq.step hb1
          have HP1 := Lib.hid (HP.out.below hb1 HP.out.lt)
          have HQ1 := Lib.hid (HQ.out.below hb1 HQ.out.lt)
          have HB1 := Lib.hid (HB.out.trans (hb1.mono HB.out.size))
          have hz1 := hb1.size
          have hl1 := HQ.out.lt
          clear hb1 HP HQ HB hrq
          have HP := HP1
          have HQ := HQ1
          have HB := HB1
          have hrq := hrq1
          clear HP1 HQ1 HB1 hrq1
          go_simp
          refine hK _ _ ?_
          clear hK K
          refine wpAny_ready (rs := [3]) (by kernel_rfl) (by simp) ?_
          refine AllReady.cons rfl (fun K hK => ?_) ?_
          · go_simp
            refine (HNQ.out _ hrq).mono ?_
            rintro e w2 ⟨As2, cs2, At2, ct2, rfl, o3, o4, hb2⟩
            have o1b := own_below o1 hb2
            have o2b := own_below o2 hb2
            have HP2 := Lib.hid (HP.out.below hb2 HP.out.lt)
            have HQ2 := Lib.hid (HQ.out.below hb2 HQ.out.lt)
            have HB2 := Lib.hid (HB.out.trans (hb2.mono HB.out.size))
            have hz2 := hb2.size
            have hl2 := HQ.out.lt
            have o1 := own_base (base' := w.heap.size + 2) o1b (by omega)
            have o2 := own_base (base' := w.heap.size + 2) o2b (by omega)
            have o3 := own_base (base' := w.heap.size + 2) o3 (by omega)
            have o4 := own_base (base' := w.heap.size + 2) o4 (by omega)
            clear hb2 HP HQ HB
            have HP := HP2
            have HQ := HQ2
            have HB := HB2
            clear HP2 HQ2 HB2
            go_simp
            refine hK _ _ ?_
            clear hK K
            refine wpAny_ready (rs := [4]) (by kernel_rfl) (by simp) ?_
            refine AllReady.cons rfl (fun K hK => ?_) ?_
            · refine step_storeB rfl 26 (.tmp 4) (.tmp 23) rfl rfl w.heap.size (pvC p.norm As cs At ct) rfl rfl HP.out (by kernel_rfl) rfl rfl ?_
              intro w4 hB4 hg4 hz4
              have o14 := own_far o1 hg4 (by omega)
              have o24 := own_far o2 hg4 (by omega)
              have o34 := own_far o3 hg4 (by omega)
              have o44 := own_far o4 hg4 (by omega)
              have HX := Lib.hid (HQ.out.grown hg4 (by simp))
              have HBX := Lib.hid (HB.out.grown hg4 HB.out.size (fun _ h => by injection h with h; omega))
              have HY := Lib.hid hB4
              clear hB4 hg4 o1 o2 o3 o4 HP HQ HB
              have HQ := HX
              have HP := HY
              have HB := HBX
              have o1 := o14
              have o2 := o24
              have o3 := o34
              have o4 := o44
              clear HX HY HBX o14 o24 o34 o44
              refine hK _ _ ?_
              clear hK K
              refine wpAny_ready (rs := [5]) (by kernel_rfl) (by simp) ?_
              refine AllReady.cons rfl (fun K hK => ?_) ?_
              · refine step_storeB rfl 26 (.tmp 5) (.tmp 25) rfl rfl (w.heap.size + 1) (pvC q.norm As2 cs2 At2 ct2) rfl rfl HQ.out (by kernel_rfl) rfl rfl ?_
                intro w5 hB5 hg5 hz5
                have o15 := own_far o1 hg5 (by omega)
                have o25 := own_far o2 hg5 (by omega)
                have o35 := own_far o3 hg5 (by omega)
                have o45 := own_far o4 hg5 (by omega)
                have HX := Lib.hid (HP.out.grown hg5 (by simp))
                have HBX := Lib.hid (HB.out.grown hg5 HB.out.size (fun _ h => by injection h with h; omega))
                have HY := Lib.hid hB5
                clear hB5 hg5 o1 o2 o3 o4 HP HQ HB
                have HP := HX
                have HQ := HY
                have HB := HBX
                have o1 := o15
                have o2 := o25
                have o3 := o35
                have o4 := o45
                clear HX HY HBX o15 o25 o35 o45
                refine hK _ _ ?_
                clear hK K
                refine wpAny_done (by kernel_rfl) ?_ _
                go_wp2_with fail
                go_meet
                exact ⟨As, cs, At, ct, As2, cs2, At2, ct2, HP.out, HQ.out, own_rd o1 o2 bs1 bt1, own_rd o3 o4 bs2 bt2, HB.out⟩
              exact AllReady.nil
            exact AllReady.nil
          exact AllReady.nil
        exact AllReady.nil
      exact AllReady.nil
    exact AllReady.nil
  case rest =>
    obtain ⟨As, cs, At, ct, As2, cs2, At2, ct2, hP, hQ, r1, r2, hB⟩ := hcut
    have hW1 := c_wSame As As2 _ cs _ cs2 p.norm.s q.norm.s wc wc.heap.size r1.rs r2.rs HBY.out.1 HBY.out.2.2.1
    have hW2 := c_wSame At At2 _ ct _ ct2 p.norm.t q.norm.t wc wc.heap.size r1.rt r2.rt HBY.out.2.1 HBY.out.2.2.2
    have g9 : wc.cell? ⟨w.heap.size, 9, none⟩ = some (.slice As p.norm.s.length cs) := hP.cell 9
    have g10 : wc.cell? ⟨w.heap.size, 10, none⟩ = some (.slice At p.norm.t.length ct) := hP.cell 10
    have k9 : wc.cell? ⟨w.heap.size + 1, 9, none⟩ = some (.slice As2 q.norm.s.length cs2) := hQ.cell 9
    have k10 : wc.cell? ⟨w.heap.size + 1, 10, none⟩ = some (.slice At2 q.norm.t.length ct2) := hQ.cell 10
    have g0 : wc.cell? ⟨w.heap.size, 0, none⟩ = some (.int .i64 p.d) := hP.cell 0
    have k0 : wc.cell? ⟨w.heap.size + 1, 0, none⟩ = some (.int .i64 q.d) := hQ.cell 0
    have g1 : wc.cell? ⟨w.heap.size, 1, none⟩ = some (.int .i64 p.key) := hP.cell 1
    have k1 : wc.cell? ⟨w.heap.size + 1, 1, none⟩ = some (.int .i64 q.key) := hQ.cell 1
    have g2 : wc.cell? ⟨w.heap.size, 2, none⟩ = some (.int .i64 p.fo) := hP.cell 2
    have k2 : wc.cell? ⟨w.heap.size + 1, 2, none⟩ = some (.int .i64 q.fo) := hQ.cell 2
    have g3 : wc.cell? ⟨w.heap.size, 3, none⟩ = some (.int .i64 p.de) := hP.cell 3
    have k3 : wc.cell? ⟨w.heap.size + 1, 3, none⟩ = some (.int .i64 q.de) := hQ.cell 3
    have g4 : wc.cell? ⟨w.heap.size, 4, none⟩ = some (.int .u32 p.leaf) := hP.cell 4
    have k4 : wc.cell? ⟨w.heap.size + 1, 4, none⟩ = some (.int .u32 q.leaf) := hQ.cell 4
    have g5 : wc.cell? ⟨w.heap.size, 5, none⟩ = some (.int .u64 p.off) := hP.cell 5
    have k5 : wc.cell? ⟨w.heap.size + 1, 5, none⟩ = some (.int .u64 q.off) := hQ.cell 5
    have g6 : wc.cell? ⟨w.heap.size, 6, none⟩ = some (.int .u32 p.xof) := hP.cell 6
    have k6 : wc.cell? ⟨w.heap.size + 1, 6, none⟩ = some (.int .u32 q.xof) := hQ.cell 6
    have g7 : wc.cell? ⟨w.heap.size, 7, none⟩ = some (.int .i64 p.nd) := hP.cell 7
    have k7 : wc.cell? ⟨w.heap.size + 1, 7, none⟩ = some (.int .i64 q.nd) := hQ.cell 7
    have g8 : wc.cell? ⟨w.heap.size, 8, none⟩ = some (.int .i64 p.inn) := hP.cell 8
    have k8 : wc.cell? ⟨w.heap.size + 1, 8, none⟩ = some (.int .i64 q.inn) := hQ.cell 8
    have HB1 : Hid (decide (p.norm.s = q.norm.s) = true ↔ p.norm.s = q.norm.s) := by show _ ↔ _; simp
    have HB2 : Hid (decide (p.norm.t = q.norm.t) = true ↔ p.norm.t = q.norm.t) := by show _ ↔ _; simp
    have HEB : Hid (D = true ↔ (p.d = q.d ∧ p.key = q.key ∧ p.fo = q.fo ∧ p.de = q.de ∧ p.leaf = q.leaf ∧ p.off = q.off ∧ p.xof = q.xof ∧ p.nd = q.nd ∧ p.inn = q.inn ∧ decide (p.norm.s = q.norm.s) = true ∧ decide (p.norm.t = q.norm.t) = true)) := by
      show _ ↔ _
      rw [HD.out, HEQ.out, HB1.out, HB2.out]
    generalize decide (p.norm.s = q.norm.s) = B1 at *
    generalize decide (p.norm.t = q.norm.t) = B2 at *
    generalize p.norm.s.length = n1 at *
    generalize p.norm.t.length = n2 at *
    generalize q.norm.s.length = n3 at *
    generalize q.norm.t.length = n4 at *
    have HW1 := Lib.hid hW1
    have HW2 := Lib.hid hW2
    have HBel := Lib.hid hB
    clear hW1 hW2 HB1 HB2 HEQ HD HBY hP hQ r1 r2 hB HNP HNQ HC1 HC2 HP HQ HB hrp hrq bs1 bs2 bt1 bt2
    go_wp2_with (first | (go_at_call 21; (with_reducible refine HW1.out.mono ?_); rintro e w' ⟨rfl, rfl⟩) | (go_at_call 21; (with_reducible refine HW2.out.mono ?_); rintro e w' ⟨rfl, rfl⟩))
    all_goals
      go_ret2
      refine ⟨?_, HBel.out⟩
      have hE := HEB.out
      clear HEB HW1 HW2 HBel g0 g1 g2 g3 g4 g5 g6 g7 g8 g9 g10 k0 k1 k2 k3 k4 k5 k6 k7 k8 k9 k10
      refine ret_tb ?_
      rw [Bool.eq_iff_iff, hE]
      grind
set_option maxRecDepth 100000 in
set_option maxHeartbeats 1000000 in
theorem c_Same (k : Int) (p q : Pm) (sa1 sa2 ta1 ta2 : Option Addr) (sc1 sc2 tc1 tc2 : Nat) (w : World) (h1 : RdP w p sa1 sc1 ta1 tc1) (h2 : RdP w q sa2 sc2 ta2 tc2)
    (hps : ∀ z ∈ p.s, 0 ≤ z ∧ z < 256) (hpt : ∀ z ∈ p.t, 0 ≤ z ∧ z < 256) (hqs : ∀ z ∈ q.s, 0 ≤ z ∧ z < 256) (hqt : ∀ z ∈ q.t, 0 ≤ z ∧ z < 256) :
    Calls Tryd.prog 9 #[.int .i64 k, pvS p sa1 sc1 ta1 tc1, pvS q sa2 sc2 ta2 tc2] w fun e w' => e = .returned (.tuple #[.bool (smB k p q), .int .i64 (smE k p q)]) ∧ Below w.heap.size w w' := by
  by_cases hp : chkP k p = 0
  · by_cases hq : chkP k q = 0
    · have e1 : smE k p q = 0 := by unfold smE; rw [if_neg (fun h => h hp), hq]
      have e2 : smB k p q = decide (p.norm = q.norm) := by unfold smB; simp [e1]
      rw [e1, e2]
      exact c_Same_ok k p q sa1 sa2 ta1 ta2 sc1 sc2 tc1 tc2 w h1 h2 hp hq hps hpt hqs hqt
    · have e1 : smE k p q = chkP k q := by unfold smE; rw [if_neg (fun h => h hp)]
      have e2 : smB k p q = false := by unfold smB; exact decide_eq_false (fun h => hq (e1 ▸ h.1))
      rw [e1, e2]
      have hb0 := ((Below.refl w.heap.size w).alloc (Nat.le_refl _) (.cells (pvC p sa1 sc1 ta1 tc1) 26)).alloc (by simp) (.cells (pvC q sa2 sc2 ta2 tc2) 26)
      have hQ0 := Blk.new (w.alloc (.cells (pvC p sa1 sc1 ta1 tc1) 26)) 26 (pvC q sa2 sc2 ta2 tc2)
      simp only [World.size_alloc] at hQ0
      have hC1 := c_CheckP k p sa1 sc1 ta1 tc1
      have hC2 := c_CheckP k q sa2 sc2 ta2 tc2
      rw [hp] at hC1
      have hne : (chkP k q != 0) = true := by simpa using hq
      generalize chkP k q = E at *
      have HC1 := Lib.hid hC1
      have HC2 := Lib.hid hC2
      have HQ := Lib.hid hQ0
      have HB := Lib.hid hb0
      clear hb0 hQ0 hC1 hC2 h1 h2 hps hpt hqs hqt hp hq e1 e2
      simp only [pvS, pv]
      go_enter Tryd.func9, Tryd.ntmps9
      go_wp2_with fail
      refine (HC1.out _).mono ?_
      rintro e w1 ⟨rfl, hb1⟩
      have HQ1 := Lib.hid (HQ.out.below hb1 HQ.out.lt)
      have HB1 := Lib.hid (HB.out.trans (hb1.mono HB.out.size))
      clear hb1 HQ HB
      go_wp2_with (refine wpList_load_row rfl 26 (.tmp 5) rfl (w.heap.size + 1) rfl 26 _ (0, 0) _ HQ1.out Tryd.underlying26 rfl (by kernel_rfl) ?_)
      refine (HC2.out _).mono ?_
      rintro e w2 ⟨rfl, hb2⟩
      have HB := Lib.hid (HB1.out.trans (hb2.mono HB1.out.size))
      clear hb2 HQ1 HB1
      go_wp2_with fail
      go_ret2
      exact ⟨rfl, HB.out⟩
  · have e1 : smE k p q = chkP k p := by unfold smE; rw [if_pos hp]
    have e2 : smB k p q = false := by unfold smB; exact decide_eq_false (fun h => hp (e1 ▸ h.1))
    rw [e1, e2]
    have hb0 := ((Below.refl w.heap.size w).alloc (Nat.le_refl _) (.cells (pvC p sa1 sc1 ta1 tc1) 26)).alloc (by simp) (.cells (pvC q sa2 sc2 ta2 tc2) 26)
    have hC1 := c_CheckP k p sa1 sc1 ta1 tc1
    have hne : (chkP k p != 0) = true := by simpa using hp
    generalize chkP k p = E at *
    have HC1 := Lib.hid hC1
    have HB := Lib.hid hb0
    clear hb0 hC1 h1 h2 hps hpt hqs hqt hp e1 e2
    simp only [pvS, pv]
    go_enter Tryd.func9, Tryd.ntmps9
    go_wp2_with fail
    refine (HC1.out _).mono ?_
    rintro e w1 ⟨rfl, hb1⟩
    have HB1 := Lib.hid (HB.out.trans (hb1.mono HB.out.size))
    clear hb1 HB
    go_wp2_with fail
    go_ret2
    exact ⟨rfl, HB1.out⟩
end Go.Proofs.YtofcdffcaiajmaaDoor
