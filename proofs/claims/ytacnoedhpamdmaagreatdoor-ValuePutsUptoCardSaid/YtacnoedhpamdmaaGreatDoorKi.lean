/- Walk: the law ValuePuts. Conditions: the values as they read, their bulk together at most 1048576; the ways as they read. -/
import Derived.Test.YtacnoedhpamdmaaGreatDoorKg
import Derived.Test.YtacnoedhpamdmaaGreatDoorKh
import Derived.Test.YtacnoedhpamdmaaGreatDoorYw
import Derived.BigQuiet
import Derived.Deep.QuietTactic
namespace Go.Proofs.YtacnoedhpamdmaaGreatDoor
open Go.RowKit
set_option linter.unusedVariables false
set_option linter.unusedSimpArgs false
attribute [local go_sem ↓] Go.wp_at_zero Go.wp_at_succ

theorem wpList_load_rowG6 {P : Program} {ops : Array Oper} {rest : List Oper} {o : Oper} {a : Act} {w : World} {Q : Exit → Act → World → Prop} (hgd : Region.wanted o (yielded ops a.tmps) = true) (ty : TypeId) (x : Operand) (ho : o.op = .load ty x)
    (g : Nat) (hx : a.eval x = .pointer (some ⟨g, 0, none⟩)) (t : TypeId) (cs : Array Value) (fr : Nat × Nat) (d : TypeDesc) (hg : w.heap[g]? = some (.cells cs t fr))
    (hu : P.underlying ty = some d) (hd : (match d with | .struct _ | .array _ _ => true | _ => false) = true) (hi : (P.info? ty).map (·.size) = some cs.size)
    (h : wpList P ops Q rest (a.put o.dst (.agg cs)) w) : wpList P ops Q (o :: rest) a w :=
  wpList_step fun K hK => by
    rw [if_pos hgd]
    exact wp_load_row ty x ho g hx t cs fr d hg hu hd hi (hK _ _ h)
theorem putA_err {v y u : Val} {way : List Int} {e : Int} (h : putA v way y = (u, e)) (he : ¬ e = 0) : u = zvV := by
  by_cases hb : bothK v y = 0
  · cases hz : atV v way with
    | none =>
      rw [putA_none hb hz] at h
      exact (Prod.mk.inj h).1.symm
    | some x =>
      by_cases hc : chk fone (putV v way y) = 0
      · rw [putA_some hb hz hc] at h
        exact absurd (Prod.mk.inj h).2.symm he
      · rw [putA_bad hb hz hc] at h
        exact (Prod.mk.inj h).1.symm
  · rw [putA_both hb] at h
    exact (Prod.mk.inj h).1.symm
theorem putA_ok {v y u : Val} {way : List Int} (h : putA v way y = (u, 0)) : chk fone v = 0 ∧ chk fone y = 0 ∧ (∃ x, atV v way = some x) ∧ u = putV v way y ∧ chk fone u = 0 := by
  by_cases hb : bothK v y = 0
  · have hbb := bothK_zero hb
    cases hz : atV v way with
    | none =>
      rw [putA_none hb hz] at h
      have := (Prod.mk.inj h).2
      cases this
    | some x =>
      by_cases hc : chk fone (putV v way y) = 0
      · rw [putA_some hb hz hc] at h
        have := (Prod.mk.inj h).1
        exact ⟨hbb.1, hbb.2, ⟨x, rfl⟩, this.symm, this ▸ hc⟩
      · rw [putA_bad hb hz hc] at h
        exact absurd (Prod.mk.inj h).2 hc
  · rw [putA_both hb] at h
    exact absurd (Prod.mk.inj h).2 hb
theorem atA_put {v y u : Val} {way : List Int} (h : putA v way y = (u, 0)) : atA u way = (y, 0) := by
  obtain ⟨_, _, ⟨x, hx⟩, rfl, hc⟩ := putA_ok h
  exact atA_some hc (at_put hx)
theorem atA_else {v y u : Val} {i j : Int} {r s : List Int} (h : putA v (i :: r) y = (u, 0)) (hne : i ≠ j) : atA u (j :: s) = atA v (j :: s) := by
  obtain ⟨hv, _, ⟨x, hx⟩, rfl, hc⟩ := putA_ok h
  unfold atA
  rw [if_pos hc, if_pos hv, at_else hx hne]
/-- The law's arguments, as they lie at a time. -/
structure PS (w W : World) (v y : Val) (cs cy : List Value) (A A' : Option Addr) (n n' : Nat) (way other : List Int) : Prop where
  bx : Box W w.heap.size cs
  bz : Box W (w.heap.size + 1) cy
  rv : RV W v cs
  ry : RV W y cy
  wa : Reads W W.heap.size 1 A n (i64s way)
  wo : Reads W W.heap.size 1 A' n' (i64s other)
  kp : Below w.heap.size w W
theorem PS.step {w W W' : World} {v y : Val} {cs cy : List Value} {A A' : Option Addr} {n n' : Nat} {way other : List Int} (h : PS w W v y cs cy A A' n n' way other) (hb : Below W.heap.size W W') : PS w W' v y cs cy A A' n n' way other :=
  ⟨h.bx.step hb, h.bz.step hb, h.rv.step hb, h.ry.step hb, (h.wa.below hb).more hb.size, (h.wo.below hb).more hb.size, h.kp.trans (hb.mono h.kp.size)⟩
/-- A value laid into a new variable. -/
structure BU (W : World) (g : Nat) (u : Val) (cu : List Value) : Prop where
  bx : Box W g cu
  rv : RV W u cu
theorem BU.step {W W' : World} {g : Nat} {u : Val} {cu : List Value} (h : BU W g u cu) (hb : Below W.heap.size W W') : BU W' g u cu := ⟨h.bx.step hb, h.rv.step hb⟩
theorem new_below {w2 w3 : World} {o : Obj} (hg : (w2.alloc o).grownBy w3 (some w2.heap.size)) : Below w2.heap.size w2 w3 :=
  ((Below.refl w2.heap.size w2).alloc (Nat.le_refl _) o).grown hg (by simp) (fun k e => by injection e with e; omega)
theorem new_bu {w1 w2 w3 : World} {u : Val} {cu : List Value} {o : Obj} (ht : Tr w2 (fun x => w1.heap.size ≤ x ∧ x < w2.heap.size) u cu) (hB : Blk w3 w2.heap.size 30 cu.toArray) (hg : (w2.alloc o).grownBy w3 (some w2.heap.size)) (hw : wfV u) (hb : bnd u ≤ 1048576) : BU w3 w2.heap.size u cu :=
  ⟨⟨hB, hB.lt⟩, tr_rv (ht.keep fun x hx => (new_below hg).block x hx.2) (fun x hx => Nat.lt_of_lt_of_le hx.2 (new_below hg).size) hw hb⟩
theorem zvV_wf : wfV zvV := wfV_iff.2 ⟨⟨rfl, rfl, rfl⟩, fun x hx => absurd hx (by simp [zvV, Val.its])⟩
theorem atA_fit {v u : Val} {e : Int} {way : List Int} (h : atA v way = (u, e)) (hw : wfV v) (hb : bnd v ≤ 1048576) : wfV u ∧ bnd u ≤ 1048576 := by
  unfold atA at h
  split at h
  · cases hz : atV v way with
    | none =>
      rw [hz] at h
      have := (Prod.mk.inj h).1
      rw [← this]
      exact ⟨zvV_wf, by decide⟩
    | some x =>
      rw [hz] at h
      have := (Prod.mk.inj h).1
      rw [← this]
      exact ⟨atV_wf hw hz, by have := atV_bnd hz; omega⟩
  · have := (Prod.mk.inj h).1
    rw [← this]
    exact ⟨zvV_wf, by decide⟩
set_option maxRecDepth 100000 in
set_option maxHeartbeats 2000000 in
theorem c_ValuePuts (v y : Val) (cs cy : List Value) (A A' : Option Addr) (n c n' c' : Nat) (way other : List Int) (w : World) (h : RV w v cs) (h' : RV w y cy) (hr : Reads w w.heap.size 1 A n (i64s way)) (hr' : Reads w w.heap.size 1 A' n' (i64s other)) (hn : n ≤ 1099511627776) (hn' : n' ≤ 1099511627776) (hbd : bnd v + bnd y ≤ 1048576) :
    Calls Tryz.prog 6 #[.agg cs.toArray, .agg cy.toArray, .slice A n c, .slice A' n' c'] w fun e w' => e = .returned (.bool true) ∧ Below w.heap.size w w' := by
  have HTB := two_bx w cs cy
  have HP0 : Hid (PS w ((w.alloc (.cells cs.toArray 30)).alloc (.cells cy.toArray 30)) v y cs cy A A' n n' way other) := ⟨HTB.1, HTB.2.1, h.step HTB.2.2, h'.step HTB.2.2, (hr.below HTB.2.2).more HTB.2.2.size, (hr'.below HTB.2.2).more HTB.2.2.size, HTB.2.2⟩
  have HRa := Lib.hid h.row
  have HRb := Lib.hid h'.row
  have HWL : Hid (way.length = n) := by show _ = _; simpa using hr.1
  have HWL' : Hid (other.length = n') := by show _ = _; simpa using hr'.1
  obtain ⟨u, e0, hR⟩ : ∃ u e0, putA v way y = (u, e0) := ⟨_, _, rfl⟩
  have HPU : Hid (∀ W, RV W v cs → RV W y cy → Reads W W.heap.size 1 A n (i64s way) → Calls Tryz.prog 21 #[.agg cs.toArray, .slice A n c, .agg cy.toArray] W fun e w' => AtP W (u, e0) e w') := by rw [← hR]; exact fun W h h2 h3 => c_Put v y cs cy A n c way W h h2 h3 hn hbd
  have HPR := Lib.hid hR
  have HBD := Lib.hid hbd
  clear h h' hr hr' HTB hR hbd
  go_enter Tryz.func6, Tryz.ntmps6
  go_upto_region 1 with fail
  generalize World.alloc (w.alloc _) _ = w0 at *
  go_wp2_with fail
  refine (c_awake _).mono ?_; rintro e w1 ⟨rfl, hb1⟩
  have HP1 := Lib.hid (HP0.out.step hb1)
  clear hb1 HP0
  go_wp2_with (first
    | (refine wpList_load_row rfl 30 (.tmp 4) rfl w.heap.size rfl 30 _ (0, 0) _ HP1.out.bx.blk Tryz.underlying30 rfl HRa.out ?_)
    | (refine wpList_load_row rfl 30 (.tmp 5) rfl (w.heap.size + 1) rfl 30 _ (0, 0) _ HP1.out.bz.blk Tryz.underlying30 rfl HRb.out ?_))
  refine (HPU.out _ HP1.out.rv HP1.out.ry HP1.out.wa).mono ?_
  rintro e w2 ⟨cs2, rfl, ht2, hb2⟩
  have HP2 := Lib.hid (HP1.out.step hb2)
  have HT2 := Lib.hid ht2
  have HN2 := Lib.hid (Blk.new w2 30 vz)
  have hvz : vz.size = cs2.toArray.size := by rw [show cs2.toArray.size = 6 by simpa using ht2.six]; rfl
  clear ht2 hb2 HP1 HPU
  by_cases he0 : e0 = 0
  rotate_left
  · have hb : (e0 != 0) = true := by simpa using he0
    obtain rfl := putA_err HPR.out he0
    obtain ⟨A2, B2, c2, d2, F2, cc2, rfl, _⟩ := HT2.out.open_
    clear he0
    go_wp2_with (refine wpList_storeB rfl 30 (.tmp 9) (.tmp 24) rfl rfl w2.heap.size (vcs zvV A2 B2 c2 d2).toArray (by simp [Act.eval]) (by simp [Act.eval]) HN2.out (inf_six HT2.out.six) hvz HT2.out.one ?_; intro w3 hB3 hg3 hz3; have k4 : w3.cell? ⟨w2.heap.size, 4, none⟩ = some (.slice A2 0 c2) := hB3.cell 4; have HB3 := Lib.hid (new_below hg3))
    go_ret
    exact ⟨rfl, HP2.out.kp.trans (HB3.out.mono HP2.out.kp.size)⟩
  subst he0
  have HUF : Hid (wfV u ∧ bnd u ≤ 1048576) := by
    obtain ⟨_, _, ⟨x, hx⟩, rfl, _⟩ := putA_ok HPR.out
    exact ⟨putV_wf HP2.out.ry.wf HP2.out.rv.wf hx, by have := putV_bnd (y := y) hx; have := HBD.out; omega⟩
  have HQ1 : Hid (∀ W, RV W u cs2 → Reads W W.heap.size 1 A n (i64s way) → Calls Tryz.prog 19 #[.agg cs2.toArray, .slice A n c] W fun e w' => AtP W (y, 0) e w') := by rw [← atA_put HPR.out]; exact fun W h h2 => c_At u cs2 A n c way W h h2 hn
  have HRu : Hid ((Tryz.prog.info? 30).map (·.size) = some cs2.toArray.size) := inf_six HT2.out.six
  go_wp2_with (first
    | (refine wpList_storeB rfl 30 (.tmp 9) (.tmp 24) rfl rfl w2.heap.size cs2.toArray (by simp [Act.eval]) (by simp [Act.eval]) HN2.out (inf_six HT2.out.six) hvz HT2.out.one ?_; intro w3 hB3 hg3 hz3; have HP3 := Lib.hid (HP2.out.step (new_below hg3)); have HU3 := Lib.hid (new_bu HT2.out hB3 hg3 HUF.out.1 HUF.out.2))
    | (refine wpList_load_row rfl 30 (.tmp 9) rfl w2.heap.size rfl 30 _ (0, 0) _ HU3.out.bx.blk Tryz.underlying30 rfl HRu.out ?_))
  clear hB3 hg3 hz3 hvz HN2 HT2 HP2
  refine (HQ1.out _ HU3.out.rv HP3.out.wa).mono ?_
  rintro e w4 ⟨cs4, rfl, ht4, hb4⟩
  have HP4 := Lib.hid (HP3.out.step hb4)
  have HU4 := Lib.hid (HU3.out.step hb4)
  have HT4 := Lib.hid ht4
  have HN4 := Lib.hid (Blk.new w4 30 vz)
  have hvz : vz.size = cs4.toArray.size := by rw [show cs4.toArray.size = 6 by simpa using ht4.six]; rfl
  have HR4 : Hid ((Tryz.prog.info? 30).map (·.size) = some cs4.toArray.size) := inf_six ht4.six
  clear ht4 hb4 HP3 HU3 HQ1
  go_wp2_with (first
    | (refine wpList_storeB rfl 30 (.tmp 11) (.tmp 36) rfl rfl w4.heap.size cs4.toArray (by simp [Act.eval]) (by simp [Act.eval]) HN4.out (inf_six HT4.out.six) hvz HT4.out.one ?_; intro w5 hB5 hg5 hz5; have HP5 := Lib.hid (HP4.out.step (new_below hg5)); have HU5 := Lib.hid (HU4.out.step (new_below hg5)); have HY5 := Lib.hid (new_bu HT4.out hB5 hg5 HP4.out.ry.wf HP4.out.ry.bd))
    | (refine wpList_load_rowG6 (by rfl) 30 (.tmp 11) rfl w4.heap.size rfl 30 _ (0, 0) _ HY5.out.bx.blk Tryz.underlying30 rfl HR4.out ?_)
    | (refine wpList_load_rowG6 (by rfl) 30 (.tmp 5) rfl (w.heap.size + 1) rfl 30 _ (0, 0) _ HP5.out.bz.blk Tryz.underlying30 rfl HRb.out ?_))
  clear hB5 hg5 hz5 hvz HN4 HT4 HP4 HU4
  refine (c_alike y cs4 cy _ HY5.out.rv HP5.out.ry).mono ?_
  rintro e w6 ⟨rfl, hb6⟩
  have HP6 := Lib.hid (HP5.out.step hb6)
  have HU6 := Lib.hid (HU5.out.step hb6)
  clear hb6 HP5 HU5 HY5 HR4
  have hl1 := HWL.out
  have hl2 := HWL'.out
  by_cases hn0 : n = 0
  · subst hn0
    go_wp2_with fail
    go_quiet (fail)
    go_wp2_with fail
    go_ret
    exact ⟨rfl, below_drewN HP6.out.kp nq⟩
  by_cases hn1 : n' = 0
  · subst hn1
    have hz : ((n : Int) == 0) = false := by simp; omega
    go_wp2_with fail
    go_quiet (fail)
    go_wp2_with fail
    go_ret
    exact ⟨rfl, below_drewN HP6.out.kp nq⟩
  have z1 : ((n : Int) == 0) = false := by simp; omega
  have z2 : ((n' : Int) == 0) = false := by simp; omega
  obtain ⟨b1, o1, hA1, _, _, hc1⟩ := HP6.out.wa.form (by omega)
  obtain ⟨b2, o2, hA2, _, _, hc2⟩ := HP6.out.wo.form (by omega)
  subst hA1 hA2
  have k1 := hc1 0 (by omega)
  have k2 := hc2 0 (by omega)
  rw [getD_i64s (by omega), Nat.add_zero] at k1 k2
  clear hc1 hc2
  obtain ⟨p, r, rfl⟩ : ∃ p r, way = p :: r := by
    cases way with
    | nil => simp at hl1; omega
    | cons p r => exact ⟨p, r, rfl⟩
  obtain ⟨q, s, rfl⟩ : ∃ q s, other = q :: s := by
    cases other with
    | nil => simp at hl2; omega
    | cons p r => exact ⟨p, r, rfl⟩
  rw [List.getD_cons_zero] at k1 k2
  clear hl1 hl2
  have n1 : 0 < n := by omega
  have n2 : 0 < n' := by omega
  by_cases hpq : p = q
  · subst hpq
    go_wp2_with fail
    go_quiet (fail)
    go_wp2_with fail
    go_ret
    exact ⟨rfl, below_drewN HP6.out.kp nq⟩
  have t1 : (p == q) = false := by simpa using hpq
  obtain ⟨z, e2, hZ⟩ : ∃ z e2, atA v (q :: s) = (z, e2) := ⟨_, _, rfl⟩
  have hZ2 : atA u (q :: s) = (z, e2) := (atA_else HPR.out hpq).trans hZ
  have HQ2 : Hid (∀ W, RV W v cs → Reads W W.heap.size 1 (some ⟨b2, o2, none⟩) n' (i64s (q :: s)) → Calls Tryz.prog 19 #[.agg cs.toArray, .slice (some ⟨b2, o2, none⟩) n' c'] W fun e w' => AtP W (z, e2) e w') := by rw [← hZ]; exact fun W h h2 => c_At v cs _ n' c' _ W h h2 hn'
  have HQ3 : Hid (∀ W, RV W u cs2 → Reads W W.heap.size 1 (some ⟨b2, o2, none⟩) n' (i64s (q :: s)) → Calls Tryz.prog 19 #[.agg cs2.toArray, .slice (some ⟨b2, o2, none⟩) n' c'] W fun e w' => AtP W (z, e2) e w') := by rw [← hZ2]; exact fun W h h2 => c_At u cs2 _ n' c' _ W h h2 hn'
  have HZF := Lib.hid (atA_fit hZ HP6.out.rv.wf HP6.out.rv.bd)
  clear hZ hZ2 hpq
  go_wp2_with fail
  go_quiet (fail)
  have HP7 := Lib.hid (HP6.out.step (below_drewN (Below.refl _ _) nq))
  have HU7 := Lib.hid (HU6.out.step (below_drewN (Below.refl _ _) nq))
  clear k1 k2 HP6 HU6
  generalize w6.drewN nq = w7 at *
  go_wp2_with (refine wpList_load_row rfl 30 (.tmp 4) rfl w.heap.size rfl 30 _ (0, 0) _ HP7.out.bx.blk Tryz.underlying30 rfl HRa.out ?_)
  refine (HQ2.out _ HP7.out.rv HP7.out.wo).mono ?_
  rintro e w8 ⟨cs8, rfl, ht8, hb8⟩
  have HP8 := Lib.hid (HP7.out.step hb8)
  have HU8 := Lib.hid (HU7.out.step hb8)
  have HT8 := Lib.hid ht8
  have HN8 := Lib.hid (Blk.new w8 30 vz)
  have hvz : vz.size = cs8.toArray.size := by rw [show cs8.toArray.size = 6 by simpa using ht8.six]; rfl
  have HR8 : Hid ((Tryz.prog.info? 30).map (·.size) = some cs8.toArray.size) := inf_six ht8.six
  clear ht8 hb8 HP7 HU7 HQ2
  go_wp2_with (first
    | (refine wpList_storeB rfl 30 (.tmp 13) (.tmp 67) rfl rfl w8.heap.size cs8.toArray (by simp [Act.eval]) (by simp [Act.eval]) HN8.out (inf_six HT8.out.six) hvz HT8.out.one ?_; intro w9 hB9 hg9 hz9; have HP9 := Lib.hid (HP8.out.step (new_below hg9)); have HU9 := Lib.hid (HU8.out.step (new_below hg9)); have HY9 := Lib.hid (new_bu HT8.out hB9 hg9 HZF.out.1 HZF.out.2))
    | (refine wpList_load_row rfl 30 (.tmp 9) rfl w2.heap.size rfl 30 _ (0, 0) _ HU9.out.bx.blk Tryz.underlying30 rfl HRu.out ?_))
  clear hB9 hg9 hz9 hvz HN8 HT8 HP8 HU8
  refine (HQ3.out _ HU9.out.rv HP9.out.wo).mono ?_
  rintro e w10 ⟨cs10, rfl, ht10, hb10⟩
  have HP10 := Lib.hid (HP9.out.step hb10)
  have HY10 := Lib.hid (HY9.out.step hb10)
  have HT10 := Lib.hid ht10
  have HN10 := Lib.hid (Blk.new w10 30 vz)
  have hvz : vz.size = cs10.toArray.size := by rw [show cs10.toArray.size = 6 by simpa using ht10.six]; rfl
  have HR10 : Hid ((Tryz.prog.info? 30).map (·.size) = some cs10.toArray.size) := inf_six ht10.six
  have te : (e2 == e2) = true := by simp
  clear ht10 hb10 HP9 HU9 HY9 HQ3
  go_wp2_with (first
    | (refine wpList_storeB rfl 30 (.tmp 15) (.tmp 73) rfl rfl w10.heap.size cs10.toArray (by simp [Act.eval]) (by simp [Act.eval]) HN10.out (inf_six HT10.out.six) hvz HT10.out.one ?_; intro w11 hB11 hg11 hz11; have HP11 := Lib.hid (HP10.out.step (new_below hg11)); have HY11 := Lib.hid (HY10.out.step (new_below hg11)); have HZ11 := Lib.hid (new_bu HT10.out hB11 hg11 HZF.out.1 HZF.out.2))
    | (refine wpList_load_rowG6 (by rfl) 30 (.tmp 13) rfl w8.heap.size rfl 30 _ (0, 0) _ HY11.out.bx.blk Tryz.underlying30 rfl HR8.out ?_)
    | (refine wpList_load_rowG6 (by rfl) 30 (.tmp 15) rfl w10.heap.size rfl 30 _ (0, 0) _ HZ11.out.bx.blk Tryz.underlying30 rfl HR10.out ?_))
  clear hB11 hg11 hz11 hvz HN10 HT10 HP10 HY10
  refine (c_alike z cs8 cs10 _ HY11.out.rv HZ11.out.rv).mono ?_
  rintro e w12 ⟨rfl, hb12⟩
  have HP12 := Lib.hid (HP11.out.step hb12)
  clear hb12 HP11 HY11 HZ11
  go_wp2_with fail
  go_ret
  exact ⟨rfl, HP12.out.kp⟩
theorem l_ValuePuts (W : World) (v : Val) (cs : List Value) (h : RV W v cs) (y : Val) (cy : List Value) (h' : RV W y cy) (A : Option Addr) (n c : Nat) (way : List Int) (hr : RdInts W .i64 8 A n c way) (A' : Option Addr) (n' c' : Nat) (other : List Int) (hr' : RdInts W .i64 8 A' n' c' other) (hn : n ≤ 1048576) (hn' : n' ≤ 1048576) (hbd : bnd v + bnd y ≤ 1048576) :
    Calls Tryz.prog 6 #[.agg cs.toArray, .agg cy.toArray, .slice A n c, .slice A' n' c'] W fun e W' => e = .returned (.bool true) ∧ Below W.heap.size W W' :=
  c_ValuePuts v y cs cy A A' n c n' c' way other W h h' hr.2.2.2 hr'.2.2.2 (by omega) (by omega) hbd
end Go.Proofs.YtacnoedhpamdmaaGreatDoor
