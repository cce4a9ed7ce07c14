/- Walks over values as trees: how deep, how many (value.deeper, value.count, quernref23.tall, quernref23.many). Conditions: the value as it reads; its bulk at most 1048576. -/
import Derived.Test.YtigbbogfnchgnaaGreatDoorYd
import Derived.Test.YtigbbogfnchgnaaGreatDoorYc
import Derived.Lib.Hide
import Derived.Great.Walk
import Derived.Deep.DrawnRows
import Derived.Deep.RegionHeld3
import Derived.IntWalk
import Derived.Handy
namespace Go.Proofs.YtigbbogfnchgnaaGreatDoor
open Go.RowKit
set_option linter.unusedVariables false
attribute [local go_sem ↓] Go.wp_at_zero Go.wp_at_succ

theorem run_load_at {P : Program} (w : World) (b o : Nat) (ty : TypeId) (cs : List Value) (d : TypeDesc) (hc : ∀ q v, cs[q]? = some v → w.cell? ⟨b, o + q, none⟩ = some v)
    (hu : P.underlying ty = some d) (hd : d.isRow = true) (hi : (P.info? ty).map (·.size) = some cs.length) :
    (loadVar ty ⟨b, o, none⟩).run P w = .ok (.agg cs.toArray) w := by
  have hl : (loadCells ⟨b, o, none⟩ cs.length).run P w = .ok cs.toArray w := run_loadCells_list (P := P) w ⟨b, o, none⟩ cs (fun j v hj => by
    have := hc j v hj
    unfold Addr.add
    by_cases h0 : j = 0
    · subst h0; simpa using this
    · rw [if_neg h0]; exact this)
  cases hq : P.info? ty with
  | none => simp [hq] at hi
  | some i =>
    have hs : i.size = cs.length := by simpa [hq] using hi
    have hagg : (isAgg ty).run P w = .ok true w := by
      unfold isAgg
      rw [Sem.run_bind, run_underlying hu w]
      cases d <;> simp_all
    simp [loadVar, Sem.run_bind, hagg, sizeOf, typeInfo, hq, hs, hl]
theorem wpList_load_at {P : Program} {ops : Array Oper} {rest : List Oper} {op : Oper} {a : Act} {w : World} {Q : Exit → Act → World → Prop} (hgd : op.guard = none) (ty : TypeId) (x : Operand) (ho : op.op = .load ty x)
    (b o : Nat) (hx : a.eval x = .pointer (some ⟨b, o, none⟩)) (cs : List Value) (d : TypeDesc) (hc : ∀ q v, cs[q]? = some v → w.cell? ⟨b, o + q, none⟩ = some v)
    (hu : P.underlying ty = some d) (hd : d.isRow = true) (hi : (P.info? ty).map (·.size) = some cs.length)
    (h : wpList P ops Q rest (a.put op.dst (.agg cs.toArray)) w) : wpList P ops Q (op :: rest) a w :=
  wpList_plain hgd fun _ hK => by
    unfold Oper.wp execOp
    simp only [ho, hx, Instr.loadAt, Instr.sureAddr, Sem.run_bind, Sem.run_pure, Result.andThen_ok, run_load_at w b o ty cs d hc hu hd hi]
    exact hK _ _ h
abbrev vz : Array Value := #[.int .i64 0, .int .i64 0, .float .f64 0, .string ⟨#[]⟩, .slice none 0 0, .slice none 0 0]
/-- A value that reads, with its bounds. -/
structure RV (w : World) (v : Val) (cs : List Value) : Prop where
  rd : RdV w w.heap.size v cs
  wf : wfV v
  bd : bnd v ≤ 1048576
theorem RV.step {w w' : World} {v : Val} {cs : List Value} (h : RV w v cs) (hb : Below w.heap.size w w') : RV w' v cs := ⟨RdV.more hb.size v cs (h.rd.below hb), h.wf, h.bd⟩
theorem RdV.more' {w : World} {B B' : Nat} {v : Val} {cs : List Value} (h : RdV w B v cs) (hB : B ≤ B') : RdV w B' v cs := RdV.more hB v cs h
theorem RV.open_ {w : World} {v : Val} {cs : List Value} (h : RV w v cs) : ∃ A A' c c', cs = vcs v A A' c c' ∧ Reads w w.heap.size 1 A' v.nms.length (strs v.nms) ∧
    (0 < v.its.length → ∃ b off, A = some ⟨b, off, none⟩ ∧ b < w.heap.size ∧ ∀ wr, Below w.heap.size w wr → ∀ i, (hi : i < v.its.length) → ∃ cs', RV wr v.its[i] cs' ∧ ∀ q u, cs'[q]? = some u → wr.cell? ⟨b, off + i * 6 + q, none⟩ = some u) := by
  obtain ⟨A, A', c, c', h1, h2, h3⟩ := h.rd.open_
  refine ⟨A, A', c, c', h1, h2, fun h0 => ?_⟩
  obtain ⟨b, off, hA, hb, _, hr⟩ := h3 h0
  refine ⟨b, off, hA, hb, fun wr hbw i hi => ?_⟩
  obtain ⟨cs', hrd, hcell⟩ := hr i hi
  have hm : v.its[i] ∈ v.its := List.getElem_mem hi
  refine ⟨cs', ⟨RdV.more hbw.size _ cs' (hrd.below hbw), wfV_item h.wf hm, ?_⟩, fun q u hq => ?_⟩
  · have := bnd_item hm; have := h.bd; omega
  · rw [hbw.cell (p := ⟨b, off + i * 6 + q, none⟩) hb, Nat.add_assoc]
    exact hcell q u hq
theorem RV.six {w : World} {v : Val} {cs : List Value} (h : RV w v cs) : cs.length = 6 ∧ cs.toArray.toList.all (·.oneCell') = true := by
  obtain ⟨A, A', c, c', rfl, _, _⟩ := h.open_
  exact ⟨rfl, rfl⟩
theorem v_info : (Tryz.prog.info? 26).map (·.size) = some 6 := by kernel_rfl
theorem vcs_len (v : Val) (A A' : Option Addr) (c c' : Nat) : (vcs v A A' c c').length = 6 := rfl
set_option maxHeartbeats 1000000 in
theorem c_deeper : ∀ n : Nat, n ≤ 64 → ∀ (v : Val) (cs : List Value) (w : World), RV w v cs → Calls Tryz.prog 15 #[.agg cs.toArray, .int .i64 (n : Int)] w fun e w' => e = .returned (.bool (deep n v)) ∧ Below w.heap.size w w' := by
  intro n
  induction n with
  | zero =>
    intro _ v cs w h
    obtain ⟨A, A', c, c', rfl, _, _⟩ := h.open_
    have HB := Lib.hid ((Below.refl w.heap.size w).alloc (Nat.le_refl _) (.cells (vcs v A A' c c').toArray 26))
    unfold vcs at HB ⊢
    clear h
    have hd : deep 0 v = true := rfl
    rw [hd]
    go_enter Tryz.func15, Tryz.ntmps15
    go_wp2
    go_ret
    exact ⟨rfl, HB.out⟩
  | succ n ih =>
    intro hn v cs w h
    obtain ⟨A, A', c, c', rfl, _, hop⟩ := h.open_
    have HB := Lib.hid ((Below.refl w.heap.size w).alloc (Nat.le_refl _) (.cells (vcs v A A' c c').toArray 26))
    have HK := Lib.hid (Blk.new w 26 (vcs v A A' c c').toArray)
    have HOP := Lib.hid hop
    have HIH := Lib.hid (ih (by omega))
    have HL : Hid (v.its.length < 1048577) := by have := (bnd_len v).1; have := h.bd; show _ < _; omega
    have HD : Hid (deep (n + 1) v = v.its.any (deep n)) := any_deep n v
    clear hop ih h
    have k4 : (w.alloc (.cells (vcs v A A' c c').toArray 26)).cell? ⟨w.heap.size, 4, none⟩ = some (.slice A v.its.length c) := HK.out.cell 4
    unfold vcs at k4 HB HK ⊢
    generalize v.its = its at *
    go_enter Tryz.func15, Tryz.ntmps15
    go_wp2_with fail
    generalize w.alloc (.cells #[.int .i64 v.k, .int .i64 v.i, .float .f64 v.f, .string v.t, .slice A its.length c, .slice A' v.nms.length c'] 26) = w0 at *
    clear k4 HK
    have hlen := HL.out
    go_loopw [12] (fun vi wr => ∃ i : Nat, vi = .int .i64 i ∧ i ≤ its.length ∧ Hid (∀ j, (h : j < its.length) → j < i → deep n its[j] = false) ∧ Hid (Below w.heap.size w wr)) (fun vi _ => its.length - (intOf vi).toNat)
    case atStart => exact ⟨0, rfl, Nat.zero_le _, fun j _ h0 => absurd h0 (by omega), HB.out⟩
    case round =>
      obtain ⟨i, rfl, hi, HF, HBr⟩ := hrel
      by_cases hlt : i < its.length
      · obtain ⟨b, off, hA, hbl, hr⟩ := HOP.out (by omega)
        subst hA
        obtain ⟨cs', hrv, hcell⟩ := hr wr HBr.out i hlt
        obtain ⟨h6, hone⟩ := hrv.six
        have h6a : cs'.toArray.size = 6 := by simpa using h6
        have HRV := Lib.hid hrv
        have HCL := Lib.hid hcell
        have HB8 := Lib.hid (Blk.new wr 26 vz)
        have HBA : Hid (Below wr.heap.size wr (wr.alloc (.cells vz 26))) := (Below.refl _ _).alloc (Nat.le_refl _) _
        clear hr hrv hcell
        go_wp2_with (first
          | (refine wpList_load_at rfl 26 (.tmp 14) rfl b (off + i * 6) rfl cs' _ HCL.out Tryz.underlying26 rfl (by rw [h6]; exact v_info) ?_)
          | (refine wpList_storeB rfl 26 (.tmp 6) (.tmp 15) rfl rfl wr.heap.size cs'.toArray rfl rfl HB8.out (by rw [h6a]; exact v_info) (by rw [h6a]; rfl) hone ?_; intro w4 hB4 hg4 hz4)
          | (refine wpList_load_row rfl 26 (.tmp 6) rfl wr.heap.size rfl 26 _ (0, 0) _ hB4 Tryz.underlying26 rfl (by rw [h6a]; exact v_info) ?_))
        have hb4 : Below wr.heap.size wr w4 := HBA.out.grown hg4 (by simp) (fun _ h => by injection h with h; omega)
        have HB4 := Lib.hid (below_step HBr.out hb4)
        have HRV4 := Lib.hid (HRV.out.step hb4)
        clear hB4 hg4 hz4 hb4 HBA HB8 HCL
        refine (HIH.out _ _ _ HRV4.out).mono ?_; rintro e w5 ⟨rfl, hb5⟩
        have HB5 := Lib.hid (below_step HB4.out hb5)
        clear hb5
        obtain ⟨q, hq⟩ : ∃ q, deep n its[i] = q := ⟨_, rfl⟩
        rw [hq]
        cases q with
        | true =>
          have HDT : Hid (deep (n + 1) v = true) := by show _ = _; rw [HD.out]; exact List.any_eq_true.2 ⟨_, List.getElem_mem hlt, hq⟩
          clear hq
          go_wp2_with fail
          go_ret
          exact ⟨by rw [HDT.out]; rfl, HB5.out⟩
        | false =>
          have HF2 : Hid (∀ j, (h : j < its.length) → j < i + 1 → deep n its[j] = false) := fun j h hj => by
            rcases Nat.lt_or_ge j i with h1 | h1
            · exact HF.out j h h1
            · obtain rfl : j = i := by omega
              exact hq
          clear hq
          go_wp2_with fail
          go_roundw
          case rel => (refine ⟨_, _, _, _, _, _, _, _, _, _, _, ?_, rfl⟩; exact ⟨i + 1, by go_num, hlt, HF2.out, HB5.out⟩)
          case measure => simp [intOf]; omega
      · have HDF : Hid (deep (n + 1) v = false) := by
          show _ = _
          rw [HD.out, List.any_eq_false]
          intro x hx
          obtain ⟨j, hj, rfl⟩ := List.getElem_of_mem hx
          rw [HF.out j hj (by omega)]
          decide
        go_wp2_with fail
        go_ret
        exact ⟨by rw [HDF.out]; rfl, HBr.out⟩
end Go.Proofs.YtigbbogfnchgnaaGreatDoor
