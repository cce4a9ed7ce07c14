/- Walk: a value with memory of its own (value.copied). Conditions: the value as it reads; its bulk at most 1048576. -/
import Derived.Test.YtacnoedhpamdmaaGreatDoorKc
import Derived.Deep.DeepCutAuto
import Derived.Deep.RegionHeld3
namespace Go.Proofs.YtacnoedhpamdmaaGreatDoor
open Go.RowKit
set_option linter.unusedVariables false
set_option linter.unusedSimpArgs false
attribute [local go_sem ↓] Go.wp_at_zero Go.wp_at_succ

theorem step_store_mid6 {P : Program} {ops : Array Oper} {o : Oper} {a : Act} {w : World} {K : Act → World → Prop} {Q : Exit → Act → World → Prop} {E : Prop} (hgd : o.guard = none) (ty : TypeId) (x y : Operand) (ho : o.op = .store ty x y) (hdst : o.dst = none)
    (g off : Nat) (cs' : Array Value) (hx : a.eval x = .pointer (some ⟨g, off, none⟩)) (hy : a.eval y = .agg cs') {t : TypeId} {cs : Array Value} (hg : Blk w g t cs) (hi : (P.info? ty).map (·.size) = some cs'.size) (hs : off + cs'.size ≤ cs.size) (h1' : cs'.toList.all (·.oneCell') = true)
    (h : ∀ w', Blk w' g t (cs.toList.take off ++ cs'.toList ++ cs.toList.drop (off + cs'.size)).toArray → w.grownBy w' (some g) → w'.heap.size = w.heap.size → K a w') : if Region.wanted o (yielded ops a.tmps) = true then Oper.wp P o a w K Q else E := by
  have hw : Region.wanted o (yielded ops a.tmps) = true := by simp [Region.wanted, hgd]
  rw [if_pos hw]
  have hst := run_storeCells_at (P := P) g off t cs'.toList 0 cs w hg (by simpa using hs) (fun v hv => List.all_eq_true.1 h1' v hv)
  simp only [Nat.add_zero, Array.length_toList] at hst
  have hsv : (storeVar ty ⟨g, off, none⟩ (.agg cs')).run P w = .ok () (w.setRow g (cs.toList.take off ++ cs'.toList ++ cs.toList.drop (off + cs'.size)).toArray) := by
    cases hq : P.info? ty with
    | none => simp [hq] at hi
    | some i =>
      have hz : cs'.size = i.size := by simp [hq] at hi; omega
      simp [storeVar, sizeOf, typeInfo, hq, Value.cells, hz, hst]
  unfold Oper.wp execOp
  simp only [ho, hx, hy, Instr.storeAt, Instr.sureAddr, Sem.run_bind, Sem.run_pure, Result.andThen_ok, hsv]
  have := h (w.setRow g (cs.toList.take off ++ cs'.toList ++ cs.toList.drop (off + cs'.size)).toArray) (hg.setRow _) (only_setRow w g _) (by simp)
  simpa [Oper.upon, Act.put, hdst] using this
theorem inf_six {cs : List Value} (h : cs.length = 6) : (Tryz.prog.info? 30).map (·.size) = some cs.toArray.size := by rw [List.size_toArray, h]; exact v_info
theorem lst_six {cs : List Value} (h : cs.length = 6) : ∃ u0 u1 u2 u3 u4 u5, cs = [u0, u1, u2, u3, u4, u5] := by
  match cs, h with
  | [a, b, c, d, e, f], _ => exact ⟨a, b, c, d, e, f, rfl⟩
theorem own_hdr {w : World} {base size n : Nat} {e : TypeId} {v : Value} {xs : List Value} (h : w.ownsRow base e size v n xs) : ∃ A c, v = .slice A n c := by
  rcases h.2 with ⟨rfl, rfl⟩ | ⟨g, cap, cur, rfl, _⟩
  · exact ⟨_, _, rfl⟩
  · exact ⟨_, _, rfl⟩
theorem own_blk {w : World} {base size n c : Nat} {e : TypeId} {A : Option Addr} {xs : List Value} (h : w.ownsRow base e size (.slice A n c) n xs) (h0 : 0 < n) : ∃ (g : Nat) (cur : Array Value), A = some ⟨g, 0, none⟩ ∧ base ≤ g ∧ g < w.heap.size ∧ Blk w g e cur ∧ n * size ≤ cur.size ∧ ∀ (j : Nat) (u : Value), xs[j]? = some u → cur[j]? = some u := by
  have hl := h.1
  rcases h.2 with ⟨h1, h2⟩ | ⟨g, cap, cur, hv, hb, hg, hc, hm, hcs, ht⟩
  · omega
  · injection hv with e1 e2 e3
    have hB : Blk w g e cur := hg
    refine ⟨g, cur, e1, hb, hB.lt, hB, by rw [hcs]; exact Nat.mul_le_mul_right _ hc, fun j u hu => ?_⟩
    have hj := (List.getElem?_eq_some_iff.1 hu).1
    rw [← ht] at hu
    rw [List.getElem?_take_of_lt (by omega), Array.getElem?_toList] at hu
    exact hu
theorem own_low6 {w : World} {base base' n size : Nat} {e : TypeId} {v : Value} {xs : List Value} (h : w.ownsRow base e size v n xs) (hb : base' ≤ base) : w.ownsRow base' e size v n xs := by
  refine ⟨h.1, ?_⟩
  rcases h.2 with h2 | ⟨g, cap, cur, rfl, hb, hg, h3⟩
  · exact .inl h2
  · exact .inr ⟨g, cap, cur, rfl, by omega, hg, h3⟩
theorem own_keep6 {w w' : World} {base n size : Nat} {e : TypeId} {v : Value} {xs : List Value} (h : w.ownsRow base e size v n xs) (hk : ∀ r, v.ownBlock = some r → w'.heap[r]? = w.heap[r]?) : w'.ownsRow base e size v n xs := by
  refine ⟨h.1, ?_⟩
  rcases h.2 with h2 | ⟨g, cap, cur, rfl, hb, hg, h3⟩
  · exact .inl h2
  · exact .inr ⟨g, cap, cur, rfl, hb, (hk g rfl).trans hg, h3⟩
theorem own_at6 {w : World} {base n size : Nat} {e : TypeId} {v : Value} {xs : List Value} (h : w.ownsRow base e size v n xs) {r : Nat} (hr : v.ownBlock = some r) : base ≤ r ∧ r < w.heap.size := by
  rcases h.2 with ⟨rfl, _⟩ | ⟨g, cap, cur, rfl, hb, hg, _⟩
  · cases hr
  · have : g = r := by simpa [Value.ownBlock] using hr
    subst this
    refine ⟨hb, ?_⟩
    rcases Nat.lt_or_ge g w.heap.size with h1 | h1
    · exact h1
    · rw [Array.getElem?_eq_none h1] at hg; cases hg
theorem CpS.start {w wr : World} {v : Val} {A A' : Option Addr} {c c' : Nat} {css : List (List Value)} (hbx : Blk wr w.heap.size 30 (vcs v A A' c c').toArray) (hres : Blk wr (w.heap.size + 1) 30 vz)
    (hn : wr.ownsRow (w.heap.size + 2) 9 1 (.slice A' v.nms.length c') v.nms.length (strs v.nms)) (hi : wr.ownsRow (w.heap.size + 2) 30 6 (.slice A v.its.length c) v.its.length (List.flatten css)) (hcl : css.length = v.its.length) (h6 : ∀ c ∈ css, c.length = 6)
    (hk : ∀ j, (h : j < v.its.length) → (h' : j < css.length) → RV w v.its[j] css[j]) (hb : Below w.heap.size w wr) (hz : w.heap.size + 2 ≤ wr.heap.size) :
    CpS w wr v A A' c c' wr.heap.size 0 (fun _ _ => False) (fun _ => []) := by
  refine ⟨hbx, hres, fun h0 => ?_, fun h0 => ?_, fun j hj => absurd hj (by omega), fun j hj => absurd hj (by omega), fun j _ hj => absurd hj (by omega), hz, Nat.le_refl _, hb⟩
  · obtain ⟨g, cur, e, h1, h2, h3, h4, h5⟩ := own_blk hn h0
    refine ⟨g, cur, e, h1, h2, h3, fun j hj => h5 j _ ?_⟩
    simp [List.getElem?_eq_getElem hj]
  · obtain ⟨g, cur, e, h1, h2, h3, h4, h5⟩ := own_blk hi h0
    refine ⟨g, cur, e, h1, h2, h3, h4, fun j q u hj => absurd hj (by omega), fun j _ hj => ⟨css[j]'(by omega), hk j hj (by omega), fun q u hu => h5 _ u ?_⟩⟩
    have hq : q < 6 := by
      have := (List.getElem?_eq_some_iff.1 hu).1
      rw [h6 _ (List.getElem_mem _)] at this; exact this
    rw [flt_get css j q (by omega) h6 hq]
    exact hu
theorem CpS.drew {w wr : World} {v : Val} {A A' : Option Addr} {c c' ws i : Nat} {F : Nat → Nat → Prop} {cc : Nat → List Value} (h : CpS w wr v A A' c c' ws i F cc) : CpS w wr.drew v A A' c c' ws i F cc :=
  ⟨h.box, h.res, h.names, h.items, fun j hj hl => (h.kids j hj hl).keep fun _ _ => rfl, h.sub, h.dis, h.lo, h.hi, ⟨h.kp.os, h.kp.tape, h.kp.output, h.kp.size, h.kp.block⟩⟩
theorem below_drewK {B : Nat} {a w : World} (h : Below B a w) : Below B a w.drew := ⟨h.os, h.tape, h.output, h.size, h.block⟩
theorem and_by {p q : Prop} (h : p) (k : p → q) : p ∧ q := ⟨h, k h⟩
theorem step_load_at6 {P : Program} {ops : Array Oper} {o : Oper} {a : Act} {w : World} {K : Act → World → Prop} {Q : Exit → Act → World → Prop} {E : Prop} (hgd : o.guard = none) (ty : TypeId) (x : Operand) (ho : o.op = .load ty x)
    (b off : Nat) (hx : a.eval x = .pointer (some ⟨b, off, none⟩)) (cs : List Value) (d : TypeDesc) (hc : ∀ q v, cs[q]? = some v → w.cell? ⟨b, off + q, none⟩ = some v)
    (hu : P.underlying ty = some d) (hd : d.isRow = true) (hi : (P.info? ty).map (·.size) = some cs.toArray.size)
    (h : K (a.put o.dst (.agg cs.toArray)) w) : if Region.wanted o (yielded ops a.tmps) = true then Oper.wp P o a w K Q else E := by
  have hw : Region.wanted o (yielded ops a.tmps) = true := by simp [Region.wanted, hgd]
  rw [if_pos hw]
  unfold Oper.wp execOp
  simp only [ho, hx, Instr.loadAt, Instr.sureAddr, Sem.run_bind, Sem.run_pure, Result.andThen_ok, run_load_at w b off ty cs d hc hu hd (by simpa using hi)]
  exact h
theorem gr_cell {w w' : World} {g : Nat} (h : w.grownBy w' (some g)) {p : Addr} (hp : p.block < w.heap.size) (hne : p.block ≠ g) : w'.cell? p = w.cell? p := World.cell?_of_block (h.block p.block hp (fun e => hne (by injection e)))
set_option maxRecDepth 100000 in
set_option maxHeartbeats 1000000 in
theorem c_copied : ∀ (v : Val) (cs : List Value) (w : World), RV w v cs → Calls Tryz.prog 52 #[.agg cs.toArray] w fun e w' => ∃ cs', e = .returned (.agg cs'.toArray) ∧ Tr w' (fun x => w.heap.size ≤ x ∧ x < w'.heap.size) v cs' ∧ Below w.heap.size w w' := by
  refine Val.ind fun v ih cs w h => ?_
  have hl1 : v.its.length ≤ 1048576 := by have := (bnd_len v).1; have := h.bd; omega
  have hl2 : v.nms.length ≤ 1048576 := by have := (bnd_len v).2.1; have := h.bd; omega
  obtain ⟨A, A', c, c', css, rfl, hnm, hit, hcl, hc6, hone, hkid⟩ := h.items
  have HB0 : Hid (Below w.heap.size w ((w.alloc (.cells (vcs v A A' c c').toArray 30)).alloc (.cells vz 30))) := ((Below.refl w.heap.size w).alloc (Nat.le_refl _) _).alloc (by simp) _
  have HK0 : Hid (Blk ((w.alloc (.cells (vcs v A A' c c').toArray 30)).alloc (.cells vz 30)) w.heap.size 30 (vcs v A A' c c').toArray) := (Blk.new w 30 (vcs v A A' c c').toArray).alloc _
  have HR0 : Hid (Blk ((w.alloc (.cells (vcs v A A' c c').toArray 30)).alloc (.cells vz 30)) (w.heap.size + 1) 30 vz) := by
    have := Blk.new (w.alloc (.cells (vcs v A A' c c').toArray 30)) 30 vz
    rwa [World.size_alloc] at this
  have hz0 : ((w.alloc (.cells (vcs v A A' c c').toArray 30)).alloc (.cells vz 30)).heap.size = w.heap.size + 2 := by rw [World.size_alloc, World.size_alloc]
  have HNM := Lib.hid hnm
  have HIT := Lib.hid hit
  have HCL := Lib.hid hcl
  have HC6 := Lib.hid hc6
  have HON := Lib.hid hone
  have HKD := Lib.hid hkid
  have HIH : Hid (∀ (i : Nat) (hi : i < v.its.length) (cs : List Value) (w : World), RV w v.its[i] cs → Calls Tryz.prog 52 #[.agg cs.toArray] w fun e w' => ∃ cs', e = .returned (.agg cs'.toArray) ∧ Tr w' (fun x => w.heap.size ≤ x ∧ x < w'.heap.size) v.its[i] cs' ∧ Below w.heap.size w w') := fun i hi => ih _ (List.getElem_mem hi)
  clear h hnm hit hcl hc6 hone hkid ih
  unfold vcs at *
  go_enter Tryz.func52, Tryz.ntmps52
  go_upto_region 1 with fail
  generalize World.alloc (w.alloc _) _ = w0 at *
  have k5 : w0.cell? ⟨w.heap.size, 5, none⟩ = some (.slice A' v.nms.length c') := HK0.out.cell 5
  go_wp2_with fail
  refine (c_cloneS A' v.nms.length c' (strs v.nms) _ w.heap.size (HNM.out.below HB0.out) (fun u hu => by obtain ⟨s, _, rfl⟩ := List.mem_map.1 hu; rfl) hl2 HB0.out.size).mono ?_
  rintro e w1 ⟨v1, rfl, ho1, hb1⟩
  obtain ⟨A2', c2', rfl⟩ := own_hdr ho1
  have HO1 := Lib.hid ho1
  have HB1 := Lib.hid (HB0.out.trans (hb1.mono HB0.out.size))
  have HK1 := Lib.hid (HK0.out.below hb1 HK0.out.lt)
  have HR1 := Lib.hid (HR0.out.below hb1 HR0.out.lt)
  have hz1 := hb1.size
  have f5 := HK1.out.frozen 5
  clear k5
  have k5 : w1.cell? ⟨w.heap.size, 5, none⟩ = some (.slice A' v.nms.length c') := HK1.out.cell 5
  clear ho1 hb1 HK0 HR0 HB0
  go_upto_region 2 with fail
  have HK2 : Hid (Blk (w1.setCell ⟨w.heap.size, 5, none⟩ (.slice A2' v.nms.length c2')) w.heap.size 30 (vcs v A A2' c c2').toArray) := HK1.out.set_ 5 _
  have HR2 : Hid (Blk (w1.setCell ⟨w.heap.size, 5, none⟩ (.slice A2' v.nms.length c2')) (w.heap.size + 1) 30 vz) := HR1.out.far (by simp only; omega) _
  have HG2 := Lib.hid (grown_setCell w1 w.heap.size 5 (.slice A2' v.nms.length c2'))
  have HZ2 : Hid ((w1.setCell ⟨w.heap.size, 5, none⟩ (.slice A2' v.nms.length c2')).heap.size = w1.heap.size) := by show _ = _; simp [World.setCell]
  clear k5 f5 HK1 HR1
  generalize w1.setCell ⟨w.heap.size, 5, none⟩ (.slice A2' v.nms.length c2') = w2 at *
  have HB2 : Hid (Below w.heap.size w w2) := HB1.out.grown HG2.out HB1.out.size (fun k e => by injection e with e; omega)
  have HO2 : Hid (w2.ownsRow (w.heap.size + 2) 9 1 (.slice A2' v.nms.length c2') v.nms.length (strs v.nms)) := by
    have := own_keep6 (w' := w2) HO1.out fun r hr => HG2.out.block r (own_at6 HO1.out hr).2 (fun e => by have := (own_at6 HO1.out hr).1; injection e with e; omega)
    rwa [hz0] at this
  have hz2 : w2.heap.size = w1.heap.size := HZ2.out
  clear HO1 HB1 HG2 HZ2
  have k4 : w2.cell? ⟨w.heap.size, 4, none⟩ = some (.slice A v.its.length c) := HK2.out.cell 4
  go_wp2_with fail
  refine (c_cloneV A v.its.length c (List.flatten css) _ w.heap.size (HIT.out.below HB2.out) HON.out hl1 HB2.out.size).mono ?_
  rintro e w3 ⟨v3, rfl, ho3, hb3⟩
  obtain ⟨A2, c2, rfl⟩ := own_hdr ho3
  have HO3 : Hid (w3.ownsRow (w.heap.size + 2) 30 6 (.slice A2 v.its.length c2) v.its.length (List.flatten css)) := own_low6 ho3 (by omega)
  have HN3 := Lib.hid (own_below HO2.out hb3)
  have HB3 := Lib.hid (HB2.out.trans (hb3.mono HB2.out.size))
  have HK3 := Lib.hid (HK2.out.below hb3 HK2.out.lt)
  have HR3 := Lib.hid (HR2.out.below hb3 HR2.out.lt)
  have hz3 := hb3.size
  have f4 := HK3.out.frozen 4
  clear k4
  have k4 : w3.cell? ⟨w.heap.size, 4, none⟩ = some (.slice A v.its.length c) := HK3.out.cell 4
  clear ho3 hb3 HK2 HR2 HB2 HO2
  go_upto_region 3 with fail
  have HK4 : Hid (Blk (w3.setCell ⟨w.heap.size, 4, none⟩ (.slice A2 v.its.length c2)) w.heap.size 30 (vcs v A2 A2' c2 c2').toArray) := HK3.out.set_ 4 _
  have HR4 : Hid (Blk (w3.setCell ⟨w.heap.size, 4, none⟩ (.slice A2 v.its.length c2)) (w.heap.size + 1) 30 vz) := HR3.out.far (by simp only; omega) _
  have HG4 := Lib.hid (grown_setCell w3 w.heap.size 4 (.slice A2 v.its.length c2))
  have HZ4 : Hid ((w3.setCell ⟨w.heap.size, 4, none⟩ (.slice A2 v.its.length c2)).heap.size = w3.heap.size) := by show _ = _; simp [World.setCell]
  clear k4 f4 HK3 HR3
  generalize w3.setCell ⟨w.heap.size, 4, none⟩ (.slice A2 v.its.length c2) = w4 at *
  have HB4 : Hid (Below w.heap.size w w4) := HB3.out.grown HG4.out HB3.out.size (fun k e => by injection e with e; omega)
  have HN4 : Hid (w4.ownsRow (w.heap.size + 2) 9 1 (.slice A2' v.nms.length c2') v.nms.length (strs v.nms)) := own_keep6 HN3.out fun r hr => HG4.out.block r (own_at6 HN3.out hr).2 (fun e => by have := (own_at6 HN3.out hr).1; injection e with e; omega)
  have HO4 : Hid (w4.ownsRow (w.heap.size + 2) 30 6 (.slice A2 v.its.length c2) v.its.length (List.flatten css)) := own_keep6 HO3.out fun r hr => HG4.out.block r (own_at6 HO3.out hr).2 (fun e => by have := (own_at6 HO3.out hr).1; injection e with e; omega)
  have hz4 : w4.heap.size = w3.heap.size := HZ4.out
  have HS4 := Lib.hid (CpS.start HK4.out HR4.out HN4.out HO4.out HCL.out HC6.out HKD.out HB4.out (by omega))
  have k4 : w4.cell? ⟨w.heap.size, 4, none⟩ = some (.slice A2 v.its.length c2) := HK4.out.cell 4
  clear HB3 HO3 HN3 HG4 HZ4 HK4 HR4 HB4 HN4 HO4
  generalize w4.heap.size = ws at *
  go_wp2_with fail
  clear k4
  obtain ⟨len, HLEN⟩ : ∃ n, Hid (v.its.length = n) := ⟨_, Lib.hid rfl⟩
  have hlen := HLEN.out
  rw [hlen] at hl1
  simp only [hlen]
  clear hlen
  go_loopw [15] (fun vi wr => ∃ (i : Nat) (F : Nat → Nat → Prop) (cc : Nat → List Value), vi = .int .i64 i ∧ i ≤ len ∧ Hid (CpS w wr v A2 A2' c2 c2' ws i F cc)) (fun vi _ => len - (intOf vi).toNat)
  case atStart => exact ⟨0, _, _, rfl, Nat.zero_le _, HS4⟩
  case round =>
    obtain ⟨i, F, cc, rfl, hi, HS⟩ := hrel
    by_cases hlt : i < len
    · have hiv : i < v.its.length := by rw [HLEN.out]; exact hlt
      obtain ⟨r, cur, hA, hr0, hr1, hbr, hsz, _, hrest⟩ := HS.out.items (by omega)
      obtain ⟨cs0, hrv, hcell⟩ := hrest i (Nat.le_refl _) hiv
      obtain ⟨u0, u1, u2, u3, u4, u5, rfl⟩ := lst_six hrv.six.1
      subst hA
      have HRV := Lib.hid hrv
      have HBR := Lib.hid hbr
      have HSZ := Lib.hid hsz
      have hgr : w.heap.size < wr.heap.size := HS.out.box.lt
      have hrr : r < wr.heap.size := hbr.lt
      have k4 : wr.cell? ⟨w.heap.size, 4, none⟩ = some (.slice (some ⟨r, 0, none⟩) len c2) := by
        rw [← HLEN.out]; exact HS.out.box.cell 4
      have HCE : Hid (∀ q u, [u0, u1, u2, u3, u4, u5][q]? = some u → wr.drew.cell? ⟨r, i * 6 + q, none⟩ = some u) := fun q u hu => (hbr.cell _).trans (hcell q u hu)
      clear hrest hcell hrv hbr hsz
      go_upto_region 6 with fail
--@region
      refine wp_region_held_drew (S := (fun V => V.cell? ⟨w.heap.size, 4, none⟩ = some (.slice (some ⟨r, 0, none⟩) len c2))) (by kernel_rfl) ?_ (fun hHeld => ?_)
      · (try dsimp only); exact k4
      refine wpAnyH_take (i := 0) (v := ?v0) (by rw [List.getElem?_toArray]; exact rfl) (by kernel_rfl) (by kernel_rfl) (by kernel_rfl) (by exact fun _ _ _ h => h) (Or.inl ⟨by rfl, ?y0⟩) (by assumption) ?r0
      case y0 => (intro w hSw; (try dsimp only at hSw); go_simp; try with_reducible rfl)
      try simp only [Act.put, List.setIfInBounds_toArray, List.set_cons_zero, List.set_cons_succ]
      refine wpAnyH_take (i := 1) (v := ?v1) (by rw [List.getElem?_toArray]; exact rfl) (by kernel_rfl) (by kernel_rfl) (by kernel_rfl) (by exact fun _ _ _ h => h) (Or.inl ⟨by rfl, ?y1⟩) (by assumption) ?r1
      case y1 => (intro w hSw; (try dsimp only at hSw); go_simp; try with_reducible rfl)
      try simp only [Act.put, List.setIfInBounds_toArray, List.set_cons_zero, List.set_cons_succ]
      refine wpAnyH_take (i := 2) (v := ?v2) (by rw [List.getElem?_toArray]; exact rfl) (by kernel_rfl) (by kernel_rfl) (by kernel_rfl) (by exact fun _ _ _ h => h) (Or.inl ⟨by rfl, ?y2⟩) (by assumption) ?r2
      case y2 => (intro w hSw; (try dsimp only at hSw); go_simp; try with_reducible rfl)
      try simp only [Act.put, List.setIfInBounds_toArray, List.set_cons_zero, List.set_cons_succ]
      refine wpAnyH_take (i := 3) (v := ?v3) (by rw [List.getElem?_toArray]; exact rfl) (by kernel_rfl) (by kernel_rfl) (by kernel_rfl) (by exact fun _ _ _ h => h) (Or.inl ⟨by rfl, ?y3⟩) (by assumption) ?r3
      case y3 => (intro w hSw; (try dsimp only at hSw); go_simp; try with_reducible rfl)
      try simp only [Act.put, List.setIfInBounds_toArray, List.set_cons_zero, List.set_cons_succ]
      refine wpAnyH_take (i := 4) (v := ?v4) (by rw [List.getElem?_toArray]; exact rfl) (by kernel_rfl) (by kernel_rfl) (by kernel_rfl) (by exact fun _ _ _ h => h) (Or.inl ⟨by rfl, ?y4⟩) (by assumption) ?r4
      case y4 => (intro w hSw; (try dsimp only at hSw); go_simp; try with_reducible rfl)
      try simp only [Act.put, List.setIfInBounds_toArray, List.set_cons_zero, List.set_cons_succ]
      refine wpAnyH_take (i := 5) (v := ?v5) (by rw [List.getElem?_toArray]; exact rfl) (by kernel_rfl) (by kernel_rfl) (by kernel_rfl) (by exact fun _ _ _ h => h) (Or.inl ⟨by rfl, ?y5⟩) (by assumption) ?r5
      case y5 => (intro w hSw; (try dsimp only at hSw); go_simp; try with_reducible rfl)
      try simp only [Act.put, List.setIfInBounds_toArray, List.set_cons_zero, List.set_cons_succ]
      refine wpAnyH_take (i := 6) (v := ?v6) (by rw [List.getElem?_toArray]; exact rfl) (by kernel_rfl) (by kernel_rfl) (by kernel_rfl) (by exact fun _ _ _ h => h) (Or.inl ⟨by rfl, ?y6⟩) (by assumption) ?r6
      case y6 => (intro w hSw; (try dsimp only at hSw); go_simp; try with_reducible rfl)
      try simp only [Act.put, List.setIfInBounds_toArray, List.set_cons_zero, List.set_cons_succ]
      refine wpAnyH_ready (rs := [7]) (by kernel_rfl) (by simp) ?_
      intro jj hjj
      obtain rfl := List.mem_singleton.1 hjj
      clear hjj
      refine wpOp_step (by rw [List.getElem?_toArray]; exact rfl) (fun K hK => ?_)
      replace hK := Lib.hid hK
      refine step_load_at6 rfl 30 (.tmp 24) rfl r (i * 6) (by simp [Act.eval]) [u0, u1, u2, u3, u4, u5] _ HCE.out Tryz.underlying30 rfl (inf_six rfl) ?_
      refine hK.out _ _ (and_by ?_ (fun hHeld => ?_))
      · (try dsimp only); exact k4
      clear hK K
      try simp only [Act.put, List.setIfInBounds_toArray, List.set_cons_zero, List.set_cons_succ]
      refine wpAnyH_ready (rs := [8]) (by kernel_rfl) (by simp) ?_
      intro jj hjj
      obtain rfl := List.mem_singleton.1 hjj
      clear hjj
      refine wpOp_step (by rw [List.getElem?_toArray]; exact rfl) (fun K hK => ?_)
      replace hK := Lib.hid hK
      go_simp
      refine (HIH.out i hiv _ _ (HRV.out.step (below_drewK HS.out.kp))).mono ?_
      rintro e w5 ⟨cs5, rfl, ht5, hb5⟩
      have HT5 := Lib.hid ht5
      have HB5 := Lib.hid hb5
      have k5 : w5.cell? ⟨w.heap.size, 4, none⟩ = some (.slice (some ⟨r, 0, none⟩) len c2) := (HB5.out.cell (p := ⟨w.heap.size, 4, none⟩) hgr).trans k4
      clear ht5 hb5
      go_wp2_with fail
      refine hK.out _ _ (and_by ?_ (fun hHeld => ?_))
      · (try dsimp only); exact k5
      clear hK K
      try simp only [Act.put, List.setIfInBounds_toArray, List.set_cons_zero, List.set_cons_succ]
      refine wpAnyH_take (i := 9) (v := ?v9) (by rw [List.getElem?_toArray]; exact rfl) (by kernel_rfl) (by kernel_rfl) (by kernel_rfl) (by exact fun _ _ _ h => h) (Or.inl ⟨by rfl, ?y9⟩) (by assumption) ?r9
      case y9 => (intro w hSw; (try dsimp only at hSw); go_simp; try with_reducible rfl)
      try simp only [Act.put, List.setIfInBounds_toArray, List.set_cons_zero, List.set_cons_succ]
      refine wpAnyH_ready (rs := [10]) (by kernel_rfl) (by simp) ?_
      intro jj hjj
      obtain rfl := List.mem_singleton.1 hjj
      clear hjj
      refine wpOp_step (by rw [List.getElem?_toArray]; exact rfl) (fun K hK => ?_)
      replace hK := Lib.hid hK
      refine step_store_mid6 rfl 30 (.tmp 27) (.tmp 26) rfl rfl r (i * 6) cs5.toArray (by simp [Act.eval]) (by simp [Act.eval]) (Blk.below (HBR.out.drew) HB5.out hrr) (inf_six HT5.out.six) (by rw [List.size_toArray, HT5.out.six]; have := HSZ.out; omega) HT5.out.one ?_
      intro w6 hB6 hg6 hz6
      refine hK.out _ _ (and_by ?_ (fun hHeld => ?_))
      · (try dsimp only); exact (gr_cell hg6 (p := ⟨w.heap.size, 4, none⟩) (Nat.lt_of_lt_of_le hgr HB5.out.size) (by simp only; omega)).trans k5
      clear hK K
      try simp only [Act.put, List.setIfInBounds_toArray, List.set_cons_zero, List.set_cons_succ]
      refine wpAnyH_done (by kernel_rfl) ?_ _
      --@end
      have hB6' : Blk w6 r 30 (cur.toList.take (i * 6) ++ cs5 ++ cur.toList.drop (i * 6 + 6)).toArray := by
        have e6 : cs5.toArray.size = 6 := by rw [List.size_toArray]; exact HT5.out.six
        rw [e6] at hB6
        exact hB6
      have HS6 := Lib.hid (HS.out.drew.next hiv rfl HBR.out.drew HB5.out HT5.out hB6' hg6 hz6)
      clear hB6 hB6' hg6 hz6 hHeld k5 HB5 HT5
      go_wp2_with fail
      go_roundw
      case rel => first | exact ⟨i + 1, _, _, by go_num, hlt, HS6⟩ | (refine ⟨_, _, _, _, _, _, _, _, _, _, _, _, _, ?_, rfl⟩; exact ⟨i + 1, _, _, by go_num, hlt, HS6⟩)
      case measure => simp [intOf]; omega
    · obtain rfl : i = len := by omega
      obtain rfl : v.its.length = i := HLEN.out
      have HBX := Lib.hid HS.out.box
      have HRS := Lib.hid HS.out.res
      go_wp2_with (first
        | (refine wpList_load_row rfl 30 (.tmp 1) rfl w.heap.size rfl 30 _ (0, 0) _ HBX.out Tryz.underlying30 rfl v_info ?_)
        | (refine wpList_storeB rfl 30 (.tmp 2) (.tmp 29) rfl rfl (w.heap.size + 1) (vcs v A2 A2' c2 c2').toArray rfl rfl HRS.out v_info rfl rfl ?_; intro w7 hB7 hg7 hz7))
      refine bodyPost_ret (results_cellB (p := 2) rfl _ hB7 _ rfl Tryz.underlying30 rfl v_info) rfl ⟨vcs v A2 A2' c2 c2', rfl, ?_, ?_⟩
      · have hT := (HS.out.done.tr c2 c2').keep (W := w7) fun x hx => hg7.block x hx.2 (fun e => by injection e with e; omega)
        exact hT.wide fun x hx => ⟨by omega, by rw [hz7]; exact hx.2⟩
      · exact HS.out.kp.grown hg7 HS.out.kp.size (fun k e => by injection e with e; omega)
end Go.Proofs.YtacnoedhpamdmaaGreatDoor
