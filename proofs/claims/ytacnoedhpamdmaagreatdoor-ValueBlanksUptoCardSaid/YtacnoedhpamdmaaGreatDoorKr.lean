/- Walk: the law ValueBlanks. Conditions: the arguments as they read; at most 1048575 ints. -/
import Derived.Test.YtacnoedhpamdmaaGreatDoorKq
import Derived.Test.YtacnoedhpamdmaaGreatDoorKp
import Derived.Test.YtacnoedhpamdmaaGreatDoorKh
namespace Go.Proofs.YtacnoedhpamdmaaGreatDoor
open Go.RowKit
set_option linter.unusedVariables false
set_option linter.unusedSimpArgs false
attribute [local go_sem ↓] Go.wp_at_zero Go.wp_at_succ

/-- What the law's list has laid so far. -/
structure LwS (w wr : World) (x n : Nat) (A : Option Addr) (c : Nat) (l : List Int) : Prop where
  xr : Blk wr x 30 (vlC A n c)
  ow : wr.ownsRow (x + 1) 30 6 (.slice A n c) n (cellsV (l.take n))
  bl : Below w.heap.size w wr
  xl : w.heap.size ≤ x
theorem LwS.step {w wr w' : World} {x n c : Nat} {A : Option Addr} {l : List Int} (h : LwS w wr x n A c l) (hb : Below wr.heap.size wr w') : LwS w w' x n A c l :=
  ⟨h.xr.below hb h.xr.lt, own_below h.ow hb, h.bl.trans (hb.mono h.bl.size), h.xl⟩
theorem LwS.more {w w5 w6 : World} {x n c c6 : Nat} {A A6 : Option Addr} {l : List Int} {z : Int} {o : Obj} (h : LwS w w5 x n A c l) (hn : n < l.length) (hz : l[n] = z) (ho : w6.ownsRow (x + 1) 30 6 (.slice A6 (n + 1) c6) (n + 1) (cellsV (l.take n) ++ v2c z))
    (hg : (w5.alloc o).grownBy w6 (Value.slice A n c).ownBlock) : LwS w (w6.setCell ⟨x, 4, none⟩ (.slice A6 (n + 1) c6)) x (n + 1) A6 c6 l := by
  have hob : ∀ r, (Value.slice A n c).ownBlock = some r → x + 1 ≤ r := fun r hr => (own_at6 h.ow hr).1
  have hxl := h.xl
  have hxr : Blk w6 x 30 (vlC A n c) := (h.xr.alloc o).grown hg (fun e => by have := hob _ e.symm; omega)
  refine ⟨hxr.set_ 4 _, ?_, ?_, hxl⟩
  · have e : cellsV (l.take (n + 1)) = cellsV (l.take n) ++ v2c z := by
      rw [List.take_succ_eq_append_getElem hn, hz, cellsV_snoc]
    rw [e]
    exact own_keep6 ho fun r hr => Below.heap_setCell w6 _ _ r (by have := (own_at6 ho hr).1; simp only; omega)
  · exact ((h.bl.alloc h.bl.size o).grown hg (Nat.le_trans h.bl.size (by simp)) (fun k e => by have := hob k e; omega)).setCell (p := ⟨x, 4, none⟩) hxl _
theorem LwS.done {w wr : World} {x c : Nat} {A : Option Addr} {l : List Int} (h : LwS w wr x l.length A c l) : Tr wr (fun i => x + 1 ≤ i ∧ i < wr.heap.size) (lstV l) (vlC A l.length c).toList := by
  have e : (vlC A l.length c).toList = vcs (lstV l) A none c 0 := by
    unfold vlC vcs lstV
    simp [Val.k, Val.i, Val.f, Val.t, Val.its, Val.nms]
  rw [e]
  refine TrI.tr (F := fun _ _ => False) (cc := fun j => v2c (l.getD j 0)) ⟨fun h0 => absurd h0 (by simp [lstV, Val.nms]), fun h0 => ?_, fun j _ i hi => hi.elim, fun j j' _ _ i hi => hi.elim, fun j hj => ?_⟩ c 0
  · have hl : (lstV l).its.length = l.length := by simp [lstV, Val.its]
    rw [hl] at h0 ⊢
    obtain ⟨b, cur, hA, h1, h2, h3, h4, h5⟩ := own_blk h.ow h0
    refine ⟨b, cur, hA, ⟨h1, h2⟩, fun j _ hx => hx, h3, h4, fun j q u hj hu => h5 _ u ?_⟩
    have hq : q < 6 := (List.getElem?_eq_some_iff.1 hu).1
    rw [List.take_length, cellsV_get hj hq]
    simpa [List.getD, List.getElem?_eq_getElem hj] using hu
  · have hl : (lstV l).its.length = l.length := by simp [lstV, Val.its]
    have hj' : j < l.length := by rw [hl] at hj; exact hj
    have e2 : (lstV l).its[j] = intV (l.getD j 0) := by
      simp [lstV, Val.its, List.getD, List.getElem?_eq_getElem hj']
    rw [e2]
    exact Tr.leaf _ _
theorem bst5 (a b c d e : List UInt8) : Value.string (((⟨a.toArray⟩ : ByteArray) ++ ((⟨b.toArray⟩ : ByteArray) ++ ⟨c.toArray⟩)) ++ ((⟨d.toArray⟩ : ByteArray) ++ ⟨e.toArray⟩)) = bst ((a ++ (b ++ c)) ++ (d ++ e)) := by rw [ByteArray.mk_append_mk, ByteArray.mk_append_mk, ByteArray.mk_append_mk, ByteArray.mk_append_mk]
theorem wpList_load_rowGB {P : Program} {ops : Array Oper} {rest : List Oper} {o : Oper} {a : Act} {w : World} {Q : Exit → Act → World → Prop} (hgd : Region.wanted o (yielded ops a.tmps) = true) (ty : TypeId) (x : Operand) (ho : o.op = .load ty x)
    (g : Nat) (hx : a.eval x = .pointer (some ⟨g, 0, none⟩)) (t : TypeId) (cs : Array Value) (fr : Nat × Nat) (d : TypeDesc) (hg : w.heap[g]? = some (.cells cs t fr))
    (hu : P.underlying ty = some d) (hd : (match d with | .struct _ | .array _ _ => true | _ => false) = true) (hi : (P.info? ty).map (·.size) = some cs.size)
    (h : wpList P ops Q rest (a.put o.dst (.agg cs)) w) : wpList P ops Q (o :: rest) a w :=
  wpList_step fun K hK => by
    rw [if_pos hgd]
    exact wp_load_row ty x ho g hx t cs fr d hg hu hd hi (hK _ _ h)
theorem new_belowB {w2 w3 : World} {o : Obj} (hg : (w2.alloc o).grownBy w3 (some w2.heap.size)) : Below w2.heap.size w2 w3 :=
  ((Below.refl w2.heap.size w2).alloc (Nat.le_refl _) o).grown hg (by simp) (fun k e => by injection e with e; omega)
theorem bst4 (a b c d : List UInt8) : Value.string ((⟨a.toArray⟩ : ByteArray) ++ (((⟨b.toArray⟩ : ByteArray) ++ ⟨c.toArray⟩) ++ ⟨d.toArray⟩)) = bst (a ++ ((b ++ c) ++ d)) := by rw [ByteArray.mk_append_mk, ByteArray.mk_append_mk, ByteArray.mk_append_mk]
theorem ltx_rest (G : Nat → List UInt8) (l : List Int) : rest ⟨(ltx G l).toArray⟩ 0 = G 0 ++ (91 :: tailN G l (G 4) 0) := by
  unfold rest ltx tailN
  simp
set_option maxRecDepth 100000 in
set_option maxHeartbeats 2000000 in
theorem c_ValueBlanks (A A' : Option Addr) (n c n' c' : Nat) (ns bs : List Int) (w : World) (hr : Reads w w.heap.size 1 A n (i64s ns)) (hr' : Reads w w.heap.size 1 A' n' (bs.map (Value.int .u8))) (hns : ∀ z ∈ ns, (Lit.int .i64 z).wf = true) (hbs : ∀ z ∈ bs, (Lit.int .u8 z).wf = true) (hn : n ≤ 1048575) (hn' : n' ≤ 1048576) :
    Calls Tryz.prog 3 #[.slice A n c, .slice A' n' c'] w fun e w' => e = .returned (.bool true) ∧ Below w.heap.size w w' := by
  obtain ⟨i0, hi0, hz0, hz1, hz2⟩ := info_parts vl_info
  have hnl : ns.length = n := by simpa using hr.1
  have hb : ∀ z ∈ bs, 0 ≤ z ∧ z < 256 := fun z hz => by have := bounds_u8 (hbs z hz); omega
  have hz : ∀ z ∈ ns, -9223372036854775808 ≤ z ∧ z < 9223372036854775808 := fun z hz => by have := bounds_i64 (hns z hz); omega
  have HZ := Lib.hid hz
  have HNL := Lib.hid hnl
  have HRN := Lib.hid hr
  have HGB : Hid (∀ k, allBl (gapA bs k)) := gapA_bl bs
  have HGL : Hid (∀ k, (gapA bs k).length ≤ 4) := gapA_len hb
  have HWF := Lib.hid (lstV_wf hns)
  have HG : Hid (∀ W, Below w.heap.size w W → ∀ a : Nat, a ≤ 1099511627776 → Calls Tryz.prog 11 #[.slice A' n' c', .int .i64 (a : Int)] W fun e w' => e = .returned (bst (gapA bs a)) ∧ w' = W) := fun W hB a ha => c_gap A' n' c' bs a W ((hr'.below hB).more hB.size) hb (by omega) ha
  generalize gapA bs = G at *
  have HG0 : Hid (∀ W, Below w.heap.size w W → Calls Tryz.prog 11 #[.slice A' n' c', .int .i64 0] W fun e w' => e = .returned (bst (G 0)) ∧ w' = W) := fun W hB => HG.out W hB 0 (by omega)
  have HG3 : Hid (∀ W, Below w.heap.size w W → Calls Tryz.prog 11 #[.slice A' n' c', .int .i64 3] W fun e w' => e = .returned (bst (G 3)) ∧ w' = W) := fun W hB => HG.out W hB 3 (by omega)
  have HG4 : Hid (∀ W, Below w.heap.size w W → Calls Tryz.prog 11 #[.slice A' n' c', .int .i64 4] W fun e w' => e = .returned (bst (G 4)) ∧ w' = W) := fun W hB => HG.out W hB 4 (by omega)
  clear hr hr' hns hbs hb hz hnl
  go_enter Tryz.func3, Tryz.ntmps3
  go_wp2_with fail
  refine (c_awake _).mono ?_; rintro e w1 ⟨rfl, hb1⟩
  have HB1 := Lib.hid hb1
  have hl0 := HGL.out 0
  clear hb1
  go_wp2_with (first
    | (go_at_call 11; refine (HG0.out _ HB1.out).mono ?_; rintro e w2 ⟨rfl, rfl⟩; have HN2 := Lib.hid (Blk.new w2 30 vz); have hz2 : (w2.alloc (.cells vz 30)).heap.size = w2.heap.size + 1 := by simp)
    | (refine wpList_storeB rfl 30 (.tmp 6) (.tmp 17) rfl rfl w2.heap.size (vlC none 0 0) (by simp [Act.eval]) rfl HN2.out v_info rfl rfl ?_; intro w3 hB3 hg3 hz3; have HS3 : Hid (LwS w w3 w2.heap.size 0 none 0 ns) := ⟨hB3, World.ownsRow_nil _ _ _ _, (HB1.out.alloc HB1.out.size _).grown hg3 (Nat.le_trans HB1.out.size (by simp)) (fun k e => by injection e with e; have := HB1.out.size; omega), HB1.out.size⟩; clear hB3 hg3 hz3 hz2))
  have HX0 : Hid (G 0 ++ [91] = G 0 ++ [91] ++ itx G 0 (ns.take 0)) := by show _ = _; simp [itx]
  clear HN2 HB1
  generalize w2.heap.size = x at *
  go_loopw [5, 20] (fun vs vi wr => ∃ (i : Nat) (T : List UInt8) (Av : Option Addr) (cv : Nat), vs = bst T ∧ vi = .int .i64 i ∧ i ≤ n ∧ Hid (T = G 0 ++ [91] ++ itx G 0 (ns.take i)) ∧ Hid (LwS w wr x i Av cv ns)) (fun _ vi _ => n - (intOf vi).toNat)
  case atStart => exact ⟨0, G 0 ++ [91], none, 0, bst_add _ _, rfl, Nat.zero_le _, HX0.out, HS3⟩
  case round =>
    obtain ⟨i, T, Av, cv, rfl, rfl, hi, HT, HS⟩ := hrel
    clear HX0 HS3
    have hT : T.length ≤ 40000000 := by
      rw [HT.out]
      have h1 := itx_len HGL.out (ns.take i) 0 (fun z hz => HZ.out z (List.mem_of_mem_take hz))
      have h2 := HGL.out 0
      have h3 := HNL.out
      simp only [List.length_append, List.length_singleton, List.length_take] at *
      omega
    by_cases hlt : i < n
    · obtain ⟨b, off, hA, hb1, hb2, hcell⟩ := HRN.out.form (by omega)
      subst hA
      have hil : i < ns.length := by rw [HNL.out]; exact hlt
      have kz : wr.cell? ⟨b, off + i, none⟩ = some (.int .i64 (ns.getD i 0)) := by
        rw [HS.out.bl.cell (p := ⟨b, off + i, none⟩) hb1, hcell i hlt, getD_i64s hil]
      have hzz : ns.getD i 0 = ns[i] := by simp [List.getD, List.getElem?_eq_getElem hil]
      have hzr := HZ.out ns[i] (List.getElem_mem hil)
      have HNX : Hid (itx G 0 (ns.take (i + 1)) = itx G 0 (ns.take i) ++ ((if i = 0 then [] else G (2 * i) ++ [44]) ++ (G (2 * i + 1) ++ Lib.itoa ns[i]))) := by
        show _ = _
        rw [List.take_succ_eq_append_getElem hil, itx_snoc, List.length_take, Nat.min_eq_left (by omega), Nat.zero_add]
      rw [hzz] at kz
      obtain ⟨z, hz⟩ : ∃ z, ns[i] = z := ⟨_, rfl⟩
      have HZI : Hid (ns[i]'hil = z) := hz
      rw [hz] at kz hzr HNX
      have hit := (itoa_len hzr.1 hzr.2).2
      have HDG : Hid (∀ W, Calls Tryz.prog 12 #[.int .i64 z] W fun e w' => e = .returned (bst (Lib.itoa z)) ∧ Below W.heap.size W w') := fun W => c_Digits z hzr.1 hzr.2 W
      have HGE : Hid (∀ W, Below w.heap.size w W → Calls Tryz.prog 11 #[.slice A' n' c', .int .i64 (2 * (i : Int))] W fun e w' => e = .returned (bst (G (2 * i))) ∧ w' = W) := fun W hB => by
        have := HG.out W hB (2 * i) (by omega)
        rwa [show ((2 * i : Nat) : Int) = 2 * (i : Int) by omega] at this
      have HGO : Hid (∀ W, Below w.heap.size w W → Calls Tryz.prog 11 #[.slice A' n' c', .int .i64 (2 * (i : Int) + 1)] W fun e w' => e = .returned (bst (G (2 * i + 1))) ∧ w' = W) := fun W hB => by
        have := HG.out W hB (2 * i + 1) (by omega)
        rwa [show ((2 * i + 1 : Nat) : Int) = 2 * (i : Int) + 1 by omega] at this
      have he := HGL.out (2 * i)
      have ho := HGL.out (2 * i + 1)
      clear hcell hzz hz hzr
      generalize Lib.itoa z = D at *
      generalize G (2 * i) = ge at *
      generalize G (2 * i + 1) = go at *
      have hn1 : n ≤ 1048575 := hn
      by_cases hi0 : i = 0
      · have HI0 := Lib.hid hi0
        have hgt : ¬ 0 < i := by omega
        clear hi0
        go_wp2_with (first
          | (go_at_call 11; refine (HGO.out _ HS.out.bl).mono ?_; rintro e w2 ⟨rfl, rfl⟩)
          | (go_at_call 12; refine (HDG.out _).mono ?_; rintro e w3 ⟨rfl, hb3⟩; have HS3 := Lib.hid (HS.out.step hb3); have k4 : w3.cell? ⟨x, 4, none⟩ = some (.slice Av i cv) := HS3.out.xr.cell 4; have k4a : ∀ o : Obj, (w3.alloc o).cell? ⟨x, 4, none⟩ = some (.slice Av i cv) := (fun o => (HS3.out.xr.alloc o).cell 4); have HRA := Lib.hid (Reads.of_own (World.ownsRow_lit (e := 30) (size := 6) (base := 0) w3 (v2c z).toArray 1 (Nat.zero_le _) (by decide) rfl) : Reads (w3.alloc (.cells (v2c z).toArray 30)) _ 6 (some ⟨w3.heap.size, 0, none⟩) 1 (v2c z)); have HOA : Hid ((w3.alloc (.cells (v2c z).toArray 30)).ownsRow (x + 1) 30 6 (.slice Av i cv) i (cellsV (ns.take i))) := (own_keep6 HS3.out.ow fun r hr => Below.heap_alloc w3 _ r (own_at6 HS3.out.ow hr).2); have hxl : x < w3.heap.size := HS3.out.xr.lt; clear hb3)
          | (refine wpList_append_any _ rfl (.tmp 45) (.tmp 48) 27 rfl (x + 1) 30 i0 _ 6 88 Tryz.underlying27 hi0 hz0 hz1 hz2 rfl (by omega) (.slice Av i cv) i (cellsV (ns.take i)) (by simp [Act.eval]) HOA.out _ (some ⟨w3.heap.size, 0, none⟩) 1 1 (v2c z) (by simp [Act.eval]) HRA.out (by simp [Value.oneCell']) (by simp only [maxLen]; omega) (by omega) (by simp; omega) ?_; intro v6 w6 hown6 hg6 _; obtain ⟨A6, k6, rfl⟩ := own_hdr hown6; have HS6 := Lib.hid (HS3.out.more hil HZI.out hown6 hg6); have hx6 : Blk w6 x 30 (vlC Av i cv) := ((HS3.out.xr.alloc _).grown hg6 (fun e => by have := (own_at6 HOA.out e.symm).1; omega)); have c6 : w6.cell? ⟨x, 4, none⟩ = some (.slice Av i cv) := hx6.cell 4; have f6 := hx6.frozen 4; clear hown6 hg6 hx6))
        clear k4 k4a HRA HOA c6 f6 hxl HS3
        go_roundw
        case rel => exact ⟨i + 1, T ++ (go ++ D), A6, k6, bst3 T go D, by go_num, hlt, by show _ = _; rw [HNX.out, if_pos HI0.out, HT.out]; simp only [List.append_assoc, List.nil_append], HS6⟩
        case measure => simp [intOf]; omega
      · have HI0 := Lib.hid hi0
        have hgt : 0 < i := by omega
        clear hi0
        go_upto_region 10 with (first | (go_at_call 11; refine (HGE.out _ HS.out.bl).mono ?_; rintro e w2 ⟨rfl, rfl⟩))
        go_wp2_with (first
          | (go_at_call 11; refine (HGO.out _ HS.out.bl).mono ?_; rintro e w2 ⟨rfl, rfl⟩)
          | (go_at_call 12; refine (HDG.out _).mono ?_; rintro e w3 ⟨rfl, hb3⟩; have HS3 := Lib.hid (HS.out.step hb3); have k4 : w3.cell? ⟨x, 4, none⟩ = some (.slice Av i cv) := HS3.out.xr.cell 4; have k4a : ∀ o : Obj, (w3.alloc o).cell? ⟨x, 4, none⟩ = some (.slice Av i cv) := (fun o => (HS3.out.xr.alloc o).cell 4); have HRA := Lib.hid (Reads.of_own (World.ownsRow_lit (e := 30) (size := 6) (base := 0) w3 (v2c z).toArray 1 (Nat.zero_le _) (by decide) rfl) : Reads (w3.alloc (.cells (v2c z).toArray 30)) _ 6 (some ⟨w3.heap.size, 0, none⟩) 1 (v2c z)); have HOA : Hid ((w3.alloc (.cells (v2c z).toArray 30)).ownsRow (x + 1) 30 6 (.slice Av i cv) i (cellsV (ns.take i))) := (own_keep6 HS3.out.ow fun r hr => Below.heap_alloc w3 _ r (own_at6 HS3.out.ow hr).2); have hxl : x < w3.heap.size := HS3.out.xr.lt; clear hb3)
          | (refine wpList_append_any _ rfl (.tmp 45) (.tmp 48) 27 rfl (x + 1) 30 i0 _ 6 88 Tryz.underlying27 hi0 hz0 hz1 hz2 rfl (by omega) (.slice Av i cv) i (cellsV (ns.take i)) (by simp [Act.eval]) HOA.out _ (some ⟨w3.heap.size, 0, none⟩) 1 1 (v2c z) (by simp [Act.eval]) HRA.out (by simp [Value.oneCell']) (by simp only [maxLen]; omega) (by omega) (by simp; omega) ?_; intro v6 w6 hown6 hg6 _; obtain ⟨A6, k6, rfl⟩ := own_hdr hown6; have HS6 := Lib.hid (HS3.out.more hil HZI.out hown6 hg6); have hx6 : Blk w6 x 30 (vlC Av i cv) := ((HS3.out.xr.alloc _).grown hg6 (fun e => by have := (own_at6 HOA.out e.symm).1; omega)); have c6 : w6.cell? ⟨x, 4, none⟩ = some (.slice Av i cv) := hx6.cell 4; have f6 := hx6.frozen 4; clear hown6 hg6 hx6))
        clear k4 k4a HRA HOA c6 f6 hxl HS3
        go_roundw
        case rel => exact ⟨i + 1, (T ++ (ge ++ [44])) ++ (go ++ D), A6, k6, bst5 T ge [44] go D, by go_num, hlt, by show _ = _; rw [HNX.out, if_neg HI0.out, HT.out]; simp only [List.append_assoc], HS6⟩
        case measure => simp [intOf]; omega
    · obtain rfl : i = n := by omega
      have hnl := HNL.out
      subst hnl
      have hTF : T ++ ((G 3 ++ [93]) ++ G 4) = ltx G ns := by
        rw [HT.out, List.take_length]
        unfold ltx
        simp only [List.append_assoc]
      have HTR := Lib.hid HS.out.done
      have hxl := HS.out.xr.lt
      have HRV : Hid (RV wr (lstV ns) (vlC Av ns.length cv).toList) := ⟨HTR.out.rd fun i hi => hi.2, HWF.out, by rw [lstV_bnd]; omega⟩
      obtain ⟨E, hE⟩ : ∃ E, chk fone (lstV ns) = E := ⟨_, rfl⟩
      have HC : Hid (∀ W, RV W (lstV ns) (vlC Av ns.length cv).toList → Calls Tryz.prog 13 #[.agg (vlC Av ns.length cv)] W fun e w' => e = .returned (.int .i64 E) ∧ Below W.heap.size W w') := by rw [← hE]; exact fun W h => c_rCheck (lstV ns) _ W h
      have HEE := Lib.hid hE
      have h3 := HGL.out 3
      have h4 := HGL.out 4
      have HTF := Lib.hid hTF
      clear hE hTF HTR
      generalize G 3 = g3 at *
      generalize G 4 = g4 at *
      go_wp2_with (first
        | (go_at_call 11; (with_reducible refine (HG3.out _ HS.out.bl).mono ?_); rintro e w2 ⟨rfl, rfl⟩)
        | (go_at_call 11; (with_reducible refine (HG4.out _ HS.out.bl).mono ?_); rintro e w2 ⟨rfl, rfl⟩)
        | (refine wpList_load_row rfl 30 (.tmp 6) rfl x rfl 30 _ (0, 0) _ HS.out.xr Tryz.underlying30 rfl v_info ?_))
      refine (HC.out _ HRV.out).mono ?_
      rintro e w5 ⟨rfl, hb5⟩
      have HS5 := Lib.hid (HS.out.step hb5)
      have HRV5 := Lib.hid (HRV.out.step hb5)
      clear hb5 HS HRV HC
      by_cases hE0 : E = 0
      rotate_left
      · have hb : (E != 0) = true := by simpa using hE0
        clear hE0
        go_wp2_with fail
        go_ret
        exact ⟨rfl, HS5.out.bl⟩
      subst hE0
      by_cases hsz : 4194304 < T.length + (g3.length + 1 + g4.length)
      · have hsz2 : (4194304 : Int) < (T.length : Int) + ((g3.length : Int) + 1 + (g4.length : Int)) := by omega
        go_wp2_with fail
        go_ret
        exact ⟨rfl, HS5.out.bl⟩
      have hsz2 : ¬ (4194304 : Int) < (T.length : Int) + ((g3.length : Int) + 1 + (g4.length : Int)) := by omega
      have HPA : Hid (∀ W, Calls Tryz.prog 14 #[.string ((⟨T.toArray⟩ : ByteArray) ++ (((⟨g3.toArray⟩ : ByteArray) ++ ⟨#[93]⟩) ++ ⟨g4.toArray⟩))] W fun e w' => ∃ cs' : List Value, e = .returned (.tuple #[.agg cs'.toArray, .int .i64 0, .int .i64 0]) ∧ Tr w' (fun x => W.heap.size ≤ x ∧ x < w'.heap.size) (lstV ns) cs' ∧ Below W.heap.size W w') := fun W => by
        have h := c_ParseG ⟨(ltx G ns).toArray⟩ G HGB.out ns W (by
          have := congrArg List.length HTF.out
          simp only [List.length_append, List.length_singleton] at this
          show (ltx G ns).toArray.size ≤ _
          rw [List.size_toArray]; omega) (ltx_rest G ns) hn HZ.out HEE.out HWF.out
        rw [show (Value.string ((⟨T.toArray⟩ : ByteArray) ++ (((⟨g3.toArray⟩ : ByteArray) ++ ⟨#[93]⟩) ++ ⟨g4.toArray⟩))) = .string ⟨(ltx G ns).toArray⟩ from by rw [← HTF.out]; exact bst4 T g3 [93] g4]
        exact h
      have HBN : Hid (bnd (lstV ns) ≤ 1048576) := by show _ ≤ _; rw [lstV_bnd]; omega
      clear HTF HT
      go_wp2_with fail
      refine (HPA.out _).mono ?_
      rintro e w6 ⟨cs6, rfl, ht6, hb6⟩
      have HS6 := Lib.hid (HS5.out.step hb6)
      have HRV6 := Lib.hid (HRV5.out.step hb6)
      have HT6 := Lib.hid ht6
      have HN6 := Lib.hid (Blk.new w6 30 vz)
      have hvz : vz.size = cs6.toArray.size := by rw [show cs6.toArray.size = 6 by simpa using ht6.six]; rfl
      clear ht6 hb6 HS5 HRV5 HPA
      go_wp2_with (first
        | (refine wpList_storeB rfl 30 (.tmp 9) (.tmp 71) rfl rfl w6.heap.size cs6.toArray (by simp [Act.eval]) (by simp [Act.eval]) HN6.out (inf_six HT6.out.six) hvz HT6.out.one ?_; intro w7 hB7 hg7 hz7; have HS7 := Lib.hid (HS6.out.step (new_belowB hg7)); have HRV7 := Lib.hid (HRV6.out.step (new_belowB hg7)); have HX7 := Lib.hid hB7; have HU7 : Hid (RV w7 (lstV ns) cs6) := ⟨(HT6.out.keep (W := w7) fun i hi => (new_belowB hg7).block i hi.2).rd fun i hi => Nat.lt_of_lt_of_le hi.2 (new_belowB hg7).size, HWF.out, HBN.out⟩)
        | (refine wpList_load_rowGB (by rfl) 30 (.tmp 6) rfl x rfl 30 _ (0, 0) _ HS7.out.xr Tryz.underlying30 rfl v_info ?_)
        | (refine wpList_load_rowGB (by rfl) 30 (.tmp 9) rfl w6.heap.size rfl 30 _ (0, 0) _ HX7.out Tryz.underlying30 rfl (inf_six HT6.out.six) ?_))
      refine (c_alike (lstV ns) _ cs6 _ HRV7.out HU7.out).mono ?_
      rintro e w8 ⟨rfl, hb8⟩
      have HS8 := Lib.hid (HS7.out.step hb8)
      clear hb8 HS7 HRV7 HX7 HU7 hB7 hg7 hz7
      go_wp2_with fail
      go_ret
      exact ⟨rfl, HS8.out.bl⟩
theorem l_ValueBlanks (W : World) (A : Option Addr) (n c : Nat) (ns : List Int) (hr : RdInts W .i64 8 A n c ns) (A' : Option Addr) (n' c' : Nat) (bs : List Int) (hr' : RdInts W .u8 1 A' n' c' bs) (hn : n + 1 ≤ 1048576) (hn' : n' + 1 ≤ 1048576) :
    Calls Tryz.prog 3 #[.slice A n c, .slice A' n' c'] W fun e W' => e = .returned (.bool true) ∧ Below W.heap.size W W' :=
  c_ValueBlanks A A' n c n' c' ns bs W hr.2.2.2 hr'.2.2.2 hr.2.2.1 hr'.2.2.1 (by omega) (by omega)
end Go.Proofs.YtacnoedhpamdmaaGreatDoor
