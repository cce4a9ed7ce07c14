/- Walk: a list of entries printed (sums.Print). Conditions: at most 1048576 entries; the library's table of tens as laid. -/
import Derived.Test.YtjaohjlddhjgpaaGreatDoorLsl
import Derived.Test.YtjaohjlddhjgpaaGreatDoorLb
namespace Go.Proofs.YtjaohjlddhjgpaaGreatDoor
open Go.RowKit
set_option linter.unusedVariables false
attribute [local go_sem ↓] Go.wp_at_zero Go.wp_at_succ

/-- A struct is read out of cells that follow one another, wherever they lie. -/
theorem run_loadVar_any {P : Program} (w : World) (p : Addr) (ty : TypeId) (cs : List Value) (d : TypeDesc) (hc : ∀ j v, cs[j]? = some v → w.cell? (p.add j) = some v)
    (hu : P.underlying ty = some d) (hd : d.isRow = true) (hi : (P.info? ty).map (·.size) = some cs.length) :
    (loadVar ty p).run P w = .ok (.agg cs.toArray) w := by
  have hl : (loadCells p cs.length).run P w = .ok cs.toArray w := run_loadCells_list (P := P) w p cs hc
  cases hq : P.info? ty with
  | none => simp [hq] at hi
  | some i =>
    have hs : i.size = cs.length := by simpa [hq] using hi
    have hagg : (isAgg ty).run P w = .ok true w := by
      unfold isAgg
      rw [Sem.run_bind, run_underlying hu w]
      cases d <;> simp_all
    simp [loadVar, Sem.run_bind, hagg, sizeOf, typeInfo, hq, hs, hl]
theorem wpList_load_any {P : Program} {ops : Array Oper} {rest : List Oper} {op : Oper} {a : Act} {w : World} {Q : Exit → Act → World → Prop} (hgd : op.guard = none) (ty : TypeId) (x : Operand) (ho : op.op = .load ty x)
    (p : Addr) (hx : a.eval x = .pointer (some p)) (cs : List Value) (d : TypeDesc) (hc : ∀ j v, cs[j]? = some v → w.cell? (p.add j) = some v)
    (hu : P.underlying ty = some d) (hd : d.isRow = true) (hi : (P.info? ty).map (·.size) = some cs.length)
    (h : wpList P ops Q rest (a.put op.dst (.agg cs.toArray)) w) : wpList P ops Q (op :: rest) a w :=
  wpList_plain hgd fun _ hK => by
    unfold Oper.wp execOp
    simp only [ho, hx, Instr.loadAt, Instr.sureAddr, Sem.run_bind, Sem.run_pure, Result.andThen_ok, run_loadVar_any w p ty cs d hc hu hd hi]
    exact hK _ _ h
/-- An entry of a list, where its digest lies. -/
structure Ent where
  e : Sm
  D : Option Addr
  n : Nat
  c : Nat
/-- A list of entries that can be read. -/
structure RdL (w : World) (A : Option Addr) (es : List Ent) : Prop where
  row : 0 < es.length → ∃ ad, A = some ad ∧ ad.block < w.heap.size ∧ ∀ k x, es[k]? = some x → ∀ j u, (smC x.e x.D x.n x.c).toList[j]? = some u → w.cell? ((ad.add (k * 4)).add j) = some u
  rds : ∀ x ∈ es, RdS w x.e x.D x.n x.c ∧ x.n ≤ 140737488351232
/-- An entry's line in the form that is asked for. -/
def lnS (tg : Bool) (e : Sm) : List UInt8 := if tg then tagS e else plainS e
/-- The lines of a list. -/
def lnsS (tg : Bool) (es : List Ent) : List UInt8 := es.flatMap fun x => lnS tg x.e ++ [10]
/-- May all be printed? -/
def okS (es : List Ent) : Bool := es.all fun x => rightS x.e
/-- What a printer of lists answers. -/
def PrnIs (tg : Bool) (es : List Ent) (x : Ending) : Prop := x = .returned (.tuple #[bstr (if okS es = true then lnsS tg es else []), .int .i64 (if okS es = true then 0 else 1)])
theorem lns_snoc (tg : Bool) (es : List Ent) (x : Ent) : lnsS tg (es ++ [x]) = lnsS tg es ++ (lnS tg x.e ++ [10]) := by simp [lnsS]
theorem ln_len (tg : Bool) {e : Sm} (h : rightS e = true) : (lnS tg e).length ≤ 9000 := by
  obtain ⟨p1, p2, p3, p4⟩ := right_parts h
  have h4 := fileB_le p4
  have hl := (esc_len e.nm.data.toList).2
  have hl2 : e.nm.data.toList.length = e.nm.size := rfl
  have ha := ahd_len e.nm
  have hh := hx_len e.dg
  have hw := swrd_len e.a
  have hd : (dsh e).length ≤ 4 := by
    unfold dsh; split
    · have := dig_len 2 (8 * e.dg.length) (by omega)
      simp; omega
    · simp
  unfold lnS
  split
  · simp only [tagS, List.length_append, List.length_cons, List.length_nil]; omega
  · simp only [plainS, List.length_append]
    have : (if e.st = true then ([32, 42] : List UInt8) else [32, 32]).length = 2 := by split <;> rfl
    rw [this]; simp only [List.length_nil]; omega
theorem lns_len (tg : Bool) (es : List Ent) (h : ∀ x ∈ es, rightS x.e = true) : (lnsS tg es).length ≤ 9001 * es.length := by
  induction es with
  | nil => simp [lnsS]
  | cons x r ih =>
    have h1 := ih fun y hy => h y (List.mem_cons_of_mem _ hy)
    have h2 := ln_len tg (h x List.mem_cons_self)
    simp only [lnsS, List.flatMap_cons, List.length_append, List.length_cons, List.length_nil] at h1 ⊢
    omega
set_option maxRecDepth 100000 in
set_option maxHeartbeats 4000000 in
theorem c_Print (tg : Bool) (A : Option Addr) (es : List Ent) (k cap : Nat) (hk : es.length = k) (w : World) (h : RdL w A es) (hn : k ≤ 1048576) (htab : Lib.TabIs Tryz.prog w "internal/strconv.uint64pow10" .u64 Lib.pow10Tab) :
    Calls Tryz.prog 12 #[.slice A k cap, .bool tg] w fun x w' => PrnIs tg es x ∧ Below w.heap.size w w' := by
  have HT : Hid (∀ W, Below w.heap.size w W → Lib.TabIs Tryz.prog W "internal/strconv.uint64pow10" .u64 Lib.pow10Tab) := fun W hb => Lib.tabBelow_of_tabIs htab W hb
  have HE := Lib.hid h
  clear h htab
  have HB0 := Lib.hid (isB_new w)
  have HBW := Lib.hid ((Below.refl w.heap.size w).alloc (Nat.le_refl _) (.cells #[.pointer none, .slice none 0 0] 61))
  go_enter Tryz.func12, Tryz.ntmps12
  go_wp2_with fail
  generalize w.alloc (.cells #[.pointer none, .slice none 0 0] 61) = w0 at *
  go_loopw [13] (fun vi wr => ∃ (i : Nat), vi = .int .i64 i ∧ i ≤ k ∧ Hid (∀ x ∈ es.take i, rightS x.e = true) ∧ Hid (IsB w.heap.size w.heap.size (lnsS tg (es.take i)) wr) ∧ Hid (Below w.heap.size w wr)) (fun vi _ => k - (intOf vi).toNat)
  case atStart => exact ⟨0, rfl, Nat.zero_le _, Lib.hid (by simp), Lib.hid (by simpa [lnsS] using HB0.out), HBW⟩
  case round =>
    obtain ⟨i, rfl, hi, HOK, HIS, HB⟩ := hrel
    by_cases hlt : i < k
    · obtain ⟨ad, hA, hadb, hcells⟩ := HE.out.row (by omega)
      subst hA
      obtain ⟨x, hx⟩ : ∃ x, es[i]? = some x := ⟨_, List.getElem?_eq_getElem (by omega)⟩
      have hxm := List.mem_of_getElem? hx
      have hcw : ∀ j u, (smC x.e x.D x.n x.c).toList[j]? = some u → wr.cell? ((ad.add (i * 4)).add j) = some u := fun j u hu => (HB.out.cell (by rw [block_of_add, block_of_add]; exact hadb)).trans (hcells i _ hx j u hu)
      obtain ⟨hrx, hnx⟩ := HE.out.rds x hxm
      have htk : es.take (i + 1) = es.take i ++ [x] := by rw [List.take_add_one, hx]; rfl
      have HOF : Hid (rightS x.e = false → okS es = false) := fun h => by
        unfold okS
        rw [Bool.eq_false_iff]
        intro h2
        rw [List.all_eq_true.1 h2 x hxm] at h
        cases h
      have HLN : Hid (rightS x.e = true → (lnS tg x.e).length ≤ 9000) := ln_len tg
      have HTL : Hid ((lnsS tg (es.take i)).length ≤ 9001 * 1048576) := by
        have := lns_len tg _ HOK.out
        rw [List.length_take] at this
        show _ ≤ _
        have h2 : min i es.length ≤ 1048576 := by omega
        have := Nat.mul_le_mul_left 9001 h2
        omega
      have HNX : Hid (rightS x.e = true → (∀ y ∈ es.take (i + 1), rightS y.e = true) ∧ lnsS tg (es.take (i + 1)) = lnsS tg (es.take i) ++ (lnS tg x.e ++ [10])) := fun hr => by
        rw [htk]
        refine ⟨fun y hy => ?_, lns_snoc _ _ _⟩
        rcases List.mem_append.1 hy with h | h
        · exact HOK.out y h
        · rw [List.mem_singleton.1 h]; exact hr
      clear hxm htk hx hcells
      obtain ⟨e, D, n, c⟩ := x
      simp only at hcw hrx hnx HOF HLN HNX
      have HPL : Hid (∀ W, Below w.heap.size w W → Calls Tryz.prog 7 #[smV e D n c] W fun x w' => LineIs (rightS e) (plainS e) x ∧ Below W.heap.size W w') := fun W hb => c_Plain e D n c W (hrx.step hb) hnx
      have HTG : Hid (∀ W, Below w.heap.size w W → Calls Tryz.prog 10 #[smV e D n c] W fun x w' => LineIs (rightS e) (tagS e) x ∧ Below W.heap.size W w') := fun W hb => c_Tagged e D n c W (hrx.step hb) hnx (HT.out W hb)
      have HLS : Hid (lnS tg e = if tg then tagS e else plainS e) := rfl
      unfold LineIs at HPL HTG
      have hbA : Below wr.heap.size wr (wr.alloc (.cells smZ 25)) := (Below.refl _ _).alloc (Nat.le_refl _) _
      have hB8 := Blk.new wr 25 smZ
      have HCW := Lib.hid hcw
      clear hcw hrx hnx
      generalize lnS tg e = ln at *
      generalize plainS e = pl at *
      generalize tagS e = tl at *
      generalize rightS e = rt at *
      rcases tg with _ | _
      · rcases rt with _ | _
        · have HPL2 : Hid (∀ W, Below w.heap.size w W → Calls Tryz.prog 7 #[.agg #[.int .i64 e.a, .string e.nm, .slice D n c, .bool e.st]] W fun x w' => x = .returned (.tuple #[bstr [], .int .i64 1]) ∧ Below W.heap.size W w') := HPL
          have HTG2 : Hid (∀ W, Below w.heap.size w W → Calls Tryz.prog 10 #[.agg #[.int .i64 e.a, .string e.nm, .slice D n c, .bool e.st]] W fun x w' => x = .returned (.tuple #[bstr [], .int .i64 1]) ∧ Below W.heap.size W w') := HTG
          clear HPL HTG
          have HOF2 := Lib.hid (HOF.out rfl)
          clear HLN HNX HOF
          obtain rfl : ln = pl := HLS.out
          clear HLS
          clear HTL
          go_wp2_with (first | (refine wpList_load_any rfl 25 (.tmp 15) rfl (ad.add (i * 4)) rfl (smC e D n c).toList _ HCW.out Tryz.underlying25 rfl (by kernel_rfl) ?_) | (refine wpList_storeB rfl 25 (.tmp 8) (.tmp 16) rfl rfl wr.heap.size _ rfl rfl hB8 (by kernel_rfl) rfl rfl ?_; intro w4 hB4 hg4 hz4) | (refine wpList_load_row rfl 25 (.tmp 8) rfl wr.heap.size rfl 25 _ (0, 0) _ hB4 Tryz.underlying25 rfl (by kernel_rfl) ?_))
          have hb4 : Below wr.heap.size wr w4 := hbA.grown hg4 (by simp) (fun _ h => by injection h with h; omega)
          have HB4 := Lib.hid (below_step HB.out hb4)
          have HI4 := Lib.hid (HIS.out.step hb4)
          have HK4 := Lib.hid hB4
          clear hb4 hg4 hz4 hbA hB8 hB4 HIS HB HCW
          refine (HPL2.out _ HB4.out).mono ?_
          rintro x w5 ⟨rfl, hb5⟩
          have HB5 := Lib.hid (below_step HB4.out hb5)
          have HI5 := Lib.hid (HI4.out.step hb5)
          have HK5 := Lib.hid (HK4.out.below hb5 HK4.out.lt)
          clear hb5 HI4 HK4 HB4 HPL2
          clear HTG2 HK5
          go_wp2_with fail
          go_ret2
          exact ⟨by unfold PrnIs; rw [HOF2.out]; rfl, HB5.out⟩
        · have HPL2 : Hid (∀ W, Below w.heap.size w W → Calls Tryz.prog 7 #[.agg #[.int .i64 e.a, .string e.nm, .slice D n c, .bool e.st]] W fun x w' => x = .returned (.tuple #[bstr pl, .int .i64 0]) ∧ Below W.heap.size W w') := HPL
          have HTG2 : Hid (∀ W, Below w.heap.size w W → Calls Tryz.prog 10 #[.agg #[.int .i64 e.a, .string e.nm, .slice D n c, .bool e.st]] W fun x w' => x = .returned (.tuple #[bstr tl, .int .i64 0]) ∧ Below W.heap.size W w') := HTG
          clear HPL HTG
          have hll := HLN.out rfl
          have HNX2 := Lib.hid (HNX.out rfl)
          clear HLN HNX HOF
          obtain rfl : ln = pl := HLS.out
          clear HLS
          have HWS : Hid (∀ W, IsB w.heap.size w.heap.size (lnsS false (es.take i)) W → w.heap.size ≤ W.heap.size → Calls Tryz.prog 33 #[.pointer (some ⟨w.heap.size, 0, none⟩), .string (⟨ln.toArray⟩ ++ ⟨#[10]⟩)] W fun x w' => x = .returned (.tuple #[.int .i64 ((ln ++ [10]).length : Nat), .nilIface]) ∧ IsB w.heap.size w.heap.size (lnsS false (es.take i) ++ (ln ++ [10])) w' ∧ Below w.heap.size W w') := fun W hI hW => by
            rw [str_add ln [10]]
            exact c_BWS _ _ _ _ W hI (by have := HTL.out; simp only [List.length_append, List.length_cons, List.length_nil]; omega) hW
          clear HTL
          go_wp2_with (first | (refine wpList_load_any rfl 25 (.tmp 15) rfl (ad.add (i * 4)) rfl (smC e D n c).toList _ HCW.out Tryz.underlying25 rfl (by kernel_rfl) ?_) | (refine wpList_storeB rfl 25 (.tmp 8) (.tmp 16) rfl rfl wr.heap.size _ rfl rfl hB8 (by kernel_rfl) rfl rfl ?_; intro w4 hB4 hg4 hz4) | (refine wpList_load_row rfl 25 (.tmp 8) rfl wr.heap.size rfl 25 _ (0, 0) _ hB4 Tryz.underlying25 rfl (by kernel_rfl) ?_))
          have hb4 : Below wr.heap.size wr w4 := hbA.grown hg4 (by simp) (fun _ h => by injection h with h; omega)
          have HB4 := Lib.hid (below_step HB.out hb4)
          have HI4 := Lib.hid (HIS.out.step hb4)
          have HK4 := Lib.hid hB4
          clear hb4 hg4 hz4 hbA hB8 hB4 HIS HB HCW
          refine (HPL2.out _ HB4.out).mono ?_
          rintro x w5 ⟨rfl, hb5⟩
          have HB5 := Lib.hid (below_step HB4.out hb5)
          have HI5 := Lib.hid (HI4.out.step hb5)
          have HK5 := Lib.hid (HK4.out.below hb5 HK4.out.lt)
          clear hb5 HI4 HK4 HB4 HPL2
          clear HTG2 HK5
          go_wp2_with fail
          refine (HWS.out _ HI5.out HB5.out.size).mono ?_
          rintro x w7 ⟨rfl, hI7, hb7⟩
          have HI7 := Lib.hid hI7
          have HB7 := Lib.hid (HB5.out.trans hb7)
          clear hI7 hb7 HI5 HB5 HWS
          go_wp2_with fail
          go_roundw
          case rel => exact ⟨i + 1, by go_num, by omega, Lib.hid HNX2.out.1, Lib.hid (by rw [HNX2.out.2]; exact HI7.out), HB7⟩
          case measure => simp [intOf]; omega
      · rcases rt with _ | _
        · have HPL2 : Hid (∀ W, Below w.heap.size w W → Calls Tryz.prog 7 #[.agg #[.int .i64 e.a, .string e.nm, .slice D n c, .bool e.st]] W fun x w' => x = .returned (.tuple #[bstr [], .int .i64 1]) ∧ Below W.heap.size W w') := HPL
          have HTG2 : Hid (∀ W, Below w.heap.size w W → Calls Tryz.prog 10 #[.agg #[.int .i64 e.a, .string e.nm, .slice D n c, .bool e.st]] W fun x w' => x = .returned (.tuple #[bstr [], .int .i64 1]) ∧ Below W.heap.size W w') := HTG
          clear HPL HTG
          have HOF2 := Lib.hid (HOF.out rfl)
          clear HLN HNX HOF
          obtain rfl : ln = tl := HLS.out
          clear HLS
          clear HTL
          go_wp2_with (first | (refine wpList_load_any rfl 25 (.tmp 15) rfl (ad.add (i * 4)) rfl (smC e D n c).toList _ HCW.out Tryz.underlying25 rfl (by kernel_rfl) ?_) | (refine wpList_storeB rfl 25 (.tmp 8) (.tmp 16) rfl rfl wr.heap.size _ rfl rfl hB8 (by kernel_rfl) rfl rfl ?_; intro w4 hB4 hg4 hz4) | (refine wpList_load_row rfl 25 (.tmp 8) rfl wr.heap.size rfl 25 _ (0, 0) _ hB4 Tryz.underlying25 rfl (by kernel_rfl) ?_))
          have hb4 : Below wr.heap.size wr w4 := hbA.grown hg4 (by simp) (fun _ h => by injection h with h; omega)
          have HB4 := Lib.hid (below_step HB.out hb4)
          have HI4 := Lib.hid (HIS.out.step hb4)
          have HK4 := Lib.hid hB4
          clear hb4 hg4 hz4 hbA hB8 hB4 HIS HB HCW
          refine (HPL2.out _ HB4.out).mono ?_
          rintro x w5 ⟨rfl, hb5⟩
          have HB5 := Lib.hid (below_step HB4.out hb5)
          have HI5 := Lib.hid (HI4.out.step hb5)
          have HK5 := Lib.hid (HK4.out.below hb5 HK4.out.lt)
          clear hb5 HI4 HK4 HB4 HPL2
          go_wp2_with (refine wpList_load_row rfl 25 (.tmp 8) rfl wr.heap.size rfl 25 _ (0, 0) _ HK5.out Tryz.underlying25 rfl (by kernel_rfl) ?_)
          refine (HTG2.out _ HB5.out).mono ?_
          rintro x w6 ⟨rfl, hb6⟩
          have HB6 := Lib.hid (below_step HB5.out hb6)
          have HI6 := Lib.hid (HI5.out.step hb6)
          clear hb6 HI5 HK5 HB5 HTG2
          go_wp2_with fail
          go_ret2
          exact ⟨by unfold PrnIs; rw [HOF2.out]; rfl, HB6.out⟩
        · have HPL2 : Hid (∀ W, Below w.heap.size w W → Calls Tryz.prog 7 #[.agg #[.int .i64 e.a, .string e.nm, .slice D n c, .bool e.st]] W fun x w' => x = .returned (.tuple #[bstr pl, .int .i64 0]) ∧ Below W.heap.size W w') := HPL
          have HTG2 : Hid (∀ W, Below w.heap.size w W → Calls Tryz.prog 10 #[.agg #[.int .i64 e.a, .string e.nm, .slice D n c, .bool e.st]] W fun x w' => x = .returned (.tuple #[bstr tl, .int .i64 0]) ∧ Below W.heap.size W w') := HTG
          clear HPL HTG
          have hll := HLN.out rfl
          have HNX2 := Lib.hid (HNX.out rfl)
          clear HLN HNX HOF
          obtain rfl : ln = tl := HLS.out
          clear HLS
          have HWS : Hid (∀ W, IsB w.heap.size w.heap.size (lnsS true (es.take i)) W → w.heap.size ≤ W.heap.size → Calls Tryz.prog 33 #[.pointer (some ⟨w.heap.size, 0, none⟩), .string (⟨ln.toArray⟩ ++ ⟨#[10]⟩)] W fun x w' => x = .returned (.tuple #[.int .i64 ((ln ++ [10]).length : Nat), .nilIface]) ∧ IsB w.heap.size w.heap.size (lnsS true (es.take i) ++ (ln ++ [10])) w' ∧ Below w.heap.size W w') := fun W hI hW => by
            rw [str_add ln [10]]
            exact c_BWS _ _ _ _ W hI (by have := HTL.out; simp only [List.length_append, List.length_cons, List.length_nil]; omega) hW
          clear HTL
          go_wp2_with (first | (refine wpList_load_any rfl 25 (.tmp 15) rfl (ad.add (i * 4)) rfl (smC e D n c).toList _ HCW.out Tryz.underlying25 rfl (by kernel_rfl) ?_) | (refine wpList_storeB rfl 25 (.tmp 8) (.tmp 16) rfl rfl wr.heap.size _ rfl rfl hB8 (by kernel_rfl) rfl rfl ?_; intro w4 hB4 hg4 hz4) | (refine wpList_load_row rfl 25 (.tmp 8) rfl wr.heap.size rfl 25 _ (0, 0) _ hB4 Tryz.underlying25 rfl (by kernel_rfl) ?_))
          have hb4 : Below wr.heap.size wr w4 := hbA.grown hg4 (by simp) (fun _ h => by injection h with h; omega)
          have HB4 := Lib.hid (below_step HB.out hb4)
          have HI4 := Lib.hid (HIS.out.step hb4)
          have HK4 := Lib.hid hB4
          clear hb4 hg4 hz4 hbA hB8 hB4 HIS HB HCW
          refine (HPL2.out _ HB4.out).mono ?_
          rintro x w5 ⟨rfl, hb5⟩
          have HB5 := Lib.hid (below_step HB4.out hb5)
          have HI5 := Lib.hid (HI4.out.step hb5)
          have HK5 := Lib.hid (HK4.out.below hb5 HK4.out.lt)
          clear hb5 HI4 HK4 HB4 HPL2
          go_wp2_with (refine wpList_load_row rfl 25 (.tmp 8) rfl wr.heap.size rfl 25 _ (0, 0) _ HK5.out Tryz.underlying25 rfl (by kernel_rfl) ?_)
          refine (HTG2.out _ HB5.out).mono ?_
          rintro x w6 ⟨rfl, hb6⟩
          have HB6 := Lib.hid (below_step HB5.out hb6)
          have HI6 := Lib.hid (HI5.out.step hb6)
          clear hb6 HI5 HK5 HB5 HTG2
          go_wp2_with fail
          refine (HWS.out _ HI6.out HB6.out.size).mono ?_
          rintro x w7 ⟨rfl, hI7, hb7⟩
          have HI7 := Lib.hid hI7
          have HB7 := Lib.hid (HB6.out.trans hb7)
          clear hI7 hb7 HI6 HB6 HWS
          go_wp2_with fail
          go_roundw
          case rel => exact ⟨i + 1, by go_num, by omega, Lib.hid HNX2.out.1, Lib.hid (by rw [HNX2.out.2]; exact HI7.out), HB7⟩
          case measure => simp [intOf]; omega
    · obtain rfl : i = k := by omega
      have htk : es.take i = es := List.take_of_length_le (by omega)
      have HOK2 : Hid (okS es = true) := List.all_eq_true.2 (by have := HOK.out; rw [htk] at this; exact this)
      have HS : Hid (∀ W, IsB w.heap.size w.heap.size (lnsS tg (es.take i)) W → w.heap.size ≤ W.heap.size → Calls Tryz.prog 34 #[.pointer (some ⟨w.heap.size, 0, none⟩)] W fun x w' => x = .returned (bstr (lnsS tg es)) ∧ Below w.heap.size W w') := fun W hI hW => by
        rw [htk] at hI
        exact c_BStr _ _ _ W hI hW
      clear htk HOK
      go_wp2_with fail
      refine (HS.out _ HIS.out HB.out.size).mono ?_
      rintro x w1 ⟨rfl, hb1⟩
      have HB1 := Lib.hid (HB.out.trans hb1)
      clear hb1 HS HIS HB
      go_wp2_with fail
      go_ret2
      exact ⟨by unfold PrnIs; rw [HOK2.out]; rfl, HB1.out⟩
end Go.Proofs.YtjaohjlddhjgpaaGreatDoor
