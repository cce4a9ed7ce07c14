/- Walk: (*value.text).list at the text of a list of ints with blanks between. Conditions: as stated. -/
import Derived.Test.YtacnoedhpamdmaaGreatDoorKn
namespace Go.Proofs.YtacnoedhpamdmaaGreatDoor
open Go.RowKit Go.Shelf
set_option linter.unusedVariables false
set_option linter.unusedSimpArgs false
attribute [local go_sem ↓] Go.wp_at_zero Go.wp_at_succ

/-- An answer of list: the value in new memory, the reader behind it. -/
def LsP (S : ByteArray) (g : Nat) (l : List Int) (r : List UInt8) (w : World) (e : Ending) (w' : World) : Prop :=
  ∃ (cs' : List Value) (p' : Nat), e = .returned (.agg cs'.toArray) ∧ Tr w' (fun x => w.heap.size ≤ x ∧ x < w'.heap.size) (lstV l) cs' ∧ Blk w' g 79 (TxC S p') ∧ rest S p' = r ∧ w.grownBy w' (some g)
theorem LsS.out {S : ByteArray} {w wr w3 : World} {g p c : Nat} {A : Option Addr} {l : List Int} {r : List UInt8} (h : LsS S w wr g p l.length A c l) (hr : rest S p = r) (hb : Blk w3 w.heap.size 30 (vlC A l.length c)) (hg : wr.grownBy w3 (some w.heap.size)) (hz : w3.heap.size = wr.heap.size) :
    LsP S g l r w (.returned (.agg (vlC A l.length c))) w3 := by
  have hgl := h.gl
  refine ⟨(vlC A l.length c).toList, p, rfl, ?_, h.kr.grown hg (by intro e; have := Option.some.inj e; omega), hr, only_new h.gr hg⟩
  refine (h.done.keep (W := w3) fun x hx => hg.block x hx.2 (by intro e; have := Option.some.inj e; omega)).wide fun x hx => ⟨by omega, by rw [hz]; exact hx.2⟩
set_option maxRecDepth 100000 in
set_option maxHeartbeats 2000000 in
theorem c_listG (S : ByteArray) (a g : Nat) (G : Nat → List UInt8) (hG : ∀ k, allBl (G k)) (l : List Int) (r : List UInt8) (w : World) (hB : Blk w g 79 (TxC S a)) (hS : S.size ≤ 1099511627776) (hr : rest S a = 91 :: tailN G l r 0) (hl : l.length ≤ 1048576) (hzs : ∀ z ∈ l, -9223372036854775808 ≤ z ∧ z < 9223372036854775808) :
    Calls Tryz.prog 108 #[.pointer (some ⟨g, 0, none⟩)] w fun e w' => LsP S g l r w e w' := by
  have hlt := hB.lt
  obtain ⟨i0, hi0, hz0, hz1, hz2⟩ := info_parts vl_info
  obtain ⟨hal, hax⟩ := rest_hd hr
  have hr1 := rest_cons hr
  have HL0 : Hid (∀ W, Blk W g 79 (TxC S a) → Calls Tryz.prog 103 #[.pointer (some ⟨g, 0, none⟩), .string ⟨#[91]⟩] W fun e w' => e = .returned (.tuple #[]) ∧ Blk w' g 79 (TxC S (a + 1)) ∧ W.grownBy w' (some g)) := fun W h => c_litG S ⟨#[91]⟩ a g 91 W h hS hal (by rw [hax hal]; rfl) (by decide) rfl (fun _ => rfl)
  -- what blanks find, ahead of the first item
  obtain ⟨g1, x1, t1, ht1, hg1b, hx1, hcase⟩ : ∃ (g1 : List UInt8) (x1 : UInt8) (t1 : List UInt8), tailN G l r 0 = g1 ++ (x1 :: t1) ∧ allBl g1 ∧ isBl x1 = false ∧ ((l = [] ∧ x1 = 93 ∧ t1 = r) ∨ ∃ h : 0 < l.length, x1.toNat ≠ 93 ∧ x1 :: t1 = Go.Lib.itoa l[0] ++ tailN G l r 1) := by
    cases l with
    | nil => exact ⟨G 3, 93, r, by unfold tailN; simp [itx], hG _, rfl, .inl ⟨rfl, rfl, rfl⟩⟩
    | cons z l =>
      have hz := hzs z List.mem_cons_self
      obtain ⟨c, t, hit, hc⟩ := itoa_first hz.1 hz.2
      refine ⟨G 1, c, t ++ tailN G (z :: l) r 1, ?_, hG _, ?_, .inr ⟨by simp, by omega, ?_⟩⟩
      · rw [tailN_first (by simp)]
        simp only [List.getElem_cons_zero]
        rw [hit]; rfl
      · cases hb : isBl c with
        | false => rfl
        | true => have := isBl_four hb; omega
      · simp only [List.getElem_cons_zero]
        rw [hit]; rfl
  rw [ht1] at hr1
  have hr2 := rest_app hr1
  obtain ⟨hp1, hpx⟩ := rest_hd hr2
  have HB1 : Hid (∀ W, Blk W g 79 (TxC S (a + 1)) → Calls Tryz.prog 70 #[.pointer (some ⟨g, 0, none⟩)] W fun e w' => e = .returned (.tuple #[]) ∧ Blk w' g 79 (TxC S (a + 1 + g1.length)) ∧ W.grownBy w' (some g)) := fun W h => c_blanksG S (a + 1) g g1 _ W h hS hr1 hg1b (noBl_of hx1)
  generalize a + 1 + g1.length = p1 at *
  have HP1 : Hid (∀ W, Blk W g 79 (TxC S p1) → Calls Tryz.prog 102 #[.pointer (some ⟨g, 0, none⟩)] W fun e w' => e = .returned (.int .u8 (x1.toNat : Int)) ∧ ∃ k, w' = W.drewN k) := fun W h => by
    have := c_peekG S p1 g W h hp1
    rw [hpx] at this; exact this
  have HK := Lib.hid ((hB.alloc (.cells vz 30)).alloc (.cells vz 30))
  have HR := Lib.hid (Blk.new (w.alloc (.cells vz 30)) 30 vz)
  have HV := Lib.hid ((Blk.new w 30 vz).alloc (.cells vz 30))
  have HG : Hid (w.grownBy ((w.alloc (.cells vz 30)).alloc (.cells vz 30)) (some g)) := only_alloc (only_alloc (World.grownBy.refl w _) _) _
  have HZ : Hid (w.heap.size + 2 ≤ ((w.alloc (.cells vz 30)).alloc (.cells vz 30)).heap.size) := by show _ ≤ _; simp
  have HR2 := Lib.hid hr2
  have HG1 := Lib.hid hG
  have HZS := Lib.hid hzs
  have HCS := Lib.hid hcase
  clear hB hr hr1 hr2 hG hzs hcase ht1 hax hg1b hx1 hpx
  go_enter Tryz.func108, Tryz.ntmps108
  unfold vz at *
  rw [World.size_alloc] at HR
  go_wp2_with (refine wpList_storeB rfl 30 (.tmp 3) (.tmp 4) rfl rfl (w.heap.size + 1) (vlC none 0 0) (by simp [Act.eval]) rfl HR.out v_info rfl rfl ?_; intro w1 hB1 hg1 hy1)
  have HS1 : Hid (LsS S w w1 g a 0 none 0 l) := ⟨HK.out.grown hg1 (by intro e; have := Option.some.inj e; omega), hB1, HV.out.grown hg1 (by intro e; have := Option.some.inj e; omega), World.ownsRow_nil _ _ _ _, only_far HG.out hg1 (by omega), hlt, by rw [hy1]; exact HZ.out⟩
  clear hB1 hg1 hy1 HK HR HG HV HZ
  refine (HL0.out _ HS1.out.kr).mono ?_
  rintro e w2 ⟨rfl, hk2, hg2⟩
  have HS2 := Lib.hid (HS1.out.text hk2 hg2)
  clear hk2 hg2 HS1
  go_wp2_with fail
  refine (HB1.out _ HS2.out.kr).mono ?_
  rintro e w3 ⟨rfl, hk3, hg3⟩
  have HS3 := Lib.hid (HS2.out.text hk3 hg3)
  clear hk3 hg3 HS2
  go_wp2_with fail
  refine (HP1.out _ HS3.out.kr).mono ?_
  rintro e w4 ⟨rfl, q, hq⟩
  have HS4 : Hid (LsS S w w4 g p1 0 none 0 l) := by
    rw [hq]
    exact HS3.out.text (HS3.out.kr.drewN q) (only_drewN (World.grownBy.refl _ _) q)
  clear hq HS3 HL0 HB1 HP1
  rcases HCS.out with ⟨rfl, rfl, rfl⟩ | ⟨h0, h93, hxt⟩
  · have e93 : ((93 : UInt8).toNat : Int) = 93 := rfl
    rw [e93]
    have c1 : w4.cell? ⟨g, 1, none⟩ = some (.int .i64 (p1 : Int)) := HS4.out.kr.cell 1
    have f1 := HS4.out.kr.frozen 1
    go_upto_region 6 with fail
    have HS5 : Hid (LsS S w (w4.setCell ⟨g, 1, none⟩ (.int .i64 ((p1 : Int) + 1))) g (p1 + 1) 0 none 0 []) := HS4.out.text (HS4.out.kr.set_ 1 _) (only_setCell (World.grownBy.refl _ _) (.inl rfl) _)
    have HR3 := Lib.hid (rest_cons HR2.out)
    clear c1 f1 HS4
    generalize w4.setCell ⟨g, 1, none⟩ (.int .i64 ((p1 : Int) + 1)) = w5 at *
    go_wp2_with (first
      | (refine wpList_load_row rfl 30 (.tmp 3) rfl (w.heap.size + 1) rfl 30 _ (0, 0) _ HS5.out.xr Tryz.underlying30 rfl v_info ?_)
      | (refine wpList_storeB rfl 30 (.tmp 2) (.tmp 19) rfl rfl w.heap.size (vlC none 0 0) rfl rfl HS5.out.rr v_info rfl rfl ?_; intro w6 hB6 hg6 hz6))
    exact bodyPost_ret (results_cellB (p := 2) rfl _ hB6 _ rfl Tryz.underlying30 rfl v_info) rfl (HS5.out.out HR3.out hB6 hg6 hz6)
  · have b93 : ((x1.toNat : Int) == 93) = false := by simp; omega
    have HR3 : Hid (rest S p1 = [] ++ (Go.Lib.itoa l[0] ++ tailN G l r 1)) := by
      show _ = _
      rw [HR2.out, hxt]; rfl
    clear h93 hxt HR2 HCS
    generalize x1.toNat = y1 at *
    go_wp2_with fail
    go_loopw [] (fun wr => ∃ (p n : Nat) (A : Option Addr) (c : Nat) (gg : List UInt8) (h : n < l.length), Hid (LsS S w wr g p n A c l) ∧ Hid (rest S p = gg ++ (Go.Lib.itoa l[n] ++ tailN G l r (n + 1)) ∧ allBl gg) ∧ p < S.size) (fun wr => S.size - txPos wr g)
    case atStart => exact ⟨p1, 0, none, 0, [], h0, HS4, ⟨HR3.out, fun x hx => absurd hx (by simp)⟩, hp1⟩
    case round =>
      obtain ⟨p, n, A, c, gg, hnl, HS, HT, hps⟩ := hrel
      clear HS4 HR3 hp1 b93
      obtain ⟨hh, x, r2, htl, hhb, hxc⟩ := tailN_cut HG1.out (r := r) (k := n + 1) (Nat.succ_pos n) hnl
      have hxx : (x = 93 ∨ x = 44) := by rcases hxc with ⟨_, _, h, _⟩ | ⟨_, h, _⟩ <;> simp [h]
      have hxb : isBl x = false := by rcases hxx with rfl | rfl <;> rfl
      have hxd : x.toNat < 48 ∨ 57 < x.toNat := by rcases hxx with rfl | rfl <;> simp
      have hzl := HZS.out l[n] (List.getElem_mem hnl)
      have hrt : rest S p = gg ++ (Go.Lib.itoa l[n] ++ (hh ++ (x :: r2))) := by rw [HT.out.1, htl]
      have hre := rest_app (rest_app (rest_app hrt))
      have hil := (itoa_len hzl.1 hzl.2).1
      have HVL : Hid (∀ W, Blk W g 79 (TxC S p) → Calls Tryz.prog 40 #[.pointer (some ⟨g, 0, none⟩)] W fun e w' => e = .returned (.agg (v2c l[n]).toArray) ∧ Blk w' g 79 (TxC S (p + gg.length + (Go.Lib.itoa l[n]).length + hh.length)) ∧ W.grownBy w' (some g)) := fun W h => c_valueI S p g l[n] gg hh _ W h hS hrt HT.out.2 hhb (noBl_of hxb) (noDg_of hxd) hzl.1 hzl.2
      have hpp : p < p + gg.length + (Go.Lib.itoa l[n]).length + hh.length := by omega
      obtain ⟨hpl, hpx⟩ := rest_hd hre
      generalize p + gg.length + (Go.Lib.itoa l[n]).length + hh.length = p2 at *
      have HPK : Hid (∀ W, Blk W g 79 (TxC S p2) → Calls Tryz.prog 102 #[.pointer (some ⟨g, 0, none⟩)] W fun e w' => e = .returned (.int .u8 (x.toNat : Int)) ∧ ∃ k, w' = W.drewN k) := fun W h => by
        have := c_peekG S p2 g W h hpl
        rw [hpx] at this; exact this
      have HLT : Hid (∀ W, x = 44 → Blk W g 79 (TxC S p2) → Calls Tryz.prog 103 #[.pointer (some ⟨g, 0, none⟩), .string ⟨#[44]⟩] W fun e w' => e = .returned (.tuple #[]) ∧ Blk w' g 79 (TxC S (p2 + 1)) ∧ W.grownBy w' (some g)) := fun W hx h => c_litG S ⟨#[44]⟩ p2 g 44 W h hS hpl (by rw [hpx, hx]; rfl) (by decide) rfl (fun _ => rfl)
      have HRE := Lib.hid (rest_cons hre)
      have HXC := Lib.hid hxc
      have HZN : Hid (l[n] = l[n]) := rfl
      obtain ⟨z, hz⟩ : ∃ z, l[n] = z := ⟨_, rfl⟩
      have HZ2 := Lib.hid hz
      rw [hz] at HVL
      clear hxc htl hhb hxb hxd hzl hrt hre hil hpx HT HZN hz
      have c4 : wr.cell? ⟨w.heap.size + 1, 4, none⟩ = some (.slice A n c) := HS.out.xr.cell 4
      have hn1 : n ≤ 1048576 := by omega
      have hgz := HS.out.hz
      go_wp2_with fail
      go_region_law (first
        | (go_simp; go_at_call 40; refine (HVL.out _ HS.out.drew.kr).mono ?_; rintro e w5 ⟨rfl, hk5, hg5⟩; have HS5 := Lib.hid (HS.out.drew.text hk5 hg5); have c5 : w5.cell? ⟨w.heap.size + 1, 4, none⟩ = some (.slice A n c) := HS5.out.xr.cell 4; have HRA := Lib.hid (Reads.of_own (World.ownsRow_lit (e := 30) (size := 6) (base := 0) w5 (v2c z).toArray 1 (Nat.zero_le _) (by decide) rfl) : Reads (w5.alloc (.cells (v2c z).toArray 30)) _ 6 (some ⟨w5.heap.size, 0, none⟩) 1 (v2c z)); have HOA : Hid ((w5.alloc (.cells (v2c z).toArray 30)).ownsRow (w.heap.size + 2) 30 6 (.slice A n c) n (cellsV (l.take n))) := own_keep6 HS5.out.ow fun r hr => Below.heap_alloc w5 _ r (own_at6 HS5.out.ow hr).2; have c5a : ∀ o : Obj, (w5.alloc o).cell? ⟨w.heap.size + 1, 4, none⟩ = some (.slice A n c) := fun o => (HS5.out.xr.alloc o).cell 4; clear hk5 hg5)
        | ((refine step_append_any _ rfl (.tmp 21) (.tmp 24) 27 rfl (w.heap.size + 2) 30 i0 _ 6 88 Tryz.underlying27 hi0 hz0 hz1 hz2 rfl (by omega) (.slice A n c) n (cellsV (l.take n)) (by simp [Act.eval]) HOA.out _ (some ⟨w5.heap.size, 0, none⟩) 1 1 (v2c z) (by simp [Act.eval]) HRA.out (by simp [Value.oneCell']) (by simp only [maxLen]; omega) (by omega) (by have := HS5.out.hz; simp; omega) ?_); intro v6 w6 hown6 hg6 _; obtain ⟨A6, k6, rfl⟩ := own_hdr hown6; have HS6 := Lib.hid (HS5.out.more hnl HZ2.out hown6 hg6); have hob6 : ∀ r, (Value.slice A n c).ownBlock = some r → w.heap.size + 2 ≤ r := (fun r hr => (own_at6 HOA.out hr).1); have hx6 : Blk w6 (w.heap.size + 1) 30 (vlC A n c) := (HS5.out.xr.alloc _).grown hg6 (fun e => by have := hob6 _ e.symm; omega); have c6 : w6.cell? ⟨w.heap.size + 1, 4, none⟩ = some (.slice A n c) := hx6.cell 4; have f6 := hx6.frozen 4; clear hown6 hg6 hob6 hx6))
      all_goals
        clear c4 c5 c5a HRA HOA HS5
        clear c6 f6
        generalize w6.setCell ⟨w.heap.size + 1, 4, none⟩ (.slice A6 (n + 1) k6) = w7 at *
        go_wp2_with fail
        refine (HPK.out _ HS6.out.kr).mono ?_
        rintro e w8 ⟨rfl, q, hq⟩
        have HS8 : Hid (LsS S w w8 g p2 (n + 1) A6 k6 l) := by
          rw [hq]
          exact HS6.out.text (HS6.out.kr.drewN q) (only_drewN (World.grownBy.refl _ _) q)
        clear hq HS6
        rcases HXC.out with ⟨hnn, _, rfl, rfl⟩ | ⟨hnn, rfl, hr2⟩
        · have e93 : ((93 : UInt8).toNat : Int) = 93 := rfl
          rw [e93]
          have c1 : w8.cell? ⟨g, 1, none⟩ = some (.int .i64 (p2 : Int)) := HS8.out.kr.cell 1
          have f1 := HS8.out.kr.frozen 1
          go_upto_region 10 with fail
          have HS9 : Hid (LsS S w (w8.setCell ⟨g, 1, none⟩ (.int .i64 ((p2 : Int) + 1))) g (p2 + 1) (n + 1) A6 k6 l) := HS8.out.text (HS8.out.kr.set_ 1 _) (only_setCell (World.grownBy.refl _ _) (.inl rfl) _)
          clear c1 f1 HS8
          generalize w8.setCell ⟨g, 1, none⟩ (.int .i64 ((p2 : Int) + 1)) = w9 at *
          go_wp2_with (first
            | (refine wpList_load_row rfl 30 (.tmp 3) rfl (w.heap.size + 1) rfl 30 _ (0, 0) _ HS9.out.xr Tryz.underlying30 rfl v_info ?_)
            | (refine wpList_storeB rfl 30 (.tmp 2) (.tmp 37) rfl rfl w.heap.size (vlC A6 (n + 1) k6) rfl rfl HS9.out.rr v_info rfl rfl ?_; intro w10 hB10 hg10 hz10))
          refine bodyPost_ret (results_cellB (p := 2) rfl _ hB10 _ rfl Tryz.underlying30 rfl v_info) rfl ?_
          have HS10 := HS9.out
          rw [hnn] at HS10 hB10 ⊢
          exact HS10.out HRE.out hB10 hg10 hz10
        · have e44 : ((44 : UInt8).toNat : Int) = 44 := rfl
          rw [e44]
          go_wp2_with fail
          refine (HLT.out _ (by simp) HS8.out.kr).mono ?_
          rintro e w9 ⟨rfl, hk9, hg9⟩
          have HS9 := Lib.hid (HS8.out.text hk9 hg9)
          have m1 : txPos w9 g = p2 + 1 := by unfold txPos; rw [hk9.cell 1]; simp
          have m2 : txPos wr g = p := by unfold txPos; rw [HS.out.kr.cell 1]; simp
          have HT9 : Hid (rest S (p2 + 1) = G (2 * (n + 1) + 1) ++ (Go.Lib.itoa l[n + 1] ++ tailN G l r (n + 1 + 1)) ∧ allBl (G (2 * (n + 1) + 1))) := ⟨by rw [HRE.out, hr2], HG1.out _⟩
          have hp9 : p2 + 1 < S.size := by
            obtain ⟨c9, t9, h9, _⟩ := itoa_first (HZS.out _ (List.getElem_mem hnn)).1 (HZS.out _ (List.getElem_mem hnn)).2
            have hl9 := congrArg List.length HT9.out.1
            rw [h9] at hl9
            rcases Nat.lt_or_ge (p2 + 1) S.size with h | h
            · exact h
            · unfold rest at hl9
              rw [List.drop_eq_nil_of_le (by rw [Array.length_toList]; exact h)] at hl9
              simp at hl9
          clear hk9 hg9 HS8
          go_wp2_with fail
          go_roundw
          case rel => exact ⟨p2 + 1, n + 1, A6, k6, _, hnn, HS9, HT9, hp9⟩
          case measure => rw [m1, m2]; omega
end Go.Proofs.YtacnoedhpamdmaaGreatDoor
