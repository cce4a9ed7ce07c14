/- Walks: (*value.text).bare, .value and .list at the text of a list of ints with blanks between. Conditions: as stated. -/
import Derived.Test.YtacnoedhpamdmaaGreatDoorKl
import Derived.Test.YtacnoedhpamdmaaGreatDoorKd
import Derived.Deep.RegionLaw
namespace Go.Proofs.YtacnoedhpamdmaaGreatDoor
open Go.RowKit Go.Shelf
set_option linter.unusedVariables false
set_option linter.unusedSimpArgs false
attribute [local go_sem ↓] Go.wp_at_zero Go.wp_at_succ

abbrev v2c (z : Int) : List Value := [.int .i64 2, .int .i64 z, .float .f64 0, .string ⟨#[]⟩, .slice none 0 0, .slice none 0 0]
theorem itoa_first {z : Int} (h1 : -9223372036854775808 ≤ z) (h2 : z < 9223372036854775808) : ∃ c t, Go.Lib.itoa z = c :: t ∧ (c.toNat = 45 ∨ 48 ≤ c.toNat ∧ c.toNat ≤ 57) := by
  unfold Go.Lib.itoa
  by_cases hz : z < 0
  · rw [if_pos hz]; exact ⟨45, _, rfl, .inl rfl⟩
  · rw [if_neg hz]
    cases hd : Go.Lib.decDigits z.toNat with
    | nil => exact absurd hd (dg_ne _)
    | cons c t => exact ⟨c, t, rfl, .inr (dg_all z.toNat c (by rw [hd]; exact List.mem_cons_self))⟩
set_option maxRecDepth 100000 in
set_option maxHeartbeats 1000000 in
theorem c_bareI (S : ByteArray) (a g : Nat) (z : Int) (r : List UInt8) (w : World) (hB : Blk w g 79 (TxC S a)) (hS : S.size ≤ 1099511627776) (hr : rest S a = Go.Lib.itoa z ++ r) (hn : noDg r) (h1 : -9223372036854775808 ≤ z) (h2 : z < 9223372036854775808) :
    Calls Tryz.prog 71 #[.pointer (some ⟨g, 0, none⟩)] w fun e w' => e = .returned (.agg (v2c z).toArray) ∧ Blk w' g 79 (TxC S (a + (Go.Lib.itoa z).length)) ∧ w.grownBy w' (some g) := by
  have hlt := hB.lt
  obtain ⟨x0, t0, hit, hx0⟩ := itoa_first h1 h2
  obtain ⟨hal, hax⟩ := rest_hd (show rest S a = x0 :: (t0 ++ r) by rw [hr, hit]; rfl)
  have HIN : Hid (∀ W, Blk W g 79 (TxC S a) → Calls Tryz.prog 104 #[.pointer (some ⟨g, 0, none⟩)] W fun e w' => e = .returned (.int .i64 z) ∧ Blk w' g 79 (TxC S (a + (Go.Lib.itoa z).length)) ∧ W.grownBy w' (some g)) := fun W h => c_intG S a g z r W h hS hr hn h1 h2
  have HK := Lib.hid (hB.alloc (.cells vz 30))
  have HR := Lib.hid (Blk.new w 30 vz)
  have HG : Hid (w.grownBy (w.alloc (.cells vz 30)) (some g)) := only_alloc (World.grownBy.refl w _) _
  clear hB hr hn h1 h2 hit
  generalize a + (Go.Lib.itoa z).length = N at *
  go_enter Tryz.func71, Tryz.ntmps71
  go_upto_region 1 with fail
  unfold vz at *
  generalize w.alloc (.cells #[.int .i64 0, .int .i64 0, .float .f64 0, .string ⟨#[]⟩, .slice none 0 0, .slice none 0 0] 30) = w0 at *
  go_wp2_with fail
  refine (c_peekG S a g _ HK.out hal).mono ?_
  rintro e w1 ⟨rfl, q, hq⟩
  rw [hax hal]
  have HK1 : Hid (Blk w1 g 79 (TxC S a)) := by rw [hq]; exact HK.out.drewN q
  have HG1 : Hid (w.grownBy w1 (some g)) := by rw [hq]; exact only_drewN HG.out q
  have HR1 : Hid (Blk w1 w.heap.size 30 vz) := by rw [hq]; exact HR.out.drewN q
  clear hq HK HG HR hax
  generalize x0.toNat = y at *
  have p110 : ((y : Int) == 110) = false := by simp; omega
  have p116 : ((y : Int) == 116) = false := by simp; omega
  have p102 : ((y : Int) == 102) = false := by simp; omega
  rcases hx0 with hy | ⟨hy1, hy2⟩
  · have p45 : ((y : Int) == 45) = true := by simp; omega
    clear hy
    go_wp2_with fail
    refine (HIN.out _ HK1.out).mono ?_
    rintro e w2 ⟨rfl, hk2, hg2⟩
    have HK2 := Lib.hid hk2
    have HG2 := Lib.hid (only_trans HG1.out hg2)
    have HR2 := Lib.hid (HR1.out.grown hg2 (by intro e; have := Option.some.inj e; omega))
    clear hk2 hg2 HK1 HG1 HR1
    go_wp2_with (refine wpList_storeB rfl 30 (.tmp 2) (.tmp 37) rfl rfl w.heap.size (v2c z).toArray rfl rfl HR2.out v_info rfl rfl ?_; intro w3 hB3 hg3 hz3)
    exact bodyPost_ret (results_cellB (p := 2) rfl _ hB3 _ rfl Tryz.underlying30 rfl v_info) rfl ⟨rfl, HK2.out.grown hg3 (by intro e; have := Option.some.inj e; omega), only_new HG2.out hg3⟩
  · have p45 : ((y : Int) == 45) = false := by simp; omega
    have d1 : decide ((48 : Int) ≤ (y : Int)) = true := by simp; omega
    have d2 : decide ((y : Int) ≤ 57) = true := by simp; omega
    clear hy1 hy2
    go_wp2_with fail
    refine (HIN.out _ HK1.out).mono ?_
    rintro e w2 ⟨rfl, hk2, hg2⟩
    have HK2 := Lib.hid hk2
    have HG2 := Lib.hid (only_trans HG1.out hg2)
    have HR2 := Lib.hid (HR1.out.grown hg2 (by intro e; have := Option.some.inj e; omega))
    clear hk2 hg2 HK1 HG1 HR1
    go_wp2_with (refine wpList_storeB rfl 30 (.tmp 2) (.tmp 37) rfl rfl w.heap.size (v2c z).toArray rfl rfl HR2.out v_info rfl rfl ?_; intro w3 hB3 hg3 hz3)
    exact bodyPost_ret (results_cellB (p := 2) rfl _ hB3 _ rfl Tryz.underlying30 rfl v_info) rfl ⟨rfl, HK2.out.grown hg3 (by intro e; have := Option.some.inj e; omega), only_new HG2.out hg3⟩
set_option maxRecDepth 100000 in
set_option maxHeartbeats 1000000 in
theorem c_valueI (S : ByteArray) (a g : Nat) (z : Int) (gg hh r : List UInt8) (w : World) (hB : Blk w g 79 (TxC S a)) (hS : S.size ≤ 1099511627776) (hr : rest S a = gg ++ (Go.Lib.itoa z ++ (hh ++ r))) (hg : allBl gg) (hh' : allBl hh) (hnb : noBl r) (hnd : noDg r) (h1 : -9223372036854775808 ≤ z) (h2 : z < 9223372036854775808) :
    Calls Tryz.prog 40 #[.pointer (some ⟨g, 0, none⟩)] w fun e w' => e = .returned (.agg (v2c z).toArray) ∧ Blk w' g 79 (TxC S (a + gg.length + (Go.Lib.itoa z).length + hh.length)) ∧ w.grownBy w' (some g) := by
  have hlt := hB.lt
  have hb1 : noBl (Go.Lib.itoa z ++ (hh ++ r)) := by
    intro x t e
    obtain ⟨c, t', hit, hc⟩ := itoa_first h1 h2
    rw [hit] at e
    injection e with e _
    subst e
    cases hb : isBl c with
    | false => rfl
    | true => have := isBl_four hb; omega
  have hr1 := rest_app hr
  have hr2 := rest_app hr1
  have HBR : Hid (∀ W, Blk W g 79 (TxC S (a + gg.length)) → Calls Tryz.prog 71 #[.pointer (some ⟨g, 0, none⟩)] W fun e w' => e = .returned (.agg (v2c z).toArray) ∧ Blk w' g 79 (TxC S (a + gg.length + (Go.Lib.itoa z).length)) ∧ W.grownBy w' (some g)) := fun W h => c_bareI S _ g z (hh ++ r) W h hS hr1 (allBl_noDg hh' hnd) h1 h2
  have HB1 : Hid (∀ W, Blk W g 79 (TxC S a) → Calls Tryz.prog 70 #[.pointer (some ⟨g, 0, none⟩)] W fun e w' => e = .returned (.tuple #[]) ∧ Blk w' g 79 (TxC S (a + gg.length)) ∧ W.grownBy w' (some g)) := fun W h => c_blanksG S a g gg _ W h hS hr hg hb1
  have HB2 : Hid (∀ W, Blk W g 79 (TxC S (a + gg.length + (Go.Lib.itoa z).length)) → Calls Tryz.prog 70 #[.pointer (some ⟨g, 0, none⟩)] W fun e w' => e = .returned (.tuple #[]) ∧ Blk w' g 79 (TxC S (a + gg.length + (Go.Lib.itoa z).length + hh.length)) ∧ W.grownBy w' (some g)) := fun W h => c_blanksG S _ g hh r W h hS hr2 hh' hnb
  have HK := Lib.hid (hB.alloc (.cells vz 30))
  have HR := Lib.hid (Blk.new w 30 vz)
  have HG : Hid (w.grownBy (w.alloc (.cells vz 30)) (some g)) := only_alloc (World.grownBy.refl w _) _
  clear hB hr hr1 hr2 hg hh' hnb hnd hb1 h1 h2
  generalize a + gg.length + (Go.Lib.itoa z).length + hh.length = n3 at *
  generalize a + gg.length + (Go.Lib.itoa z).length = n2 at *
  generalize a + gg.length = n1 at *
  go_enter Tryz.func40, Tryz.ntmps40
  go_upto_region 1 with fail
  unfold vz at *
  generalize w.alloc (.cells #[.int .i64 0, .int .i64 0, .float .f64 0, .string ⟨#[]⟩, .slice none 0 0, .slice none 0 0] 30) = w0 at *
  go_wp2_with fail
  refine (HB1.out _ HK.out).mono ?_
  rintro e w1 ⟨rfl, hk1, hg1⟩
  have HK1 := Lib.hid hk1
  have HG1 : Hid (w.grownBy w1 (some g)) := only_trans HG.out hg1
  have HR1 : Hid (Blk w1 w.heap.size 30 vz) := HR.out.grown hg1 (by intro e; have := Option.some.inj e; omega)
  clear hk1 hg1 HK HG HR
  go_wp2_with fail
  refine (HBR.out _ HK1.out).mono ?_
  rintro e w2 ⟨rfl, hk2, hg2⟩
  have HK2 := Lib.hid (hk2.alloc (.cells vz 30))
  have HG2 := Lib.hid (only_alloc (only_trans HG1.out hg2) (.cells vz 30))
  have HR2 := Lib.hid ((HR1.out.grown hg2 (by intro e; have := Option.some.inj e; omega)).alloc (.cells vz 30))
  have HX2 := Lib.hid (Blk.new w2 30 vz)
  have hz2 : w.heap.size < w2.heap.size := Nat.lt_of_lt_of_le HR1.out.lt hg2.size
  clear hk2 hg2 HK1 HG1 HR1
  unfold vz at *
  go_wp2_with (refine wpList_storeB rfl 30 (.tmp 3) (.tmp 7) rfl rfl w2.heap.size (v2c z).toArray rfl rfl HX2.out v_info rfl rfl ?_; intro w3 hB3 hg3 hz3)
  have HK3 : Hid (Blk w3 g 79 (TxC S n2)) := HK2.out.grown hg3 (by intro e; have := Option.some.inj e; omega)
  have HR3 : Hid (Blk w3 w.heap.size 30 vz) := HR2.out.grown hg3 (by intro e; have := Option.some.inj e; omega)
  have HX3 := Lib.hid hB3
  have HG3 : Hid (w.grownBy w3 (some g)) := only_far HG2.out hg3 (by omega)
  clear hB3 hg3 hz3 HK2 HR2 HG2 HX2
  refine (HB2.out _ HK3.out).mono ?_
  rintro e w4 ⟨rfl, hk4, hg4⟩
  have HK4 := Lib.hid hk4
  have HG4 : Hid (w.grownBy w4 (some g)) := only_trans HG3.out hg4
  have HR4 : Hid (Blk w4 w.heap.size 30 vz) := HR3.out.grown hg4 (by intro e; have := Option.some.inj e; omega)
  have HX4 : Hid (Blk w4 w2.heap.size 30 (v2c z).toArray) := HX3.out.grown hg4 (by intro e; have := Option.some.inj e; omega)
  clear hk4 hg4 HK3 HG3 HR3 HX3
  go_wp2_with (first
    | (refine wpList_load_row rfl 30 (.tmp 3) rfl w2.heap.size rfl 30 _ (0, 0) _ HX4.out Tryz.underlying30 rfl v_info ?_)
    | (refine wpList_storeB rfl 30 (.tmp 2) (.tmp 10) rfl rfl w.heap.size (v2c z).toArray rfl rfl HR4.out v_info rfl rfl ?_; intro w5 hB5 hg5 hz5))
  exact bodyPost_ret (results_cellB (p := 2) rfl _ hB5 _ rfl Tryz.underlying30 rfl v_info) rfl ⟨rfl, HK4.out.grown hg5 (by intro e; have := Option.some.inj e; omega), only_new HG4.out hg5⟩
end Go.Proofs.YtacnoedhpamdmaaGreatDoor
