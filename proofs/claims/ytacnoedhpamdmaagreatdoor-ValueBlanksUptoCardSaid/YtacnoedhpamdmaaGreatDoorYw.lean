/- Walks: value.Parse at the text '[1,]' (a fault at 3, of kind 4), quernlaw23.awake. Conditions: none. -/
import Derived.Test.YtacnoedhpamdmaaGreatDoorYv
namespace Go.Proofs.YtacnoedhpamdmaaGreatDoor
open Go.RowKit Go.Shelf
set_option linter.unusedVariables false
attribute [local go_sem ↓] Go.wp_at_zero Go.wp_at_succ

set_option maxRecDepth 100000 in
set_option maxHeartbeats 1000000 in
theorem c_ParseT (S T : ByteArray) (hS : Is4 S T) (w : World) : Calls Tryz.prog 14 #[.string S] w fun e w' => e = .returned (.tuple #[.agg vz, .int .i64 3, .int .i64 4]) ∧ Below w.heap.size w w' := by
  have hmf : ∀ (fn : Fn) (first cap : Array Value) (w : World), (Instr.makeFunc fn first cap).run Tryz.prog w = .ok (.func fn first cap) w := fun _ _ _ _ => rfl
  suffices H : ∀ R : Ending → World → Prop, Hid (∀ w', Below w.heap.size w w' → R (.returned (.tuple #[.agg vz, .int .i64 3, .int .i64 4])) w') → Calls Tryz.prog 14 #[.string S] w R from
    H _ (fun w' h1 => ⟨rfl, h1⟩)
  intro R HR
  have hs := hS.size
  have HV : Hid (∀ g W, Blk W g 79 (TxC S 0) → Calls Tryz.prog 40 #[.pointer (some ⟨g, 0, none⟩)] W fun e w' => e = .panicked [flt3] ∧ W.grownBy w' (some g)) := fun g W h => c_value0 S T g W hS h (fun W h => c_list S T g W hS h)
  have HA := Lib.hid (((Blk.new w 30 vz).alloc (.cells #[.int .i64 0] 3)).alloc (.cells #[.int .i64 0] 33))
  have HB := Lib.hid ((Blk.new (w.alloc (.cells vz 30)) 3 #[.int .i64 0]).alloc (.cells #[.int .i64 0] 33))
  have HC := Lib.hid (Blk.new ((w.alloc (.cells vz 30)).alloc (.cells #[.int .i64 0] 3)) 33 #[.int .i64 0])
  have HW : Hid (Below w.heap.size w (((w.alloc (.cells vz 30)).alloc (.cells #[.int .i64 0] 3)).alloc (.cells #[.int .i64 0] 33))) := (((Below.refl w.heap.size w).alloc (Nat.le_refl _) _).alloc (by simp) _).alloc (by simp; omega) _
  clear hS
  unfold vz at HA HB HC HW HR
  go_enter_defers Tryz.func14, Tryz.ntmps14
  go_wp2_with fail
  have hz : ((((w.alloc (.cells #[.int .i64 0, .int .i64 0, .float .f64 0, .string ⟨#[]⟩, .slice none 0 0, .slice none 0 0] 30)).alloc (.cells #[.int .i64 0] 3)).alloc (.cells #[.int .i64 0] 33)) : World).heap.size = w.heap.size + 1 + 1 + 1 := by simp
  simp only [World.size_alloc] at HB HC
  generalize (((w.alloc (.cells #[.int .i64 0, .int .i64 0, .float .f64 0, .string ⟨#[]⟩, .slice none 0 0, .slice none 0 0] 30)).alloc (.cells #[.int .i64 0] 3)).alloc (.cells #[.int .i64 0] 33)) = w3 at *
  rw [← hz]
  have HT := Blk.new w3 79 (TxC S 0)
  refine (HV.out w3.heap.size _ HT).mono ?_
  rintro e w4 ⟨rfl, hg4⟩
  have ha : w.heap.size < w3.heap.size := HA.out.lt
  have hb : w.heap.size + 1 < w3.heap.size := HB.out.lt
  have hc : w.heap.size + 1 + 1 < w3.heap.size := HC.out.lt
  replace HW := Lib.hid ((HW.out.alloc HW.out.size (.cells (TxC S 0) 79)).grown hg4 (by simp; omega) (fun x e => by have := Option.some.inj e; omega))
  replace HA := (HA.out.alloc (.cells (TxC S 0) 79)).grown hg4 (by intro e; have := Option.some.inj e; omega)
  replace HB := (HB.out.alloc (.cells (TxC S 0) 79)).grown hg4 (by intro e; have := Option.some.inj e; omega)
  replace HC := (HC.out.alloc (.cells (TxC S 0) 79)).grown hg4 (by intro e; have := Option.some.inj e; omega)
  refine leaves_cons (f := 39) (args := #[.pointer (some ⟨w.heap.size, 0, none⟩), .pointer (some ⟨w.heap.size + 1, 0, none⟩), .pointer (some ⟨w.heap.size + 1 + 1, 0, none⟩)]) (by simp) (by simp [go_sem]) ?_
  refine (c_Parse1 w.heap.size _ _ _ _ HA HB HC (Nat.le_refl _) (by omega) (by omega)).mono ?_
  rintro e u w5 ⟨rfl, rfl, h1, h2, h3, h4⟩
  have n0 := h1.cell 0
  have n1 := h1.cell 1
  have n2 := h1.cell 2
  have n3 := h1.cell 3
  have n4 := h1.cell 4
  have n5 := h1.cell 5
  have m0 := h2.cell 0
  have k0 := h3.cell 0
  have HF := HR.out w5 (HW.out.trans h4)
  clear HR HA HB HC HW h1 h2 h3 h4 HT hg4 HV
  simp [Leaves, settle, results, Tryz.results14, go_sem, n0, n1, n2, n3, n4, n5, m0, k0]
  exact HF
set_option maxRecDepth 100000 in
set_option maxHeartbeats 1000000 in
theorem c_awake (w : World) : Calls Tryz.prog 10 #[] w fun e w' => e = .returned (.bool true) ∧ Below w.heap.size w w' := by
  have HP : Hid (∀ W, Calls Tryz.prog 14 #[.string ⟨#[91, 49, 44, 93]⟩] W fun e w' => e = .returned (.tuple #[.agg vz, .int .i64 3, .int .i64 4]) ∧ Below W.heap.size W w') := fun W => c_ParseT _ _ is4 W
  have HE : Hid (∀ W, Calls Tryz.prog 29 #[.agg csTrue.toArray] W fun e w' => ∃ v, e = .returned (.tuple #[v, .int .i64 0]) ∧ Own2 W w' v [.int .u8 1, .int .u8 1]) := fun W => c_EncT W
  go_enter Tryz.func10, Tryz.ntmps10
  go_wp2_with fail
  refine (HP.out _).mono ?_
  rintro e w1 ⟨rfl, hb1⟩
  have HB1 : Hid (Below w.heap.size w (w1.alloc (.cells vz 30))) := hb1.alloc hb1.size _
  have HX1 := Lib.hid (Blk.new w1 30 vz)
  have hz1 : w.heap.size ≤ w1.heap.size := hb1.size
  clear hb1 HP
  unfold vz at *
  go_wp2_with (refine wpList_storeB rfl 30 (.tmp 1) (.tmp 8) rfl rfl w1.heap.size vz rfl rfl HX1.out v_info rfl rfl ?_; intro w2 hB2 hg2 hy2)
  have HB2 : Hid (Below w.heap.size w w2) := HB1.out.grown hg2 HB1.out.size (fun x e => by have := Option.some.inj e; omega)
  clear hB2 hg2 hy2 HX1 HB1
  refine (HE.out w2).mono ?_
  rintro e w3 ⟨v, rfl, ho, hb⟩
  have HB3 : Hid (Below w.heap.size w w3) := HB2.out.trans (hb.mono HB2.out.size)
  obtain ⟨A, c, rfl, _, hr⟩ := own_reads ho
  obtain ⟨b, off, rfl, _, _, hcell⟩ := hr.form (by decide)
  have c0 : w3.cell? ⟨b, off, none⟩ = some (.int .u8 1) := hcell 0 (by decide)
  have c1 : w3.cell? ⟨b, off + 1, none⟩ = some (.int .u8 1) := hcell 1 (by decide)
  clear ho hb HB2 hr hcell HE
  go_wp2_with fail
  go_ret
  exact ⟨rfl, HB3.out⟩
end Go.Proofs.YtacnoedhpamdmaaGreatDoor
