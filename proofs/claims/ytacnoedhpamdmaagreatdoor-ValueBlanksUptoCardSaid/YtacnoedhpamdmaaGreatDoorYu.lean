/- Walk: (*value.text).list at the text '[1,]': a fault at 3. Conditions: as stated. -/
import Derived.Test.YtacnoedhpamdmaaGreatDoorYt
import Derived.Deep.RegionHeld3
import Derived.Deep.RegionLaw
namespace Go.Proofs.YtacnoedhpamdmaaGreatDoor
open Go.RowKit Go.Shelf
set_option linter.unusedVariables false
attribute [local go_sem ↓] Go.wp_at_zero Go.wp_at_succ

theorem val_info : (Tryz.prog.info? 30).map (fun i => (i.zero, i.size, i.bytes)) = some (some (.agg vz), 6, 88) := by kernel_rfl
abbrev vlC (A : Option Addr) (n c : Nat) : Array Value := #[.int .i64 6, .int .i64 0, .float .f64 0, .string ⟨#[]⟩, .slice A n c, .slice none 0 0]
theorem own_slice6 {w : World} {base size n : Nat} {e : TypeId} {v : Value} {xs : List Value} (h : w.ownsRow base e size v n xs) : ∃ A c, v = .slice A n c := by
  rcases h.2 with ⟨rfl, rfl⟩ | ⟨g, cap, cur, rfl, _⟩
  · exact ⟨_, _, rfl⟩
  · exact ⟨_, _, rfl⟩
theorem only_none {a b c : World} {g : Nat} (h : a.grownBy b (some g)) (k : b.grownBy c none) : a.grownBy c (some g) :=
  ⟨k.os.trans h.os, k.tape.trans h.tape, k.output.trans h.output, Nat.le_trans h.size k.size, fun i hi hr => (k.block i (Nat.lt_of_lt_of_le hi h.size) (by simp)).trans (h.block i hi hr)⟩
set_option maxRecDepth 100000 in
set_option maxHeartbeats 1000000 in
theorem c_list (S T : ByteArray) (g : Nat) (w : World) (hS : Is4 S T) (hB : Blk w g 79 (TxC S 0)) :
    Calls Tryz.prog 108 #[.pointer (some ⟨g, 0, none⟩)] w fun e w' => e = .panicked [flt3] ∧ w.grownBy w' (some g) := by
  have hs := hS.size
  have hlt := hB.lt
  obtain ⟨i0, hi0, hz0, hz1, hz2⟩ := info_parts val_info
  have HV1 : Hid (∀ W, Blk W g 79 (TxC S 1) → Calls Tryz.prog 40 #[.pointer (some ⟨g, 0, none⟩)] W fun e w' => e = .returned (.agg v21.toArray) ∧ Blk w' g 79 (TxC S 2) ∧ W.grownBy w' (some g)) := fun W h => c_value1 S T g W hS h
  have HV3 : Hid (∀ W, Blk W g 79 (TxC S 3) → Calls Tryz.prog 40 #[.pointer (some ⟨g, 0, none⟩)] W fun e w' => e = .panicked [flt3] ∧ W.grownBy w' (some g)) := fun W h => c_value3 S T g W hS h
  have HB1 : Hid (∀ W, Blk W g 79 (TxC S 1) → Calls Tryz.prog 70 #[.pointer (some ⟨g, 0, none⟩)] W fun e w' => e = .returned (.tuple #[]) ∧ ∃ k, w' = W.drewN k) := fun W h => c_blanks S 1 g 49 W h hs (by omega) (hS.b1 _) rfl rfl rfl rfl
  have HP1 : Hid (∀ W, Blk W g 79 (TxC S 1) → Calls Tryz.prog 102 #[.pointer (some ⟨g, 0, none⟩)] W fun e w' => e = .returned (.int .u8 49) ∧ ∃ k, w' = W.drewN k) := fun W h => by
    have := c_peek S 1 g W h hs (by omega)
    rw [hS.b1] at this; exact this
  have HP2 : Hid (∀ W, Blk W g 79 (TxC S 2) → Calls Tryz.prog 102 #[.pointer (some ⟨g, 0, none⟩)] W fun e w' => e = .returned (.int .u8 44) ∧ ∃ k, w' = W.drewN k) := fun W h => by
    have := c_peek S 2 g W h hs (by omega)
    rw [hS.b2] at this; exact this
  have HL0 : Hid (∀ W, Blk W g 79 (TxC S 0) → Calls Tryz.prog 103 #[.pointer (some ⟨g, 0, none⟩), .string ⟨#[91]⟩] W fun e w' => e = .returned (.tuple #[]) ∧ Blk w' g 79 (TxC S 1) ∧ W.grownBy w' (some g)) := fun W h => c_lit S ⟨#[91]⟩ 0 g 91 W h hs (by omega) (hS.b0 _) (by decide) rfl (fun _ => rfl)
  have HL2 : Hid (∀ W, Blk W g 79 (TxC S 2) → Calls Tryz.prog 103 #[.pointer (some ⟨g, 0, none⟩), .string ⟨#[44]⟩] W fun e w' => e = .returned (.tuple #[]) ∧ Blk w' g 79 (TxC S 3) ∧ W.grownBy w' (some g)) := fun W h => c_lit S ⟨#[44]⟩ 2 g 44 W h hs (by omega) (hS.b2 _) (by decide) rfl (fun _ => rfl)
  have HK := Lib.hid ((hB.alloc (.cells vz 30)).alloc (.cells vz 30))
  have HR := Lib.hid (Blk.new (w.alloc (.cells vz 30)) 30 vz)
  have HG : Hid (w.grownBy ((w.alloc (.cells vz 30)).alloc (.cells vz 30)) (some g)) := only_alloc (only_alloc (World.grownBy.refl w _) _) _
  clear hS hB
  go_enter Tryz.func108, Tryz.ntmps108
  unfold vz at *
  rw [World.size_alloc] at HR
  go_wp2_with (refine wpList_storeB rfl 30 (.tmp 3) (.tmp 4) rfl rfl (w.heap.size + 1) (vlC none 0 0) (by simp [Act.eval]) rfl HR.out v_info rfl rfl ?_; intro w1 hB1 hg1 hy1)
  have HK1 : Hid (Blk w1 g 79 (TxC S 0)) := HK.out.grown hg1 (by intro e; have := Option.some.inj e; omega)
  have HX1 := Lib.hid hB1
  have HG1 : Hid (w.grownBy w1 (some g)) := only_far HG.out hg1 (by omega)
  clear hB1 hg1 hy1 HK HR HG
  refine (HL0.out _ HK1.out).mono ?_
  rintro e w2 ⟨rfl, hk2, hg2⟩
  have HK2 := Lib.hid hk2
  have HG2 : Hid (w.grownBy w2 (some g)) := only_trans HG1.out hg2
  have HX2 : Hid (Blk w2 (w.heap.size + 1) 30 (vlC none 0 0)) := HX1.out.grown hg2 (by intro e; have := Option.some.inj e; omega)
  clear hk2 hg2 HK1 HG1 HX1
  go_wp2_with fail
  refine (HB1.out _ HK2.out).mono ?_
  rintro e w3 ⟨rfl, q, hq⟩
  have HK3 : Hid (Blk w3 g 79 (TxC S 1)) := by rw [hq]; exact HK2.out.drewN q
  have HG3 : Hid (w.grownBy w3 (some g)) := by rw [hq]; exact only_drewN HG2.out q
  have HX3 : Hid (Blk w3 (w.heap.size + 1) 30 (vlC none 0 0)) := by rw [hq]; exact HX2.out.drewN q
  clear hq HK2 HG2 HX2
  go_wp2_with fail
  refine (HP1.out _ HK3.out).mono ?_
  rintro e w4 ⟨rfl, q, hq⟩
  have HK4 : Hid (Blk w4 g 79 (TxC S 1)) := by rw [hq]; exact HK3.out.drewN q
  have HG4 : Hid (w.grownBy w4 (some g)) := by rw [hq]; exact only_drewN HG3.out q
  have HX4 : Hid (Blk w4 (w.heap.size + 1) 30 (vlC none 0 0)) := by rw [hq]; exact HX3.out.drewN q
  clear hq HK3 HG3 HX3
  go_wp2_with fail
  go_loopw [] (fun wr => ∃ (p : Nat) (A : Option Addr) (n c : Nat), (p = 1 ∧ A = none ∧ n = 0 ∧ c = 0 ∨ p = 3) ∧ Hid (Blk wr g 79 (TxC S p)) ∧ Hid (w.grownBy wr (some g)) ∧ Hid (Blk wr (w.heap.size + 1) 30 (vlC A n c))) (fun wr => 3 - txPos wr g)
  case atStart => exact ⟨1, none, 0, 0, .inl ⟨rfl, rfl, rfl, rfl⟩, HK4, HG4, HX4⟩
  case round =>
    obtain ⟨p, A, n, c, hp, KR, GR, XR⟩ := hrel
    clear HK4 HG4 HX4
    have hgx : g < wr.heap.size := KR.out.lt
    have hxx : w.heap.size + 1 < wr.heap.size := XR.out.lt
    rcases hp with ⟨rfl, rfl, rfl, rfl⟩ | rfl
    · have c4 : wr.cell? ⟨w.heap.size + 1, 4, none⟩ = some (.slice none 0 0) := XR.out.cell 4
      go_wp2_with fail
      have hq := i0
      go_region_law (first
        | (go_simp; go_at_call 40; refine (HV1.out _ (Blk.drew KR.out)).mono ?_; rintro e w5 ⟨rfl, hk5, hg5⟩; have HK5 := Lib.hid hk5; have HG5 : Hid (w.grownBy w5 (some g)) := only_trans (only_drew GR.out) hg5; have HX5 : Hid (Blk w5 (w.heap.size + 1) 30 (vlC none 0 0)) := (Blk.drew XR.out).grown hg5 (by intro e; have := Option.some.inj e; omega); have c5 : w5.cell? ⟨w.heap.size + 1, 4, none⟩ = some (.slice none 0 0) := HX5.out.cell 4; have HRA := Lib.hid (Reads.of_own (World.ownsRow_lit (e := 30) (size := 6) (base := 0) w5 v21.toArray 1 (Nat.zero_le _) (by decide) rfl) : Reads (w5.alloc (.cells v21.toArray 30)) _ 6 (some ⟨w5.heap.size, 0, none⟩) 1 v21); have c5a : ∀ o : Obj, (w5.alloc o).cell? ⟨w.heap.size + 1, 4, none⟩ = some (.slice none 0 0) := fun o => (HX5.out.alloc o).cell 4; clear hk5 hg5)
        | ((refine step_append_any _ rfl (.tmp 21) (.tmp 24) 27 rfl w5.heap.size 30 i0 _ 6 88 Tryz.underlying27 hi0 hz0 hz1 hz2 rfl (by omega) (.slice none 0 0) 0 [] (by simp [Act.eval]) (World.ownsRow_nil _ _ _ _) _ (some ⟨w5.heap.size, 0, none⟩) 1 1 v21 (by simp [Act.eval]) HRA.out (by simp [Value.oneCell']) (by simp only [maxLen]; omega) (by omega) (by simp) ?_); intro v6 w6 hown6 hg6 _; obtain ⟨A6, k6, rfl⟩ := own_slice6 hown6; have HX6 : Hid (Blk w6 (w.heap.size + 1) 30 (vlC none 0 0)) := (HX5.out.alloc (.cells v21.toArray 30)).grown hg6 (by simp [Value.ownBlock]); have HK6 : Hid (Blk w6 g 79 (TxC S 2)) := (HK5.out.alloc (.cells v21.toArray 30)).grown hg6 (by simp [Value.ownBlock]); have HG6 : Hid (w.grownBy w6 (some g)) := only_none (only_alloc HG5.out (.cells v21.toArray 30)) hg6; have c6 : w6.cell? ⟨w.heap.size + 1, 4, none⟩ = some (.slice none 0 0) := HX6.out.cell 4; have f6 := HX6.out.frozen 4; clear hown6 hg6))
      all_goals
        clear c4 c5 c5a HRA HX5 HK5 HG5
        have K7 := Lib.hid (HK6.out.far (p := ⟨w.heap.size + 1, 4, none⟩) (by simp only; omega) (.slice A6 1 k6))
        have X7 : Hid (Blk (w6.setCell ⟨w.heap.size + 1, 4, none⟩ (.slice A6 1 k6)) (w.heap.size + 1) 30 (vlC A6 1 k6)) := HX6.out.set_ 4 (.slice A6 1 k6)
        have G7 : Hid (w.grownBy (w6.setCell ⟨w.heap.size + 1, 4, none⟩ (.slice A6 1 k6)) (some g)) := only_setCell HG6.out (.inr (by simp only; omega)) _
        clear HK6 HX6 HG6 c6 f6
        generalize w6.setCell ⟨w.heap.size + 1, 4, none⟩ (.slice A6 1 k6) = w7 at *
        go_wp2_with fail
        refine (HP2.out _ K7.out).mono ?_
        rintro e w8 ⟨rfl, q, hq⟩
        have K8 : Hid (Blk w8 g 79 (TxC S 2)) := by rw [hq]; exact K7.out.drewN q
        have X8 : Hid (Blk w8 (w.heap.size + 1) 30 (vlC A6 1 k6)) := by rw [hq]; exact X7.out.drewN q
        have G8 : Hid (w.grownBy w8 (some g)) := by rw [hq]; exact only_drewN G7.out q
        clear hq K7 X7 G7
        go_wp2_with fail
        refine (HL2.out _ K8.out).mono ?_
        rintro e w9 ⟨rfl, hk9, hg9⟩
        have X9 : Hid (Blk w9 (w.heap.size + 1) 30 (vlC A6 1 k6)) := X8.out.grown hg9 (by intro e; have := Option.some.inj e; omega)
        have G9 : Hid (w.grownBy w9 (some g)) := only_trans G8.out hg9
        have m1 : txPos w9 g = 3 := by unfold txPos; rw [hk9.cell 1]; rfl
        have m2 : txPos wr g = 1 := by unfold txPos; rw [KR.out.cell 1]; rfl
        have K9 := Lib.hid hk9
        clear hg9 K8 X8 G8 hk9
        go_wp2_with fail
        go_roundw
        case rel => exact ⟨3, A6, 1, k6, .inr rfl, K9, G9, X9⟩
        case measure => rw [m1, m2]; omega
    · have c4 : wr.cell? ⟨w.heap.size + 1, 4, none⟩ = some (.slice A n c) := XR.out.cell 4
      go_wp2_with fail
      refine wp_region_any (by kernel_rfl) ?_
      try (change wpAny _ _ _ _ _ _ _ (World.drew _))
      refine wpAny_take (i := 0) (v := .pointer (some ⟨w.heap.size + 1, 4, none⟩)) rfl (by kernel_rfl) (by kernel_rfl) (by kernel_rfl) (fun _ _ _ h => h) (Or.inl ⟨by rfl, fun w => by go_simp⟩) ?_
      refine wpAny_take (i := 2) (v := .pointer (some ⟨g, 0, none⟩)) rfl (by kernel_rfl) (by kernel_rfl) (by kernel_rfl) (fun _ _ _ h => h) (Or.inl ⟨by rfl, fun w => by go_simp⟩) ?_
      refine wpAny_ready (rs := [1, 3]) (by kernel_rfl) (by simp) ?_
      refine AllReady.cons rfl (fun K hK => ?_) ?_
      · go_simp
        refine hK _ _ ?_
        clear hK K
        refine wpAny_ready (rs := [3]) (by kernel_rfl) (by simp) ?_
        refine AllReady.cons rfl (fun K hK => ?_) AllReady.nil
        go_simp
        refine (HV3.out _ (Blk.drew KR.out)).mono ?_
        rintro e w5 ⟨rfl, hg5⟩
        exact ⟨rfl, rfl, only_trans (only_drew GR.out) hg5⟩
      · refine AllReady.cons rfl (fun K hK => ?_) AllReady.nil
        go_simp
        refine (HV3.out _ (Blk.drew KR.out)).mono ?_
        rintro e w5 ⟨rfl, hg5⟩
        exact ⟨rfl, rfl, only_trans (only_drew GR.out) hg5⟩
end Go.Proofs.YtacnoedhpamdmaaGreatDoor
