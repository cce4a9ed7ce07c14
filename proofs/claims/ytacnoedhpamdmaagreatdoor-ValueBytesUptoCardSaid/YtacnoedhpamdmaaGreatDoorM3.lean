/- Walk: a value read out of bytes at every depth ((*value.pen).value). Conditions: the bytes as they read, at most 1048576. Walks: what value.Decode defers, at a fault and where nothing panics; value.Decode. Conditions: the bytes as they read. Walk: a value read out of bytes by the document, at every depth ((*quernref23.bytesIn).value). Conditions: the bytes as they read, at most 1048576. Walk: quernref23.Decode answers as value.Decode does. Conditions: the bytes as they read. Walk: the law ValueBytes. Conditions: a value, bytes of a card's size. -/
import Derived.Test.YtacnoedhpamdmaaGreatDoorZe
import Derived.Test.YtacnoedhpamdmaaGreatDoorZf
import Derived.Test.YtacnoedhpamdmaaGreatDoorZg
import Derived.Test.YtacnoedhpamdmaaGreatDoorM1
import Derived.Test.YtacnoedhpamdmaaGreatDoorZn
import Derived.Test.YtacnoedhpamdmaaGreatDoorZo
import Derived.Test.YtacnoedhpamdmaaGreatDoorZp
import Derived.Test.YtacnoedhpamdmaaGreatDoorM6
import Derived.Test.YtacnoedhpamdmaaGreatDoorOh
namespace Go.Proofs.YtacnoedhpamdmaaGreatDoor
open Go.RowKit
set_option linter.unusedVariables false
attribute [local go_sem ↓] Go.wp_at_zero Go.wp_at_succ

theorem vc_zero (xs : List Int) (A : Option Addr) (N c : Nat) : VC xs A N c 0 := by
  intro g a p W E hE hB hr ha hp
  have hR : decV xs 0 a p = .bad a 231 := by rw [decV]
  rw [hR]
  have hle : (64 : Int) < E := by omega
  have HB := Lib.hid (hB.alloc (.cells vz 30))
  have HG : Hid (W.grownBy (W.alloc (.cells vz 30)) (some g)) := only_alloc (World.grownBy.refl W _) _
  clear hB hr hR hE
  go_enter Tryz.func65, Tryz.ntmps65
  go_upto_region 1 with fail
  unfold vz at *
  generalize W.alloc (.cells #[.int .i64 0, .int .i64 0, .float .f64 0, .string ⟨#[]⟩, .slice none 0 0, .slice none 0 0] 30) = w0 at *
  have p1 : w0.cell? ⟨g, 1, none⟩ = some (.int .i64 (a : Int)) := HB.out.cell 1
  go_wp2_with fail
  refine (c_pfail g a 231 _).mono ?_; rintro e w2 ⟨rfl, rfl⟩
  exact ⟨rfl, rfl, HG.out⟩
theorem textD_bad {xs : List Int} {k : Int} {a p a4 : Nat} {e4 : Int} (hk : k ≠ 8) (h : ptx xs (a + 1) = .bad a4 e4) : textD xs k a p = .bad a4 e4 := by
  unfold ptx at h
  unfold textD
  rw [show a + 1 + 4 = a + 5 by omega] at h
  by_cases h1 : xs.length < a + 5
  · rw [if_pos h1] at h ⊢
    injection h with h2 h3
    rw [h2, h3]
  · rw [if_neg h1] at h ⊢
    rw [if_neg (fun h => hk h.1)]
    by_cases h2 : xs.length < a + 5 + numL (sub xs (a + 1) 4)
    · rw [if_pos h2] at h ⊢
      injection h with h3 h4
      rw [h3, h4]
    · rw [if_neg h2] at h
      cases h
theorem textD_ok {xs : List Int} {k : Int} {a p a4 : Nat} {s : ByteArray} (hk : k ≠ 8) (h : ptx xs (a + 1) = .ok s a4) : textD xs k a p = .ok (.mk k 0 0 s [] []) a4 p := by
  unfold ptx at h
  unfold textD
  rw [show a + 1 + 4 = a + 5 by omega] at h
  by_cases h1 : xs.length < a + 5
  · rw [if_pos h1] at h
    cases h
  · rw [if_neg h1] at h ⊢
    rw [if_neg (fun h => hk h.1)]
    by_cases h2 : xs.length < a + 5 + numL (sub xs (a + 1) 4)
    · rw [if_pos h2] at h
      cases h
    · rw [if_neg h2] at h ⊢
      injection h with h3 h4
      rw [h3, h4]
set_option maxRecDepth 100000 in
theorem vc_all (xs : List Int) (A : Option Addr) (N c : Nat) (hx : Bts xs) (hN : N ≤ 1048576) (hNc : N ≤ c) (hc : c ≤ 9223372036854775807) : ∀ d : Nat, d ≤ 64 → VC xs A N c d := by
  intro d
  induction d with
  | zero => intro _; exact vc_zero xs A N c
  | succ d ih =>
    intro hd g a p W E hE hB hr ha hp
    have hV := ih (by omega)
    have hl : xs.length = N := by simpa using hr.1
    have hP : PenAt W g xs A N c a p := ⟨hB, hr, ha, hp, hx, hN, hNc, hc⟩
    by_cases hm : 65536 ≤ p
    · rw [dv_many hm]; exact c_v_many xs A N c d g a p W E hE hP hm
    by_cases hs : N < a + 1
    · rw [dv_end hm (by rw [hl]; exact hs)]; exact c_v_end xs A N c d g a p W E hE hP hm hs
    have hka : a + 1 ≤ N := by omega
    obtain ⟨k, hk⟩ : ∃ k, xs.getD a 0 = k := ⟨_, rfl⟩
    have hkb : 0 ≤ k ∧ k < 256 := by
      rw [← hk]
      simp only [List.getD, List.getElem?_eq_getElem (show a < xs.length by omega), Option.getD_some]
      exact hx _ (List.getElem_mem _)
    rw [dv_k hm (by rw [hl]; omega) hk]
    have hit : ∀ kk : Int, kk = 6 ∨ kk = 7 → ¬ N < a + 5 → ∀ (gv : Nat) (w : World), Blk w g 97 (PnC A N c (a + 1) (p + 1)) → Reads w g 1 A N (u8s xs) → Blk w gv 30 (vkC kk none 0 0 none 0 0) → g < gv → Calls Tryz.prog 96 #[.pointer (some ⟨g, 0, none⟩), .pointer (some ⟨gv, 0, none⟩), .int .i64 E] w (IPost w g gv A N c (decI (decV xs d) xs kk (numL (sub xs (a + 1) 4)) (a + 1 + 4) (p + 1) [] [])) := by
      intro kk hkk h5 gv w h1 h2 h3 h4
      rcases hkk with rfl | rfl
      · exact c_items6 xs A N c d hV hx hN hNc hc g gv (a + 1) (p + 1) E (by omega) (by omega) (by omega) w h1 h2 h3 h4 (by omega) (by omega)
      · exact c_items7 xs A N c d hV hx hN hNc hc g gv (a + 1) (p + 1) E (by omega) (by omega) (by omega) w h1 h2 h3 h4 (by omega) (by omega)
    by_cases k0 : k = 0
    · subst k0
      rw [if_pos rfl]
      exact c_v_0 xs A N c d g a p W E hE hP hm hka hk
    rw [if_neg k0]
    by_cases k1 : k = 1
    · subst k1
      rw [if_pos rfl, hl]
      by_cases h2 : N < a + 2
      · rw [if_pos h2]; exact c_v_1s xs A N c d g a p W E hE hP hm hka hk h2
      rw [if_neg h2]
      obtain ⟨b, hb⟩ : ∃ b, xs.getD (a + 1) 0 = b := ⟨_, rfl⟩
      have hbb : 0 ≤ b ∧ b < 256 := by
        rw [← hb]
        simp only [List.getD, List.getElem?_eq_getElem (show a + 1 < xs.length by omega), Option.getD_some]
        exact hx _ (List.getElem_mem _)
      rw [hb]
      by_cases h3 : 1 < b
      · rw [if_pos h3]; exact c_v_1b xs A N c d g a p W E hE hP hm hka hk (by omega) b hb hbb h3
      rw [if_neg h3]
      obtain rfl | rfl : b = 0 ∨ b = 1 := by omega
      · exact c_v_10 xs A N c d g a p W E hE hP hm hka hk (by omega) hb
      · exact c_v_11 xs A N c d g a p W E hE hP hm hka hk (by omega) hb
    rw [if_neg k1]
    by_cases k2 : k = 2
    · subst k2
      rw [if_pos rfl, hl]
      by_cases h2 : N < a + 9
      · rw [if_pos h2]; exact c_v_2s xs A N c d g a p W E hE hP hm hka hk h2
      rw [if_neg h2]
      exact c_v_2 xs A N c d g a p W E hE hP hm hka hk (by omega) _ rfl _ rfl
    rw [if_neg k2]
    by_cases k3 : k = 3
    · subst k3
      rw [if_pos rfl, hl]
      by_cases h2 : N < a + 9
      · rw [if_pos h2]; exact c_v_3s xs A N c d g a p W E hE hP hm hka hk h2
      rw [if_neg h2]
      by_cases h3 : fone (numL (sub xs (a + 1) 8)) ≠ numL (sub xs (a + 1) 8)
      · rw [if_pos h3]; exact c_v_3b xs A N c d g a p W E hE hP hm hka hk (by omega) _ rfl h3
      · rw [if_neg h3]; exact c_v_3 xs A N c d g a p W E hE hP hm hka hk (by omega) _ rfl (by simpa using h3)
    rw [if_neg k3]
    by_cases k4 : k = 4
    · subst k4
      rw [if_pos (.inl rfl)]
      cases ht : ptx xs (a + 1) with
      | bad a4 e4 => rw [textD_bad (by decide) ht]; exact c_v_4b xs A N c d g a p W E hE hP hm hka hk a4 e4 ht
      | ok s a4 => rw [textD_ok (by decide) ht]; exact c_v_4 xs A N c d g a p W E hE hP hm hka hk s a4 ht
    by_cases k5 : k = 5
    · subst k5
      rw [if_pos (.inr (.inl rfl))]
      cases ht : ptx xs (a + 1) with
      | bad a4 e4 => rw [textD_bad (by decide) ht]; exact c_v_5b xs A N c d g a p W E hE hP hm hka hk a4 e4 ht
      | ok s a4 => rw [textD_ok (by decide) ht]; exact c_v_5 xs A N c d g a p W E hE hP hm hka hk s a4 ht
    by_cases k8 : k = 8
    · subst k8
      rw [if_pos (.inr (.inr rfl))]
      unfold textD
      rw [hl]
      by_cases h2 : N < a + 5
      · rw [if_pos h2]; exact c_v_8s xs A N c d g a p W E hE hP hm hka hk h2
      rw [if_neg h2]
      by_cases h3 : numL (sub xs (a + 1) 4) < 1
      · rw [if_pos ⟨rfl, .inl h3⟩]; exact c_v_8l xs A N c d g a p W E hE hP hm hka hk (by omega) _ rfl h3
      by_cases h4 : 64 < numL (sub xs (a + 1) 4)
      · rw [if_pos ⟨rfl, .inr h4⟩]; exact c_v_8g xs A N c d g a p W E hE hP hm hka hk (by omega) _ rfl h4
      rw [if_neg (fun h => h.2.elim h3 h4)]
      by_cases h5 : N < a + 5 + numL (sub xs (a + 1) 4)
      · rw [if_pos h5]; exact c_v_8b xs A N c d g a p W E hE hP hm hka hk (by omega) _ rfl h3 h4 h5
      · rw [if_neg h5]; exact c_v_8 xs A N c d g a p W E hE hP hm hka hk (by omega) _ rfl h3 h4 (by omega) _ rfl
    rw [if_neg (fun h => h.elim k4 (fun h => h.elim k5 k8))]
    by_cases k6 : k = 6
    · subst k6
      rw [if_pos (.inl rfl), hl]
      by_cases h2 : N < a + 5
      · rw [if_pos h2]; exact c_v_6s xs A N c d g a p W E hE hP hm hka hk h2
      rw [if_neg h2]
      have hI := hit 6 (.inl rfl) h2
      rw [show a + 1 + 4 = a + 5 by omega] at hI
      cases hri : decI (decV xs d) xs 6 (numL (sub xs (a + 1) 4)) (a + 5) (p + 1) [] [] with
      | bad a4 e4 => exact c_v_6b xs A N c d g a p W E hE hP hm hka hk a4 e4 hI hri
      | ok v4 a4 p4 => exact c_v_6 xs A N c d g a p W E hE hP hm hka hk v4 a4 p4 hI hri
    by_cases k7 : k = 7
    · subst k7
      rw [if_pos (.inr rfl), hl]
      by_cases h2 : N < a + 5
      · rw [if_pos h2]; exact c_v_7s xs A N c d g a p W E hE hP hm hka hk h2
      rw [if_neg h2]
      have hI := hit 7 (.inr rfl) h2
      rw [show a + 1 + 4 = a + 5 by omega] at hI
      cases hri : decI (decV xs d) xs 7 (numL (sub xs (a + 1) 4)) (a + 5) (p + 1) [] [] with
      | bad a4 e4 => exact c_v_7b xs A N c d g a p W E hE hP hm hka hk a4 e4 hI hri
      | ok v4 a4 p4 => exact c_v_7 xs A N c d g a p W E hE hP hm hka hk v4 a4 p4 hI hri
    rw [if_neg (fun h => h.elim k6 k7)]
    exact c_v_d xs A N c d g a p W E hE hP hm hka k hk (by omega) hkb.2
end Go.Proofs.YtacnoedhpamdmaaGreatDoor
namespace Go.Proofs.YtacnoedhpamdmaaGreatDoor
open Go.RowKit Go.Shelf
set_option linter.unusedVariables false
set_option linter.unusedSimpArgs false
attribute [local go_sem ↓] Go.wp_at_zero Go.wp_at_succ

theorem and_byZ {p q : Prop} (h : p) (k : p → q) : p ∧ q := ⟨h, k h⟩
set_option maxRecDepth 100000 in
set_option maxHeartbeats 1000000 in
theorem c_Dec1P (B a b c : Nat) (cs0 : Array Value) (at_ : Nat) (why : Int) (w : World) (hA : Blk w a 30 cs0) (hz0 : cs0.size = vz.size) (hB : Blk w b 3 #[.int .i64 0]) (hC : Blk w c 33 #[.int .i64 0]) (h1 : B ≤ a) (h2 : B ≤ b) (h3 : B ≤ c) :
    CallsD Tryz.prog 64 #[.pointer (some ⟨a, 0, none⟩), .pointer (some ⟨b, 0, none⟩), .pointer (some ⟨c, 0, none⟩)] (.panicking [fltV at_ why]) w fun e u' w' =>
      e = .returned (.tuple #[]) ∧ u' = .panicking [{ v := .iface 76 (.agg #[.int .i64 (at_ : Int), .int .i64 why]), recovered := true }] ∧
      Blk w' a 30 vz ∧ Blk w' b 3 #[.int .i64 (at_ : Int)] ∧ Blk w' c 33 #[.int .i64 why] ∧ Below B w w' := by
  have hab : a ≠ b := hA.ne_ hB (by decide)
  have hac : a ≠ c := hA.ne_ hC (by decide)
  have hbc : b ≠ c := hB.ne_ hC (by decide)
  refine callsD_of_wpS Tryz.func64 rfl fun c₀ cs hu => ?_
  simp only [Tryz.ntmps64, List.size_toArray, List.length_cons, List.length_nil, Nat.reduceAdd, Nat.reduceSub, Array.replicate_succ, Array.replicate_zero, List.push_toArray, List.append_toArray, List.nil_append, List.cons_append]
  apply wpS_seq
  apply wpS_region
  simp [wpOpsS, go_sem, recoverD, hu, Exit.thenS]
  apply wpS_seq
  apply wpS_region
  simp [wpOpsS, go_sem, recoverD, Exit.thenS]
  refine wpS_cond (t := true) (by simp [Act.eval]) ?_
  simp only [if_true]
  refine wpS_of_wp ?_
  have HF := Lib.hid (Blk.new w 76 #[.int .i64 0, .int .i64 0])
  have la := hA.lt
  have HA := Lib.hid (hA.alloc (.cells #[.int .i64 0, .int .i64 0] 76))
  have HB := Lib.hid (hB.alloc (.cells #[.int .i64 0, .int .i64 0] 76))
  have HC := Lib.hid (hC.alloc (.cells #[.int .i64 0, .int .i64 0] 76))
  have HW : Hid (Below B w (w.alloc (.cells #[.int .i64 0, .int .i64 0] 76))) := (Below.refl B w).alloc (by have := hB.lt; omega) _
  have lb := hB.lt
  have lc := hC.lt
  have ta := ta_fault
  clear hA hB hC hu
  go_upto_region 3 with (first
    | (refine wpList_storeB rfl 76 (.tmp 4) (.tmp 9) rfl rfl w.heap.size #[.int .i64 (at_ : Int), .int .i64 why] rfl rfl HF.out (by kernel_rfl) rfl rfl ?_; intro w1 hB1 hg1 hy1))
  replace HW := Lib.hid (HW.out.grown hg1 (by have := HA.out.lt; omega) (fun x e => by have := Option.some.inj e; omega))
  replace HA := Lib.hid (HA.out.grown hg1 (by intro e; have := Option.some.inj e; omega))
  replace HB := Lib.hid (HB.out.grown hg1 (by intro e; have := Option.some.inj e; omega))
  replace HC := Lib.hid (HC.out.grown hg1 (by intro e; have := Option.some.inj e; omega))
  replace HF := Lib.hid hB1
  clear hB1 hg1 hy1 ta
  have hsw : w.heap.size < w1.heap.size := HF.out.lt
  replace HA := Lib.hid HA.out.drew
  replace HB := Lib.hid HB.out.drew
  replace HC := Lib.hid HC.out.drew
  replace HF := Lib.hid HF.out.drew
  replace HW := Lib.hid HW.out.drew
  refine wp_region_held_drew (S := (fun V => V.cell? ⟨w.heap.size, 0, none⟩ = some (.int .i64 (at_ : Int)) ∧ V.cell? ⟨w.heap.size, 1, none⟩ = some (.int .i64 why))) (by kernel_rfl) ?_ (fun hHeld => ?_)
  · (try dsimp only); exact ⟨HF.out.cell 0, HF.out.cell 1⟩
  refine wpAnyH_take (i := 0) (v := ?v0) (by rw [List.getElem?_toArray]; exact rfl) (by kernel_rfl) (by kernel_rfl) (by kernel_rfl) (by exact fun _ _ _ h => h) (Or.inl ⟨by rfl, ?y0⟩) (by assumption) ?r0
  case y0 => (intro w hSw; (try dsimp only at hSw); go_simp; try with_reducible rfl)
  try simp only [Act.put, List.setIfInBounds_toArray, List.set_cons_zero, List.set_cons_succ]
  refine wpAnyH_take (i := 1) (v := ?v1) (by rw [List.getElem?_toArray]; exact rfl) (by kernel_rfl) (by kernel_rfl) (by kernel_rfl) (by exact fun _ _ _ h => h) (Or.inl ⟨by rfl, ?y1⟩) (by assumption) ?r1
  case y1 => (intro w hSw; (try dsimp only at hSw); go_simp; try with_reducible rfl)
  try simp only [Act.put, List.setIfInBounds_toArray, List.set_cons_zero, List.set_cons_succ]
  refine wpAnyH_take (i := 2) (v := ?v2) (by rw [List.getElem?_toArray]; exact rfl) (by kernel_rfl) (by kernel_rfl) (by kernel_rfl) (by exact fun _ _ _ h => h) (Or.inl ⟨by rfl, ?y2⟩) (by assumption) ?r2
  case y2 => (intro w hSw; (try dsimp only at hSw); go_simp; try with_reducible rfl)
  try simp only [Act.put, List.setIfInBounds_toArray, List.set_cons_zero, List.set_cons_succ]
  refine wpAnyH_take (i := 3) (v := ?v3) (by rw [List.getElem?_toArray]; exact rfl) (by kernel_rfl) (by kernel_rfl) (by kernel_rfl) (by exact fun _ _ _ h => h) (Or.inl ⟨by rfl, ?y3⟩) (by assumption) ?r3
  case y3 => (intro w hSw; (try dsimp only at hSw); go_simp; try with_reducible rfl)
  try simp only [Act.put, List.setIfInBounds_toArray, List.set_cons_zero, List.set_cons_succ]
  refine wpAnyH_take (i := 4) (v := ?v4) (by rw [List.getElem?_toArray]; exact rfl) (by kernel_rfl) (by kernel_rfl) (by kernel_rfl) (by exact fun _ _ _ h => h) (Or.inl ⟨by rfl, ?y4⟩) (by assumption) ?r4
  case y4 => (intro w hSw; (try dsimp only at hSw); go_simp; try with_reducible rfl)
  try simp only [Act.put, List.setIfInBounds_toArray, List.set_cons_zero, List.set_cons_succ]
  refine wpAnyH_ready (rs := [5]) (by kernel_rfl) (by simp) ?_
  intro jj hjj
  obtain rfl := List.mem_singleton.1 hjj
  clear hjj
  refine wpOp_step (by rw [List.getElem?_toArray]; exact rfl) (fun K hK => ?_)
  replace hK := Lib.hid hK
  refine step_storeB rfl 30 (.tmp 0) (.tmp 10) rfl rfl a vz (by simp [Act.eval]) (by simp [Act.eval]) HA.out v_info hz0 rfl ?_
  intro w3 hA5 hg5 hz5
  replace HW := Lib.hid (HW.out.grown hg5 (Nat.le_trans (show B ≤ w.heap.size by omega) HW.out.size) (fun x e => by have := Option.some.inj e; omega))
  replace HA := Lib.hid hA5
  replace HB := Lib.hid (HB.out.grown hg5 (by intro e; have := Option.some.inj e; omega))
  replace HC := Lib.hid (HC.out.grown hg5 (by intro e; have := Option.some.inj e; omega))
  replace HF := Lib.hid (HF.out.grown hg5 (by intro e; have := Option.some.inj e; omega))
  clear hA5 hg5 hz5
  refine hK.out _ _ (and_byZ ?_ (fun hHeld => ?_))
  · (try dsimp only); exact ⟨HF.out.cell 0, HF.out.cell 1⟩
  clear hK K
  try simp only [Act.put, List.setIfInBounds_toArray, List.set_cons_zero, List.set_cons_succ]
  refine wpAnyH_ready (rs := [6]) (by kernel_rfl) (by simp) ?_
  intro jj hjj
  obtain rfl := List.mem_singleton.1 hjj
  clear hjj
  refine wpOp_step (by rw [List.getElem?_toArray]; exact rfl) (fun K hK => ?_)
  replace hK := Lib.hid hK
  have q0 := HB.out.cell 0
  have f0 := HB.out.frozen 0
  go_simp
  clear q0 f0
  replace HA := Lib.hid (HA.out.far (p := ⟨b, 0, none⟩) (by simp only; omega) (.int .i64 (at_ : Int)))
  replace HC := Lib.hid (HC.out.far (p := ⟨b, 0, none⟩) (by simp only; omega) (.int .i64 (at_ : Int)))
  replace HF := Lib.hid (HF.out.far (p := ⟨b, 0, none⟩) (by simp only; omega) (.int .i64 (at_ : Int)))
  replace HB := Lib.hid (HB.out.set_ 0 (.int .i64 (at_ : Int)))
  replace HW := Lib.hid (HW.out.setCell (p := ⟨b, 0, none⟩) (by simp only; omega) (.int .i64 (at_ : Int)))
  refine hK.out _ _ (and_byZ ?_ (fun hHeld => ?_))
  · (try dsimp only); exact ⟨HF.out.cell 0, HF.out.cell 1⟩
  clear hK K
  try simp only [Act.put, List.setIfInBounds_toArray, List.set_cons_zero, List.set_cons_succ]
  refine wpAnyH_ready (rs := [7]) (by kernel_rfl) (by simp) ?_
  intro jj hjj
  obtain rfl := List.mem_singleton.1 hjj
  clear hjj
  refine wpOp_step (by rw [List.getElem?_toArray]; exact rfl) (fun K hK => ?_)
  replace hK := Lib.hid hK
  have q0 := HC.out.cell 0
  have f0 := HC.out.frozen 0
  go_simp
  clear q0 f0
  replace HA := Lib.hid (HA.out.far (p := ⟨c, 0, none⟩) (by simp only; omega) (.int .i64 why))
  replace HB := Lib.hid (HB.out.far (p := ⟨c, 0, none⟩) (by simp only; omega) (.int .i64 why))
  replace HF := Lib.hid (HF.out.far (p := ⟨c, 0, none⟩) (by simp only; omega) (.int .i64 why))
  replace HC := Lib.hid (HC.out.set_ 0 (.int .i64 why))
  replace HW := Lib.hid (HW.out.setCell (p := ⟨c, 0, none⟩) (by simp only; omega) (.int .i64 why))
  refine hK.out _ _ (and_byZ ?_ (fun hHeld => ?_))
  · (try dsimp only); exact ⟨HF.out.cell 0, HF.out.cell 1⟩
  clear hK K
  try simp only [Act.put, List.setIfInBounds_toArray, List.set_cons_zero, List.set_cons_succ]
  refine wpAnyH_done (by kernel_rfl) ?_ _
  exact ⟨rfl, _, rfl, .tuple #[], by simp [results, Tryz.results64], rfl, rfl, HA.out, HB.out, HC.out, HW.out⟩
theorem c_Dec1N (a b c : Value) (w : World) : CallsD Tryz.prog 64 #[a, b, c] .returning w fun e u' w' => e = .returned (.tuple #[]) ∧ u' = .returning ∧ w' = w := by
  refine callsD_of_wpS Tryz.func64 rfl fun c₀ cs hu => ?_
  simp only [Tryz.ntmps64, List.size_toArray, List.length_cons, List.length_nil, Nat.reduceAdd, Nat.reduceSub, Array.replicate_succ, Array.replicate_zero, List.push_toArray, List.append_toArray, List.nil_append, List.cons_append]
  apply wpS_seq
  apply wpS_region
  simp [wpOpsS, go_sem, recoverD, hu, Exit.thenS]
  apply wpS_seq
  apply wpS_region
  simp [wpOpsS, go_sem, recoverD, Exit.thenS]
  refine wpS_cond (t := false) (by simp [Act.eval]) ?_
  simp only [Bool.false_eq_true, if_false]
  refine wpS_of_wp ?_
  go_wp2_with fail
  exact ⟨rfl, .returning, by rw [← hu], .tuple #[], by simp [results, Tryz.results64], rfl, rfl, rfl⟩
/-- No value. -/
abbrev dzV : Val := .mk 0 0 0 ⟨#[]⟩ [] []
/-- What Decode tells of bytes. -/
def decA (xs : List Int) : Val × Nat × Int :=
  if 1048576 < xs.length then (dzV, 0, 2) else match decV xs 64 0 0 with
    | .bad a e => (dzV, a, e)
    | .ok v a p => if a < xs.length then (dzV, a, 9) else (v, 0, 0)
/-- An answer of Decode: a value that reads, a place, an error. -/
def DcP (w : World) (r : Val × Nat × Int) (e : Ending) (w' : World) : Prop := ∃ cs : List Value, e = .returned (.tuple #[.agg cs.toArray, .int .i64 (r.2.1 : Int), .int .i64 r.2.2]) ∧ RdV w' w'.heap.size r.1 cs ∧ Below w.heap.size w w'
theorem rd_dz (w : World) : RdV w w.heap.size dzV [.int .i64 0, .int .i64 0, .float .f64 0, .string ⟨#[]⟩, .slice none 0 0, .slice none 0 0] := (Fresh.leaf 0 w (k := 0) (i := 0) (f := 0) (t := ⟨#[]⟩)).rd
theorem DcP.zero {w w' : World} {n : Nat} {e : Int} (h : Below w.heap.size w w') : DcP w (dzV, n, e) (.returned (.tuple #[.agg #[.int .i64 0, .int .i64 0, .float .f64 0, .string ⟨#[]⟩, .slice none 0 0, .slice none 0 0], .int .i64 (n : Int), .int .i64 e])) w' := ⟨_, rfl, rd_dz w', h⟩
theorem l_six {cs : List Value} (h : cs.length = 6) : ∃ u0 u1 u2 u3 u4 u5, cs = [u0, u1, u2, u3, u4, u5] := by
  match cs, h with
  | [a, b, c, d, e, f], _ => exact ⟨a, b, c, d, e, f, rfl⟩
set_option maxRecDepth 100000 in
set_option maxHeartbeats 2000000 in
theorem c_Decode (xs : List Int) (A : Option Addr) (N c : Nat) (w : World) (hr : Reads w w.heap.size 1 A N (u8s xs)) (hx : Bts xs) (hNc : N ≤ c) (hc : c ≤ 9223372036854775807) :
    Calls Tryz.prog 32 #[.slice A N c] w fun e w' => DcP w (decA xs) e w' := by
  have hmf : ∀ (fn : Fn) (first cap : Array Value) (w : World), (Instr.makeFunc fn first cap).run Tryz.prog w = .ok (.func fn first cap) w := fun _ _ _ _ => rfl
  have hl : xs.length = N := by simpa using hr.1
  obtain ⟨RR, hRR⟩ : ∃ RR, decA xs = RR := ⟨_, rfl⟩
  suffices H : ∀ R : Ending → World → Prop, Hid (∀ e w', DcP w RR e w' → R e w') → Calls Tryz.prog 32 #[.slice A N c] w R by
    rw [hRR]; exact H _ (fun e w' h1 => h1)
  intro R HR
  have HA := Lib.hid (((Blk.new w 30 vz).alloc (.cells #[.int .i64 0] 3)).alloc (.cells #[.int .i64 0] 33))
  have HB := Lib.hid ((Blk.new (w.alloc (.cells vz 30)) 3 #[.int .i64 0]).alloc (.cells #[.int .i64 0] 33))
  have HD := Lib.hid (Blk.new ((w.alloc (.cells vz 30)).alloc (.cells #[.int .i64 0] 3)) 33 #[.int .i64 0])
  have HW : Hid (Below w.heap.size w (((w.alloc (.cells vz 30)).alloc (.cells #[.int .i64 0] 3)).alloc (.cells #[.int .i64 0] 33))) := (((Below.refl w.heap.size w).alloc (Nat.le_refl _) _).alloc (by simp) _).alloc (by simp; omega) _
  have HRD := Lib.hid hr
  have HRR := Lib.hid hRR
  have HL := Lib.hid hl
  have HX := Lib.hid hx
  unfold vz at HA HB HD HW
  simp only [World.size_alloc] at HB HD
  by_cases hN : N ≤ 1048576
  rotate_left
  · have HQ : Hid (RR = (dzV, 0, 2)) := by show _ = _; rw [← HRR.out]; unfold decA; rw [if_pos (by rw [HL.out]; omega)]
    have hN2 : (1048576 : Int) < (N : Int) := by omega
    clear hr hx hl hRR hN
    go_enter_defers Tryz.func32, Tryz.ntmps32
    go_upto_region 1 with fail
    generalize (((w.alloc (.cells #[.int .i64 0, .int .i64 0, .float .f64 0, .string ⟨#[]⟩, .slice none 0 0, .slice none 0 0] 30)).alloc (.cells #[.int .i64 0] 3)).alloc (.cells #[.int .i64 0] 33)) = w3 at *
    go_wp2_with (refine wpList_storeB rfl 30 (.tmp 2) (.tmp 9) rfl rfl w.heap.size vz (by simp [Act.eval, Act.put]) (by simp [Act.eval, Act.put]) HA.out v_info rfl rfl ?_; intro w7 hA7 hg7 hz7; have HB7 : Hid (Blk w7 (w.heap.size + 1) 3 #[.int .i64 0]) := (HB.out.grown hg7 (by intro e; have := Option.some.inj e; omega)); have HD7 : Hid (Blk w7 (w.heap.size + 1 + 1) 33 #[.int .i64 0]) := (HD.out.grown hg7 (by intro e; have := Option.some.inj e; omega)); have q1 := HB7.out.cell 0; have q2 := HD7.out.cell 0; have f1 := HB7.out.frozen 0; have f2 := HD7.out.frozen 0)
    have HA9 : Hid (Blk ((w7.setCell ⟨w.heap.size + 1, 0, none⟩ (.int .i64 0)).setCell ⟨w.heap.size + 1 + 1, 0, none⟩ (.int .i64 2)) w.heap.size 30 vz) := (hA7.far (by simp only; omega) _).far (by simp only; omega) _
    have HB9 : Hid (Blk ((w7.setCell ⟨w.heap.size + 1, 0, none⟩ (.int .i64 0)).setCell ⟨w.heap.size + 1 + 1, 0, none⟩ (.int .i64 2)) (w.heap.size + 1) 3 #[.int .i64 0]) := (HB7.out.set_ 0 (.int .i64 0)).far (by simp only; omega) _
    have HD9 : Hid (Blk ((w7.setCell ⟨w.heap.size + 1, 0, none⟩ (.int .i64 0)).setCell ⟨w.heap.size + 1 + 1, 0, none⟩ (.int .i64 2)) (w.heap.size + 1 + 1) 33 #[.int .i64 2]) := (HD7.out.far (p := ⟨w.heap.size + 1, 0, none⟩) (by simp only; omega) (.int .i64 0)).set_ 0 (.int .i64 2)
    have HW9 : Hid (Below w.heap.size w ((w7.setCell ⟨w.heap.size + 1, 0, none⟩ (.int .i64 0)).setCell ⟨w.heap.size + 1 + 1, 0, none⟩ (.int .i64 2))) := ((HW.out.grown hg7 HW.out.size (fun x e => by have := Option.some.inj e; omega)).setCell (p := ⟨w.heap.size + 1, 0, none⟩) (by simp only; omega) (.int .i64 0)).setCell (p := ⟨w.heap.size + 1 + 1, 0, none⟩) (by simp only; omega) (.int .i64 2)
    clear q1 q2 f1 f2 hA7 hg7 hz7 HB7 HD7 HA HB HD HW hmf
    generalize (w7.setCell ⟨w.heap.size + 1, 0, none⟩ (.int .i64 0)).setCell ⟨w.heap.size + 1 + 1, 0, none⟩ (.int .i64 2) = w9 at *
    have HFN := Lib.hid (HR.out _ _ (by rw [HQ.out]; exact (DcP.zero (n := 0) (e := 2) HW9.out)))
    have n0 := HA9.out.cell 0
    have n1 := HA9.out.cell 1
    have n2 := HA9.out.cell 2
    have n3 := HA9.out.cell 3
    have n4 := HA9.out.cell 4
    have n5 := HA9.out.cell 5
    have m0 := HB9.out.cell 0
    have k0 := HD9.out.cell 0
    clear HA9 HB9 HD9 HW9 HR
    simp [bodyPostD, Leaves, settle, results, Tryz.results32, go_sem, n0, n1, n2, n3, n4, n5, m0, k0]
    exact HFN.out
  have HV : Hid (∀ g W, Blk W g 97 (PnC A N c 0 0) → Reads W g 1 A N (u8s xs) → Calls Tryz.prog 65 #[.pointer (some ⟨g, 0, none⟩), .int .i64 1] W (DPost W g A N c (decV xs 64 0 0))) := fun g W h1 h2 => vc_all xs A N c hx hN hNc hc 64 (Nat.le_refl _) g 0 0 W 1 (by decide) h1 h2 (Nat.zero_le _) (Nat.zero_le _)
  have hN2 : ¬ (1048576 : Int) < (N : Int) := by omega
  have HDC : Hid (decA xs = match decV xs 64 0 0 with | .bad a e => (dzV, a, e) | .ok v a p => if a < N then (dzV, a, 9) else (v, 0, 0)) := by
    show _ = _
    unfold decA
    rw [HL.out, if_neg (by omega)]
  have hav : ∀ v a p, decV xs 64 0 0 = .ok v a p → a ≤ N := fun v a p h => by
    have := (decV_ok hx 64 0 0 v a p (Nat.zero_le _) h).hi
    omega
  clear hr hx hl hRR
  go_enter_defers Tryz.func32, Tryz.ntmps32
  go_wp2_with fail
  have hz : ((((w.alloc (.cells #[.int .i64 0, .int .i64 0, .float .f64 0, .string ⟨#[]⟩, .slice none 0 0, .slice none 0 0] 30)).alloc (.cells #[.int .i64 0] 3)).alloc (.cells #[.int .i64 0] 33)) : World).heap.size = w.heap.size + 1 + 1 + 1 := by simp
  generalize (((w.alloc (.cells #[.int .i64 0, .int .i64 0, .float .f64 0, .string ⟨#[]⟩, .slice none 0 0, .slice none 0 0] 30)).alloc (.cells #[.int .i64 0] 3)).alloc (.cells #[.int .i64 0] 33)) = w3 at *
  rw [← hz]
  clear hz
  have HT := Blk.new w3 97 (PnC A N c 0 0)
  have hrd3 : Reads (w3.alloc (.cells (PnC A N c 0 0) 97)) w3.heap.size 1 A N (u8s xs) := ((HRD.out.below HW.out).more HW.out.size).alloc (Nat.le_refl _) _
  refine (HV.out w3.heap.size _ HT hrd3).mono ?_
  have ha : w.heap.size < w3.heap.size := HA.out.lt
  have hb : w.heap.size + 1 < w3.heap.size := HB.out.lt
  have hd : w.heap.size + 1 + 1 < w3.heap.size := HD.out.lt
  clear HT hrd3 HV
  cases hdv : decV xs 64 0 0 with
  | bad a4 e4 =>
    have HQ : Hid (RR = (dzV, a4, e4)) := by show _ = _; rw [← HRR.out, HDC.out, hdv]
    clear hdv hav HDC HRR
    rintro e w4 ⟨rfl, hg4⟩
    replace HW := Lib.hid ((HW.out.alloc HW.out.size (.cells (PnC A N c 0 0) 97)).grown hg4 (by simp; omega) (fun x e => by have := Option.some.inj e; omega))
    replace HA := (HA.out.alloc (.cells (PnC A N c 0 0) 97)).grown hg4 (by intro e; have := Option.some.inj e; omega)
    replace HB := (HB.out.alloc (.cells (PnC A N c 0 0) 97)).grown hg4 (by intro e; have := Option.some.inj e; omega)
    replace HD := (HD.out.alloc (.cells (PnC A N c 0 0) 97)).grown hg4 (by intro e; have := Option.some.inj e; omega)
    clear hg4
    refine leaves_cons (f := 64) (args := #[.pointer (some ⟨w.heap.size, 0, none⟩), .pointer (some ⟨w.heap.size + 1, 0, none⟩), .pointer (some ⟨w.heap.size + 1 + 1, 0, none⟩)]) (by simp) (by simp [go_sem]) ?_
    refine (c_Dec1P w.heap.size _ _ _ _ a4 e4 _ HA rfl HB HD (Nat.le_refl _) (by omega) (by omega)).mono ?_
    rintro e u w9 ⟨rfl, rfl, h1, h2, h3, h4⟩
    have HA9 := Lib.hid h1
    have HB9 := Lib.hid h2
    have HD9 := Lib.hid h3
    have HW9 := Lib.hid (HW.out.trans (h4.mono (Nat.le_refl _)))
    clear h1 h2 h3 h4 HA HB HD HW hmf
    have HFN := Lib.hid (HR.out _ _ (by rw [HQ.out]; exact (DcP.zero (n := a4) (e := e4) HW9.out)))
    have n0 := HA9.out.cell 0
    have n1 := HA9.out.cell 1
    have n2 := HA9.out.cell 2
    have n3 := HA9.out.cell 3
    have n4 := HA9.out.cell 4
    have n5 := HA9.out.cell 5
    have m0 := HB9.out.cell 0
    have k0 := HD9.out.cell 0
    clear HA9 HB9 HD9 HW9 HR
    simp [bodyPostD, Leaves, settle, results, Tryz.results32, go_sem, n0, n1, n2, n3, n4, n5, m0, k0]
    exact HFN.out
  | ok v a4 p4 =>
    have haN := hav v a4 p4 hdv
    have HDC2 : Hid (RR = if a4 < N then (dzV, a4, 9) else (v, 0, 0)) := by show _ = _; rw [← HRR.out, HDC.out, hdv]
    clear hdv hav HDC HRR
    rintro e w4 ⟨cs4, rfl, hf4, hk4, hg4⟩
    have hz4 : w3.heap.size < w4.heap.size := hk4.lt
    replace HW := Lib.hid ((HW.out.alloc HW.out.size (.cells (PnC A N c 0 0) 97)).grown hg4 (by simp; omega) (fun x e => by have := Option.some.inj e; omega))
    replace HA := Lib.hid ((HA.out.alloc (.cells (PnC A N c 0 0) 97)).grown hg4 (by intro e; have := Option.some.inj e; omega))
    replace HB := Lib.hid ((HB.out.alloc (.cells (PnC A N c 0 0) 97)).grown hg4 (by intro e; have := Option.some.inj e; omega))
    replace HD := Lib.hid ((HD.out.alloc (.cells (PnC A N c 0 0) 97)).grown hg4 (by intro e; have := Option.some.inj e; omega))
    have h6 := six_of hf4.rd
    have H6 := Lib.hid h6
    have hi6 : (Tryz.prog.info? 30).map (·.size) = some cs4.toArray.size := by rw [List.size_toArray, h6.1]; exact v_info
    have HI6 := Lib.hid hi6
    have hvz : vz.size = cs4.toArray.size := by rw [show cs4.toArray.size = 6 by simpa using h6.1]; rfl
    have hzz : (w3.alloc (.cells (PnC A N c 0 0) 97)).heap.size = w3.heap.size + 1 := by simp
    rw [hzz] at hf4
    have HF4 := Lib.hid hf4
    have HK4 := Lib.hid hk4
    clear hf4 hk4 hg4 h6 hi6 hzz
    go_upto_region 6 with (refine wpList_storeB rfl 30 (.tmp 2) (.tmp 15) rfl rfl w.heap.size cs4.toArray (by simp [Act.eval]) (by simp [Act.eval]) HA.out HI6.out hvz H6.out.2 ?_; intro w5 hB5 hg5 hz5)
    have HA5 := Lib.hid hB5
    have HB5 : Hid (Blk w5 (w.heap.size + 1) 3 #[.int .i64 0]) := HB.out.grown hg5 (by intro e; have := Option.some.inj e; omega)
    have HD5 : Hid (Blk w5 (w.heap.size + 1 + 1) 33 #[.int .i64 0]) := HD.out.grown hg5 (by intro e; have := Option.some.inj e; omega)
    have HK5 : Hid (Blk w5 w3.heap.size 97 (PnC A N c a4 p4)) := HK4.out.grown hg5 (by intro e; have := Option.some.inj e; omega)
    have HF5 : Hid (Fresh (w3.heap.size + 1) w5 v cs4) := HF4.out.on (by rw [hz5]; exact Nat.le_refl _) fun i hi hj => hg5.block i hj (by intro e; have := Option.some.inj e; omega)
    have HW5 : Hid (Below w.heap.size w w5) := HW.out.grown hg5 HW.out.size (fun x e => by have := Option.some.inj e; omega)
    have hz55 : w5.heap.size = w4.heap.size := hz5
    clear hB5 hg5 hz5 HA HB HD HK4 HF4 HW hvz
    have c1 : w5.cell? ⟨w3.heap.size, 1, none⟩ = some (.int .i64 (a4 : Int)) := HK5.out.cell 1
    by_cases hlt : a4 < N
    · have HQ : Hid (RR = (dzV, a4, 9)) := by show _ = _; rw [HDC2.out, if_pos hlt]
      clear HDC2
      go_wp2_with fail
      refine (c_pfail w3.heap.size a4 9 _).mono ?_; rintro e w6 ⟨rfl, rfl⟩
      have hsz : cs4.toArray.size = vz.size := by rw [show cs4.toArray.size = 6 by simpa using H6.out.1]; rfl
      refine leaves_cons (f := 64) (args := #[.pointer (some ⟨w.heap.size, 0, none⟩), .pointer (some ⟨w.heap.size + 1, 0, none⟩), .pointer (some ⟨w.heap.size + 1 + 1, 0, none⟩)]) (by simp) (by simp [go_sem]) ?_
      refine (c_Dec1P w.heap.size _ _ _ _ a4 9 _ HA5.out hsz HB5.out HD5.out (Nat.le_refl _) (by omega) (by omega)).mono ?_
      rintro e u w9 ⟨rfl, rfl, h1, h2, h3, h4⟩
      have HA9 := Lib.hid h1
      have HB9 := Lib.hid h2
      have HD9 := Lib.hid h3
      have HW9 := Lib.hid (HW5.out.trans (h4.mono (Nat.le_refl _)))
      clear h1 h2 h3 h4 HA5 HB5 HD5 HW5 HK5 hmf c1 HF5
      have HFN := Lib.hid (HR.out _ _ (by rw [HQ.out]; exact (DcP.zero (n := a4) (e := 9) HW9.out)))
      have n0 := HA9.out.cell 0
      have n1 := HA9.out.cell 1
      have n2 := HA9.out.cell 2
      have n3 := HA9.out.cell 3
      have n4 := HA9.out.cell 4
      have n5 := HA9.out.cell 5
      have m0 := HB9.out.cell 0
      have k0 := HD9.out.cell 0
      clear HA9 HB9 HD9 HW9 HR
      simp [bodyPostD, Leaves, settle, results, Tryz.results32, go_sem, n0, n1, n2, n3, n4, n5, m0, k0]
      exact HFN.out
    · have HQ : Hid (RR = (v, 0, 0)) := by show _ = _; rw [HDC2.out, if_neg hlt]
      clear HDC2
      have hvz : cs4.toArray.size = cs4.toArray.size := rfl
      go_wp2_with (first
        | (refine wpList_load_row rfl 30 (.tmp 2) rfl w.heap.size rfl 30 _ (0, 0) _ HA5.out Tryz.underlying30 rfl HI6.out ?_)
        | (refine wpList_storeB rfl 30 (.tmp 2) (.tmp 29) rfl rfl w.heap.size cs4.toArray (by simp [Act.eval, Act.put]) (by simp [Act.eval, Act.put]) HA5.out HI6.out rfl H6.out.2 ?_; intro w7 hA7 hg7 hz7; have HB7 : Hid (Blk w7 (w.heap.size + 1) 3 #[.int .i64 0]) := (HB5.out.grown hg7 (by intro e; have := Option.some.inj e; omega)); have HD7 : Hid (Blk w7 (w.heap.size + 1 + 1) 33 #[.int .i64 0]) := (HD5.out.grown hg7 (by intro e; have := Option.some.inj e; omega)); have q1 := HB7.out.cell 0; have q2 := HD7.out.cell 0; have f1 := HB7.out.frozen 0; have f2 := HD7.out.frozen 0))
      have HA9 : Hid (Blk ((w7.setCell ⟨w.heap.size + 1, 0, none⟩ (.int .i64 0)).setCell ⟨w.heap.size + 1 + 1, 0, none⟩ (.int .i64 0)) w.heap.size 30 cs4.toArray) := (hA7.far (by simp only; omega) _).far (by simp only; omega) _
      have HB9 : Hid (Blk ((w7.setCell ⟨w.heap.size + 1, 0, none⟩ (.int .i64 0)).setCell ⟨w.heap.size + 1 + 1, 0, none⟩ (.int .i64 0)) (w.heap.size + 1) 3 #[.int .i64 0]) := (HB7.out.set_ 0 (.int .i64 0)).far (by simp only; omega) _
      have HD9 : Hid (Blk ((w7.setCell ⟨w.heap.size + 1, 0, none⟩ (.int .i64 0)).setCell ⟨w.heap.size + 1 + 1, 0, none⟩ (.int .i64 0)) (w.heap.size + 1 + 1) 33 #[.int .i64 0]) := (HD7.out.far (p := ⟨w.heap.size + 1, 0, none⟩) (by simp only; omega) (.int .i64 0)).set_ 0 (.int .i64 0)
      have hz9 : ((w7.setCell ⟨w.heap.size + 1, 0, none⟩ (.int .i64 0)).setCell ⟨w.heap.size + 1 + 1, 0, none⟩ (.int .i64 0)).heap.size = w5.heap.size := by simp [World.setCell, hz7]
      have HF9 : Hid (Fresh (w3.heap.size + 1) ((w7.setCell ⟨w.heap.size + 1, 0, none⟩ (.int .i64 0)).setCell ⟨w.heap.size + 1 + 1, 0, none⟩ (.int .i64 0)) v cs4) := HF5.out.on (by rw [hz9]; exact Nat.le_refl _) fun x hx hj => ((Below.heap_setCell _ _ _ x (by simp only; omega)).trans (Below.heap_setCell _ _ _ x (by simp only; omega))).trans (hg7.block x hj (by intro e; have := Option.some.inj e; omega))
      have HW9 : Hid (Below w.heap.size w ((w7.setCell ⟨w.heap.size + 1, 0, none⟩ (.int .i64 0)).setCell ⟨w.heap.size + 1 + 1, 0, none⟩ (.int .i64 0))) := ((HW5.out.grown hg7 HW5.out.size (fun x e => by have := Option.some.inj e; omega)).setCell (p := ⟨w.heap.size + 1, 0, none⟩) (by simp only; omega) (.int .i64 0)).setCell (p := ⟨w.heap.size + 1 + 1, 0, none⟩) (by simp only; omega) (.int .i64 0)
      clear q1 q2 f1 f2 hA7 hg7 hz7 HB7 HD7 HA5 HB5 HD5 HF5 HW5 HK5 hmf c1 HI6
      generalize (w7.setCell ⟨w.heap.size + 1, 0, none⟩ (.int .i64 0)).setCell ⟨w.heap.size + 1 + 1, 0, none⟩ (.int .i64 0) = w9 at *
      refine leaves_cons (f := 64) (args := #[.pointer (some ⟨w.heap.size, 0, none⟩), .pointer (some ⟨w.heap.size + 1, 0, none⟩), .pointer (some ⟨w.heap.size + 1 + 1, 0, none⟩)]) (by simp) (by simp [go_sem]) ?_
      refine (c_Dec1N _ _ _ _).mono ?_
      rintro e u w10 ⟨rfl, rfl, rfl⟩
      obtain ⟨u0, u1, u2, u3, u4, u5, hcs⟩ := l_six H6.out.1
      have HDP : Hid (DcP w (v, 0, 0) (.returned (.tuple #[.agg cs4.toArray, .int .i64 ((0 : Nat) : Int), .int .i64 0])) w10) := ⟨cs4, rfl, HF9.out.rd, HW9.out⟩
      subst hcs
      have HFN := Lib.hid (HR.out _ _ (by rw [HQ.out]; exact HDP.out))
      have n0 := HA9.out.cell 0
      have n1 := HA9.out.cell 1
      have n2 := HA9.out.cell 2
      have n3 := HA9.out.cell 3
      have n4 := HA9.out.cell 4
      have n5 := HA9.out.cell 5
      have m0 := HB9.out.cell 0
      have k0 := HD9.out.cell 0
      clear HA9 HB9 HD9 HW9 HR
      simp [bodyPostD, Leaves, settle, results, Tryz.results32, go_sem, n0, n1, n2, n3, n4, n5, m0, k0]
      exact HFN.out
end Go.Proofs.YtacnoedhpamdmaaGreatDoor
namespace Go.Proofs.YtacnoedhpamdmaaGreatDoor
open Go.RowKit
set_option linter.unusedVariables false

set_option maxRecDepth 100000 in
theorem rvc_all (xs : List Int) (A : Option Addr) (N c : Nat) (hx : Bts xs) (hN : N ≤ 1048576) (hNc : N ≤ c) (hc : c ≤ 9223372036854775807) : ∀ d : Nat, d ≤ 64 → RVC xs A N c d := by
  intro d
  induction d with
  | zero =>
    intro _ g a p W E hE hB hr ha hp
    rw [show decV xs 0 a p = .bad a 231 by rw [decV]]
    exact c_rv_deep xs A N c g a p W E (by omega) ⟨hB, hr, ha, hp, hx, hN, hNc, hc⟩
  | succ d ih =>
    intro hd g a p W E hE hB hr ha hp
    have hV := ih (by omega)
    have hl : xs.length = N := by simpa using hr.1
    have hP : RinAt W g xs A N c a p := ⟨hB, hr, ha, hp, hx, hN, hNc, hc⟩
    by_cases hm : 65536 ≤ p
    · rw [dv_many hm]; exact c_rv_many xs A N c d g a p W E hE hP hm
    by_cases hs : N < a + 1
    · rw [dv_end hm (by rw [hl]; exact hs)]; exact c_rv_end xs A N c d g a p W E hE hP hm hs
    have hka : a + 1 ≤ N := by omega
    obtain ⟨k, hk⟩ : ∃ k, xs.getD a 0 = k := ⟨_, rfl⟩
    have hkb : 0 ≤ k ∧ k < 256 := by
      rw [← hk]
      simp only [List.getD, List.getElem?_eq_getElem (show a < xs.length by omega), Option.getD_some]
      exact hx _ (List.getElem_mem _)
    rw [dv_k hm (by rw [hl]; omega) hk]
    have hit : ∀ kk : Int, kk = 6 ∨ kk = 7 → ¬ N < a + 5 → ∀ (w : World), Blk w g 102 (RnC A N c (a + 1) ((p : Int) + 1) 0 0) → Reads w g 1 A N (u8s xs) → Calls Tryz.prog 100 #[.pointer (some ⟨g, 0, none⟩), .agg (vkC kk none 0 0 none 0 0), .int .i64 E] w (RPost w g A N c (decI (decV xs d) xs kk (numL (sub xs (a + 1) 4)) (a + 1 + 4) (p + 1) [] [])) := by
      intro kk hkk h5 w h1 h2
      rcases hkk with rfl | rfl
      · exact c_ritems6 xs A N c d hV (c_rv_e A N c) hx hN hNc hc g (a + 1) (p + 1) E (by omega) (by omega) (by omega) w h1 h2 (by omega) (by omega)
      · exact c_ritems7 xs A N c d hV (c_rv_e A N c) hx hN hNc hc g (a + 1) (p + 1) E (by omega) (by omega) (by omega) w h1 h2 (by omega) (by omega)
    have hib : ∀ kk : Int, kk = 6 ∨ kk = 7 → N < a + 5 → ∀ (w : World), Blk w g 102 (RnC A N c (a + 1) ((p : Int) + 1) 0 0) → Reads w g 1 A N (u8s xs) → Calls Tryz.prog 100 #[.pointer (some ⟨g, 0, none⟩), .agg (vkC kk none 0 0 none 0 0), .int .i64 E] w (RPost w g A N c (.bad (a + 1) 3)) :=
      fun kk hkk h5 w h1 h2 => c_ritems_bad kk A N c g (a + 1) ((p : Int) + 1) E w hkk h1 (by omega) hN (by omega)
    by_cases k0 : k = 0
    · subst k0
      rw [if_pos rfl]
      exact c_rv_0 xs A N c d g a p W E hE hP hm hka hk
    rw [if_neg k0]
    by_cases k1 : k = 1
    · subst k1
      rw [if_pos rfl, hl]
      by_cases h2 : N < a + 2
      · rw [if_pos h2]; exact c_rv_1s xs A N c d g a p W E hE hP hm hka hk h2
      rw [if_neg h2]
      obtain ⟨b, hb⟩ : ∃ b, xs.getD (a + 1) 0 = b := ⟨_, rfl⟩
      have hbb : 0 ≤ b ∧ b < 256 := by
        rw [← hb]
        simp only [List.getD, List.getElem?_eq_getElem (show a + 1 < xs.length by omega), Option.getD_some]
        exact hx _ (List.getElem_mem _)
      rw [hb]
      by_cases h3 : 1 < b
      · rw [if_pos h3]; exact c_rv_1b xs A N c d g a p W E hE hP hm hka hk (by omega) b hb h3 hbb.2
      rw [if_neg h3]
      obtain rfl | rfl : b = 0 ∨ b = 1 := by omega
      · exact c_rv_10 xs A N c d g a p W E hE hP hm hka hk (by omega) hb
      · exact c_rv_11 xs A N c d g a p W E hE hP hm hka hk (by omega) hb
    rw [if_neg k1]
    by_cases k2 : k = 2
    · subst k2
      rw [if_pos rfl, hl]
      by_cases h2 : N < a + 9
      · rw [if_pos h2]; exact c_rv_2s xs A N c d g a p W E hE hP hm hka hk h2
      rw [if_neg h2]
      exact c_rv_2 xs A N c d g a p W E hE hP hm hka hk (by omega) _ rfl _ rfl
    rw [if_neg k2]
    by_cases k3 : k = 3
    · subst k3
      rw [if_pos rfl, hl]
      by_cases h2 : N < a + 9
      · rw [if_pos h2]; exact c_rv_3s xs A N c d g a p W E hE hP hm hka hk h2
      rw [if_neg h2]
      by_cases h3 : fone (numL (sub xs (a + 1) 8)) = numL (sub xs (a + 1) 8)
      · rw [if_neg (fun h => h h3)]; exact c_rv_3 xs A N c d g a p W E hE hP hm hka hk (by omega) _ rfl h3
      · rw [if_pos h3]; exact c_rv_3b xs A N c d g a p W E hE hP hm hka hk (by omega) _ rfl h3
    rw [if_neg k3]
    by_cases k4 : k = 4
    · subst k4
      rw [if_pos (.inl rfl), textD_rtx (hd := false) (by decide)]
      cases htx : rtx xs false (a + 1) with
      | bad a4 e4 => exact c_rv_4b xs A N c d g a p W E hE hP hm hka hk a4 e4 htx
      | ok s a4 => exact c_rv_4 xs A N c d g a p W E hE hP hm hka hk s a4 htx
    by_cases k5 : k = 5
    · subst k5
      rw [if_pos (.inr (.inl rfl)), textD_rtx (hd := false) (by decide)]
      cases htx : rtx xs false (a + 1) with
      | bad a4 e4 => exact c_rv_5b xs A N c d g a p W E hE hP hm hka hk a4 e4 htx
      | ok s a4 => exact c_rv_5 xs A N c d g a p W E hE hP hm hka hk s a4 htx
    by_cases k8 : k = 8
    · subst k8
      rw [if_pos (.inr (.inr rfl)), textD_rtx (hd := true) (by decide)]
      cases htx : rtx xs true (a + 1) with
      | bad a4 e4 => exact c_rv_8b xs A N c d g a p W E hE hP hm hka hk a4 e4 htx
      | ok s a4 => exact c_rv_8 xs A N c d g a p W E hE hP hm hka hk s a4 htx
    rw [if_neg (fun h => h.elim k4 (fun h => h.elim k5 k8))]
    by_cases k6 : k = 6
    · subst k6
      rw [if_pos (.inl rfl), hl]
      by_cases h2 : N < a + 5
      · rw [if_pos h2]; exact c_rv_6b xs A N c d g a p W E hE hP hm hka hk _ _ (hib 6 (.inl rfl) h2)
      rw [if_neg h2]
      have hI := hit 6 (.inl rfl) h2
      rw [show a + 1 + 4 = a + 5 by omega] at hI
      cases hri : decI (decV xs d) xs 6 (numL (sub xs (a + 1) 4)) (a + 5) (p + 1) [] [] with
      | bad a4 e4 => rw [hri] at hI; exact c_rv_6b xs A N c d g a p W E hE hP hm hka hk a4 e4 hI
      | ok v4 a4 p4 => rw [hri] at hI; exact c_rv_6 xs A N c d g a p W E hE hP hm hka hk v4 a4 p4 hI
    by_cases k7 : k = 7
    · subst k7
      rw [if_pos (.inr rfl), hl]
      by_cases h2 : N < a + 5
      · rw [if_pos h2]; exact c_rv_7b xs A N c d g a p W E hE hP hm hka hk _ _ (hib 7 (.inr rfl) h2)
      rw [if_neg h2]
      have hI := hit 7 (.inr rfl) h2
      rw [show a + 1 + 4 = a + 5 by omega] at hI
      cases hri : decI (decV xs d) xs 7 (numL (sub xs (a + 1) 4)) (a + 5) (p + 1) [] [] with
      | bad a4 e4 => rw [hri] at hI; exact c_rv_7b xs A N c d g a p W E hE hP hm hka hk a4 e4 hI
      | ok v4 a4 p4 => rw [hri] at hI; exact c_rv_7 xs A N c d g a p W E hE hP hm hka hk v4 a4 p4 hI
    rw [if_neg (fun h => h.elim k6 k7)]
    exact c_rv_d xs A N c d g a p W E hE hP hm hka k (by omega) hkb.2 hk
end Go.Proofs.YtacnoedhpamdmaaGreatDoor
namespace Go.Proofs.YtacnoedhpamdmaaGreatDoor
open Go.RowKit Go.Shelf
set_option linter.unusedVariables false
set_option linter.unusedSimpArgs false
attribute [local go_sem ↓] Go.wp_at_zero Go.wp_at_succ

set_option maxRecDepth 100000 in
set_option maxHeartbeats 4000000 in
theorem c_rDecode (xs : List Int) (A : Option Addr) (N c : Nat) (w : World) (hr : Reads w w.heap.size 1 A N (u8s xs)) (hx : Bts xs) (hNc : N ≤ c) (hc : c ≤ 9223372036854775807) :
    Calls Tryz.prog 33 #[.slice A N c] w fun e w' => DcP w (decA xs) e w' := by
  have hl : xs.length = N := by simpa using hr.1
  have HA := Lib.hid (Blk.new w 30 vz)
  have HW : Hid (Below w.heap.size w (w.alloc (.cells vz 30))) := (Below.refl w.heap.size w).alloc (Nat.le_refl _) _
  have HRD := Lib.hid hr
  have HL := Lib.hid hl
  have HX := Lib.hid hx
  obtain ⟨RR, hRR⟩ : ∃ RR, decA xs = RR := ⟨_, rfl⟩
  rw [hRR]
  have HRR := Lib.hid hRR
  unfold vz at HA HW
  by_cases hN : N ≤ 1048576
  rotate_left
  · have HQ : Hid (RR = (dzV, 0, 2)) := by show _ = _; rw [← HRR.out]; unfold decA; rw [if_pos (by rw [HL.out]; omega)]
    have hN2 : (1048576 : Int) < (N : Int) := by omega
    clear hr hx hl hRR hN
    go_enter Tryz.func33, Tryz.ntmps33
    go_wp2_with (refine wpList_storeB rfl 30 (.tmp 2) (.tmp 10) rfl rfl w.heap.size vz (by simp [Act.eval, Act.put]) (by simp [Act.eval, Act.put]) HA.out v_info rfl rfl ?_; intro w7 hA7 hg7 hz7)
    have HA9 := Lib.hid hA7
    have HW9 := Lib.hid (HW.out.grown hg7 HW.out.size (fun x e => by have := Option.some.inj e; omega))
    clear hA7 hg7 hz7 HA HW
    have n0 := HA9.out.cell 0
    have n1 := HA9.out.cell 1
    have n2 := HA9.out.cell 2
    have n3 := HA9.out.cell 3
    have n4 := HA9.out.cell 4
    have n5 := HA9.out.cell 5
    have HFN := Lib.hid (show DcP w RR _ w7 from by rw [HQ.out]; exact (DcP.zero (n := 0) (e := 2) HW9.out))
    clear HA9
    simp [bodyPost, results, Tryz.results33, go_sem, n0, n1, n2, n3, n4, n5]
    exact HFN.out
  have HV : Hid (∀ g W, Blk W g 102 (RnC A N c 0 0 0 0) → Reads W g 1 A N (u8s xs) → Calls Tryz.prog 67 #[.pointer (some ⟨g, 0, none⟩), .int .i64 1] W (RU W g A N c (decV xs 64 0 0))) := fun g W h1 h2 => (rvc_all xs A N c hx hN hNc hc 64 (Nat.le_refl _) g 0 0 W 1 (by decide) h1 h2 (Nat.zero_le _) (Nat.zero_le _)).mono fun E W h => RU.of h fun a4 e4 => decV_why xs 64 0 0 a4 e4
  have hN2 : ¬ (1048576 : Int) < (N : Int) := by omega
  have HDC : Hid (decA xs = match decV xs 64 0 0 with | .bad a e => (dzV, a, e) | .ok v a p => if a < N then (dzV, a, 9) else (v, 0, 0)) := by
    show _ = _
    unfold decA
    rw [HL.out, if_neg (by omega)]
    try (cases decV xs 64 0 0 <;> rfl)
  have HAV : Hid (∀ v a p, decV xs 64 0 0 = .ok v a p → a ≤ N) := fun v a p h => by
    have := (decV_ok hx 64 0 0 v a p (Nat.zero_le _) h).hi
    omega
  clear hr hx hl hRR
  go_enter Tryz.func33, Tryz.ntmps33
  go_wp2_with fail
  generalize hw3 : w.alloc (.cells #[.int .i64 0, .int .i64 0, .float .f64 0, .string ⟨#[]⟩, .slice none 0 0, .slice none 0 0] 30) = w3 at *
  have hz3 : w3.heap.size = w.heap.size + 1 := by rw [← hw3]; simp
  have HT := Blk.new w3 102 (RnC A N c 0 0 0 0)
  have hrd3 : Reads (w3.alloc (.cells (RnC A N c 0 0 0 0) 102)) w3.heap.size 1 A N (u8s xs) := ((HRD.out.below HW.out).more HW.out.size).alloc (Nat.le_refl _) _
  have hcv := HV.out w3.heap.size _ HT hrd3
  clear hw3 HT hrd3 HV
  rw [hz3] at hcv
  refine hcv.mono ?_
  intro ee w4 hru
  clear hcv
  obtain ⟨cs4, a5, q5, pl5, e5, he5, h6, hall, hk5, hg5, ho5⟩ := hru
  subst he5
  obtain ⟨x0, x1, x2, x3, x4, x5, rfl⟩ := l_six6 h6
  have hz4 : w.heap.size + 1 < w4.heap.size := hk5.lt
  have hzz : (w3.alloc (.cells (RnC A N c 0 0 0 0) 102)).heap.size = w.heap.size + 2 := by simp [hz3]
  replace HW := Lib.hid ((HW.out.alloc HW.out.size (.cells (RnC A N c 0 0 0 0) 102)).grown hg5 (by rw [hzz]; omega) (fun x e => by have := Option.some.inj e; omega))
  replace HA := Lib.hid ((HA.out.alloc (.cells (RnC A N c 0 0 0 0) 102)).grown hg5 (by intro e; have := Option.some.inj e; omega))
  have HK := Lib.hid hk5
  have HAL := Lib.hid hall
  rw [hzz] at ho5
  have HO := Lib.hid ho5
  clear h6 hall hk5 hg5 ho5 hzz
  have HB := Lib.hid (Blk.new w4 30 vz)
  replace HW := Lib.hid (HW.out.alloc HW.out.size (.cells vz 30))
  replace HA := Lib.hid (HA.out.alloc (.cells vz 30))
  replace HK := Lib.hid (HK.out.alloc (.cells vz 30))
  have HG : Hid (w4.grownBy (w4.alloc (.cells vz 30)) none) := only_alloc (World.grownBy.refl w4 none) _
  unfold vz at HB HW HA HK HG
  go_upto_region 5 with (refine wpList_storeB rfl 30 (.tmp 6) (.tmp 15) rfl rfl w4.heap.size #[x0, x1, x2, x3, x4, x5] (by simp [Act.eval]) (by simp [Act.eval]) HB.out v_info rfl (by exact HAL.out) ?_; intro w5 hB5 hg5 hz5)
  replace HW := Lib.hid (HW.out.grown hg5 HW.out.size (fun x e => by have := Option.some.inj e; omega))
  replace HA := Lib.hid (HA.out.grown hg5 (by intro e; have := Option.some.inj e; omega))
  replace HK := Lib.hid (HK.out.grown hg5 (by intro e; have := Option.some.inj e; omega))
  replace HG : Hid (w4.grownBy w5 none) := ⟨hg5.os.trans HG.out.os, hg5.tape.trans HG.out.tape, hg5.output.trans HG.out.output, Nat.le_trans HG.out.size hg5.size, fun i hi h => (hg5.block i (Nat.lt_of_lt_of_le hi HG.out.size) (by intro e; have := Option.some.inj e; omega)).trans (HG.out.block i hi h)⟩
  replace HB := Lib.hid hB5
  clear hB5 hg5 hz5
  have r1 : w5.cell? ⟨w.heap.size + 1, 1, none⟩ = some (.int .i64 (a5 : Int)) := HK.out.cell 1
  have r4 : w5.cell? ⟨w.heap.size + 1, 4, none⟩ = some (.int .i64 e5) := HK.out.cell 4
  rcases HO.out with ⟨v, p', hdv, rfl, rfl, rfl, hf⟩ | ⟨a4, hdv, rfl, hne⟩
  · have haN := HAV.out v a5 p' hdv
    have HF := Lib.hid hf
    have HDC2 : Hid (RR = if a5 < N then (dzV, a5, 9) else (v, 0, 0)) := by show _ = _; rw [← HRR.out, HDC.out, hdv]
    clear hf hdv HO HAV HDC HRR
    by_cases hlt : a5 < N
    · have HQ : Hid (RR = (dzV, a5, 9)) := by show _ = _; rw [HDC2.out, if_pos hlt]
      have hl2 : (a5 : Int) < (N : Int) := by omega
      clear HDC2
      go_wp2_with fail
      refine (c_rfail (w.heap.size + 1) a5 A N c _ 0 (a5 : Int) 9 w5 HK.out).mono ?_; rintro e' w6 ⟨rfl, hb6, hg6⟩
      replace HW := Lib.hid (HW.out.grown hg6 HW.out.size (fun x e => by have := Option.some.inj e; omega))
      replace HA := Lib.hid (HA.out.grown hg6 (by intro e; have := Option.some.inj e; omega))
      replace HK := Lib.hid hb6
      clear hb6 hg6 r1 r4 HF HB HG
      have r4 : w6.cell? ⟨w.heap.size + 1, 4, none⟩ = some (.int .i64 9) := HK.out.cell 4
      go_upto_region 8 with fail
      clear r4
      replace HW := Lib.hid HW.out.drew
      replace HA := Lib.hid HA.out.drew
      replace HK := Lib.hid HK.out.drew
      refine wp_region_held_drew (S := (fun V => V.cell? ⟨w.heap.size + 1, 3, none⟩ = some (.int .i64 (a5 : Int)) ∧ V.cell? ⟨w.heap.size + 1, 4, none⟩ = some (.int .i64 9))) (by kernel_rfl) ?_ (fun hHeld => ?_)
      · (try dsimp only); exact ⟨HK.out.cell 3, HK.out.cell 4⟩
      refine wpAnyH_take (i := 0) (v := ?v0) (by rw [List.getElem?_toArray]; exact rfl) (by kernel_rfl) (by kernel_rfl) (by kernel_rfl) (by exact fun _ _ _ h => h) (Or.inl ⟨by rfl, ?y0⟩) (by assumption) ?r0
      case y0 => (intro w hSw; (try dsimp only at hSw); go_simp; try with_reducible rfl)
      try simp only [Act.put, List.setIfInBounds_toArray, List.set_cons_zero, List.set_cons_succ]
      refine wpAnyH_take (i := 1) (v := ?v1) (by rw [List.getElem?_toArray]; exact rfl) (by kernel_rfl) (by kernel_rfl) (by kernel_rfl) (by exact fun _ _ _ h => h) (Or.inl ⟨by rfl, ?y1⟩) (by assumption) ?r1
      case y1 => (intro w hSw; (try dsimp only at hSw); go_simp; try with_reducible rfl)
      try simp only [Act.put, List.setIfInBounds_toArray, List.set_cons_zero, List.set_cons_succ]
      refine wpAnyH_take (i := 2) (v := ?v2) (by rw [List.getElem?_toArray]; exact rfl) (by kernel_rfl) (by kernel_rfl) (by kernel_rfl) (by exact fun _ _ _ h => h) (Or.inl ⟨by rfl, ?y2⟩) (by assumption) ?r2
      case y2 => (intro w hSw; (try dsimp only at hSw); go_simp; try with_reducible rfl)
      try simp only [Act.put, List.setIfInBounds_toArray, List.set_cons_zero, List.set_cons_succ]
      refine wpAnyH_take (i := 3) (v := ?v3) (by rw [List.getElem?_toArray]; exact rfl) (by kernel_rfl) (by kernel_rfl) (by kernel_rfl) (by exact fun _ _ _ h => h) (Or.inl ⟨by rfl, ?y3⟩) (by assumption) ?r3
      case y3 => (intro w hSw; (try dsimp only at hSw); go_simp; try with_reducible rfl)
      try simp only [Act.put, List.setIfInBounds_toArray, List.set_cons_zero, List.set_cons_succ]
      refine wpAnyH_take (i := 4) (v := ?v4) (by rw [List.getElem?_toArray]; exact rfl) (by kernel_rfl) (by kernel_rfl) (by kernel_rfl) (by exact fun _ _ _ h => h) (Or.inl ⟨by rfl, ?y4⟩) (by assumption) ?r4
      case y4 => (intro w hSw; (try dsimp only at hSw); go_simp; try with_reducible rfl)
      try simp only [Act.put, List.setIfInBounds_toArray, List.set_cons_zero, List.set_cons_succ]
      refine wpAnyH_take (i := 5) (v := ?v5) (by rw [List.getElem?_toArray]; exact rfl) (by kernel_rfl) (by kernel_rfl) (by kernel_rfl) (by exact fun _ _ _ h => h) (Or.inl ⟨by rfl, ?y5⟩) (by assumption) ?r5
      case y5 => (intro w hSw; (try dsimp only at hSw); go_simp; try with_reducible rfl)
      try simp only [Act.put, List.setIfInBounds_toArray, List.set_cons_zero, List.set_cons_succ]
      refine wpAnyH_take (i := 6) (v := ?v6) (by rw [List.getElem?_toArray]; exact rfl) (by kernel_rfl) (by kernel_rfl) (by kernel_rfl) (by exact fun _ _ _ h => h) (Or.inl ⟨by rfl, ?y6⟩) (by assumption) ?r6
      case y6 => (intro w hSw; (try dsimp only at hSw); go_simp; try with_reducible rfl)
      try simp only [Act.put, List.setIfInBounds_toArray, List.set_cons_zero, List.set_cons_succ]
      refine wpAnyH_take (i := 7) (v := ?v7) (by rw [List.getElem?_toArray]; exact rfl) (by kernel_rfl) (by kernel_rfl) (by kernel_rfl) (by exact fun _ _ _ h => h) (Or.inl ⟨by rfl, ?y7⟩) (by assumption) ?r7
      case y7 => (intro w hSw; (try dsimp only at hSw); go_simp; try with_reducible rfl)
      try simp only [Act.put, List.setIfInBounds_toArray, List.set_cons_zero, List.set_cons_succ]
      refine wpAnyH_take (i := 8) (v := ?v8) (by rw [List.getElem?_toArray]; exact rfl) (by kernel_rfl) (by kernel_rfl) (by kernel_rfl) (by exact fun _ _ _ h => h) (Or.inl ⟨by rfl, ?y8⟩) (by assumption) ?r8
      case y8 => (intro w hSw; (try dsimp only at hSw); go_simp; try with_reducible rfl)
      try simp only [Act.put, List.setIfInBounds_toArray, List.set_cons_zero, List.set_cons_succ]
      refine wpAnyH_ready (rs := [9]) (by kernel_rfl) (by simp) ?_
      intro jj hjj
      obtain rfl := List.mem_singleton.1 hjj
      clear hjj
      refine wpOp_step (by rw [List.getElem?_toArray]; exact rfl) (fun K hK => ?_)
      replace hK := Lib.hid hK
      refine step_storeB rfl 30 (.tmp 2) (.tmp 41) rfl rfl w.heap.size vz (by simp [Act.eval]) (by simp [Act.eval]) HA.out v_info rfl rfl ?_
      intro w8 hA8 hg8 hz8
      have HA8 := Lib.hid hA8
      have HK8 := Lib.hid (HK.out.grown hg8 (by intro e; have := Option.some.inj e; omega))
      have HW8 := Lib.hid (HW.out.grown hg8 HW.out.size (fun x e => by have := Option.some.inj e; omega))
      clear hA8 hg8 hz8
      refine hK.out _ _ (and_byZ ?_ (fun hHeld => ?_))
      · (try dsimp only); exact ⟨HK8.out.cell 3, HK8.out.cell 4⟩
      clear hK K
      try simp only [Act.put, List.setIfInBounds_toArray, List.set_cons_zero, List.set_cons_succ]
      refine wpAnyH_take (i := 10) (v := ?v10) (by rw [List.getElem?_toArray]; exact rfl) (by kernel_rfl) (by kernel_rfl) (by kernel_rfl) (by exact fun _ _ _ h => h) (Or.inl ⟨by rfl, ?y10⟩) (by assumption) ?r10
      case y10 => (intro w hSw; (try dsimp only at hSw); go_simp; try with_reducible rfl)
      try simp only [Act.put, List.setIfInBounds_toArray, List.set_cons_zero, List.set_cons_succ]
      refine wpAnyH_take (i := 11) (v := ?v11) (by rw [List.getElem?_toArray]; exact rfl) (by kernel_rfl) (by kernel_rfl) (by kernel_rfl) (by exact fun _ _ _ h => h) (Or.inl ⟨by rfl, ?y11⟩) (by assumption) ?r11
      case y11 => (intro w hSw; (try dsimp only at hSw); go_simp; try with_reducible rfl)
      try simp only [Act.put, List.setIfInBounds_toArray, List.set_cons_zero, List.set_cons_succ]
      refine wpAnyH_done (by kernel_rfl) ?_ _
      go_wp2_with fail
      have n0 := HA8.out.cell 0
      have n1 := HA8.out.cell 1
      have n2 := HA8.out.cell 2
      have n3 := HA8.out.cell 3
      have n4 := HA8.out.cell 4
      have n5 := HA8.out.cell 5
      have HFN := Lib.hid (show DcP w RR _ w8 from by rw [HQ.out]; exact (DcP.zero (n := a5) (e := 9) HW8.out))
      clear HA8
      simp [bodyPost, results, Tryz.results33, go_sem, n0, n1, n2, n3, n4, n5]
      exact HFN.out
    · have HQ : Hid (RR = (v, 0, 0)) := by show _ = _; rw [HDC2.out, if_neg hlt]
      have hl2 : ¬ (a5 : Int) < (N : Int) := by omega
      clear HDC2
      go_wp2_with (first
        | (refine wpList_load_row rfl 30 (.tmp 6) rfl w4.heap.size rfl 30 _ (0, 0) _ HB.out Tryz.underlying30 rfl v_info ?_)
        | (refine wpList_storeB rfl 30 (.tmp 2) (.tmp 50) rfl rfl w.heap.size #[x0, x1, x2, x3, x4, x5] (by simp [Act.eval, Act.put]) (by simp [Act.eval, Act.put]) HA.out v_info rfl (by exact HAL.out) ?_; intro w8 hA8 hg8 hz8))
      have HA9 := Lib.hid hA8
      have HW9 := Lib.hid (HW.out.grown hg8 HW.out.size (fun x e => by have := Option.some.inj e; omega))
      have HF9 : Hid (Fresh (w.heap.size + 2) w8 v [x0, x1, x2, x3, x4, x5]) := (HF.out.on HG.out.size fun i hi hj => HG.out.block i hj (by simp)).on hg8.size fun i hi hj => hg8.block i hj (by intro e; have := Option.some.inj e; omega)
      clear hA8 hg8 hz8 r1 r4 HF HB HG HA HW HK
      have n0 := HA9.out.cell 0
      have n1 := HA9.out.cell 1
      have n2 := HA9.out.cell 2
      have n3 := HA9.out.cell 3
      have n4 := HA9.out.cell 4
      have n5 := HA9.out.cell 5
      have HFN := Lib.hid (show DcP w RR (.returned (.tuple #[.agg #[x0, x1, x2, x3, x4, x5], .int .i64 0, .int .i64 0])) w8 from by rw [HQ.out]; exact ⟨[x0, x1, x2, x3, x4, x5], rfl, HF9.out.rd, HW9.out⟩)
      clear HA9
      simp [bodyPost, results, Tryz.results33, go_sem, n0, n1, n2, n3, n4, n5]
      exact HFN.out
  · have HQ : Hid (RR = (dzV, a4, e5)) := by show _ = _; rw [← HRR.out, HDC.out, hdv]
    have h0 : (e5 == 0) = false := by simpa using hne
    have h1 : (e5 != 0) = true := by simpa using hne
    clear hdv HO HAV HDC HRR HB HG
    go_upto_region 8 with fail
    clear r1 r4
    replace HW := Lib.hid HW.out.drew
    replace HA := Lib.hid HA.out.drew
    replace HK := Lib.hid HK.out.drew
    refine wp_region_held_drew (S := (fun V => V.cell? ⟨w.heap.size + 1, 3, none⟩ = some (.int .i64 (a4 : Int)) ∧ V.cell? ⟨w.heap.size + 1, 4, none⟩ = some (.int .i64 e5))) (by kernel_rfl) ?_ (fun hHeld => ?_)
    · (try dsimp only); exact ⟨HK.out.cell 3, HK.out.cell 4⟩
    refine wpAnyH_take (i := 0) (v := ?vb0) (by rw [List.getElem?_toArray]; exact rfl) (by kernel_rfl) (by kernel_rfl) (by kernel_rfl) (by exact fun _ _ _ h => h) (Or.inl ⟨by rfl, ?yb0⟩) (by assumption) ?rb0
    case yb0 => (intro w hSw; (try dsimp only at hSw); go_simp; try with_reducible rfl)
    try simp only [Act.put, List.setIfInBounds_toArray, List.set_cons_zero, List.set_cons_succ]
    refine wpAnyH_take (i := 1) (v := ?vb1) (by rw [List.getElem?_toArray]; exact rfl) (by kernel_rfl) (by kernel_rfl) (by kernel_rfl) (by exact fun _ _ _ h => h) (Or.inl ⟨by rfl, ?yb1⟩) (by assumption) ?rb1
    case yb1 => (intro w hSw; (try dsimp only at hSw); go_simp; try with_reducible rfl)
    try simp only [Act.put, List.setIfInBounds_toArray, List.set_cons_zero, List.set_cons_succ]
    refine wpAnyH_take (i := 2) (v := ?vb2) (by rw [List.getElem?_toArray]; exact rfl) (by kernel_rfl) (by kernel_rfl) (by kernel_rfl) (by exact fun _ _ _ h => h) (Or.inl ⟨by rfl, ?yb2⟩) (by assumption) ?rb2
    case yb2 => (intro w hSw; (try dsimp only at hSw); go_simp; try with_reducible rfl)
    try simp only [Act.put, List.setIfInBounds_toArray, List.set_cons_zero, List.set_cons_succ]
    refine wpAnyH_take (i := 3) (v := ?vb3) (by rw [List.getElem?_toArray]; exact rfl) (by kernel_rfl) (by kernel_rfl) (by kernel_rfl) (by exact fun _ _ _ h => h) (Or.inl ⟨by rfl, ?yb3⟩) (by assumption) ?rb3
    case yb3 => (intro w hSw; (try dsimp only at hSw); go_simp; try with_reducible rfl)
    try simp only [Act.put, List.setIfInBounds_toArray, List.set_cons_zero, List.set_cons_succ]
    refine wpAnyH_take (i := 4) (v := ?vb4) (by rw [List.getElem?_toArray]; exact rfl) (by kernel_rfl) (by kernel_rfl) (by kernel_rfl) (by exact fun _ _ _ h => h) (Or.inl ⟨by rfl, ?yb4⟩) (by assumption) ?rb4
    case yb4 => (intro w hSw; (try dsimp only at hSw); go_simp; try with_reducible rfl)
    try simp only [Act.put, List.setIfInBounds_toArray, List.set_cons_zero, List.set_cons_succ]
    refine wpAnyH_take (i := 5) (v := ?vb5) (by rw [List.getElem?_toArray]; exact rfl) (by kernel_rfl) (by kernel_rfl) (by kernel_rfl) (by exact fun _ _ _ h => h) (Or.inl ⟨by rfl, ?yb5⟩) (by assumption) ?rb5
    case yb5 => (intro w hSw; (try dsimp only at hSw); go_simp; try with_reducible rfl)
    try simp only [Act.put, List.setIfInBounds_toArray, List.set_cons_zero, List.set_cons_succ]
    refine wpAnyH_take (i := 6) (v := ?vb6) (by rw [List.getElem?_toArray]; exact rfl) (by kernel_rfl) (by kernel_rfl) (by kernel_rfl) (by exact fun _ _ _ h => h) (Or.inl ⟨by rfl, ?yb6⟩) (by assumption) ?rb6
    case yb6 => (intro w hSw; (try dsimp only at hSw); go_simp; try with_reducible rfl)
    try simp only [Act.put, List.setIfInBounds_toArray, List.set_cons_zero, List.set_cons_succ]
    refine wpAnyH_take (i := 7) (v := ?vb7) (by rw [List.getElem?_toArray]; exact rfl) (by kernel_rfl) (by kernel_rfl) (by kernel_rfl) (by exact fun _ _ _ h => h) (Or.inl ⟨by rfl, ?yb7⟩) (by assumption) ?rb7
    case yb7 => (intro w hSw; (try dsimp only at hSw); go_simp; try with_reducible rfl)
    try simp only [Act.put, List.setIfInBounds_toArray, List.set_cons_zero, List.set_cons_succ]
    refine wpAnyH_take (i := 8) (v := ?vb8) (by rw [List.getElem?_toArray]; exact rfl) (by kernel_rfl) (by kernel_rfl) (by kernel_rfl) (by exact fun _ _ _ h => h) (Or.inl ⟨by rfl, ?yb8⟩) (by assumption) ?rb8
    case yb8 => (intro w hSw; (try dsimp only at hSw); go_simp; try with_reducible rfl)
    try simp only [Act.put, List.setIfInBounds_toArray, List.set_cons_zero, List.set_cons_succ]
    refine wpAnyH_ready (rs := [9]) (by kernel_rfl) (by simp) ?_
    intro jj hjj
    obtain rfl := List.mem_singleton.1 hjj
    clear hjj
    refine wpOp_step (by rw [List.getElem?_toArray]; exact rfl) (fun K hK => ?_)
    replace hK := Lib.hid hK
    refine step_storeB rfl 30 (.tmp 2) (.tmp 41) rfl rfl w.heap.size vz (by simp [Act.eval]) (by simp [Act.eval]) HA.out v_info rfl rfl ?_
    intro w8 hA8 hg8 hz8
    have HA8 := Lib.hid hA8
    have HK8 := Lib.hid (HK.out.grown hg8 (by intro e; have := Option.some.inj e; omega))
    have HW8 := Lib.hid (HW.out.grown hg8 HW.out.size (fun x e => by have := Option.some.inj e; omega))
    clear hA8 hg8 hz8
    refine hK.out _ _ (and_byZ ?_ (fun hHeld => ?_))
    · (try dsimp only); exact ⟨HK8.out.cell 3, HK8.out.cell 4⟩
    clear hK K
    try simp only [Act.put, List.setIfInBounds_toArray, List.set_cons_zero, List.set_cons_succ]
    refine wpAnyH_take (i := 10) (v := ?vb10) (by rw [List.getElem?_toArray]; exact rfl) (by kernel_rfl) (by kernel_rfl) (by kernel_rfl) (by exact fun _ _ _ h => h) (Or.inl ⟨by rfl, ?yb10⟩) (by assumption) ?rb10
    case yb10 => (intro w hSw; (try dsimp only at hSw); go_simp; try with_reducible rfl)
    try simp only [Act.put, List.setIfInBounds_toArray, List.set_cons_zero, List.set_cons_succ]
    refine wpAnyH_take (i := 11) (v := ?vb11) (by rw [List.getElem?_toArray]; exact rfl) (by kernel_rfl) (by kernel_rfl) (by kernel_rfl) (by exact fun _ _ _ h => h) (Or.inl ⟨by rfl, ?yb11⟩) (by assumption) ?rb11
    case yb11 => (intro w hSw; (try dsimp only at hSw); go_simp; try with_reducible rfl)
    try simp only [Act.put, List.setIfInBounds_toArray, List.set_cons_zero, List.set_cons_succ]
    refine wpAnyH_done (by kernel_rfl) ?_ _
    go_wp2_with fail
    have n0 := HA8.out.cell 0
    have n1 := HA8.out.cell 1
    have n2 := HA8.out.cell 2
    have n3 := HA8.out.cell 3
    have n4 := HA8.out.cell 4
    have n5 := HA8.out.cell 5
    have HFN := Lib.hid (show DcP w RR _ w8 from by rw [HQ.out]; exact (DcP.zero (n := a4) (e := e5) HW8.out))
    clear HA8
    simp [bodyPost, results, Tryz.results33, go_sem, n0, n1, n2, n3, n4, n5]
    exact HFN.out
end Go.Proofs.YtacnoedhpamdmaaGreatDoor
namespace Go.Proofs.YtacnoedhpamdmaaGreatDoor
open Go.RowKit Go.Shelf
set_option linter.unusedVariables false
set_option linter.unusedSimpArgs false
attribute [local go_sem ↓] Go.wp_at_zero Go.wp_at_succ

theorem zvB_wf : wfV zvV := wfV_iff.2 ⟨⟨rfl, rfl, rfl⟩, fun x hx => absurd hx (by simp [zvV, Val.its])⟩
theorem newB_below {w2 w3 : World} {o : Obj} (hg : (w2.alloc o).grownBy w3 (some w2.heap.size)) : Below w2.heap.size w2 w3 :=
  ((Below.refl w2.heap.size w2).alloc (Nat.le_refl _) o).grown hg (by simp) (fun k e => by injection e with e; omega)
theorem c_same23 (A A' : Option Addr) (n c n' c' : Nat) (xs ys : List Int) (w : World) (B B' : Nat) (hr : Reads w B 1 A n (u8s xs)) (hr' : Reads w B' 1 A' n' (u8s ys)) (hn : n ≤ 1099511627776) (hn' : n' ≤ 1099511627776) :
    Calls Tryz.prog 31 #[.slice A n c, .slice A' n' c'] w fun e w' => e = .returned (.bool (decide (xs = ys))) ∧ ∃ k, w' = w.drewN k := by
  have HC := Lib.hid (c_rwSame A A' n c n' c' xs ys w B B' hr hr' hn hn')
  clear hr hr'
  generalize decide (xs = ys) = T at *
  go_enter Tryz.func31, Tryz.ntmps31
  go_wp2_with fail
  refine HC.out.mono ?_; rintro e w2 ⟨rfl, k, rfl⟩
  go_wp2_with fail
  go_ret
  exact ⟨rfl, k, rfl⟩
theorem decA_wf {xs : List Int} (hx : Bts xs) : wfV (decA xs).1 ∧ bnd (decA xs).1 ≤ 1048576 := by
  unfold decA
  split
  · exact ⟨zvB_wf, by decide⟩
  · rename_i hl
    cases hd : decV xs 64 0 0 with
    | bad a e => exact ⟨zvB_wf, by show bnd zvV ≤ 1048576; decide⟩
    | ok v a p =>
      have ho := decV_ok hx 64 0 0 v a p (Nat.zero_le _) hd
      show wfV (if a < xs.length then (dzV, a, 9) else (v, 0, 0)).1 ∧ bnd (if a < xs.length then (dzV, a, 9) else (v, 0, 0)).1 ≤ 1048576
      split
      · exact ⟨zvB_wf, by show bnd zvV ≤ 1048576; decide⟩
      · exact ⟨ho.wf, by have h1 := ho.bd; have h2 := ho.hi; show bnd v ≤ 1048576; omega⟩
set_option maxRecDepth 100000 in
set_option maxHeartbeats 4000000 in
theorem c_ValueBytes (v : Val) (cs : List Value) (A : Option Addr) (n c : Nat) (xs : List Int) (w : World) (h : RV w v cs) (hr : Reads w w.heap.size 1 A n (u8s xs)) (hx : Bts xs) (hnc : n ≤ c) (hc : c ≤ 9223372036854775807) :
    Calls Tryz.prog 9 #[.agg cs.toArray, .slice A n c] w fun e w' => e = .returned (.bool true) ∧ Below w.heap.size w w' := by
  have HX0 := Lib.hid (Box.new w cs)
  have HB0 : Hid (Below w.heap.size w (w.alloc (.cells cs.toArray 30))) := (Below.refl w.heap.size w).alloc (Nat.le_refl _) _
  have HRa := Lib.hid h.row
  have HV0 := Lib.hid (h.step HB0.out)
  have HR0 := Lib.hid ((hr.below HB0.out).more HB0.out.size)
  have HE1 : Hid (∀ W, RV W v cs → Calls Tryz.prog 29 #[.agg cs.toArray] W (EncE W v)) := fun W h => c_Encode v cs W h
  have HE2 : Hid (∀ W, RV W v cs → Calls Tryz.prog 30 #[.agg cs.toArray] W (EncE W v)) := fun W h => c_rEncode v cs W h
  have HD1 : Hid (∀ W, Reads W W.heap.size 1 A n (u8s xs) → Calls Tryz.prog 32 #[.slice A n c] W fun e w' => DcP W (decA xs) e w') := fun W h => c_Decode xs A n c W h hx hnc hc
  have HD2 : Hid (∀ W, Reads W W.heap.size 1 A n (u8s xs) → Calls Tryz.prog 33 #[.slice A n c] W fun e w' => DcP W (decA xs) e w') := fun W h => c_rDecode xs A n c W h hx hnc hc
  have HWD := Lib.hid (decA_wf hx)
  clear h hr hx
  obtain ⟨u, pl, ec, hD⟩ : ∃ u pl ec, decA xs = (u, pl, ec) := ⟨_, _, _, rfl⟩
  rw [hD] at HD1 HD2 HWD
  clear hD
  go_enter Tryz.func9, Tryz.ntmps9
  go_upto_region 1 with fail
  generalize w.alloc (.cells cs.toArray 30) = w0 at *
  go_wp2_with (refine wpList_load_row rfl 30 (.tmp 2) rfl w.heap.size rfl 30 _ (0, 0) _ HX0.out.blk Tryz.underlying30 rfl HRa.out ?_)
  refine (HE1.out _ HV0.out).mono ?_
  rintro e w1 ⟨v1, x1, rfl, hz1, hn1, ho1, hb1⟩
  have HX1 := Lib.hid (HX0.out.step hb1)
  have HV1 := Lib.hid (HV0.out.step hb1)
  have HB1 := Lib.hid (HB0.out.trans (hb1.mono HB0.out.size))
  have HR1 := Lib.hid ((HR0.out.below hb1).more hb1.size)
  obtain ⟨A1, c1, hv1⟩ := own_slice ho1
  subst hv1
  have HY1 := Lib.hid (Reads.of_own ho1 : Reads w1 _ 1 A1 x1.length (u8s x1))
  have HZ1 := Lib.hid hz1
  have HN1 := Lib.hid hn1
  clear HX0 HV0 HB0 HR0 hz1 hn1 ho1 hb1
  go_wp2_with (refine wpList_load_row rfl 30 (.tmp 2) rfl w.heap.size rfl 30 _ (0, 0) _ HX1.out.blk Tryz.underlying30 rfl HRa.out ?_)
  refine (HE2.out _ HV1.out).mono ?_
  rintro e w2 ⟨v2, x2, rfl, hz2, hn2, ho2, hb2⟩
  have hxx : x1 = x2 := by
    by_cases hc0 : chk fone v = 0
    · rw [HZ1.out hc0, hz2 hc0]
    · rw [HN1.out hc0, hn2 hc0]
  have hxl : x2.length ≤ 1099511627776 := by
    by_cases hc0 : chk fone v = 0
    · rw [hz2 hc0, byt_len]; have := HV1.out.bd; have := wt_bnd v; omega
    · rw [hn2 hc0]; decide
  subst hxx
  have HB2 := Lib.hid (HB1.out.trans (hb2.mono HB1.out.size))
  have HR2 := Lib.hid ((HR1.out.below hb2).more hb2.size)
  have HY2 := Lib.hid (HY1.out.below hb2)
  obtain ⟨A2, c2, hv2⟩ := own_slice ho2
  subst hv2
  have HQ2 := Lib.hid (Reads.of_own ho2 : Reads w2 _ 1 A2 x1.length (u8s x1))
  clear HX1 HV1 HB1 HR1 HY1 hz2 hn2 ho2 hb2 HZ1 HN1 HE1 HE2 HRa
  generalize chk fone v = E0 at *
  have he0 : (E0 != E0) = false := by simp
  go_wp2_with fail
  refine (c_same23 A1 A2 x1.length c1 x1.length c2 x1 x1 w2 _ _ HY2.out HQ2.out hxl hxl).mono ?_
  rintro e w3 ⟨rfl, q, hq⟩
  have HB3 : Hid (Below w.heap.size w w3) := by rw [hq]; exact below_drewN HB2.out q
  have HR3 : Hid (Reads w3 w3.heap.size 1 A n (u8s xs)) := by rw [hq]; exact HR2.out.drewN q
  rw [show decide (x1 = x1) = true by simp]
  clear hq HB2 HR2 HY2 HQ2 hxl
  go_wp2_with fail
  refine (HD1.out _ HR3.out).mono ?_
  rintro e w4 ⟨cs4, rfl, hrd4, hb4⟩
  have HB4 := Lib.hid (HB3.out.trans (hb4.mono HB3.out.size))
  have HR4 := Lib.hid ((HR3.out.below hb4).more hb4.size)
  have H64 := Lib.hid (six_of hrd4)
  have HU4 : Hid (RV w4 u cs4) := ⟨hrd4, HWD.out.1, HWD.out.2⟩
  have HN4 := Lib.hid (Blk.new w4 30 vz)
  have HI4 := Lib.hid (inf_six H64.out.1)
  have hvz : vz.size = cs4.toArray.size := by rw [show cs4.toArray.size = 6 by simpa using H64.out.1]; rfl
  clear hrd4 hb4 HB3 HR3 HD1
  go_upto_region 6 with (refine wpList_storeB rfl 30 (.tmp 9) (.tmp 37) rfl rfl w4.heap.size cs4.toArray (by simp [Act.eval]) (by simp [Act.eval]) HN4.out HI4.out hvz H64.out.2 ?_; intro w5 hB5 hg5 hz5)
  have hb5 : Below w4.heap.size w4 w5 := newB_below hg5
  have HB5 := Lib.hid (HB4.out.trans (hb5.mono HB4.out.size))
  have HR5 := Lib.hid ((HR4.out.below hb5).more hb5.size)
  have HU5 := Lib.hid (HU4.out.step hb5)
  have HL5 := Lib.hid hB5
  clear hB5 hg5 hz5 hb5 hvz HB4 HR4 HU4 HN4
  go_wp2_with fail
  refine (HD2.out _ HR5.out).mono ?_
  rintro e w6 ⟨cs6, rfl, hrd6, hb6⟩
  have HB6 := Lib.hid (HB5.out.trans (hb6.mono HB5.out.size))
  have H66 := Lib.hid (six_of hrd6)
  have HU6 := Lib.hid (HU5.out.step hb6)
  have HP6 : Hid (RV w6 u cs6) := ⟨hrd6, HWD.out.1, HWD.out.2⟩
  have HL6 : Hid (Blk w6 w4.heap.size 30 cs4.toArray) := HL5.out.below hb6 HL5.out.lt
  have HN6 := Lib.hid (Blk.new w6 30 vz)
  have HI6 := Lib.hid (inf_six H66.out.1)
  have hvz : vz.size = cs6.toArray.size := by rw [show cs6.toArray.size = 6 by simpa using H66.out.1]; rfl
  clear hrd6 hb6 HB5 HR5 HU5 HL5 HD2
  go_upto_region 7 with (refine wpList_storeB rfl 30 (.tmp 12) (.tmp 43) rfl rfl w6.heap.size cs6.toArray (by simp [Act.eval]) (by simp [Act.eval]) HN6.out HI6.out hvz H66.out.2 ?_; intro w7 hB7 hg7 hz7)
  have hb7 : Below w6.heap.size w6 w7 := newB_below hg7
  have HB7 := Lib.hid (HB6.out.trans (hb7.mono HB6.out.size))
  have HU7 := Lib.hid (HU6.out.step hb7)
  have HP7 := Lib.hid (HP6.out.step hb7)
  have HL7 : Hid (Blk w7 w4.heap.size 30 cs4.toArray) := HL6.out.below hb7 HL6.out.lt
  have HM7 := Lib.hid hB7
  clear hB7 hg7 hz7 hb7 hvz HB6 HU6 HP6 HL6 HN6
  have hpe : ((pl : Int) == (pl : Int)) = true := by simp
  have hee : (ec == ec) = true := by simp
  go_wp2_with (first
    | (refine wpList_load_row rfl 30 (.tmp 9) rfl w4.heap.size rfl 30 _ (0, 0) _ HL7.out Tryz.underlying30 rfl HI4.out ?_)
    | (refine wpList_load_row rfl 30 (.tmp 12) rfl w6.heap.size rfl 30 _ (0, 0) _ HM7.out Tryz.underlying30 rfl HI6.out ?_)
    | (go_at_call 15; refine (c_alike u cs4 cs6 _ HU7.out HP7.out).mono ?_; rintro e w8 ⟨rfl, hb8⟩; have HB8 := Lib.hid (HB7.out.trans (hb8.mono HB7.out.size)))
    | (go_at_call 10; refine (c_awake _).mono ?_; rintro e w9 ⟨rfl, hb9⟩; have HB9 := Lib.hid (HB8.out.trans (hb9.mono HB8.out.size))))
  go_ret
  exact ⟨rfl, HB9.out⟩
theorem l_ValueBytes (W : World) (v : Val) (cs : List Value) (h : RV W v cs) (A : Option Addr) (n c : Nat) (xs : List Int) (hr : RdInts W .u8 1 A n c xs) (hn : n ≤ 1048576) :
    Calls Tryz.prog 9 #[.agg cs.toArray, .slice A n c] W fun e W' => e = .returned (.bool true) ∧ Below W.heap.size W W' :=
  c_ValueBytes v cs A n c xs W h hr.2.2.2 (fun z hz => by have := bounds_u8 (hr.2.2.1 z hz); omega) (by have h1 := hr.1; have h2 := hr.2.1; omega) (by have h1 := hr.1; have h2 := hr.2.1; omega)
end Go.Proofs.YtacnoedhpamdmaaGreatDoor
