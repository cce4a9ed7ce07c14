/- Walk of the reference: the rest of a tagged line (quernref26.tagged). Conditions: lengths within the reach. -/
import Derived.Test.YtmnkdkibhchglaaGreatDoorTo
import Derived.Deep.DeepCutAuto
import Derived.Deep.CutBlock
namespace Go.Proofs.YtmnkdkibhchglaaGreatDoor
open Go.RowKit
set_option linter.unusedVariables false
attribute [local go_sem ↓] Go.wp_at_zero Go.wp_at_succ

/-- What a line says, in new memory. -/
def OutR (w : World) (r : Nat ⊕ Sm) (x : Ending) (w' : World) : Prop := match r with | .inl j => OutS w smN j 4 x w' | .inr e => OutS w e 0 0 x w'
theorem dval_cap (l : List UInt8) (c : UInt8) : min (10 * min (dval l) 100000 + (c.toNat - 48)) 100000 = min (dval (l ++ [c])) 100000 := by
  rw [dval_snoc]; omega
theorem take_dn (s : ByteArray) (j m : Nat) (h : j + m < s.size) : (s.data.toList.drop j).take (m + 1) = (s.data.toList.drop j).take m ++ [s[j + m]] := by
  have hl : m < (s.data.toList.drop j).length := by rw [drop_len]; omega
  rw [List.take_succ_eq_append_getElem hl, List.getElem_drop]
  rfl
theorem last_found {s : ByteArray} {q : Nat} (hq : q + 4 ≤ s.size) (hb : begB s q [41, 32, 61, 32] = true) (hn : ∀ q', q < q' → q' + 4 ≤ s.size → begB s q' [41, 32, 61, 32] = false) : Lib.lastIndex s.data.toList [41, 32, 61, 32] = (q : Int) := by
  have hl : s.data.toList.length = s.size := rfl
  unfold Lib.lastIndex
  rw [if_pos (by rw [hl]; show 4 ≤ _; omega)]
  rcases Lib.lastOcc_spec s.data.toList [41, 32, 61, 32] (s.data.toList.length - ([41, 32, 61, 32] : List UInt8).length + 1) with ⟨e, h⟩ | ⟨i, hi, e, h1, h2⟩
  · have := h q (by rw [hl]; show q < s.size - 4 + 1; omega)
    exfalso
    have h3 : begB s q [41, 32, 61, 32] = false := this
    rw [hb] at h3; cases h3
  · rw [e]
    have hi' : i < s.size - 4 + 1 := hi
    rcases Nat.lt_trichotomy i q with h3 | h3 | h3
    · have := h2 q h3 (by rw [hl]; show q < s.size - 4 + 1; omega)
      have h4 : begB s q [41, 32, 61, 32] = false := this
      rw [hb] at h4; cases h4
    · rw [h3]
    · have := hn i h3 (by omega)
      have h4 : begB s i [41, 32, 61, 32] = true := h1
      rw [this] at h4; cases h4
theorem last_none {s : ByteArray} {a : Nat} (hn : ∀ q', a ≤ q' → q' + 4 ≤ s.size → begB s q' [41, 32, 61, 32] = false) : Lib.lastIndex s.data.toList [41, 32, 61, 32] < (a : Int) := by
  have hl : s.data.toList.length = s.size := rfl
  unfold Lib.lastIndex
  split
  · rename_i h4
    rcases Lib.lastOcc_spec s.data.toList [41, 32, 61, 32] (s.data.toList.length - ([41, 32, 61, 32] : List UInt8).length + 1) with ⟨e, h⟩ | ⟨i, hi, e, h1, h2⟩
    · rw [e]; omega
    · rw [e]
      have hi' : i < s.size - 4 + 1 := hi
      have h5 : 4 ≤ s.size := h4
      rcases Nat.lt_or_ge i a with h3 | h3
      · omega
      · have := hn i h3 (by omega)
        have h6 : begB s i [41, 32, 61, 32] = true := h1
        rw [this] at h6; cases h6
  · omega
set_option maxRecDepth 100000 in
set_option maxHeartbeats 16000000 in
theorem c_rtagged (s : ByteArray) (i : Nat) (a : Int) (mk : Bool) (hs : s.size ≤ 1000000) (h1 : 1 ≤ a) (h4 : a ≤ 4) (hi : i < s.size) (w : World) :
    Calls Tryz.prog 28 #[.string s, .int .i64 i, .int .i64 a, .bool mk] w (OutR w (tggS s i a mk)) := by
  have hmost : smost a ≤ 64 := by unfold smost; split; omega; split <;> omega
  have HMO : Hid (∀ W, Calls Tryz.prog 13 #[.int .i64 a] W fun x w' => x = .returned (.int .i64 (smost a : Nat)) ∧ W = w') := fun W => c_rMost a W
  have HT0 : Hid (tggS s i a mk = match bitS s i (smost a) with | .inl j => .inl j | .inr (j, n) => tailS s j n a mk) := rfl
  have HB0 := Lib.hid ((Blk.new w 33 smZ).alloc (.cells smZ 33))
  have HB1 := Lib.hid (Blk.new (w.alloc (.cells smZ 33)) 33 smZ)
  have HBL := Lib.hid (((Below.refl w.heap.size w).alloc (Nat.le_refl _) (.cells smZ 33)).alloc (by simp) (.cells smZ 33))
  have hsz : (w.alloc (.cells smZ 33)).heap.size = w.heap.size + 1 := by simp
  rw [hsz] at HB1
  have HFIN : Hid (∀ (i : Nat) w', Below w.heap.size w w' → OutR w (.inl i) (.returned (.tuple #[.agg smZ, .int .i64 (i : Int), .int .i64 4])) w') := fun i w' hb => OutS.none_ hb
  clear hsz
  generalize tggS s i a mk = R at *
  generalize smost a = M at *
  go_enter Tryz.func28, Tryz.ntmps28
  go_upto_region 3 with (go_at_call 13; refine (HMO.out _).mono ?_; rintro e w7 ⟨rfl, rfl⟩)
  generalize hw2 : (w.alloc (.cells #[.int .i64 0, .string ⟨#[]⟩, .slice none 0 0, .bool false] 33)).alloc (.cells #[.int .i64 0, .string ⟨#[]⟩, .slice none 0 0, .bool false] 33) = w2 at *
  clear hw2
  go_upto_if 26 with fail
  go_cut [1, 12] (fun v1 v12 wx => ∃ j k : Nat, v1 = .int .i64 (j : Int) ∧ v12 = .int .i64 (k : Int) ∧ w2 = wx ∧ bitS s i M = .inr (j, k))
  case first =>
    have h0 := ba_get s i hi
    have b45 := u8_beq s[i] 45 45 rfl
    by_cases h45 : s[i] = 45
    · rw [decide_eq_true h45] at b45
      rw [h45] at h0
      have HBAD := Lib.hid (bitS_bad (most := M) h0)
      have HOKK := Lib.hid (bitS_ok (most := M) h0)
      clear h45 h0
      go_upto_block 0 with fail
      have ej : (i : Int) + 1 = ((i + 1 : Nat) : Int) := rfl
      rw [ej]
      have hj : i + 1 ≤ s.size := hi
      clear ej
      generalize hji : i + 1 = j at *
      have HJ := Lib.hid hji
      clear hji
      have HGO : Hid (∀ m, (h : j + m < s.size) → m ≤ digN s j → dP s[j + m] = true → m + 1 ≤ digN s j) := fun m h hm hb => digN_go s j m h hm hb
      have HST : Hid (∀ m, (h : j + m < s.size) → m ≤ digN s j → dP s[j + m] = false → digN s j = m) := fun m h hm hb => digN_stop s j m h hm hb
      have HEN : Hid (∀ m, s.size ≤ j + m → m ≤ digN s j → digN s j = m) := fun m h hm => digN_end s j m h hm
      have hNs := digN_le s j
      generalize digN s j = N at *
      have hjN : j + N ≤ s.size := by omega
      simp only [b45]
      go_cut [13, 14] (fun v13 v14 wx => v13 = .int .i64 ((j + N : Nat) : Int) ∧ v14 = .int .i64 ((min (dval ((s.data.toList.drop j).take N)) 100000 : Nat) : Int) ∧ w2 = wx)
      case first =>
        clear HBAD HOKK
        go_wp2_with fail
        go_loopg [13, 14] (s.size - j) (fun g v13 v14 wx => w2 = wx ∧ ∃ m nv : Nat, j + m ≤ s.size ∧ g = s.size - (j + m) ∧ v13 = .int .i64 ((j + m : Nat) : Int) ∧ v14 = .int .i64 (nv : Int) ∧ nv ≤ 100000 ∧ Hid (nv = min (dval ((s.data.toList.drop j).take m)) 100000) ∧ Hid (m ≤ N))
        case atStart => exact ⟨rfl, 0, 0, hj, rfl, rfl, rfl, by omega, rfl, Nat.zero_le _⟩
        case round =>
          obtain ⟨rfl, m, nv, hm1, rfl, rfl, rfl, hnv, HNV, HM⟩ := hrel
          by_cases hl2 : j + m < s.size
          · have t1 : ((j + m : Nat) : Int) < (s.size : Int) := by omega
            have hcd := dP_toNat s[j + m]
            by_cases hd : dP s[j + m] = true
            · obtain ⟨p1, p2⟩ := hcd.1 hd
              have HM' := Lib.hid (HGO.out m hl2 HM.out hd)
              have hnx := dval_cap ((s.data.toList.drop j).take m) s[j + m]
              rw [← take_dn s j m hl2, ← HNV.out] at hnx
              have HNX := Lib.hid hnx
              have hc := s[j + m].toNat_lt
              have hu : IntKind.u8.wrap ((s[j + m].toNat : Int) - 48) = (s[j + m].toNat : Int) - 48 := by rw [IntKind.wrap_u8]; omega
              clear hcd hd HGO HST HEN hnx
              go_wp2_with fail
              go_roundg (s.size - (j + (m + 1)))
              case measure => omega
              case rel => exact ⟨rfl, m + 1, _, by omega, rfl, by go_num, by rw [← HNX.out]; congr 1; omega, by omega, rfl, HM'.out⟩
            · have hno : ¬ ((48 : Int) ≤ (s[j + m].toNat : Int) ∧ (s[j + m].toNat : Int) ≤ 57) := fun h => hd (hcd.2 h)
              have HM' := Lib.hid (HST.out m hl2 HM.out (by simpa using hd))
              clear hcd hd HGO HST HEN
              by_cases p1 : (48 : Int) ≤ (s[j + m].toNat : Int)
              · have p2 : ¬ (s[j + m].toNat : Int) ≤ 57 := fun h => hno ⟨p1, h⟩
                clear hno
                go_wp2_with fail
                go_meet
                exact ⟨by rw [HM'.out]; go_num, by rw [HNV.out, HM'.out], rfl⟩
              · clear hno
                go_wp2_with fail
                go_meet
                exact ⟨by rw [HM'.out]; go_num, by rw [HNV.out, HM'.out], rfl⟩
          · have t1 : ¬ ((j + m : Nat) : Int) < (s.size : Int) := by omega
            have HM' := Lib.hid (HEN.out m (by omega) HM.out)
            clear HGO HST HEN
            go_wp2_with fail
            go_meet
            exact ⟨by rw [HM'.out]; go_num, by rw [HNV.out, HM'.out], rfl⟩
      case rest =>
        obtain ⟨rfl, rfl, rfl⟩ := hcut
        clear HGO HST HEN
        by_cases hN0 : N = 0
        · subst hN0
          have t1 : ((j : Int) + ((0 : Nat) : Int) == (j : Int)) = true := by simp
          have HR : Hid (R = .inl j) := by show _ = _; rw [HT0.out, HBAD.out (.inl rfl)]
          clear HBAD HOKK HT0
          go_wp2_with (first | (refine wpList_load_row rfl 33 (.tmp 11) rfl (w.heap.size + 1) rfl 33 _ (0, 0) _ HB1.out Tryz.underlying33 rfl (by kernel_rfl) ?_) | (refine wpList_storeB rfl 33 (.tmp 8) (.tmp 61) rfl rfl w.heap.size smZ rfl rfl HB0.out (by kernel_rfl) rfl rfl ?_; intro w3 hB3 hg3 hz3))
          exact bodyPost_ret (results_cell_tmp2B (p := 8) (u := 9) (v := 10) rfl _ hB3 _ rfl Tryz.underlying33 rfl (by kernel_rfl)) rfl (by rw [HR.out]; exact HFIN.out j _ (HBL.out.grown hg3 HBL.out.size (fun _ h => by injection h with h; omega)))
        have t1 : ((j : Int) + (N : Int) == (j : Int)) = false := by
          rw [beq_eq_false_iff_ne]; omega
        have hjs : j < s.size := by omega
        have hsj := ba_get s j hjs
        have b48 := u8_beq s[j] 48 48 rfl
        rw [hsj] at HBAD HOKK
        generalize dval (List.take N (List.drop j s.data.toList)) = dv at *
        obtain ⟨nv, hnv⟩ : ∃ nv, min dv 100000 = nv := ⟨_, rfl⟩
        rw [hnv]
        have HNV := Lib.hid hnv
        have hnv1 : nv ≤ 100000 := by omega
        clear hnv
        have HB2 : Hid (s[j] = 48 ∨ dv % 8 ≠ 0 ∨ 8 * M < dv → R = .inl j) := fun h => by rw [HT0.out, HBAD.out (.inr (h.imp (fun h => by rw [h]) id))]
        have HO2 : Hid (¬ (s[j] = 48 ∨ dv % 8 ≠ 0 ∨ 8 * M < dv) → bitS s i M = .inr (j + N, dv / 8)) := fun h => HOKK.out (fun h2 => by
          rcases h2 with h2 | h2 | h2
          · exact hN0 h2
          · exact h (.inl (Option.some.inj h2))
          · exact h (.inr h2))
        clear HBAD HOKK hsj HT0 hN0
        by_cases q1 : s[j] = 48
        · rw [decide_eq_true q1] at b48
          have HR := Lib.hid (HB2.out (.inl q1))
          clear q1 HB2 HO2
          go_wp2_with (first | (refine wpList_load_row rfl 33 (.tmp 11) rfl (w.heap.size + 1) rfl 33 _ (0, 0) _ HB1.out Tryz.underlying33 rfl (by kernel_rfl) ?_) | (refine wpList_storeB rfl 33 (.tmp 8) (.tmp 79) rfl rfl w.heap.size smZ rfl rfl HB0.out (by kernel_rfl) rfl rfl ?_; intro w3 hB3 hg3 hz3))
          exact bodyPost_ret (results_cell_tmp2B (p := 8) (u := 9) (v := 10) rfl _ hB3 _ rfl Tryz.underlying33 rfl (by kernel_rfl)) rfl (by rw [HR.out]; exact HFIN.out j _ (HBL.out.grown hg3 HBL.out.size (fun _ h => by injection h with h; omega)))
        rw [decide_eq_false q1] at b48
        by_cases q2 : nv % 8 = 0
        · have e8 : ((nv : Int) % 8 != 0) = false := by simp; omega
          by_cases q3 : M < nv / 8
          · have e9 : (M : Int) < (nv : Int) / 8 := by omega
            have HR := Lib.hid (HB2.out (by
              have := HNV.out
              rcases Nat.lt_or_ge dv 100000 with h | h
              · by_cases h8 : dv % 8 = 0
                · exact .inr (.inr (by omega))
                · exact .inr (.inl h8)
              · exact .inr (.inr (by omega))))
            clear q1 HB2 HO2 q2 q3
            go_wp2_with (first | (refine wpList_load_row rfl 33 (.tmp 11) rfl (w.heap.size + 1) rfl 33 _ (0, 0) _ HB1.out Tryz.underlying33 rfl (by kernel_rfl) ?_) | (refine wpList_storeB rfl 33 (.tmp 8) (.tmp 79) rfl rfl w.heap.size smZ rfl rfl HB0.out (by kernel_rfl) rfl rfl ?_; intro w3 hB3 hg3 hz3))
            exact bodyPost_ret (results_cell_tmp2B (p := 8) (u := 9) (v := 10) rfl _ hB3 _ rfl Tryz.underlying33 rfl (by kernel_rfl)) rfl (by rw [HR.out]; exact HFIN.out j _ (HBL.out.grown hg3 HBL.out.size (fun _ h => by injection h with h; omega)))
          · have e9 : ¬ (M : Int) < (nv : Int) / 8 := by omega
            have HR : Hid (bitS s i M = .inr (j + N, nv / 8)) := by
              have := HNV.out
              have hdv : dv = nv := by omega
              show _ = _
              rw [← hdv]
              refine HO2.out (fun h => ?_)
              rcases h with h | h | h
              · exact q1 h
              · exact h (by omega)
              · omega
            clear q1 HB2 HO2 q2 q3
            go_wp2_with fail
            go_meet
            exact ⟨j + N, nv / 8, by go_num, by go_num, rfl, HR.out⟩
        · have e8 : ((nv : Int) % 8 != 0) = true := by simp; omega
          have HR := Lib.hid (HB2.out (.inr (.inl (by have := HNV.out; omega))))
          clear q1 HB2 HO2 q2
          go_wp2_with (first | (refine wpList_load_row rfl 33 (.tmp 11) rfl (w.heap.size + 1) rfl 33 _ (0, 0) _ HB1.out Tryz.underlying33 rfl (by kernel_rfl) ?_) | (refine wpList_storeB rfl 33 (.tmp 8) (.tmp 79) rfl rfl w.heap.size smZ rfl rfl HB0.out (by kernel_rfl) rfl rfl ?_; intro w3 hB3 hg3 hz3))
          exact bodyPost_ret (results_cell_tmp2B (p := 8) (u := 9) (v := 10) rfl _ hB3 _ rfl Tryz.underlying33 rfl (by kernel_rfl)) rfl (by rw [HR.out]; exact HFIN.out j _ (HBL.out.grown hg3 HBL.out.size (fun _ h => by injection h with h; omega)))
    · have HN : Hid (bitS s i M = .inr (i, M)) := bitS_no (by rw [h0]; intro h; exact h45 (Option.some.inj h))
      rw [decide_eq_false h45] at b45
      clear h45 h0
      go_wp2_with fail
      go_meet
      exact ⟨i, M, rfl, rfl, rfl, HN.out⟩
  case rest =>
    obtain ⟨j, k, rfl, rfl, rfl, hbs⟩ := hcut
    have HT : Hid (R = tailS s j k a mk) := by show _ = _; rw [HT0.out, hbs]
    obtain ⟨_, hjs, hkM⟩ := bitS_le (Nat.le_of_lt hi) hbs
    clear HT0 hbs HMO
    have ht : (⟨#[32, 40]⟩ : ByteArray).size = 2 := rfl
    have hb0 : ∀ h : 0 < (⟨#[32, 40]⟩ : ByteArray).size, (((⟨#[32, 40]⟩ : ByteArray)[0]'h).toNat : Int) = 32 := fun _ => rfl
    have hb1 : ∀ h : 1 < (⟨#[32, 40]⟩ : ByteArray).size, (((⟨#[32, 40]⟩ : ByteArray)[1]'h).toNat : Int) = 40 := fun _ => rfl
    go_wp2_with fail
    generalize (⟨#[32, 40]⟩ : ByteArray) = T at *
    refine wp_loop_rounds 3 ?_
    rw [rounds_succ]
    by_cases hjlt : j < s.size
    case neg =>
      have t0 : decide ((s.size : Int) ≤ (j : Int)) = true := by rw [decide_eq_true_eq]; omega
      have HR : Hid (R = .inl j) := HT.out.trans (tail_1 (okB_out (by omega)))
      clear HT
      go_wp2_with fail
      go_quiet (fail)
      have HB0 := Lib.hid (HB0.out.drewN nq)
      have HB1 := Lib.hid (HB1.out.drewN nq)
      have HBL := Lib.hid (below_drewN HBL.out nq)
      generalize w2.drewN nq = w4 at *
      go_wp2_with (first | (refine wpList_load_row rfl 33 (.tmp 11) rfl (w.heap.size + 1) rfl 33 _ (0, 0) _ HB1.out Tryz.underlying33 rfl (by kernel_rfl) ?_) | (refine wpList_storeB rfl 33 (.tmp 8) (.tmp 100) rfl rfl w.heap.size smZ rfl rfl HB0.out (by kernel_rfl) rfl rfl ?_; intro w3 hB3 hg3 hz3))
      exact bodyPost_ret (results_cell_tmp2B (p := 8) (u := 9) (v := 10) rfl _ hB3 _ rfl Tryz.underlying33 rfl (by kernel_rfl)) rfl (by rw [HR.out]; exact HFIN.out j _ (HBL.out.grown hg3 HBL.out.size (fun _ h => by injection h with h; omega)))
    have t0 : decide ((s.size : Int) ≤ (j : Int)) = false := by rw [decide_eq_false_iff_not]; omega
    have g1 : (0 : Int) ≤ (j : Int) := by omega
    have g2 : (j : Int) < (s.size : Int) := by omega
    have g3 : (0 : Int) < (T.size : Int) := by omega
    have b32 := u8_beq s[j] 32 32 rfl
    by_cases h32 : s[j] = 32
    case neg =>
      rw [decide_eq_false h32] at b32
      have c32 : ((s[j].toNat : Int) != 32) = true := by show (!_) = _; rw [b32]; rfl
      have HR : Hid (R = .inl j) := HT.out.trans (tail_1 (by rw [okB_some, ba_get s j hjlt, decide_eq_false_iff_not]; intro h; exact h32 (Option.some.inj h)))
      clear HT h32
      go_wp2_with fail
      go_quiet (fail)
      have HB0 := Lib.hid (HB0.out.drewN nq)
      have HB1 := Lib.hid (HB1.out.drewN nq)
      have HBL := Lib.hid (below_drewN HBL.out nq)
      generalize w2.drewN nq = w4 at *
      go_wp2_with (first | (refine wpList_load_row rfl 33 (.tmp 11) rfl (w.heap.size + 1) rfl 33 _ (0, 0) _ HB1.out Tryz.underlying33 rfl (by kernel_rfl) ?_) | (refine wpList_storeB rfl 33 (.tmp 8) (.tmp 100) rfl rfl w.heap.size smZ rfl rfl HB0.out (by kernel_rfl) rfl rfl ?_; intro w3 hB3 hg3 hz3))
      exact bodyPost_ret (results_cell_tmp2B (p := 8) (u := 9) (v := 10) rfl _ hB3 _ rfl Tryz.underlying33 rfl (by kernel_rfl)) rfl (by rw [HR.out]; exact HFIN.out j _ (HBL.out.grown hg3 HBL.out.size (fun _ h => by injection h with h; omega)))
    rw [decide_eq_true h32] at b32
    have c32 : ((s[j].toNat : Int) != 32) = false := by show (!_) = _; rw [b32]; rfl
    have HOK1 : Hid (okB s ⟨#[32]⟩ j = true) := by show _ = _; rw [okB_some, ba_get s j hjlt, decide_eq_true_eq, h32]
    clear h32
    go_wp2_with fail
    go_quiet (fail)
    have HB0 := Lib.hid (HB0.out.drewN nq)
    have HB1 := Lib.hid (HB1.out.drewN nq)
    have HBL := Lib.hid (below_drewN HBL.out nq)
    generalize w2.drewN nq = w4 at *
    go_wp2_with fail
    rw [rounds_succ]
    clear t0
    by_cases hjlt2 : j + 1 < s.size
    case neg =>
      have t0 : decide ((s.size : Int) ≤ (j : Int) + 1) = true := by rw [decide_eq_true_eq]; omega
      have HR : Hid (R = .inl (j + 1)) := HT.out.trans (tail_2 HOK1.out (okB_out (by omega)))
      clear HT
      go_wp2_with fail
      go_quiet (fail)
      have HB0 := Lib.hid (HB0.out.drewN nq)
      have HB1 := Lib.hid (HB1.out.drewN nq)
      have HBL := Lib.hid (below_drewN HBL.out nq)
      generalize w4.drewN nq = w5 at *
      go_wp2_with (first | (refine wpList_load_row rfl 33 (.tmp 11) rfl (w.heap.size + 1) rfl 33 _ (0, 0) _ HB1.out Tryz.underlying33 rfl (by kernel_rfl) ?_) | (refine wpList_storeB rfl 33 (.tmp 8) (.tmp 100) rfl rfl w.heap.size smZ rfl rfl HB0.out (by kernel_rfl) rfl rfl ?_; intro w3 hB3 hg3 hz3))
      exact bodyPost_ret (results_cell_tmp2B (p := 8) (u := 9) (v := 10) rfl _ hB3 _ rfl Tryz.underlying33 rfl (by kernel_rfl)) rfl (by rw [HR.out]; exact HFIN.out (j + 1) _ (HBL.out.grown hg3 HBL.out.size (fun _ h => by injection h with h; omega)))
    have t0 : decide ((s.size : Int) ≤ (j : Int) + 1) = false := by rw [decide_eq_false_iff_not]; omega
    have g4 : (0 : Int) ≤ (j : Int) + 1 := by omega
    have g5 : (j : Int) + 1 < (s.size : Int) := by omega
    have g6 : (1 : Int) < (T.size : Int) := by omega
    have b40 := u8_beq s[j + 1] 40 40 rfl
    by_cases h40 : s[j + 1] = 40
    case neg =>
      rw [decide_eq_false h40] at b40
      have c40 : ((s[j + 1].toNat : Int) != 40) = true := by show (!_) = _; rw [b40]; rfl
      have HR : Hid (R = .inl (j + 1)) := HT.out.trans (tail_2 HOK1.out (by rw [okB_some, ba_get s (j + 1) hjlt2, decide_eq_false_iff_not]; intro h; exact h40 (Option.some.inj h)))
      clear HT h40
      go_wp2_with fail
      go_quiet (fail)
      have HB0 := Lib.hid (HB0.out.drewN nq)
      have HB1 := Lib.hid (HB1.out.drewN nq)
      have HBL := Lib.hid (below_drewN HBL.out nq)
      generalize w4.drewN nq = w5 at *
      go_wp2_with (first | (refine wpList_load_row rfl 33 (.tmp 11) rfl (w.heap.size + 1) rfl 33 _ (0, 0) _ HB1.out Tryz.underlying33 rfl (by kernel_rfl) ?_) | (refine wpList_storeB rfl 33 (.tmp 8) (.tmp 100) rfl rfl w.heap.size smZ rfl rfl HB0.out (by kernel_rfl) rfl rfl ?_; intro w3 hB3 hg3 hz3))
      exact bodyPost_ret (results_cell_tmp2B (p := 8) (u := 9) (v := 10) rfl _ hB3 _ rfl Tryz.underlying33 rfl (by kernel_rfl)) rfl (by rw [HR.out]; exact HFIN.out (j + 1) _ (HBL.out.grown hg3 HBL.out.size (fun _ h => by injection h with h; omega)))
    rw [decide_eq_true h40] at b40
    have c40 : ((s[j + 1].toNat : Int) != 40) = false := by show (!_) = _; rw [b40]; rfl
    have HOK2 : Hid (okB s ⟨#[40]⟩ (j + 1) = true) := by show _ = _; rw [okB_some, ba_get s (j + 1) hjlt2, decide_eq_true_eq, h40]
    clear h40
    go_wp2_with fail
    go_quiet (fail)
    have HB0 := Lib.hid (HB0.out.drewN nq)
    have HB1 := Lib.hid (HB1.out.drewN nq)
    have HBL := Lib.hid (below_drewN HBL.out nq)
    generalize w4.drewN nq = w5 at *
    go_wp2_with fail
    rw [rounds_succ]
    go_wp2_with fail
    have HT3 := Lib.hid (fun h3 => HT.out.trans (tail_3 HOK1.out HOK2.out h3))
    have HT4 := Lib.hid (fun e h3 he h4 => HT.out.trans (tail_4 (e := e) HOK1.out HOK2.out h3 he h4))
    have HT5 := Lib.hid (fun e nm h3 he h4 h5 => HT.out.trans (tail_5 (e := e) (nm := nm) HOK1.out HOK2.out h3 he h4 h5))
    have HT6 := Lib.hid (fun e nm h3 he h4 h5 => HT.out.trans (tail_6 (e := e) (nm := nm) HOK1.out HOK2.out h3 he h4 h5))
    clear HT HOK1 HOK2
    have HBG : Hid (∀ q : Nat, q ≤ s.size → ∀ W, Calls Tryz.prog 26 #[.string s, .int .i64 (q : Int), .string ⟨#[41, 32, 61, 32]⟩] W fun e w' => e = .returned (.bool (begB s q [41, 32, 61, 32])) ∧ W = w') := fun q hq W => (c_begins s ⟨#[41, 32, 61, 32]⟩ q hs (by show 4 ≤ _; omega) hq W).mono fun _ _ ⟨h1, h2⟩ => ⟨h1, h2.symm⟩
    have HB1_lt := Lib.hid HB1.out.lt
    have HLF := Lib.hid (fun q hq hb hn => last_found (s := s) (q := q) hq hb hn)
    have HLN := Lib.hid (fun (a : Nat) hn => last_none (s := s) (a := a) hn)
    generalize Lib.lastIndex s.data.toList [41, 32, 61, 32] = L at *
    go_loop [16] (fun v16 => ∃ v : Int, v16 = .int .i64 v ∧ -4 ≤ v ∧ v + 4 ≤ (s.size : Int) ∧ Hid (∀ q : Nat, v < (q : Int) → q + 4 ≤ s.size → begB s q [41, 32, 61, 32] = false)) (fun v16 => (intOf v16 + 4).toNat)
    case atStart => exact ⟨(s.size : Int) - 4, by go_num, by omega, by omega, fun q h1 h2 => by omega⟩
    case round =>
      obtain ⟨v, rfl, hv1, hv2, HV⟩ := hrel
      by_cases hv : (j : Int) + 2 ≤ v
      case neg =>
        have HR : Hid (R = .inl s.size) := HT3.out (HLN.out (j + 2) (fun q h1 h2 => HV.out q (by omega) h2))
        have hv' : ¬ v ≥ (j : Int) + 2 := by omega
        clear HT3 HT4 HT5 HT6 HLF HLN
        go_wp2_with (first | (refine wpList_load_row rfl 33 (.tmp 11) rfl (w.heap.size + 1) rfl 33 _ (0, 0) _ HB1.out Tryz.underlying33 rfl (by kernel_rfl) ?_) | (refine wpList_storeB rfl 33 (.tmp 8) (.tmp 121) rfl rfl w.heap.size smZ rfl rfl HB0.out (by kernel_rfl) rfl rfl ?_; intro w3 hB3 hg3 hz3))
        exact bodyPost_ret (results_cell_tmp2B (p := 8) (u := 9) (v := 10) rfl _ hB3 _ rfl Tryz.underlying33 rfl (by kernel_rfl)) rfl (by rw [HR.out]; exact HFIN.out s.size _ (HBL.out.grown hg3 HBL.out.size (fun _ h => by injection h with h; omega)))
      obtain ⟨q, rfl⟩ : ∃ q : Nat, v = (q : Int) := ⟨v.toNat, by omega⟩
      have hbg := Lib.hid (HBG.out q (by omega))
      have hq4 : q + 4 ≤ s.size := by omega
      have hv3 : ¬ (q : Int) < (j : Int) + 2 := by omega
      cases hbq : begB s q [41, 32, 61, 32] with
      | false =>
        rw [hbq] at hbg
        have HV' : Hid (∀ q' : Nat, (q : Int) - 1 < (q' : Int) → q' + 4 ≤ s.size → begB s q' [41, 32, 61, 32] = false) := fun q' h1 h2 => by
          rcases Nat.lt_or_ge q q' with h | h
          · exact HV.out q' (by omega) h2
          · obtain rfl : q' = q := by omega
            exact hbq
        clear hbq
        go_wp2_with (go_at_call 26; refine (hbg.out _).mono ?_; rintro e w7 ⟨rfl, rfl⟩)
        go_round
        case rel => exact ⟨(q : Int) - 1, rfl, by omega, by omega, HV'.out⟩
        case measure => simp [intOf]; omega
      | true =>
        rw [hbq] at hbg
        have hLq : L = (q : Int) := HLF.out q hq4 hbq (fun q' h1 h2 => HV.out q' (by omega) h2)
        have HT4 := Lib.hid (HT4.out q hLq (by omega))
        have HT5 := Lib.hid (fun nm => HT5.out q nm hLq (by omega))
        have HT6 := Lib.hid (fun nm => HT6.out q nm hLq (by omega))
        clear hbq hLq HT3 HLF HLN HV HBG
        go_wp2_with (go_at_call 26; refine (hbg.out _).mono ?_; rintro e w7 ⟨rfl, rfl⟩)
        have HE6 := Lib.hid (Blk.new w5 33 #[.int .i64 a, .string ⟨#[]⟩, .slice none 0 0, .bool false])
        have HB0 := Lib.hid (HB0.out.alloc (.cells #[.int .i64 a, .string ⟨#[]⟩, .slice none 0 0, .bool false] 33))
        have HB1 := Lib.hid (HB1.out.alloc (.cells #[.int .i64 a, .string ⟨#[]⟩, .slice none 0 0, .bool false] 33))
        have h0g : w.heap.size + 1 < w5.heap.size := HB1_lt.out
        have HBL := Lib.hid (HBL.out.alloc HBL.out.size (.cells #[.int .i64 a, .string ⟨#[]⟩, .slice none 0 0, .bool false] 33))
        clear HB1_lt
        generalize w5.alloc (.cells #[.int .i64 a, .string ⟨#[]⟩, .slice none 0 0, .bool false] 33) = w6 at *
        generalize w5.heap.size = g at *
        refine (c_rname (s.extract (j + 1 + 1) q) mk (by rw [ByteArray.size_extract]; omega) w6).mono ?_
        rintro e w7 ⟨⟨x, rfl, hx⟩, hb7⟩
        have HE7 := Lib.hid (HE6.out.below hb7 HE6.out.lt)
        have HB0 := Lib.hid (HB0.out.below hb7 HB0.out.lt)
        have HB1 := Lib.hid (HB1.out.below hb7 HB1.out.lt)
        have HBL := Lib.hid (below_step HBL.out hb7)
        have HE8 : Hid (Blk (w7.setCell ⟨g, 1, none⟩ (bstr x)) g 33 #[.int .i64 a, bstr x, .slice none 0 0, .bool false]) := HE7.out.set_ 1 _
        have m1 := HE7.out.cell 1
        have n1 := HE7.out.frozen 1
        have HB0 := Lib.hid (HB0.out.far (p := ⟨g, 1, none⟩) (by show w.heap.size ≠ g; omega) (bstr x))
        have HB1 := Lib.hid (HB1.out.far (p := ⟨g, 1, none⟩) (by show w.heap.size + 1 ≠ g; omega) (bstr x))
        have HBL := Lib.hid (HBL.out.setCell (p := ⟨g, 1, none⟩) (by show w.heap.size ≤ g; omega) (bstr x))
        clear hb7 HE6 HE7
        cases hnm : nmS mk (s.extract (j + 1 + 1) q) with
        | none =>
          have HR := Lib.hid (HT4.out hnm)
          clear HT4 HT5 HT6 hx hnm HE8
          go_wp2_with (first | (refine wpList_load_row rfl 33 (.tmp 11) rfl (w.heap.size + 1) rfl 33 _ (0, 0) _ HB1.out Tryz.underlying33 rfl (by kernel_rfl) ?_) | (refine wpList_storeB rfl 33 (.tmp 8) (.tmp 138) rfl rfl w.heap.size smZ rfl rfl HB0.out (by kernel_rfl) rfl rfl ?_; intro w3 hB3 hg3 hz3))
          exact bodyPost_ret (results_cell_tmp2B (p := 8) (u := 9) (v := 10) rfl _ hB3 _ rfl Tryz.underlying33 rfl (by kernel_rfl)) rfl (by rw [HR.out]; exact HFIN.out (j + 2) _ (HBL.out.grown hg3 HBL.out.size (fun _ h => by injection h with h; omega)))
        | some y =>
          obtain rfl : x = y := hx y hnm
          have HT5 := Lib.hid (HT5.out x hnm)
          have HT6 := Lib.hid (HT6.out x hnm)
          have HHX := Lib.hid (fun W => c_hexes s (q + 4) hs hq4 W)
          have HHL := Lib.hid (hexN_le s (q + 4))
          have HBY := Lib.hid (fun (m : Nat) (hi : q + 4 + m ≤ s.size) (hm : m ≤ hexN s (q + 4)) (he : m % 2 = 0) W => c_bytes (s.extract (q + 4) (q + 4 + m)) (by rw [ByteArray.size_extract]; omega) (by rw [ByteArray.size_extract]; omega) (ext_hex (s := s) (i := q + 4) (n := m) hi hm) W)
          clear HT4 hx hnm
          generalize hexN s (q + 4) = H at *
          have hHL := HHL.out
          go_wp2_with fail
          clear m1 n1
          have e8 : ((q + 4 : Nat) : Int) = (q : Int) + 4 := rfl
          rw [e8] at HHX
          change Calls _ _ _ (w7.setCell ⟨g, 1, none⟩ (bstr x)) _
          generalize w7.setCell ⟨g, 1, none⟩ (bstr x) = w8 at *
          refine (HHX.out w8).mono ?_
          rintro ev w9 ⟨rfl, rfl⟩
          have HOUT : Hid (∀ (D : Option Addr) (c : Nat) w', w'.ownsRow w.heap.size 5 1 (.slice D (uhp (List.take H (List.drop (q + 4) s.data.toList))).length c) (uhp (List.take H (List.drop (q + 4) s.data.toList))).length (bys (uhp (List.take H (List.drop (q + 4) s.data.toList)))) → Below w.heap.size w w' → OutR w (.inr ⟨a, ⟨x.toArray⟩, uhp (List.take H (List.drop (q + 4) s.data.toList)), false⟩) (.returned (.tuple #[.agg #[.int .i64 a, bstr x, .slice D (uhp (List.take H (List.drop (q + 4) s.data.toList))).length c, .bool false], .int .i64 0, .int .i64 0])) w') := fun D c w' h1 h2 => ⟨D, c, rfl, h1, h2⟩
          by_cases k1 : 2 * k < H
          · have t1 : 2 * (k : Int) < (H : Int) := by omega
            have HR : Hid (R = .inl (q + 4 + 2 * k)) := by
              have := HT5.out (.inl (by omega))
              show _ = _
              rw [this, show min H (2 * k) = 2 * k by omega]
            clear HT5 HT6 HBY HHL HOUT
            go_wp2_with (first | (refine wpList_load_row rfl 33 (.tmp 11) rfl (w.heap.size + 1) rfl 33 _ (0, 0) _ HB1.out Tryz.underlying33 rfl (by kernel_rfl) ?_) | (refine wpList_storeB rfl 33 (.tmp 8) (.tmp 150) rfl rfl w.heap.size smZ rfl rfl HB0.out (by kernel_rfl) rfl rfl ?_; intro w3 hB3 hg3 hz3))
            exact bodyPost_ret (results_cell_tmp2B (p := 8) (u := 9) (v := 10) rfl _ hB3 _ rfl Tryz.underlying33 rfl (by kernel_rfl)) rfl (by rw [HR.out]; exact HFIN.out (q + 4 + 2 * k) _ (HBL.out.grown hg3 HBL.out.size (fun _ h => by injection h with h; omega)))
          have t1 : ¬ 2 * (k : Int) < (H : Int) := by omega
          by_cases k2 : H < 2 * k
          · have t2 : (H : Int) < 2 * (k : Int) := by omega
            have HR : Hid (R = .inl (q + 4 + H)) := by
              have := HT5.out (.inl (by omega))
              show _ = _
              rw [this, show min H (2 * k) = H by omega]
            clear HT5 HT6 HBY HHL HOUT
            go_wp2_with (first | (refine wpList_load_row rfl 33 (.tmp 11) rfl (w.heap.size + 1) rfl 33 _ (0, 0) _ HB1.out Tryz.underlying33 rfl (by kernel_rfl) ?_) | (refine wpList_storeB rfl 33 (.tmp 8) (.tmp 168) rfl rfl w.heap.size smZ rfl rfl HB0.out (by kernel_rfl) rfl rfl ?_; intro w3 hB3 hg3 hz3))
            exact bodyPost_ret (results_cell_tmp2B (p := 8) (u := 9) (v := 10) rfl _ hB3 _ rfl Tryz.underlying33 rfl (by kernel_rfl)) rfl (by rw [HR.out]; exact HFIN.out (q + 4 + H) _ (HBL.out.grown hg3 HBL.out.size (fun _ h => by injection h with h; omega)))
          have hHk : H = 2 * k := by omega
          have t2 : ¬ (H : Int) < 2 * (k : Int) := by omega
          by_cases k3 : q + 4 + H < s.size
          · have t3 : (q : Int) + 4 + (H : Int) < (s.size : Int) := by omega
            have HR : Hid (R = .inl (q + 4 + H)) := by
              have := HT5.out (.inr k3)
              show _ = _
              rw [this, show min H (2 * k) = H by omega]
            clear HT5 HT6 HBY HHL HOUT hHk
            go_wp2_with (first | (refine wpList_load_row rfl 33 (.tmp 11) rfl (w.heap.size + 1) rfl 33 _ (0, 0) _ HB1.out Tryz.underlying33 rfl (by kernel_rfl) ?_) | (refine wpList_storeB rfl 33 (.tmp 8) (.tmp 168) rfl rfl w.heap.size smZ rfl rfl HB0.out (by kernel_rfl) rfl rfl ?_; intro w3 hB3 hg3 hz3))
            exact bodyPost_ret (results_cell_tmp2B (p := 8) (u := 9) (v := 10) rfl _ hB3 _ rfl Tryz.underlying33 rfl (by kernel_rfl)) rfl (by rw [HR.out]; exact HFIN.out (q + 4 + H) _ (HBL.out.grown hg3 HBL.out.size (fun _ h => by injection h with h; omega)))
          have t3 : ¬ (q : Int) + 4 + (H : Int) < (s.size : Int) := by omega
          have HR := Lib.hid (HT6.out (by
            rintro (h | h)
            · exact h hHk
            · exact k3 h))
          have hBY := HBY.out H (by omega) (Nat.le_refl _) (by omega)
          rw [ext_list] at hBY
          have HY := Lib.hid hBY
          have hqs : q + 4 + H = s.size := by omega
          rw [hqs] at HY
          clear HT5 HT6 HBY HHL hBY hHk k1 k2 k3
          generalize uhp (List.take H (List.drop (q + 4) s.data.toList)) = U at *
          go_wp2_with fail
          refine (HY.out w9).mono ?_
          rintro ev w10 ⟨A, c, rfl, hO, hb10⟩
          have HE10 := Lib.hid (HE8.out.below hb10 HE8.out.lt)
          have HB10 := Lib.hid (HB0.out.below hb10 HB0.out.lt)
          have HBL10 := Lib.hid (below_step HBL.out hb10)
          have hg9 : g < w9.heap.size := HE8.out.lt
          have hw9 := HBL.out.size
          have m2 := HE10.out.cell 2
          have n2 := HE10.out.frozen 2
          have HE11 : Hid (Blk (w10.setCell ⟨g, 2, none⟩ (.slice A U.length c)) g 33 #[.int .i64 a, bstr x, .slice A U.length c, .bool false]) := HE10.out.set_ 2 _
          have HB11 := Lib.hid (HB10.out.far (p := ⟨g, 2, none⟩) (by show w.heap.size ≠ g; omega) (.slice A U.length c))
          have HBL11 := Lib.hid (HBL10.out.setCell (p := ⟨g, 2, none⟩) (by show w.heap.size ≤ g; omega) (.slice A U.length c))
          have HO11 := Lib.hid (own_far hO (grown_setCell w10 g 2 (.slice A U.length c)) hg9)
          clear hb10 hO HE10 HB10 HBL10
          go_wp2_with (first | (refine wpList_load_row rfl 33 (.tmp 17) rfl g rfl 33 _ (0, 0) _ HE11.out Tryz.underlying33 rfl (by kernel_rfl) ?_) | (refine wpList_storeB rfl 33 (.tmp 8) (.tmp 177) rfl rfl w.heap.size #[.int .i64 a, bstr x, .slice A U.length c, .bool false] rfl rfl HB11.out (by kernel_rfl) rfl rfl ?_; intro w12 hB12 hg12 hz12))
          exact bodyPost_ret (results_cell_tmp2B (p := 8) (u := 9) (v := 10) rfl _ hB12 _ rfl Tryz.underlying33 rfl (by kernel_rfl)) rfl (by rw [HR.out]; exact HOUT.out A c _ (own_base (own_far HO11.out hg12 (by omega)) (by omega)) (HBL11.out.grown hg12 HBL11.out.size (fun _ h => by injection h with h; omega)))
end Go.Proofs.YtmnkdkibhchglaaGreatDoor
