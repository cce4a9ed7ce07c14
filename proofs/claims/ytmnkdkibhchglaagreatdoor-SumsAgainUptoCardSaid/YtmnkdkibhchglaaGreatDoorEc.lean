/- Walk: the name that stands for an escaped one, of the reference (quernref26.Unescape). Conditions: lengths within the reach. -/
import Derived.Test.YtmnkdkibhchglaaGreatDoorEb
namespace Go.Proofs.YtmnkdkibhchglaaGreatDoor
open Go.RowKit
set_option linter.unusedVariables false
attribute [local go_sem ↓] Go.wp_at_zero Go.wp_at_succ

theorem un_bad {s : ByteArray} {i : Nat} (h : uneAt s 0 [] = .inr i) : unN s = [] ∧ unI s = i ∧ unE s = 4 := by
  unfold unN unI unE; rw [h]; exact ⟨rfl, rfl, rfl⟩
theorem un_name {s : ByteArray} {l : List UInt8} (h : uneAt s 0 [] = .inl l) (hf : fileB l = true) : unN s = l ∧ unI s = 0 ∧ unE s = 0 := by
  unfold unN unI unE; rw [h]; simp [hf]
theorem un_none {s : ByteArray} {l : List UInt8} (h : uneAt s 0 [] = .inl l) (hf : fileB l = false) : unN s = [] ∧ unI s = 0 ∧ unE s = 1 := by
  unfold unN unI unE; rw [h]; simp [hf]
theorem u8_iff (a k : UInt8) : a = k ↔ (a.toNat : Int) = (k.toNat : Int) := ⟨fun h => by rw [h], fun h => UInt8.toNat_inj.1 (by omega)⟩
theorem u8_beq (a k : UInt8) (n : Int) (hn : (k.toNat : Int) = n) : ((a.toNat : Int) == n) = decide (a = k) := by
  rw [Bool.eq_iff_iff]; simp only [beq_iff_eq, decide_eq_true_eq]; rw [← hn]; exact (u8_iff a k).symm
set_option maxRecDepth 100000 in
set_option maxHeartbeats 1000000 in
theorem c_rUnescape (s : ByteArray) (hs : s.size ≤ 140737488351232) (w : World) : Calls Tryz.prog 54 #[.string s] w fun e w' => e = .returned (.tuple #[bstr (unN s), .int .i64 (unI s : Int), .int .i64 (unE s)]) ∧ Below w.heap.size w w' := by
  obtain ⟨i0, hi0, hz0, hz1, hz2⟩ := info_parts u8_info
  go_enter Tryz.func54, Tryz.ntmps54
  go_wp2_with fail
  go_loopw [5, 6] (fun vb vi wr => ∃ (i : Nat) (A : Option Addr) (c : Nat) (l : List UInt8), vb = .slice A l.length c ∧ vi = .int .i64 i ∧ i ≤ s.size ∧ l.length ≤ i ∧ Hid (uneAt s 0 [] = uneAt s i l) ∧ Hid (OwnB w wr A c l)) (fun _ vi _ => s.size - (intOf vi).toNat)
  case atStart => exact ⟨0, none, 0, [], rfl, rfl, Nat.zero_le _, Nat.zero_le _, rfl, ownB_nil w⟩
  case round =>
    obtain ⟨i, A, c, l, rfl, rfl, hi, hll, HU, HO⟩ := hrel
    by_cases hlt : i < s.size
    · have b10 := u8_beq s[i] 10 10 rfl
      have b13 := u8_beq s[i] 13 13 rfl
      have b92 := u8_beq s[i] 92 92 rfl
      by_cases h10 : s[i] = 10
      · have HX := Lib.hid (un_bad (HU.out.trans (une_bad s i l hlt (.inl h10))))
        rw [decide_eq_true h10] at b10
        clear h10 b13 b92
        go_wp2_with fail
        go_ret3
        exact ⟨by rw [HX.out.1, HX.out.2.1, HX.out.2.2]; rfl, HO.out.2⟩
      rw [decide_eq_false h10] at b10
      by_cases h13 : s[i] = 13
      · have HX := Lib.hid (un_bad (HU.out.trans (une_bad s i l hlt (.inr h13))))
        rw [decide_eq_true h13] at b13
        clear h13 h10 b92
        go_wp2_with fail
        go_ret3
        exact ⟨by rw [HX.out.1, HX.out.2.1, HX.out.2.2]; rfl, HO.out.2⟩
      rw [decide_eq_false h13] at b13
      by_cases h92 : s[i] = 92
      · rw [decide_eq_true h92] at b92
        by_cases hn : i + 1 < s.size
        · have HP := Lib.hid (une_pair s i l hn h92)
          clear h10 h13 h92
          have d92 := u8_beq s[i + 1] 92 92 rfl
          have d110 := u8_beq s[i + 1] 110 110 rfl
          have d114 := u8_beq s[i + 1] 114 114 rfl
          by_cases g92 : s[i + 1] = 92
          · have HX : Hid (uneAt s 0 [] = uneAt s (i + 2) (l ++ [92])) := by show _ = _; rw [HU.out, HP.out, if_pos g92]
            rw [decide_eq_true g92] at d92
            clear g92 d110 d114 HP
            have HOA : Hid ((wr.alloc (.cells #[.int .u8 92] 5)).ownsRow w.heap.size 5 1 (.slice A l.length c) l.length (bys l)) := HO.out.1.alloc _
            have HBA : Hid (Below w.heap.size w (wr.alloc (.cells #[.int .u8 92] 5))) := HO.out.2.alloc HO.out.2.size _
            have HRA := Lib.hid (reads_lit1 wr (92))
            go_wp2_with (first
              | (refine wpList_buildSliceTo rfl 31 5 1 _ rfl wr.heap.size rfl (some 51) rfl Tryz.underlying31 #[.int .u8 92] (by exact built1 _) ?_)
              | (at_builtin; refine wpList_append_any _ rfl (.tmp 50) (.tmp 51) 31 rfl w.heap.size 5 i0 _ 1 1 Tryz.underlying31 hi0 hz0 hz1 hz2 rfl (by omega) (.slice A l.length c) l.length (bys l) rfl HOA.out _ (some ⟨wr.heap.size, 0, none⟩) 1 1 [.int .u8 92] rfl HRA.out (by simp [Value.oneCell']) (by simp only [maxLen]; omega) (by omega) HBA.out.size ?_; intro v2 w2 hown2 hg2 _; obtain ⟨A', c', rfl, ho2⟩ := ownB_app (m := [92]) HBA.out HOA.out hown2 hg2; have HO2 := Lib.hid ho2; clear ho2 hown2 hg2))
            go_wp2_with fail
            go_roundw
            case rel => exact ⟨i + 2, A', c', l ++ [92], by simp, by go_num, by omega, by simp; omega, HX.out, HO2.out⟩
            case measure => simp [intOf]; omega
          rw [decide_eq_false g92] at d92
          by_cases g110 : s[i + 1] = 110
          · have HX : Hid (uneAt s 0 [] = uneAt s (i + 2) (l ++ [10])) := by show _ = _; rw [HU.out, HP.out, if_neg g92, if_pos g110]
            rw [decide_eq_true g110] at d110
            clear g110 g92 d114 HP
            have HOA : Hid ((wr.alloc (.cells #[.int .u8 10] 5)).ownsRow w.heap.size 5 1 (.slice A l.length c) l.length (bys l)) := HO.out.1.alloc _
            have HBA : Hid (Below w.heap.size w (wr.alloc (.cells #[.int .u8 10] 5))) := HO.out.2.alloc HO.out.2.size _
            have HRA := Lib.hid (reads_lit1 wr (10))
            go_wp2_with (first
              | (refine wpList_buildSliceTo rfl 31 5 1 _ rfl wr.heap.size rfl (some 60) rfl Tryz.underlying31 #[.int .u8 10] (by exact built1 _) ?_)
              | (at_builtin; refine wpList_append_any _ rfl (.tmp 59) (.tmp 60) 31 rfl w.heap.size 5 i0 _ 1 1 Tryz.underlying31 hi0 hz0 hz1 hz2 rfl (by omega) (.slice A l.length c) l.length (bys l) rfl HOA.out _ (some ⟨wr.heap.size, 0, none⟩) 1 1 [.int .u8 10] rfl HRA.out (by simp [Value.oneCell']) (by simp only [maxLen]; omega) (by omega) HBA.out.size ?_; intro v2 w2 hown2 hg2 _; obtain ⟨A', c', rfl, ho2⟩ := ownB_app (m := [10]) HBA.out HOA.out hown2 hg2; have HO2 := Lib.hid ho2; clear ho2 hown2 hg2))
            go_wp2_with fail
            go_roundw
            case rel => exact ⟨i + 2, A', c', l ++ [10], by simp, by go_num, by omega, by simp; omega, HX.out, HO2.out⟩
            case measure => simp [intOf]; omega
          rw [decide_eq_false g110] at d110
          by_cases g114 : s[i + 1] = 114
          · have HX : Hid (uneAt s 0 [] = uneAt s (i + 2) (l ++ [13])) := by show _ = _; rw [HU.out, HP.out, if_neg g92, if_neg g110, if_pos g114]
            rw [decide_eq_true g114] at d114
            clear g114 g92 g110 HP
            have HOA : Hid ((wr.alloc (.cells #[.int .u8 13] 5)).ownsRow w.heap.size 5 1 (.slice A l.length c) l.length (bys l)) := HO.out.1.alloc _
            have HBA : Hid (Below w.heap.size w (wr.alloc (.cells #[.int .u8 13] 5))) := HO.out.2.alloc HO.out.2.size _
            have HRA := Lib.hid (reads_lit1 wr (13))
            go_wp2_with (first
              | (refine wpList_buildSliceTo rfl 31 5 1 _ rfl wr.heap.size rfl (some 69) rfl Tryz.underlying31 #[.int .u8 13] (by exact built1 _) ?_)
              | (at_builtin; refine wpList_append_any _ rfl (.tmp 68) (.tmp 69) 31 rfl w.heap.size 5 i0 _ 1 1 Tryz.underlying31 hi0 hz0 hz1 hz2 rfl (by omega) (.slice A l.length c) l.length (bys l) rfl HOA.out _ (some ⟨wr.heap.size, 0, none⟩) 1 1 [.int .u8 13] rfl HRA.out (by simp [Value.oneCell']) (by simp only [maxLen]; omega) (by omega) HBA.out.size ?_; intro v2 w2 hown2 hg2 _; obtain ⟨A', c', rfl, ho2⟩ := ownB_app (m := [13]) HBA.out HOA.out hown2 hg2; have HO2 := Lib.hid ho2; clear ho2 hown2 hg2))
            go_wp2_with fail
            go_roundw
            case rel => exact ⟨i + 2, A', c', l ++ [13], by simp, by go_num, by omega, by simp; omega, HX.out, HO2.out⟩
            case measure => simp [intOf]; omega
          rw [decide_eq_false g114] at d114
          have HX := Lib.hid (un_bad (i := i) (by rw [HU.out, HP.out, if_neg g92, if_neg g110, if_neg g114]))
          clear g92 g110 g114 HP
          go_wp2_with fail
          go_ret3
          exact ⟨by rw [HX.out.1, HX.out.2.1, HX.out.2.2]; rfl, HO.out.2⟩
        · have HX := Lib.hid (un_bad (HU.out.trans (une_last s i l hlt h92 (by omega))))
          clear h10 h13 h92
          go_wp2_with fail
          go_ret3
          exact ⟨by rw [HX.out.1, HX.out.2.1, HX.out.2.2]; rfl, HO.out.2⟩
      · rw [decide_eq_false h92] at b92
        have HX : Hid (uneAt s 0 [] = uneAt s (i + 1) (l ++ [s[i]])) := HU.out.trans (une_go s i l hlt (fun h => h.elim h10 h13) h92)
        clear h10 h13 h92
        have HOA : Hid ((wr.alloc (.cells #[.int .u8 (s[i].toNat : Int)] 5)).ownsRow w.heap.size 5 1 (.slice A l.length c) l.length (bys l)) := HO.out.1.alloc _
        have HBA : Hid (Below w.heap.size w (wr.alloc (.cells #[.int .u8 (s[i].toNat : Int)] 5))) := HO.out.2.alloc HO.out.2.size _
        have HRA := Lib.hid (reads_lit1 wr ((s[i].toNat : Int)))
        go_wp2_with (first
          | (refine wpList_buildSliceTo rfl 31 5 1 _ rfl wr.heap.size rfl (some 35) rfl Tryz.underlying31 #[.int .u8 (s[i].toNat : Int)] (by exact built1 _) ?_)
          | (at_builtin; refine wpList_append_any _ rfl (.tmp 31) (.tmp 35) 31 rfl w.heap.size 5 i0 _ 1 1 Tryz.underlying31 hi0 hz0 hz1 hz2 rfl (by omega) (.slice A l.length c) l.length (bys l) rfl HOA.out _ (some ⟨wr.heap.size, 0, none⟩) 1 1 [.int .u8 (s[i].toNat : Int)] rfl HRA.out (by simp [Value.oneCell']) (by simp only [maxLen]; omega) (by omega) HBA.out.size ?_; intro v2 w2 hown2 hg2 _; obtain ⟨A', c', rfl, ho2⟩ := ownB_app (m := [s[i]]) HBA.out HOA.out hown2 hg2; have HO2 := Lib.hid ho2; clear ho2 hown2 hg2))
        go_wp2_with fail
        go_roundw
        case rel => exact ⟨i + 1, A', c', l ++ [s[i]], by simp, by go_num, by omega, by simp; omega, HX.out, HO2.out⟩
        case measure => simp [intOf]; omega
    · obtain rfl : i = s.size := by omega
      have hu := HU.out.trans (une_end s s.size l (Nat.le_refl _))
      have hcv := conv_bys HO.out.1
      have HF := Lib.hid (fun W => c_File ⟨l.toArray⟩ (by show l.length ≤ _; omega) W)
      have HD : Hid ((⟨l.toArray⟩ : ByteArray).data.toList = l) := rfl
      rw [HD.out] at HF
      by_cases hf : fileB l = true
      · have HX := Lib.hid (un_name hu hf)
        rw [hf] at HF
        clear hu hf
        go_wp2_with (go_at_call 55; refine (HF.out _).mono ?_; rintro e w' ⟨rfl, rfl⟩)
        go_ret3
        exact ⟨by rw [HX.out.1, HX.out.2.1, HX.out.2.2]; rfl, HO.out.2⟩
      · have hf' : fileB l = false := by simpa using hf
        have HX := Lib.hid (un_none hu hf')
        rw [hf'] at HF
        clear hu hf hf'
        go_wp2_with (go_at_call 55; refine (HF.out _).mono ?_; rintro e w' ⟨rfl, rfl⟩)
        go_ret3
        exact ⟨by rw [HX.out.1, HX.out.2.1, HX.out.2.2]; rfl, HO.out.2⟩
end Go.Proofs.YtmnkdkibhchglaaGreatDoor
