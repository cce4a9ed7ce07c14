/- Walk: the name that stands for an escaped one (sums.Unescape). Conditions: lengths within the reach. -/
import Derived.Test.YtmnkdkibhchglaaGreatDoorEc
import Derived.Test.YtmnkdkibhchglaaGreatDoorEd
import Derived.Lib.IndexBytes
import Derived.Lib.IndexBytes
namespace Go.Proofs.YtmnkdkibhchglaaGreatDoor
open Go.RowKit
set_option linter.unusedVariables false
attribute [local go_sem ↓] Go.wp_at_zero Go.wp_at_succ

/-- Does a text begin with a byte? -/
def hpB (t : ByteArray) (d : UInt8) : Bool := t.data.toList.head? == some d
theorem hpB_nil {t : ByteArray} (h : t.size = 0) (d : UInt8) : hpB t d = false := by
  unfold hpB
  have : t.data.toList = [] := List.eq_nil_of_length_eq_zero h
  rw [this]; rfl
theorem hpB_at {t : ByteArray} (h : 0 < t.size) (d : UInt8) : hpB t d = (t[0] == d) := by
  unfold hpB
  have : t.data.toList.head? = some t[0] := by
    rw [List.head?_eq_getElem?, List.getElem?_eq_getElem (by simpa using h)]; rfl
  rw [this]; rfl
theorem ext_toList (t : ByteArray) (h : 0 < t.size) : (t.extract 0 1).toList = [t[0]] := by
  rw [toList_data, Lib.extract_data]
  obtain ⟨⟨l⟩⟩ := t
  cases l with
  | nil => exact absurd h (by decide)
  | cons a l => rfl
set_option maxHeartbeats 400000 in
theorem c_hpl (t : ByteArray) (d : UInt8) (hs : t.size ≤ 140737488351232) (w : World) : Calls Tryz.prog 62 #[.string t, .string ⟨#[d]⟩] w fun e w' => e = .returned (.bool (hpB t d)) ∧ w = w' := by
  by_cases h0 : t.size = 0
  · rw [hpB_nil h0]
    have h1 : ¬ (1 : Int) ≤ (t.size : Int) := by omega
    clear h0
    go_enter Tryz.func62, Tryz.ntmps62
    go_wp2
    go_ret
    exact ⟨rfl, rfl⟩
  · have hB : Hid (hpB t d = (t[0]'(by omega) == d)) := hpB_at (by omega) d
    have h1 : (1 : Int) ≤ (t.size : Int) := by omega
    have h1n : 1 ≤ t.size := by omega
    have hx := ext_toList t (by omega)
    generalize hz : t[0]'(by omega) = z at *
    clear h0 hz
    go_enter Tryz.func62, Tryz.ntmps62
    go_wp2
    go_ret
    exact ⟨by rw [hB.out]; go_simp, rfl⟩
theorem c_hp (t : ByteArray) (d : UInt8) (hs : t.size ≤ 140737488351232) (w : World) : Calls Tryz.prog 40 #[.string t, .string ⟨#[d]⟩] w fun e w' => e = .returned (.bool (hpB t d)) ∧ w = w' := by
  have H := Lib.hid (fun W => c_hpl t d hs W)
  go_enter Tryz.func40, Tryz.ntmps40
  go_wp2_with fail
  refine (H.out _).mono ?_
  rintro e w' ⟨rfl, rfl⟩
  go_wp2_with fail
  go_ret
  exact ⟨rfl, rfl⟩
theorem conv_new (s : ByteArray) (w : World) : ∃ w0 c0, (convert 9 31 (.string s)).run Tryz.prog w = .ok (.slice (some ⟨w.heap.size, 0, none⟩) s.size c0) w0 ∧ Below w.heap.size w w0 :=
  ⟨_, _, run_bytes_of_string w 9 31 5 s Tryz.underlying9 Tryz.underlying31 Tryz.underlying5, (Below.refl _ _).drew.alloc (Nat.le_refl _) _⟩
theorem hpB_ext (s : ByteArray) (i : Nat) (d : UInt8) : hpB (s.extract i s.size) d = (s.data.toList[i]? == some d) := by
  unfold hpB
  rw [Lib.extract_to_end, List.head?_drop]
theorem hpB_in {s : ByteArray} {i : Nat} (h : i < s.size) (d : UInt8) : hpB (s.extract i s.size) d = decide (s[i] = d) := by
  rw [hpB_ext, List.getElem?_eq_getElem (by simpa using h)]
  rw [Bool.eq_iff_iff]; simp
  exact Iff.rfl
theorem hpB_out {s : ByteArray} {i : Nat} (h : s.size ≤ i) (d : UInt8) : hpB (s.extract i s.size) d = false := by
  rw [hpB_ext, List.getElem?_eq_none (by simpa using h)]; rfl
set_option maxRecDepth 100000 in
set_option maxHeartbeats 1000000 in
theorem c_Unescape (s : ByteArray) (hs : s.size ≤ 140737488351232) (w : World) : Calls Tryz.prog 69 #[.string s] w fun e w' => e = .returned (.tuple #[bstr (unN s), .int .i64 (unI s : Int), .int .i64 (unE s)]) ∧ Below w.heap.size w w' := by
  obtain ⟨i0, hi0, hz0, hz1, hz2⟩ := info_parts u8_info
  obtain ⟨w0, c0, hcv, hb0⟩ := conv_new s w
  have HB0 := Lib.hid hb0
  clear hb0
  go_enter Tryz.func69, Tryz.ntmps69
  go_wp2_with fail
  clear hcv
  go_loopw [5, 6, 12] (fun vb vk vi wr => ∃ (i : Nat) (A : Option Addr) (c : Nat) (l : List UInt8) (sk : Bool), vb = .slice A l.length c ∧ vk = .bool sk ∧ vi = .int .i64 i ∧ i ≤ s.size ∧ l.length ≤ i ∧ Hid ((sk = false ∧ uneAt s 0 [] = uneAt s i l) ∨ (sk = true ∧ i < s.size ∧ uneAt s 0 [] = uneAt s (i + 1) l)) ∧ Hid (OwnB w wr A c l)) (fun _ _ vi _ => s.size - (intOf vi).toNat)
  case atStart => exact ⟨0, none, 0, [], false, rfl, rfl, rfl, Nat.zero_le _, Nat.zero_le _, .inl ⟨rfl, rfl⟩, World.ownsRow_nil _ _ _ _, HB0.out⟩
  case round =>
    obtain ⟨i, A, c, l, sk, rfl, rfl, rfl, hi, hll, HU, HO⟩ := hrel
    by_cases hlt : i < s.size
    · rcases HU.out with ⟨rfl, hu⟩ | ⟨rfl, _, hu⟩
      · have HU := Lib.hid hu
        clear hu
        have b10 := u8_beq s[i] 10 10 rfl
        have b13 := u8_beq s[i] 13 13 rfl
        have b92 := u8_beq s[i] 92 92 rfl
        by_cases h10 : s[i] = 10
        · have HX := Lib.hid (un_bad (HU.out.trans (une_bad s i l hlt (.inl h10))))
          rw [decide_eq_true h10] at b10
          clear h10 b13 b92
          go_wp2_with fail
          go_ret3
          exact ⟨by rw [HX.out.1, HX.out.2.1, HX.out.2.2]; rfl, HO.out.2⟩
        rw [decide_eq_false h10] at b10
        by_cases h13 : s[i] = 13
        · have HX := Lib.hid (un_bad (HU.out.trans (une_bad s i l hlt (.inr h13))))
          rw [decide_eq_true h13] at b13
          clear h13 h10 b92
          go_wp2_with fail
          go_ret3
          exact ⟨by rw [HX.out.1, HX.out.2.1, HX.out.2.2]; rfl, HO.out.2⟩
        rw [decide_eq_false h13] at b13
        by_cases h92 : s[i] = 92
        · rw [decide_eq_true h92] at b92
          have hxs : (s.extract (i + 1) s.size).size ≤ 140737488351232 := by rw [ByteArray.size_extract]; omega
          have H92 := Lib.hid (fun W => c_hp (s.extract (i + 1) s.size) 92 hxs W)
          have H110 := Lib.hid (fun W => c_hp (s.extract (i + 1) s.size) 110 hxs W)
          have H114 := Lib.hid (fun W => c_hp (s.extract (i + 1) s.size) 114 hxs W)
          clear hxs
          by_cases hn : i + 1 < s.size
          · have HP := Lib.hid (une_pair s i l hn h92)
            clear h10 h13 h92
            rw [hpB_in hn] at H92 H110 H114
            by_cases g92 : s[i + 1] = 92
            · have HX : Hid (uneAt s 0 [] = uneAt s (i + 2) (l ++ [92])) := by show _ = _; rw [HU.out, HP.out, if_pos g92]
              rw [decide_eq_true g92] at H92
              clear g92 HP
              have HOA : Hid ((wr.alloc (.cells #[.int .u8 92] 5)).ownsRow w.heap.size 5 1 (.slice A l.length c) l.length (bys l)) := HO.out.1.alloc _
              have HBA : Hid (Below w.heap.size w (wr.alloc (.cells #[.int .u8 92] 5))) := HO.out.2.alloc HO.out.2.size _
              have HRA := Lib.hid (reads_lit1 wr (92))
              go_wp2_with (first | (go_at_call 40; refine (H92.out _).mono ?_; rintro e w' ⟨rfl, rfl⟩) | (refine wpList_buildSliceTo rfl 31 5 1 _ rfl wr.heap.size rfl (some 41) rfl Tryz.underlying31 #[.int .u8 92] (by exact built1 _) ?_) | (at_builtin; refine wpList_append_any _ rfl (.tmp 40) (.tmp 41) 31 rfl w.heap.size 5 i0 _ 1 1 Tryz.underlying31 hi0 hz0 hz1 hz2 rfl (by omega) (.slice A l.length c) l.length (bys l) rfl HOA.out _ (some ⟨wr.heap.size, 0, none⟩) 1 1 [.int .u8 92] rfl HRA.out (by simp [Value.oneCell']) (by simp only [maxLen]; omega) (by omega) HBA.out.size ?_; intro v2 w2 hown2 hg2 _; obtain ⟨A', c', rfl, ho2⟩ := ownB_app (m := [92]) HBA.out HOA.out hown2 hg2; have HO2 := Lib.hid ho2; clear ho2 hown2 hg2))
              go_wp2_with fail
              go_roundw
              case rel => exact ⟨i + 1, A', c', l ++ [92], true, by simp, rfl, by go_num, by omega, by simp; omega, .inr ⟨rfl, hn, HX.out⟩, HO2.out⟩
              case measure => simp [intOf]; omega
            rw [decide_eq_false g92] at H92
            by_cases g110 : s[i + 1] = 110
            · have HX : Hid (uneAt s 0 [] = uneAt s (i + 2) (l ++ [10])) := by show _ = _; rw [HU.out, HP.out, if_neg g92, if_pos g110]
              rw [decide_eq_true g110] at H110
              clear g110 g92 HP
              have HOA : Hid ((wr.alloc (.cells #[.int .u8 10] 5)).ownsRow w.heap.size 5 1 (.slice A l.length c) l.length (bys l)) := HO.out.1.alloc _
              have HBA : Hid (Below w.heap.size w (wr.alloc (.cells #[.int .u8 10] 5))) := HO.out.2.alloc HO.out.2.size _
              have HRA := Lib.hid (reads_lit1 wr (10))
              go_wp2_with (first | (go_at_call 40; refine (H92.out _).mono ?_; rintro e w' ⟨rfl, rfl⟩) | (go_at_call 40; refine (H110.out _).mono ?_; rintro e w' ⟨rfl, rfl⟩) | (refine wpList_buildSliceTo rfl 31 5 1 _ rfl wr.heap.size rfl (some 50) rfl Tryz.underlying31 #[.int .u8 10] (by exact built1 _) ?_) | (at_builtin; refine wpList_append_any _ rfl (.tmp 49) (.tmp 50) 31 rfl w.heap.size 5 i0 _ 1 1 Tryz.underlying31 hi0 hz0 hz1 hz2 rfl (by omega) (.slice A l.length c) l.length (bys l) rfl HOA.out _ (some ⟨wr.heap.size, 0, none⟩) 1 1 [.int .u8 10] rfl HRA.out (by simp [Value.oneCell']) (by simp only [maxLen]; omega) (by omega) HBA.out.size ?_; intro v2 w2 hown2 hg2 _; obtain ⟨A', c', rfl, ho2⟩ := ownB_app (m := [10]) HBA.out HOA.out hown2 hg2; have HO2 := Lib.hid ho2; clear ho2 hown2 hg2))
              go_wp2_with fail
              go_roundw
              case rel => exact ⟨i + 1, A', c', l ++ [10], true, by simp, rfl, by go_num, by omega, by simp; omega, .inr ⟨rfl, hn, HX.out⟩, HO2.out⟩
              case measure => simp [intOf]; omega
            rw [decide_eq_false g110] at H110
            by_cases g114 : s[i + 1] = 114
            · have HX : Hid (uneAt s 0 [] = uneAt s (i + 2) (l ++ [13])) := by show _ = _; rw [HU.out, HP.out, if_neg g92, if_neg g110, if_pos g114]
              rw [decide_eq_true g114] at H114
              clear g114 g92 g110 HP
              have HOA : Hid ((wr.alloc (.cells #[.int .u8 13] 5)).ownsRow w.heap.size 5 1 (.slice A l.length c) l.length (bys l)) := HO.out.1.alloc _
              have HBA : Hid (Below w.heap.size w (wr.alloc (.cells #[.int .u8 13] 5))) := HO.out.2.alloc HO.out.2.size _
              have HRA := Lib.hid (reads_lit1 wr (13))
              go_wp2_with (first | (go_at_call 40; refine (H92.out _).mono ?_; rintro e w' ⟨rfl, rfl⟩) | (go_at_call 40; refine (H110.out _).mono ?_; rintro e w' ⟨rfl, rfl⟩) | (go_at_call 40; refine (H114.out _).mono ?_; rintro e w' ⟨rfl, rfl⟩) | (refine wpList_buildSliceTo rfl 31 5 1 _ rfl wr.heap.size rfl (some 59) rfl Tryz.underlying31 #[.int .u8 13] (by exact built1 _) ?_) | (at_builtin; refine wpList_append_any _ rfl (.tmp 58) (.tmp 59) 31 rfl w.heap.size 5 i0 _ 1 1 Tryz.underlying31 hi0 hz0 hz1 hz2 rfl (by omega) (.slice A l.length c) l.length (bys l) rfl HOA.out _ (some ⟨wr.heap.size, 0, none⟩) 1 1 [.int .u8 13] rfl HRA.out (by simp [Value.oneCell']) (by simp only [maxLen]; omega) (by omega) HBA.out.size ?_; intro v2 w2 hown2 hg2 _; obtain ⟨A', c', rfl, ho2⟩ := ownB_app (m := [13]) HBA.out HOA.out hown2 hg2; have HO2 := Lib.hid ho2; clear ho2 hown2 hg2))
              go_wp2_with fail
              go_roundw
              case rel => exact ⟨i + 1, A', c', l ++ [13], true, by simp, rfl, by go_num, by omega, by simp; omega, .inr ⟨rfl, hn, HX.out⟩, HO2.out⟩
              case measure => simp [intOf]; omega
            rw [decide_eq_false g114] at H114
            have HX := Lib.hid (un_bad (i := i) (by rw [HU.out, HP.out, if_neg g92, if_neg g110, if_neg g114]))
            clear g92 g110 g114 HP
            go_wp2_with (first | (go_at_call 40; refine (H92.out _).mono ?_; rintro e w' ⟨rfl, rfl⟩) | (go_at_call 40; refine (H110.out _).mono ?_; rintro e w' ⟨rfl, rfl⟩) | (go_at_call 40; refine (H114.out _).mono ?_; rintro e w' ⟨rfl, rfl⟩))
            go_ret3
            exact ⟨by rw [HX.out.1, HX.out.2.1, HX.out.2.2]; rfl, HO.out.2⟩
          · have HX := Lib.hid (un_bad (HU.out.trans (une_last s i l hlt h92 (by omega))))
            rw [hpB_out (by omega)] at H92 H110 H114
            clear h10 h13 h92
            go_wp2_with (first | (go_at_call 40; refine (H92.out _).mono ?_; rintro e w' ⟨rfl, rfl⟩) | (go_at_call 40; refine (H110.out _).mono ?_; rintro e w' ⟨rfl, rfl⟩) | (go_at_call 40; refine (H114.out _).mono ?_; rintro e w' ⟨rfl, rfl⟩))
            go_ret3
            exact ⟨by rw [HX.out.1, HX.out.2.1, HX.out.2.2]; rfl, HO.out.2⟩
        · rw [decide_eq_false h92] at b92
          have HX : Hid (uneAt s 0 [] = uneAt s (i + 1) (l ++ [s[i]])) := HU.out.trans (une_go s i l hlt (fun h => h.elim h10 h13) h92)
          clear h10 h13 h92
          have HOA : Hid ((wr.alloc (.cells #[.int .u8 (s[i].toNat : Int)] 5)).ownsRow w.heap.size 5 1 (.slice A l.length c) l.length (bys l)) := HO.out.1.alloc _
          have HBA : Hid (Below w.heap.size w (wr.alloc (.cells #[.int .u8 (s[i].toNat : Int)] 5))) := HO.out.2.alloc HO.out.2.size _
          have HRA := Lib.hid (reads_lit1 wr ((s[i].toNat : Int)))
          go_wp2_with (first | (refine wpList_buildSliceTo rfl 31 5 1 _ rfl wr.heap.size rfl (some 32) rfl Tryz.underlying31 #[.int .u8 (s[i].toNat : Int)] (by exact built1 _) ?_) | (at_builtin; refine wpList_append_any _ rfl (.tmp 30) (.tmp 32) 31 rfl w.heap.size 5 i0 _ 1 1 Tryz.underlying31 hi0 hz0 hz1 hz2 rfl (by omega) (.slice A l.length c) l.length (bys l) rfl HOA.out _ (some ⟨wr.heap.size, 0, none⟩) 1 1 [.int .u8 (s[i].toNat : Int)] rfl HRA.out (by simp [Value.oneCell']) (by simp only [maxLen]; omega) (by omega) HBA.out.size ?_; intro v2 w2 hown2 hg2 _; obtain ⟨A', c', rfl, ho2⟩ := ownB_app (m := [s[i]]) HBA.out HOA.out hown2 hg2; have HO2 := Lib.hid ho2; clear ho2 hown2 hg2))
          go_wp2_with fail
          go_roundw
          case rel => exact ⟨i + 1, A', c', l ++ [s[i]], false, by simp, rfl, by go_num, by omega, by simp; omega, .inl ⟨rfl, HX.out⟩, HO2.out⟩
          case measure => simp [intOf]; omega
      · have HX := Lib.hid hu
        clear hu
        go_wp2_with fail
        go_roundw
        case rel => exact ⟨i + 1, A, c, l, false, rfl, rfl, by go_num, by omega, by omega, .inl ⟨rfl, HX.out⟩, HO.out⟩
        case measure => simp [intOf]; omega
    · obtain rfl : i = s.size := by omega
      have hu : uneAt s 0 [] = .inl l := by
        rcases HU.out with ⟨_, hu⟩ | ⟨_, h, _⟩
        · exact hu.trans (une_end s s.size l (Nat.le_refl _))
        · omega
      have hcv := conv_bys HO.out.1
      have HF := Lib.hid (fun W => c_named ⟨l.toArray⟩ (by show l.length ≤ _; omega) W)
      have HD : Hid ((⟨l.toArray⟩ : ByteArray).data.toList = l) := rfl
      rw [HD.out] at HF
      have HB1 := Lib.hid HO.out.2
      have HO1 := Lib.hid HO.out.1
      by_cases hf : fileB l = true
      · have HX := Lib.hid (un_name hu hf)
        rw [hf] at HF
        clear hu hf
        go_wp2_with fail
        refine (HF.out _).mono ?_
        rintro e w1 ⟨rfl, hb1⟩
        have hcv1 := conv_bys (own_below HO1.out hb1)
        have HB2 := Lib.hid (below_step HB1.out hb1)
        clear hb1 hcv
        go_wp2_with fail
        go_ret3
        exact ⟨by rw [HX.out.1, HX.out.2.1, HX.out.2.2]; rfl, HB2.out⟩
      · have hf' : fileB l = false := by simpa using hf
        have HX := Lib.hid (un_none hu hf')
        rw [hf'] at HF
        clear hu hf hf'
        go_wp2_with fail
        refine (HF.out _).mono ?_
        rintro e w1 ⟨rfl, hb1⟩
        have HB2 := Lib.hid (below_step HB1.out hb1)
        clear hb1 hcv
        go_wp2_with fail
        go_ret3
        exact ⟨by rw [HX.out.1, HX.out.2.1, HX.out.2.2]; rfl, HB2.out⟩
end Go.Proofs.YtmnkdkibhchglaaGreatDoor
