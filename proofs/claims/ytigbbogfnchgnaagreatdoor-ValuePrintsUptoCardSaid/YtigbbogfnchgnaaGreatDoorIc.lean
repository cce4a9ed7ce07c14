/- Walk: a text in quotation marks (value.quoted; value.words.text). Conditions: its length within the reach. -/
import Derived.Test.YtigbbogfnchgnaaGreatDoorIb
namespace Go.Proofs.YtigbbogfnchgnaaGreatDoor
open Go.RowKit
set_option linter.unusedVariables false
attribute [local go_sem ↓] Go.wp_at_zero Go.wp_at_succ

theorem jb4 (x y z u : Int) : Tryz.prog.builtSlice 5 4 [(0, .int .u8 x), (1, .int .u8 y), (2, .int .u8 z), (3, .int .u8 u)] = some #[.int .u8 x, .int .u8 y, .int .u8 z, .int .u8 u] := by kernel_rfl
theorem jl4 (w : World) (x y z u : Int) : Reads (w.alloc (.cells #[.int .u8 x, .int .u8 y, .int .u8 z, .int .u8 u] 5)) (w.alloc (.cells #[.int .u8 x, .int .u8 y, .int .u8 z, .int .u8 u] 5)).heap.size 1 (some ⟨w.heap.size, 0, none⟩) 4 [.int .u8 x, .int .u8 y, .int .u8 z, .int .u8 u] :=
  Reads.of_own (World.ownsRow_lit (e := 5) (size := 1) (base := 0) w #[.int .u8 x, .int .u8 y, .int .u8 z, .int .u8 u] 4 (Nat.zero_le _) (by decide) rfl)
theorem hexpq (z : Nat) (hz : z < 256) : ∃ p q x y : Nat, bits .and .u8 (z : Int) 15 = (q : Int) ∧ (z : Int) / 16 = (p : Int) ∧ p < 16 ∧ q < 16 ∧ (∀ h : p < ({ data := #[48, 49, 50, 51, 52, 53, 54, 55, 56, 57, 97, 98, 99, 100, 101, 102] } : ByteArray).size, (({ data := #[48, 49, 50, 51, 52, 53, 54, 55, 56, 57, 97, 98, 99, 100, 101, 102] } : ByteArray)[p]'h).toNat = x) ∧ (∀ h : q < ({ data := #[48, 49, 50, 51, 52, 53, 54, 55, 56, 57, 97, 98, 99, 100, 101, 102] } : ByteArray).size, (({ data := #[48, 49, 50, 51, 52, 53, 54, 55, 56, 57, 97, 98, 99, 100, 101, 102] } : ByteArray)[q]'h).toNat = y) ∧ hxs [(z : Int)] = [(x : Int), (y : Int)] := by
  have hp16 : z / 16 < 16 := by omega
  have hq16 : z % 16 < 16 := by omega
  have r1 := hdg_range hp16
  have r2 := hdg_range hq16
  obtain ⟨x, hx⟩ : ∃ x : Nat, hdg ((z / 16 : Nat) : Int) = (x : Int) := ⟨(hdg ((z / 16 : Nat) : Int)).toNat, by omega⟩
  obtain ⟨y, hy⟩ : ∃ y : Nat, hdg ((z % 16 : Nat) : Int) = (y : Int) := ⟨(hdg ((z % 16 : Nat) : Int)).toNat, by omega⟩
  have g1 : ∀ h : z / 16 < ({ data := #[48, 49, 50, 51, 52, 53, 54, 55, 56, 57, 97, 98, 99, 100, 101, 102] } : ByteArray).size, (({ data := #[48, 49, 50, 51, 52, 53, 54, 55, 56, 57, 97, 98, 99, 100, 101, 102] } : ByteArray)[z / 16]'h).toNat = (hdg ((z / 16 : Nat) : Int)).toNat := hex_at
  have g2 : ∀ h : z % 16 < ({ data := #[48, 49, 50, 51, 52, 53, 54, 55, 56, 57, 97, 98, 99, 100, 101, 102] } : ByteArray).size, (({ data := #[48, 49, 50, 51, 52, 53, 54, 55, 56, 57, 97, 98, 99, 100, 101, 102] } : ByteArray)[z % 16]'h).toNat = (hdg ((z % 16 : Nat) : Int)).toNat := hex_at
  rw [hx, Int.toNat_natCast] at g1
  rw [hy, Int.toNat_natCast] at g2
  refine ⟨z / 16, z % 16, x, y, ?_, by omega, hp16, hq16, g1, g2, ?_⟩
  · rw [u8_and (z : Int) 15 (by omega) (by omega) (by omega) (by omega)]
    have h := Nat.and_two_pow_sub_one_eq_mod z 4
    rw [show (2 : Nat) ^ 4 - 1 = (15 : Int).toNat from rfl, show (2 : Nat) ^ 4 = 16 from rfl] at h
    rw [Int.toNat_natCast, h]
  · show [hdg ((z : Int) / 16), hdg ((z : Int) % 16)] = _
    rw [show (z : Int) / 16 = ((z / 16 : Nat) : Int) from by omega, show (z : Int) % 16 = ((z % 16 : Nat) : Int) from by omega, hx, hy]
set_option maxRecDepth 100000 in
set_option maxHeartbeats 4000000 in
theorem c_quoted (s : ByteArray) (hs : s.size ≤ 1048576) (w : World) : Calls Tryz.prog 26 #[.string s] w (TxE w (quo s)) := by
  obtain ⟨i0, hi0, hz0, hz1, hz2⟩ := info_parts u8_info8
  have HQ : Hid (quo s = (34 :: quoL ((txB s).take s.size)) ++ [34]) := by show _ = _; rw [List.take_of_length_le (by rw [txB_len]; exact Nat.le_refl _)]; rfl
  obtain ⟨QQ, hQQ⟩ : ∃ QQ, quo s = QQ := ⟨_, rfl⟩
  rw [hQQ] at HQ ⊢
  clear hQQ
  have HS0 : Hid (OB w (w.alloc (.cells #[.int .u8 34] 5)) (some ⟨w.heap.size, 0, none⟩) 1 (34 :: quoL ((txB s).take 0))) :=
    ⟨World.ownsRow_lit (e := 5) (size := 1) (base := w.heap.size) w #[.int .u8 34] 1 (Nat.le_refl _) (by decide) rfl, (Below.refl _ _).alloc (Nat.le_refl _) _⟩
  go_enter Tryz.func26, Tryz.ntmps26
  go_wp2_with fail
  generalize w.alloc (.cells #[.int .u8 34] 5) = w0 at *
  go_loopw [3, 9] (fun vb vi wr => ∃ (i : Nat) (A : Option Addr) (c : Nat), vb = .slice A (34 :: quoL ((txB s).take i)).length c ∧ vi = .int .i64 i ∧ i ≤ s.size ∧ Hid (OB w wr A c (34 :: quoL ((txB s).take i)))) (fun _ vi _ => s.size - (intOf vi).toNat)
  case atStart => exact ⟨0, some ⟨w.heap.size, 0, none⟩, 1, rfl, rfl, Nat.zero_le _, HS0⟩
  case round =>
    clear HS0
    obtain ⟨i, A, c, rfl, rfl, hi, HO⟩ := hrel
    have hel : (34 :: quoL ((txB s).take i)).length ≤ 4194305 := by
      have := quoL_len ((txB s).take i)
      rw [List.length_take, txB_len] at this
      rw [List.length_cons]
      omega
    by_cases hlt : i < s.size
    · have HN : Hid (34 :: quoL ((txB s).take (i + 1)) = (34 :: quoL ((txB s).take i)) ++ quo1 ((s[i].toNat : Nat) : Int)) := quoL_at s hlt
      have hz1 : s[i].toNat < 256 := s[i].toNat_lt
      have HZ := Lib.hid hz1
      clear hz1
      generalize hm : 34 :: quoL ((txB s).take i) = l at *
      clear hm
      by_cases hA : s[i].toNat = 34
      · have t34 : (((s[i].toNat : Nat) : Int) == 34) = true := by simp; omega
        have HX : Hid (34 :: quoL ((txB s).take (i + 1)) = l ++ [92, ((s[i].toNat : Nat) : Int)]) := by show _ = _; rw [HN.out]; unfold quo1; rw [if_pos (by omega)]
        clear hA HN
        have HOA : Hid ((wr.alloc (.cells #[.int .u8 92, .int .u8 ((s[i].toNat : Nat) : Int)] 5)).ownsRow w.heap.size 5 1 (.slice A l.length c) l.length (u8s l)) := HO.out.1.alloc _
        have HBA : Hid (Below w.heap.size w (wr.alloc (.cells #[.int .u8 92, .int .u8 ((s[i].toNat : Nat) : Int)] 5))) := HO.out.2.alloc HO.out.2.size _
        have HRA := Lib.hid (jl2 wr 92 (((s[i].toNat : Nat) : Int)))
        go_wp2_with (first
          | (refine wpList_buildSliceTo rfl 36 5 2 _ rfl wr.heap.size rfl (some 28) rfl Tryz.underlying36 #[.int .u8 92, .int .u8 ((s[i].toNat : Nat) : Int)] (by exact jb2 _ _) ?_)
          | (at_builtin; refine wpList_append_any _ rfl (.tmp 26) (.tmp 28) 36 rfl w.heap.size 5 i0 _ 1 1 Tryz.underlying36 hi0 hz0 hz1 hz2 rfl (by omega) (.slice A l.length c) l.length (u8s l) rfl HOA.out _ (some ⟨wr.heap.size, 0, none⟩) 2 2 [.int .u8 92, .int .u8 ((s[i].toNat : Nat) : Int)] rfl HRA.out (by simp [Value.oneCell']) (by simp only [maxLen]; omega) (by omega) HBA.out.size ?_; intro v2 w2 hown2 hg2 _; obtain ⟨A', c', rfl, ho2⟩ := OB.app (m := [92, ((s[i].toNat : Nat) : Int)]) HBA.out HOA.out hown2 hg2; have HO2 := Lib.hid ho2; clear ho2 hown2 hg2))
        go_wp2_with fail
        go_roundw
        case rel => exact ⟨i + 1, A', c', by rw [HX.out]; simp, by go_num, hlt, by rw [HX.out]; exact HO2.out⟩
        case measure => simp [intOf]; omega
      by_cases hB : s[i].toNat = 92
      · have t34 : (((s[i].toNat : Nat) : Int) == 34) = false := by simp; omega
        have t92 : (((s[i].toNat : Nat) : Int) == 92) = true := by simp; omega
        have HX : Hid (34 :: quoL ((txB s).take (i + 1)) = l ++ [92, ((s[i].toNat : Nat) : Int)]) := by show _ = _; rw [HN.out]; unfold quo1; rw [if_pos (by omega)]
        clear hA hB HN
        have HOA : Hid ((wr.alloc (.cells #[.int .u8 92, .int .u8 ((s[i].toNat : Nat) : Int)] 5)).ownsRow w.heap.size 5 1 (.slice A l.length c) l.length (u8s l)) := HO.out.1.alloc _
        have HBA : Hid (Below w.heap.size w (wr.alloc (.cells #[.int .u8 92, .int .u8 ((s[i].toNat : Nat) : Int)] 5))) := HO.out.2.alloc HO.out.2.size _
        have HRA := Lib.hid (jl2 wr 92 (((s[i].toNat : Nat) : Int)))
        go_wp2_with (first
          | (refine wpList_buildSliceTo rfl 36 5 2 _ rfl wr.heap.size rfl (some 28) rfl Tryz.underlying36 #[.int .u8 92, .int .u8 ((s[i].toNat : Nat) : Int)] (by exact jb2 _ _) ?_)
          | (at_builtin; refine wpList_append_any _ rfl (.tmp 26) (.tmp 28) 36 rfl w.heap.size 5 i0 _ 1 1 Tryz.underlying36 hi0 hz0 hz1 hz2 rfl (by omega) (.slice A l.length c) l.length (u8s l) rfl HOA.out _ (some ⟨wr.heap.size, 0, none⟩) 2 2 [.int .u8 92, .int .u8 ((s[i].toNat : Nat) : Int)] rfl HRA.out (by simp [Value.oneCell']) (by simp only [maxLen]; omega) (by omega) HBA.out.size ?_; intro v2 w2 hown2 hg2 _; obtain ⟨A', c', rfl, ho2⟩ := OB.app (m := [92, ((s[i].toNat : Nat) : Int)]) HBA.out HOA.out hown2 hg2; have HO2 := Lib.hid ho2; clear ho2 hown2 hg2))
        go_wp2_with fail
        go_roundw
        case rel => exact ⟨i + 1, A', c', by rw [HX.out]; simp, by go_num, hlt, by rw [HX.out]; exact HO2.out⟩
        case measure => simp [intOf]; omega
      by_cases hC : s[i].toNat = 10
      · have t34 : (((s[i].toNat : Nat) : Int) == 34) = false := by simp; omega
        have t92 : (((s[i].toNat : Nat) : Int) == 92) = false := by simp; omega
        have t10 : (((s[i].toNat : Nat) : Int) == 10) = true := by simp; omega
        have HX : Hid (34 :: quoL ((txB s).take (i + 1)) = l ++ [92, 110]) := by show _ = _; rw [HN.out]; unfold quo1; rw [if_neg (by omega), if_pos (by omega)]
        clear hA hB hC HN
        have HOA : Hid ((wr.alloc (.cells #[.int .u8 92, .int .u8 110] 5)).ownsRow w.heap.size 5 1 (.slice A l.length c) l.length (u8s l)) := HO.out.1.alloc _
        have HBA : Hid (Below w.heap.size w (wr.alloc (.cells #[.int .u8 92, .int .u8 110] 5))) := HO.out.2.alloc HO.out.2.size _
        have HRA := Lib.hid (jl2 wr 92 110)
        go_wp2_with (first
          | (refine wpList_buildSliceTo rfl 36 5 2 _ rfl wr.heap.size rfl (some 34) rfl Tryz.underlying36 #[.int .u8 92, .int .u8 110] (by exact jb2 _ _) ?_)
          | (at_builtin; refine wpList_append_any _ rfl (.tmp 33) (.tmp 34) 36 rfl w.heap.size 5 i0 _ 1 1 Tryz.underlying36 hi0 hz0 hz1 hz2 rfl (by omega) (.slice A l.length c) l.length (u8s l) rfl HOA.out _ (some ⟨wr.heap.size, 0, none⟩) 2 2 [.int .u8 92, .int .u8 110] rfl HRA.out (by simp [Value.oneCell']) (by simp only [maxLen]; omega) (by omega) HBA.out.size ?_; intro v2 w2 hown2 hg2 _; obtain ⟨A', c', rfl, ho2⟩ := OB.app (m := [92, 110]) HBA.out HOA.out hown2 hg2; have HO2 := Lib.hid ho2; clear ho2 hown2 hg2))
        go_wp2_with fail
        go_roundw
        case rel => exact ⟨i + 1, A', c', by rw [HX.out]; simp, by go_num, hlt, by rw [HX.out]; exact HO2.out⟩
        case measure => simp [intOf]; omega
      by_cases hD : s[i].toNat < 32
      · have t34 : (((s[i].toNat : Nat) : Int) == 34) = false := by simp; omega
        have t92 : (((s[i].toNat : Nat) : Int) == 92) = false := by simp; omega
        have t10 : (((s[i].toNat : Nat) : Int) == 10) = false := by simp; omega
        have hD1 : ((s[i].toNat : Nat) : Int) < 32 := by omega
        have HX0 : Hid (34 :: quoL ((txB s).take (i + 1)) = l ++ ([92, 120] ++ hxs [((s[i].toNat : Nat) : Int)])) := by show _ = _; rw [HN.out]; unfold quo1; rw [if_neg (by omega), if_neg (by omega), if_pos (by omega)]
        clear hA hB hC hD HN
        obtain ⟨p, q, x, y, e3, e4, hp16, hq16, g1, g2, hxy⟩ := hexpq s[i].toNat HZ.out
        have k1 : (p : Int) < 16 := by omega
        have k2 : (q : Int) < 16 := by omega
        have HX : Hid (34 :: quoL ((txB s).take (i + 1)) = l ++ [92, 120, (x : Int), (y : Int)]) := by show _ = _; rw [HX0.out, hxy]; rfl
        clear hxy HX0
        go_wp2_with fail
        have HOA : Hid ((wr.alloc (.cells #[.int .u8 92, .int .u8 120, .int .u8 (x : Int), .int .u8 (y : Int)] 5)).drew.ownsRow w.heap.size 5 1 (.slice A l.length c) l.length (u8s l)) := (HO.out.1.alloc _).drew
        have HBA : Hid (Below w.heap.size w (wr.alloc (.cells #[.int .u8 92, .int .u8 120, .int .u8 (x : Int), .int .u8 (y : Int)] 5)).drew) := (HO.out.2.alloc HO.out.2.size _).drew
        have HRA : Hid (Reads (wr.alloc (.cells #[.int .u8 92, .int .u8 120, .int .u8 (x : Int), .int .u8 (y : Int)] 5)).drew (wr.alloc (.cells #[.int .u8 92, .int .u8 120, .int .u8 (x : Int), .int .u8 (y : Int)] 5)).drew.heap.size 1 (some ⟨wr.heap.size, 0, none⟩) 4 [.int .u8 92, .int .u8 120, .int .u8 (x : Int), .int .u8 (y : Int)]) := (jl4 wr 92 120 x y).drew
        go_region_held3 (fun W => True) (go_keep) (first | ((refine step_append_any _ rfl (.tmp 43) (.tmp 50) 36 rfl w.heap.size 5 i0 _ 1 1 Tryz.underlying36 hi0 hz0 hz1 hz2 rfl (by omega) (.slice A l.length c) l.length (u8s l) (by simp [Act.eval]) HOA.out _ (some ⟨wr.heap.size, 0, none⟩) 4 4 [.int .u8 92, .int .u8 120, .int .u8 (x : Int), .int .u8 (y : Int)] (by simp [Act.eval]) HRA.out (by simp [Value.oneCell']) (by simp only [maxLen]; omega) (by omega) HBA.out.size ?_); intro v2 w2 hown2 hg2 _; obtain ⟨A', c', rfl, ho2⟩ := OB.app (m := [92, 120, (x : Int), (y : Int)]) HBA.out HOA.out hown2 hg2; have HO2 := Lib.hid ho2; clear ho2 hown2 hg2))
        all_goals
          go_wp2_with fail
          go_roundw
          case rel => exact ⟨i + 1, A', c', by rw [HX.out]; simp, by go_num, hlt, by rw [HX.out]; exact HO2.out⟩
          case measure => simp [intOf]; omega
      by_cases hE : 126 < s[i].toNat
      · have t34 : (((s[i].toNat : Nat) : Int) == 34) = false := by simp; omega
        have t92 : (((s[i].toNat : Nat) : Int) == 92) = false := by simp; omega
        have t10 : (((s[i].toNat : Nat) : Int) == 10) = false := by simp; omega
        have hD1 : ¬ ((s[i].toNat : Nat) : Int) < 32 := by omega
        have hE1 : (126 : Int) < ((s[i].toNat : Nat) : Int) := by omega
        have HX0 : Hid (34 :: quoL ((txB s).take (i + 1)) = l ++ ([92, 120] ++ hxs [((s[i].toNat : Nat) : Int)])) := by show _ = _; rw [HN.out]; unfold quo1; rw [if_neg (by omega), if_neg (by omega), if_pos (by omega)]
        clear hA hB hC hD hE HN
        obtain ⟨p, q, x, y, e3, e4, hp16, hq16, g1, g2, hxy⟩ := hexpq s[i].toNat HZ.out
        have k1 : (p : Int) < 16 := by omega
        have k2 : (q : Int) < 16 := by omega
        have HX : Hid (34 :: quoL ((txB s).take (i + 1)) = l ++ [92, 120, (x : Int), (y : Int)]) := by show _ = _; rw [HX0.out, hxy]; rfl
        clear hxy HX0
        go_wp2_with fail
        have HOA : Hid ((wr.alloc (.cells #[.int .u8 92, .int .u8 120, .int .u8 (x : Int), .int .u8 (y : Int)] 5)).drew.ownsRow w.heap.size 5 1 (.slice A l.length c) l.length (u8s l)) := (HO.out.1.alloc _).drew
        have HBA : Hid (Below w.heap.size w (wr.alloc (.cells #[.int .u8 92, .int .u8 120, .int .u8 (x : Int), .int .u8 (y : Int)] 5)).drew) := (HO.out.2.alloc HO.out.2.size _).drew
        have HRA : Hid (Reads (wr.alloc (.cells #[.int .u8 92, .int .u8 120, .int .u8 (x : Int), .int .u8 (y : Int)] 5)).drew (wr.alloc (.cells #[.int .u8 92, .int .u8 120, .int .u8 (x : Int), .int .u8 (y : Int)] 5)).drew.heap.size 1 (some ⟨wr.heap.size, 0, none⟩) 4 [.int .u8 92, .int .u8 120, .int .u8 (x : Int), .int .u8 (y : Int)]) := (jl4 wr 92 120 x y).drew
        go_region_held3 (fun W => True) (go_keep) (first | ((refine step_append_any _ rfl (.tmp 43) (.tmp 50) 36 rfl w.heap.size 5 i0 _ 1 1 Tryz.underlying36 hi0 hz0 hz1 hz2 rfl (by omega) (.slice A l.length c) l.length (u8s l) (by simp [Act.eval]) HOA.out _ (some ⟨wr.heap.size, 0, none⟩) 4 4 [.int .u8 92, .int .u8 120, .int .u8 (x : Int), .int .u8 (y : Int)] (by simp [Act.eval]) HRA.out (by simp [Value.oneCell']) (by simp only [maxLen]; omega) (by omega) HBA.out.size ?_); intro v2 w2 hown2 hg2 _; obtain ⟨A', c', rfl, ho2⟩ := OB.app (m := [92, 120, (x : Int), (y : Int)]) HBA.out HOA.out hown2 hg2; have HO2 := Lib.hid ho2; clear ho2 hown2 hg2))
        all_goals
          go_wp2_with fail
          go_roundw
          case rel => exact ⟨i + 1, A', c', by rw [HX.out]; simp, by go_num, hlt, by rw [HX.out]; exact HO2.out⟩
          case measure => simp [intOf]; omega
      have t34 : (((s[i].toNat : Nat) : Int) == 34) = false := by simp; omega
      have t92 : (((s[i].toNat : Nat) : Int) == 92) = false := by simp; omega
      have t10 : (((s[i].toNat : Nat) : Int) == 10) = false := by simp; omega
      have hD1 : ¬ ((s[i].toNat : Nat) : Int) < 32 := by omega
      have hE1 : ¬ (126 : Int) < ((s[i].toNat : Nat) : Int) := by omega
      have HX : Hid (34 :: quoL ((txB s).take (i + 1)) = l ++ [((s[i].toNat : Nat) : Int)]) := by show _ = _; rw [HN.out]; unfold quo1; rw [if_neg (by omega), if_neg (by omega), if_neg (by omega)]
      clear hA hB hC hD hE HN
      have HOA : Hid ((wr.alloc (.cells #[.int .u8 ((s[i].toNat : Nat) : Int)] 5)).ownsRow w.heap.size 5 1 (.slice A l.length c) l.length (u8s l)) := HO.out.1.alloc _
      have HBA : Hid (Below w.heap.size w (wr.alloc (.cells #[.int .u8 ((s[i].toNat : Nat) : Int)] 5))) := HO.out.2.alloc HO.out.2.size _
      have HRA := Lib.hid (jl1 wr (((s[i].toNat : Nat) : Int)))
      go_wp2_with (first
        | (refine wpList_buildSliceTo rfl 36 5 1 _ rfl wr.heap.size rfl (some 17) rfl Tryz.underlying36 #[.int .u8 ((s[i].toNat : Nat) : Int)] (by exact jb1 _) ?_)
        | (at_builtin; refine wpList_append_any _ rfl (.tmp 15) (.tmp 17) 36 rfl w.heap.size 5 i0 _ 1 1 Tryz.underlying36 hi0 hz0 hz1 hz2 rfl (by omega) (.slice A l.length c) l.length (u8s l) rfl HOA.out _ (some ⟨wr.heap.size, 0, none⟩) 1 1 [.int .u8 ((s[i].toNat : Nat) : Int)] rfl HRA.out (by simp [Value.oneCell']) (by simp only [maxLen]; omega) (by omega) HBA.out.size ?_; intro v2 w2 hown2 hg2 _; obtain ⟨A', c', rfl, ho2⟩ := OB.app (m := [((s[i].toNat : Nat) : Int)]) HBA.out HOA.out hown2 hg2; have HO2 := Lib.hid ho2; clear ho2 hown2 hg2))
      go_wp2_with fail
      go_roundw
      case rel => exact ⟨i + 1, A', c', by rw [HX.out]; simp, by go_num, hlt, by rw [HX.out]; exact HO2.out⟩
      case measure => simp [intOf]; omega
    · obtain rfl : i = s.size := by omega
      generalize hm : 34 :: quoL ((txB s).take s.size) = l at *
      clear hm
      have HX := HQ
      have HOA : Hid ((wr.alloc (.cells #[.int .u8 34] 5)).ownsRow w.heap.size 5 1 (.slice A l.length c) l.length (u8s l)) := HO.out.1.alloc _
      have HBA : Hid (Below w.heap.size w (wr.alloc (.cells #[.int .u8 34] 5))) := HO.out.2.alloc HO.out.2.size _
      have HRA := Lib.hid (jl1 wr 34)
      go_wp2_with (first
        | (refine wpList_buildSliceTo rfl 36 5 1 _ rfl wr.heap.size rfl (some 54) rfl Tryz.underlying36 #[.int .u8 34] (by exact jb1 _) ?_)
        | (at_builtin; refine wpList_append_any _ rfl (.tmp 53) (.tmp 54) 36 rfl w.heap.size 5 i0 _ 1 1 Tryz.underlying36 hi0 hz0 hz1 hz2 rfl (by omega) (.slice A l.length c) l.length (u8s l) rfl HOA.out _ (some ⟨wr.heap.size, 0, none⟩) 1 1 [.int .u8 34] rfl HRA.out (by simp [Value.oneCell']) (by simp only [maxLen]; omega) (by omega) HBA.out.size ?_; intro v2 w2 hown2 hg2 _; obtain ⟨A', c', rfl, ho2⟩ := OB.app (m := [34]) HBA.out HOA.out hown2 hg2; have HO2 := Lib.hid ho2; have hcv := conv_row ho2.1; rw [show (l ++ [(34 : Int)]).length = l.length + 1 from by simp] at hcv; clear ho2 hown2 hg2))
      go_ret
      exact ⟨by rw [HX.out]; rfl, HO2.out.2⟩
theorem c_tWords (t : ByteArray) (ht : t.size ≤ 1048576) (w : World) : Calls Tryz.prog 242 #[.string t] w (TxE w (quo t)) := by
  have HI := Lib.hid (c_quoted t ht w)
  clear ht
  unfold TxE nmT at *
  generalize strOfNums (quo t) = S at *
  go_enter Tryz.func242, Tryz.ntmps242
  go_wp2_with fail
  refine HI.out.mono ?_; rintro e w1 ⟨rfl, hb⟩
  have HB := Lib.hid hb
  clear hb
  go_wp2
  go_ret
  exact ⟨rfl, HB.out⟩
end Go.Proofs.YtigbbogfnchgnaaGreatDoor
