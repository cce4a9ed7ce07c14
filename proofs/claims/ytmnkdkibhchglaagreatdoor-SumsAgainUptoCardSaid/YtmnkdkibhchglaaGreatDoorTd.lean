/- Walks: bytes of digits of base 16 (quernref01.UnHex, word.UnHex, quernref26.bytes), where all are digits and they are even. Conditions: lengths within the reach. -/
import Derived.Test.YtmnkdkibhchglaaGreatDoorTc
namespace Go.Proofs.YtmnkdkibhchglaaGreatDoor
open Go.RowKit
set_option linter.unusedVariables false
attribute [local go_sem ↓] Go.wp_at_zero Go.wp_at_succ

theorem getD_at (s : ByteArray) (k : Nat) (h : k < s.size) : s.data.toList.getD k 0 = s[k] := by
  rw [List.getD, ba_get s k h]; rfl
theorem uhv (s : ByteArray) (k : Nat) (h : 2 * k + 1 < s.size) : uhk s.data.toList (k + 1) = uhk s.data.toList k ++ [UInt8.ofNat (16 * hV s[2 * k].toNat + hV s[2 * k + 1].toNat)] := by
  rw [uhk_succ, getD_at s (2 * k) (by omega), getD_at s (2 * k + 1) h]
theorem ofNat_nat {v : Nat} (h : v < 256) : (((UInt8.ofNat v).toNat : Nat) : Int) = (v : Int) := by simp; omega
set_option maxRecDepth 100000 in
set_option maxHeartbeats 1000000 in
theorem c_rUnHex (s : ByteArray) (hs : s.size ≤ 1000000) (he : s.size % 2 = 0) (hh : ∀ k, (h : k < s.size) → hB s[k].toNat = true) (w : World) :
    Calls Tryz.prog 53 #[.string s] w fun e w' => ∃ A c, e = .returned (.tuple #[.slice A (uhp s.data.toList).length c, .int .i64 0, .int .i64 0]) ∧ OwnB w w' A c (uhp s.data.toList) := by
  obtain ⟨i0, hi0, hz0, hz1, hz2⟩ := info_parts u8_info
  have HD : Hid (∀ k, (h : k < s.size) → ∀ W, Calls Tryz.prog 52 #[.int .u8 (s[k].toNat : Int)] W fun e w' => e = .returned (.int .i64 (hV s[k].toNat : Nat)) ∧ w' = W) := fun k h W => by
    have := c_rDigit s[k].toNat s[k].toNat_lt W
    rwa [if_pos (hh k h)] at this
  have HV : Hid (∀ k, (h : 2 * k + 1 < s.size) → ∀ j, (hj : j = 2 * k) → uhk s.data.toList (k + 1) = uhk s.data.toList k ++ [UInt8.ofNat (16 * hV s[j].toNat + hV s[j + 1].toNat)]) := by intro k h j hj; subst hj; exact uhv s k h
  have HE : Hid (uhp s.data.toList = uhk s.data.toList (s.size / 2)) := rfl
  clear hh
  go_enter Tryz.func53, Tryz.ntmps53
  go_wp2_with fail
  go_loop [5] (fun vi => ∃ i : Nat, vi = .int .i64 i ∧ i ≤ s.size) (fun vi => s.size - (intOf vi).toNat)
  case atStart => exact ⟨0, rfl, Nat.zero_le _⟩
  case round =>
    obtain ⟨i, rfl, hi⟩ := hrel
    by_cases hlt : i < s.size
    · have hd := Lib.hid (HD.out i hlt)
      have h0 : ¬ (hV s[i].toNat : Int) < 0 := by omega
      generalize hV s[i].toNat = v at *
      go_wp2_with (go_at_call 52; refine (hd.out _).mono ?_; rintro e w' ⟨rfl, rfl⟩)
      go_round
      case rel => exact ⟨i + 1, by go_num, hlt⟩
      case measure => simp [intOf]; omega
    · have hm : ((Int.tmod (s.size : Int) 2) == 1) = false := by
        rw [Int.tmod_eq_emod_of_nonneg (by omega)]
        simp; omega
      go_wp2_with fail
      go_loopw [6, 7] (fun vb vi wr => ∃ (k j : Nat) (A : Option Addr) (c : Nat) (l : List UInt8), vb = .slice A l.length c ∧ vi = .int .i64 (j : Int) ∧ j ≤ s.size ∧ Hid (j = 2 * k) ∧ Hid (l.length = k) ∧ Hid (l = uhk s.data.toList k) ∧ Hid (OwnB w wr A c l)) (fun _ vi _ => s.size - (intOf vi).toNat)
      case atStart => exact ⟨0, 0, none, 0, [], rfl, rfl, Nat.zero_le _, rfl, rfl, rfl, ownB_nil w⟩
      case round =>
        obtain ⟨k, j, A, c, l, rfl, rfl, hk, HJ, HN, HL, HO⟩ := hrel
        have hll : l.length ≤ j := by have := HJ.out; have := HN.out; omega
        by_cases hlt2 : j + 1 < s.size
        · have hd1 := Lib.hid (HD.out j (by omega))
          have hd2 := Lib.hid (HD.out (j + 1) hlt2)
          have HX := Lib.hid (HV.out k (by have := HJ.out; omega) j HJ.out)
          have hv1 := hV_lt s[j].toNat
          have hv2 := hV_lt s[j + 1].toNat
          generalize hV s[j].toNat = x at *
          generalize hV s[j + 1].toNat = y at *
          have hof := ofNat_nat (v := 16 * x + y) (by omega)
          have e1 : IntKind.u8.wrap (16 * (x : Int) + (y : Int)) = ((UInt8.ofNat (16 * x + y)).toNat : Int) := by rw [IntKind.wrap_u8, hof]; omega
          generalize UInt8.ofNat (16 * x + y) = z at *
          rw [← HL.out] at HX
          generalize hl2 : uhk s.data.toList (k + 1) = l2 at *
          have HL2 := Lib.hid hl2
          clear HD HV hm hof hl2
          go_wp2_with fail
          have gW : IntKind.i64.wrap ((j : Int) + 1) = (j : Int) + 1 := by rw [IntKind.wrap_i64]; omega
          have gX : IntKind.i64.wrap (16 * (x : Int)) = 16 * (x : Int) := by rw [IntKind.wrap_i64]; omega
          have gY : IntKind.i64.wrap (16 * (x : Int) + (y : Int)) = 16 * (x : Int) + (y : Int) := by rw [IntKind.wrap_i64]; omega
          have HOA : Hid ((wr.drew.alloc (.cells #[.int .u8 (z.toNat : Int)] 5)).ownsRow w.heap.size 5 1 (.slice A l.length c) l.length (bys l)) := HO.out.1.drew.alloc _
          have HBA : Hid (Below w.heap.size w (wr.drew.alloc (.cells #[.int .u8 (z.toNat : Int)] 5))) := HO.out.2.drew.alloc HO.out.2.size _
          have HRA := Lib.hid (reads_lit1 wr.drew (z.toNat : Int))
          go_region_held3 (fun V => True) (first | go_keep | trivial) (first | (go_at_call 52; first | ((with_reducible refine (hd1.out wr.drew).mono ?_); rintro e w' ⟨rfl, rfl⟩) | ((with_reducible refine (hd2.out wr.drew).mono ?_); rintro e w' ⟨rfl, rfl⟩)) | ((refine step_append_any _ rfl (.tmp 33) (.tmp 46) 31 rfl w.heap.size 5 i0 _ 1 1 Tryz.underlying31 hi0 hz0 hz1 hz2 rfl (by omega) (.slice A l.length c) l.length (bys l) (by simp [Act.eval]) HOA.out _ (some ⟨wr.drew.heap.size, 0, none⟩) 1 1 [.int .u8 (z.toNat : Int)] (by simp [Act.eval]) HRA.out (by simp [Value.oneCell']) (by simp only [maxLen]; omega) (by omega) HBA.out.size ?_); intro v2 w2 hown2 hg2 _; obtain ⟨A', c', rfl, ho2⟩ := ownB_app (m := [z]) HBA.out HOA.out hown2 hg2; have HO2 := Lib.hid ho2; clear ho2 hown2 hg2))
          all_goals
            go_wp2_with fail
            go_roundw
            case rel => exact ⟨k + 1, j + 2, A', c', l ++ [z], by simp, by go_num, by omega, (by have := HJ.out; show _ = _; omega), (by have := HN.out; show _ = _; simp [this]), by rw [HL2.out]; exact HX.out.symm, HO2.out⟩
            case measure => simp [intOf]; omega
        · obtain rfl : k = s.size / 2 := by have := HJ.out; omega
          rw [← HL.out] at HE
          go_wp2_with fail
          go_ret3
          exact ⟨A, c, by rw [HE.out]; rfl, by rw [HE.out]; exact HO.out⟩
set_option maxHeartbeats 1000000 in
theorem c_bytes (s : ByteArray) (hs : s.size ≤ 1000000) (he : s.size % 2 = 0) (hh : ∀ k, (h : k < s.size) → hB s[k].toNat = true) (w : World) :
    Calls Tryz.prog 31 #[.string s] w fun e w' => ∃ A c, e = .returned (.slice A (uhp s.data.toList).length c) ∧ OwnB w w' A c (uhp s.data.toList) := by
  have HU := Lib.hid (fun W => c_rUnHex s hs he hh W)
  generalize uhp s.data.toList = l at *
  clear hh he
  go_enter Tryz.func31, Tryz.ntmps31
  go_wp2_with (go_at_call 53; refine (HU.out _).mono ?_; rintro e w1 ⟨A1, c1, rfl, ho1⟩)
  go_ret
  exact ⟨A1, c1, rfl, ho1⟩
theorem own_setB {w : World} {B : Nat} {A : Option Addr} {n c : Nat} {l : List UInt8} (h : w.ownsRow B 5 1 (.slice A n c) n (bys l)) (j : Nat) (hj : j < n) (z : UInt8) :
    ∃ g, A = some ⟨g, 0, none⟩ ∧ B ≤ g ∧ w.cell? ⟨g, j, none⟩ = some (.int .u8 ((l.getD j 0).toNat : Int)) ∧ w.frozen? ⟨g, j, none⟩ = false ∧ (w.setCell ⟨g, j, none⟩ (.int .u8 (z.toNat : Int))).ownsRow B 5 1 (.slice A n c) n (bys (l.set j z)) := by
  obtain ⟨g, cap, hv, hg1, hg2⟩ := own_form h (by omega)
  injection hv with hv _ hv2
  subst hv; subst hv2
  have hl : l.length = n := by have := h.1; simpa using this
  have hc : w.cell? ⟨g, j, none⟩ = some (.int .u8 ((l.getD j 0).toNat : Int)) := by
    rw [h.cellAt j (by omega)]
    simp [List.getD, bys, List.getElem?_eq_getElem (show j < l.length by omega)]
  have h1 := (h.stored j (.int .u8 (z.toNat : Int))).1
  rw [show (bys l).set j (.int .u8 (z.toNat : Int)) = bys (l.set j z) by simp [bys, List.map_set]] at h1
  exact ⟨g, rfl, hg1, hc, h.frozenAt j, h1⟩
end Go.Proofs.YtmnkdkibhchglaaGreatDoor
