/- Walk: bytes of digits of base 16 (word.UnHex), where all are digits and they are even. Conditions: lengths within the reach. -/
import Derived.Test.YtmnkdkibhchglaaGreatDoorTd
namespace Go.Proofs.YtmnkdkibhchglaaGreatDoor
open Go.RowKit
set_option linter.unusedVariables false
attribute [local go_sem ↓] Go.wp_at_zero Go.wp_at_succ

/-- What stands after so many digits. -/
def uhi (s : ByteArray) (i : Nat) : List UInt8 := if i % 2 = 0 then uhk s.data.toList (i / 2) else uhk s.data.toList (i / 2) ++ [UInt8.ofNat (16 * hV (s.data.toList.getD (i - 1) 0).toNat)]
theorem uhi_len (s : ByteArray) (i : Nat) : (uhi s i).length = (i + 1) / 2 := by
  unfold uhi
  split
  · rw [uhk_len]; omega
  · rw [List.length_append, uhk_len]; simp; omega
theorem uhi_even (s : ByteArray) (i : Nat) (h : i < s.size) (he : i % 2 = 0) : uhi s (i + 1) = uhi s i ++ [UInt8.ofNat (16 * hV s[i].toNat)] := by
  unfold uhi
  rw [if_pos he, if_neg (by omega), show (i + 1) / 2 = i / 2 by omega, show i + 1 - 1 = i by omega, getD_at s i h]
theorem uhi_odd (s : ByteArray) (i : Nat) (h : i < s.size) (he : ¬ i % 2 = 0) : (uhi s i).getD (i / 2) 0 = UInt8.ofNat (16 * hV s[i - 1].toNat) ∧ uhi s (i + 1) = (uhi s i).set (i / 2) (UInt8.ofNat (16 * hV s[i - 1].toNat + hV s[i].toNat)) := by
  unfold uhi
  have hl := uhk_len s.data.toList (i / 2)
  rw [if_neg he, if_pos (by omega), show (i + 1) / 2 = i / 2 + 1 by omega, uhv s (i / 2) (by omega), getD_at s (i - 1) (by omega)]
  have e1 : 2 * (i / 2) = i - 1 := by omega
  have e2 : 2 * (i / 2) + 1 = i := by omega
  simp only [e1]
  constructor
  · rw [List.getD, List.getElem?_append_right (by omega), hl]; simp
  · rw [List.set_append_right _ _ (by omega), hl]
    simp only [Nat.sub_self, List.set_cons_zero]
    congr 2
    have : i - 1 + 1 = i := by omega
    simp only [this]
theorem or_dig : ∀ x y : Fin 16, bits BinOp.or .u8 (16 * ((x.val : Nat) : Int)) ((y.val : Nat) : Int) = ((16 * x.val + y.val : Nat) : Int) := by decide
set_option maxRecDepth 100000 in
set_option maxHeartbeats 1000000 in
theorem c_UnHex (s : ByteArray) (hs : s.size ≤ 1000000) (he : s.size % 2 = 0) (hh : ∀ k, (h : k < s.size) → hB s[k].toNat = true) (w : World) :
    Calls Tryz.prog 67 #[.string s] w fun e w' => ∃ A c, e = .returned (.tuple #[.slice A (uhp s.data.toList).length c, .int .i64 0, .int .i64 0]) ∧ OwnB w w' A c (uhp s.data.toList) := by
  obtain ⟨i0, hi0, hz0, hz1, hz2⟩ := info_parts u8_info
  have HD : Hid (∀ k, (h : k < s.size) → ∀ W, Calls Tryz.prog 84 #[.int .u8 (s[k].toNat : Int)] W fun e w' => e = .returned (.tuple #[.int .u8 (hV s[k].toNat : Nat), .bool true]) ∧ W = w') := fun k h W => by
    have := c_wdigit s[k].toNat s[k].toNat_lt W
    rw [hh k h] at this
    exact this.mono fun _ _ ⟨h1, h2⟩ => ⟨h1, h2.symm⟩
  have HV : Hid (∀ i, (h : i < s.size) → i % 2 = 0 → uhi s (i + 1) = uhi s i ++ [UInt8.ofNat (16 * hV s[i].toNat)]) := uhi_even s
  have HV2 : Hid (∀ i, (h : i < s.size) → ¬ i % 2 = 0 → (uhi s i).getD (i / 2) 0 = UInt8.ofNat (16 * hV s[i - 1].toNat) ∧ uhi s (i + 1) = (uhi s i).set (i / 2) (UInt8.ofNat (16 * hV s[i - 1].toNat + hV s[i].toNat))) := uhi_odd s
  have HE : Hid (uhp s.data.toList = uhi s s.size) := by
    show _ = _
    unfold uhi uhp
    rw [if_pos he]; rfl
  clear hh
  go_enter Tryz.func67, Tryz.ntmps67
  go_wp2_with fail
  go_loopw [5, 11] (fun vb vi wr => ∃ (i : Nat) (A : Option Addr) (c : Nat) (l : List UInt8), vb = .slice A l.length c ∧ vi = .int .i64 i ∧ i ≤ s.size ∧ l.length = (i + 1) / 2 ∧ Hid (l = uhi s i) ∧ Hid (OwnB w wr A c l)) (fun _ vi _ => s.size - (intOf vi).toNat)
  case atStart => exact ⟨0, none, 0, [], rfl, rfl, Nat.zero_le _, rfl, rfl, ownB_nil w⟩
  case round =>
    obtain ⟨i, A, c, l, rfl, rfl, hi, hll, HL, HO⟩ := hrel
    have hll2 : l.length ≤ i := by omega
    by_cases hlt : i < s.size
    · have hd := Lib.hid (HD.out i hlt)
      by_cases hev : i % 2 = 0
      · have HX := Lib.hid (HV.out i hlt hev)
        rw [← HL.out] at HX
        have hm : (((i : Int) % 2) == 0) = true := by simp; omega
        have hv1 := hV_lt s[i].toNat
        generalize hV s[i].toNat = x at *
        have hof : (x : Int) * 16 = ((UInt8.ofNat (16 * x)).toNat : Int) := by rw [ofNat_nat (by omega)]; omega
        generalize UInt8.ofNat (16 * x) = z at *
        have HOA : Hid ((wr.alloc (.cells #[.int .u8 (z.toNat : Int)] 5)).ownsRow w.heap.size 5 1 (.slice A l.length c) l.length (bys l)) := HO.out.1.alloc _
        have HBA : Hid (Below w.heap.size w (wr.alloc (.cells #[.int .u8 (z.toNat : Int)] 5))) := HO.out.2.alloc HO.out.2.size _
        have HRA := Lib.hid (reads_lit1 wr (z.toNat : Int))
        have HL1 : Hid (l.length + 1 = (i + 1 + 1) / 2) := by show _ = _; omega
        clear HD HV HV2 HL hev hll
        go_wp2_with (first
          | (go_at_call 84; refine (hd.out _).mono ?_; rintro e w' ⟨rfl, rfl⟩)
          | (refine wpList_buildSliceTo rfl 31 5 1 _ rfl wr.heap.size rfl (some 30) rfl Tryz.underlying31 #[.int .u8 (z.toNat : Int)] (by exact built1 _) ?_)
          | (at_builtin; refine wpList_append_any _ rfl (.tmp 27) (.tmp 30) 31 rfl w.heap.size 5 i0 _ 1 1 Tryz.underlying31 hi0 hz0 hz1 hz2 rfl (by omega) (.slice A l.length c) l.length (bys l) rfl HOA.out _ (some ⟨wr.heap.size, 0, none⟩) 1 1 [.int .u8 (z.toNat : Int)] rfl HRA.out (by simp [Value.oneCell']) (by simp only [maxLen]; omega) (by omega) HBA.out.size ?_; intro v2 w2 hown2 hg2 _; obtain ⟨A', c', rfl, ho2⟩ := ownB_app (m := [z]) HBA.out HOA.out hown2 hg2; have HO2 := Lib.hid ho2; clear ho2 hown2 hg2))
        go_wp2_with fail
        go_roundw
        case rel => exact ⟨i + 1, A', c', l ++ [z], by simp, by go_num, hlt, by rw [List.length_append]; exact HL1.out, HX.out.symm, HO2.out⟩
        case measure => simp [intOf]; omega
      · obtain ⟨hx0, hx1⟩ := HV2.out i hlt hev
        rw [← HL.out] at hx0 hx1
        have HX := Lib.hid hx1
        have hm : (((i : Int) % 2) == 0) = false := by simp; omega
        have hq : (i : Int) / 2 = ((i / 2 : Nat) : Int) := by omega
        have hj : i / 2 < l.length := by omega
        have hv1 := hV_lt s[i].toNat
        have hv2 := hV_lt s[i - 1].toNat
        generalize hV s[i].toNat = y at *
        generalize hV s[i - 1].toNat = x at *
        have hof := ofNat_nat (v := 16 * x + y) (by omega)
        obtain ⟨g, rfl, hg, hc, hf, ho2⟩ := own_setB HO.out.1 (i / 2) hj (UInt8.ofNat (16 * x + y))
        rw [hx0, ofNat_nat (by omega)] at hc
        rw [hof] at ho2
        generalize UInt8.ofNat (16 * x + y) = z at *
        have HL1 : Hid ((l.set (i / 2) z).length = (i + 1 + 1) / 2) := by show _ = _; rw [List.length_set]; omega
        clear HD HV HV2 HL hx0 hx1
        have HO2 := Lib.hid ho2
        clear ho2
        generalize i / 2 = k at *
        clear hev hll
        go_wp2_with (go_at_call 84; refine (hd.out _).mono ?_; rintro e w' ⟨rfl, rfl⟩)
        have hor := or_dig ⟨x, hv2⟩ ⟨y, hv1⟩
        simp only at hor
        rw [hor]
        go_roundw
        case rel => exact ⟨i + 1, some ⟨g, 0, none⟩, c, l.set k z, by simp, by go_num, hlt, HL1.out, HX.out.symm, by rw [List.length_set]; exact HO2.out, HO.out.2.setCell hg _⟩
        case measure => simp [intOf]; omega
    · obtain rfl : i = s.size := by omega
      have hm : ((Int.tmod (s.size : Int) 2) == 1) = false := by
        rw [Int.tmod_eq_emod_of_nonneg (by omega)]
        simp; omega
      rw [← HL.out] at HE
      clear HL
      go_wp2_with fail
      go_ret3
      exact ⟨A, c, by rw [HE.out]; rfl, by rw [HE.out]; exact HO.out⟩
end Go.Proofs.YtmnkdkibhchglaaGreatDoor
