/- Walks of a line's reader: how many digits, the digest read, the name taken (reader.digits, digest, name). Conditions: lengths within the reach. -/
import Derived.Test.YtmnkdkibhchglaaGreatDoorTg
namespace Go.Proofs.YtmnkdkibhchglaaGreatDoor
open Go.RowKit
set_option linter.unusedVariables false
attribute [local go_sem ↓] Go.wp_at_zero Go.wp_at_succ

set_option maxRecDepth 100000 in
set_option maxHeartbeats 1000000 in
theorem c_digits (s : ByteArray) (i b : Nat) (mk : Bool) (a : Int) (nm : ByteArray) (D : Option Addr) (n c : Nat) (st : Bool) (w : World) (hB : Blk w b 69 (rdC s i mk a nm D n c st)) (hs : s.size ≤ 1000000) (hi : i ≤ s.size) :
    Calls Tryz.prog 43 #[.pointer (some ⟨b, 0, none⟩)] w fun e w' => e = .returned (.int .i64 (hexN s i : Nat)) ∧ ∃ k, w' = w.drewN k := by
  have c0 : w.cell? ⟨b, 0, none⟩ = some (.string s) := hB.cell 0
  have c1 : w.cell? ⟨b, 1, none⟩ = some (.int .i64 (i : Int)) := hB.cell 1
  clear hB
  have HD : Hid (∀ x : Nat, x < 256 → ∀ W, Calls Tryz.prog 66 #[.int .u8 (x : Int)] W fun e w' => e = .returned (.bool (hB x)) ∧ w' = W) := fun x hx W => c_hex x hx W
  have HS : Hid (∀ n, i + n < s.size → n ≤ hexN s i → (h : i + n < s.size) → hB s[i + n].toNat = true → n + 1 ≤ hexN s i) := fun n h hn h' hb => hexN_go s i n h hn hb
  have HT : Hid (∀ n, n ≤ hexN s i → (h : i + n < s.size) → hB s[i + n].toNat = false → hexN s i = n) := fun n hn h hb => hexN_stop s i n h hn hb
  have HE : Hid (∀ n, s.size ≤ i + n → n ≤ hexN s i → hexN s i = n) := fun n h hn => hexN_end s i n h hn
  generalize hexN s i = N at *
  go_enter Tryz.func43, Tryz.ntmps43
  go_wp2_with fail
  go_loopw [3] (fun vn wr => ∃ n d : Nat, vn = .int .i64 n ∧ i + n ≤ s.size ∧ Hid (n ≤ N) ∧ wr = w.drewN d) (fun vn _ => s.size - (intOf vn).toNat)
  case atStart => exact ⟨0, 0, rfl, hi, Nat.zero_le _, rfl⟩
  case round =>
    obtain ⟨n, d, rfl, hin, HN, rfl⟩ := hrel
    by_cases hlt : i + n < s.size
    · have t1 : (i : Int) + (n : Int) < (s.size : Int) := by omega
      have gA : (0 : Int) ≤ (i : Int) + (n : Int) := by omega
      have gC : ((i : Int) + (n : Int)).toNat = i + n := by omega
      have gD : (0 : Int) ≤ (i : Int) + (n : Int) ∧ (i : Int) + (n : Int) < (s.size : Int) := ⟨gA, t1⟩
      have gW : IntKind.i64.wrap ((i : Int) + (n : Int)) = (i : Int) + (n : Int) := by rw [IntKind.wrap_i64]; omega
      have hx := s[i + n].toNat_lt
      have HH := Lib.hid (HD.out s[i + n].toNat hx)
      by_cases hb : hB s[i + n].toNat = true
      · have HN' := Lib.hid (HS.out n hlt HN.out hlt hb)
        rw [hb] at HH
        clear hb HD HS HT HE
        go_wp2_with fail
        go_quiet ((go_at_call 66; refine (HH.out _).mono ?_; rintro e w'' ⟨rfl, rfl⟩; exact ⟨rfl, _, rfl⟩))
        go_wp2_with fail
        go_roundw
        case rel => exact ⟨n + 1, _, by go_num, by omega, HN'.out, rfl⟩
        case measure => simp [intOf]; omega
      · rw [Bool.not_eq_true] at hb
        have HN' := Lib.hid (HT.out n HN.out hlt hb)
        rw [hb] at HH
        clear hb HD HS HT HE
        go_wp2_with fail
        go_quiet ((go_at_call 66; refine (HH.out _).mono ?_; rintro e w'' ⟨rfl, rfl⟩; exact ⟨rfl, _, rfl⟩))
        go_wp2_with fail
        go_ret
        exact ⟨by rw [HN'.out]; rfl, d + nq, by first | rfl | simp⟩
    · have t1 : decide ((i : Int) + (n : Int) < (s.size : Int)) = false := by rw [decide_eq_false_iff_not]; omega
      have gW : IntKind.i64.wrap ((i : Int) + (n : Int)) = (i : Int) + (n : Int) := by rw [IntKind.wrap_i64]; omega
      have HN' := Lib.hid (HE.out n (by omega) HN.out)
      clear HD HS HT HE
      go_wp2_with fail
      go_quiet (fail)
      go_wp2_with fail
      go_ret
      exact ⟨by rw [HN'.out]; rfl, d + nq, by first | rfl | simp⟩
theorem ext_hex {s : ByteArray} {i n : Nat} (hn : i + n ≤ s.size) (hh : n ≤ hexN s i) : ∀ k, (h : k < (s.extract i (i + n)).size) → hB (s.extract i (i + n))[k].toNat = true := by
  intro k h
  have hsz : (s.extract i (i + n)).size = n := by rw [ByteArray.size_extract]; omega
  have hk : k < cnt hP (s.data.toList.drop i) := by have h2 : hexN s i = cnt hP (s.data.toList.drop i) := rfl; omega
  obtain ⟨c, hc, hp⟩ := cnt_in hk
  rw [drop_get s i k (by omega)] at hc
  cases hc
  rw [ByteArray.getElem_extract]
  exact hp
theorem ext_list (s : ByteArray) (i n : Nat) : (s.extract i (i + n)).data.toList = (s.data.toList.drop i).take n := by
  rw [← toList_data, Lib.extract_toList, show i + n - i = n by omega]
set_option maxRecDepth 100000 in
set_option maxHeartbeats 1000000 in
theorem c_digest (s : ByteArray) (i b m : Nat) (mk : Bool) (a : Int) (nm : ByteArray) (D : Option Addr) (n c : Nat) (st : Bool) (w : World) (hB : Blk w b 69 (rdC s i mk a nm D n c st)) (hs : s.size ≤ 1000000) (hi : i + m ≤ s.size) (hm : m ≤ hexN s i) (he : m % 2 = 0) :
    Calls Tryz.prog 45 #[.pointer (some ⟨b, 0, none⟩), .int .i64 (m : Int)] w fun e w' => e = .returned (.tuple #[]) ∧ w.grownBy w' (some b) ∧ ∃ A c', Blk w' b 69 (rdC s (i + m) mk a nm A (uhp ((s.data.toList.drop i).take m)).length c' st) ∧
      w'.ownsRow w.heap.size 5 1 (.slice A (uhp ((s.data.toList.drop i).take m)).length c') (uhp ((s.data.toList.drop i).take m)).length (bys (uhp ((s.data.toList.drop i).take m))) := by
  have c0 : w.cell? ⟨b, 0, none⟩ = some (.string s) := hB.cell 0
  have c1 : w.cell? ⟨b, 1, none⟩ = some (.int .i64 (i : Int)) := hB.cell 1
  have hlt := hB.lt
  have HK := Lib.hid hB
  clear hB
  have hsz : (s.extract i (i + m)).size = m := by rw [ByteArray.size_extract]; omega
  have hU := fun W => c_UnHex (s.extract i (i + m)) (by omega) (by omega) (ext_hex hi hm) W
  rw [ext_list] at hU
  have HU := Lib.hid hU
  clear hU hm hsz
  generalize uhp ((s.data.toList.drop i).take m) = l at *
  have t1 : (i : Int) + (m : Int) ≤ (s.size : Int) := by omega
  have gW : IntKind.i64.wrap ((i : Int) + (m : Int)) = (i : Int) + (m : Int) := by rw [IntKind.wrap_i64]; omega
  have g1 : (0 : Int) ≤ (i : Int) := by omega
  have g2 : (0 : Int) ≤ (m : Int) := by omega
  have g3 : (i : Int) ≤ (i : Int) + (m : Int) := by omega
  have g4 : (0 : Int) ≤ (i : Int) + (m : Int) := by omega
  go_enter Tryz.func45, Tryz.ntmps45
  go_wp2_with fail
  go_region_held3 (fun V => V.cell? ⟨b, 0, none⟩ = some (.string s) ∧ V.cell? ⟨b, 1, none⟩ = some (.int .i64 (i : Int))) (go_keep) ((go_at_call 67; refine (HU.out w.drew).mono ?_; rintro e w1 ⟨A1, c1', rfl, ho1⟩; have HO1 := Lib.hid ho1; have HK1 : Hid (Blk w1 b 69 (rdC s i mk a nm D n c st)) := HK.out.drew.below ho1.2 hlt; clear ho1; have k0 := HK1.out.cell 0; have k1 := HK1.out.cell 1; have k5 := HK1.out.cell 5; have f5 := HK1.out.frozen 5; have q0 : (w1.setCell ⟨b, 5, none⟩ (.slice A1 l.length c1')).cell? ⟨b, 0, none⟩ = some (.string s) := (HK1.out.set_ 5 _).cell 0; have q1 : (w1.setCell ⟨b, 5, none⟩ (.slice A1 l.length c1')).cell? ⟨b, 1, none⟩ = some (.int .i64 (i : Int)) := (HK1.out.set_ 5 _).cell 1))
  rename _ ∧ _ => hh
  clear hh q0 q1 k0 k1 k5 f5 c0 c1
  have HK2 : Hid (Blk (w1.setCell ⟨b, 5, none⟩ (.slice A1 l.length c1')) b 69 (rdC s i mk a nm A1 l.length c1' st)) := HK1.out.set_ 5 _
  have HO2 : Hid ((w1.setCell ⟨b, 5, none⟩ (.slice A1 l.length c1')).ownsRow w.heap.size 5 1 (.slice A1 l.length c1') l.length (bys l)) := own_far HO1.out.1 (grown_setCell w1 b 5 _) hlt
  have HG2 : Hid (w.grownBy (w1.setCell ⟨b, 5, none⟩ (.slice A1 l.length c1')) (some b)) := only_setCell (only_of_below (a := w) ⟨HO1.out.2.os, HO1.out.2.tape, HO1.out.2.output, HO1.out.2.size, HO1.out.2.block⟩ _) (.inl rfl) _
  clear HK HK1 HO1 HU
  generalize w1.setCell ⟨b, 5, none⟩ (.slice A1 l.length c1') = w2 at *
  have k1 := HK2.out.cell 1
  have f1 := HK2.out.frozen 1
  go_wp2_with fail
  go_end0
  exact ⟨rfl, only_setCell HG2.out (.inl rfl) _, A1, c1', HK2.out.set_ 1 _, own_far HO2.out (grown_setCell w2 b 1 _) hlt⟩
theorem un_file {t : ByteArray} (h : unE t = 0) : fileB (unN t) = true := by
  unfold unE at h
  unfold unN
  cases hu : uneAt t 0 [] with
  | inr i => rw [hu] at h; cases h
  | inl l =>
    rw [hu] at h
    dsimp only at h ⊢
    by_cases hf : fileB l = true
    · rw [if_pos hf]; exact hf
    · rw [if_neg hf] at h; cases h
theorem nmS_file {mk : Bool} {t : ByteArray} {y : List UInt8} (h : nmS mk t = some y) : fileB y = true := by
  cases mk with
  | true =>
    have e : nmS true t = if unE t = 0 then some (unN t) else none := rfl
    rw [e] at h
    by_cases h0 : unE t = 0
    · rw [if_pos h0] at h; cases h; exact un_file h0
    · rw [if_neg h0] at h; cases h
  | false =>
    have e : nmS false t = if fileB t.data.toList then some t.data.toList else none := rfl
    rw [e] at h
    by_cases h0 : fileB t.data.toList = true
    · rw [if_pos h0] at h; cases h; exact h0
    · rw [if_neg h0] at h; cases h
set_option maxRecDepth 100000 in
set_option maxHeartbeats 1000000 in
theorem c_name (s t : ByteArray) (i b j : Nat) (mk : Bool) (a : Int) (nm : ByteArray) (D : Option Addr) (n c : Nat) (st : Bool) (w : World) (hB : Blk w b 69 (rdC s i mk a nm D n c st)) (hs : t.size ≤ 1000000) :
    Calls Tryz.prog 47 #[.pointer (some ⟨b, 0, none⟩), .int .i64 (j : Int), .string t] w fun e w' => ∃ x, e = .returned x ∧ w.grownBy w' (some b) ∧ (∃ nm', Blk w' b 69 (rdC s i mk a nm' D n c st)) ∧
      ((∃ y, nmS mk t = some y ∧ x = .nilIface ∧ Blk w' b 69 (rdC s i mk a ⟨y.toArray⟩ D n c st)) ∨ (nmS mk t = none ∧ FltE w' w.heap.size x j)) := by
  have k2 := hB.cell 2
  have k4 := hB.cell 4
  have f4 := hB.frozen 4
  have HK := Lib.hid hB
  have HBD := Lib.hid (fun W => c_bad b j W)
  have HK1 : Hid (Blk (w.setCell ⟨b, 4, none⟩ (.string t)) b 69 (rdC s i mk a t D n c st)) := hB.set_ 4 _
  have HG1 : Hid (w.grownBy (w.setCell ⟨b, 4, none⟩ (.string t)) (some b)) := only_setCell (World.grownBy.refl w _) (.inl rfl) _
  have hsz1 : (w.setCell ⟨b, 4, none⟩ (.string t)).heap.size = w.heap.size := by simp [World.setCell]
  clear hB
  cases mk with
  | true =>
    have HU := Lib.hid (fun W => c_Unescape t (by omega) W)
    have HN : Hid (nmS true t = if unE t = 0 then some (unN t) else none) := rfl
    by_cases h0 : unE t = 0
    · rw [if_pos h0] at HN
      have HFN : Hid (∀ W, Calls Tryz.prog 56 #[.string ⟨(unN t).toArray⟩] W fun e w' => e = .returned (.bool true) ∧ Below W.heap.size W w') := fun W => by
        have hf := un_file h0
        have h1 : (⟨(unN t).toArray⟩ : ByteArray).size ≤ 140737488351232 := by
          have := fileB_le (s := ⟨(unN t).toArray⟩) (by rw [ba_mk]; exact hf)
          omega
        have := c_named ⟨(unN t).toArray⟩ h1 W
        rw [ba_mk, hf] at this
        exact this
      rw [h0] at HU
      clear h0
      generalize unN t = y at *
      generalize nmS true t = nn at *
      go_enter Tryz.func47, Tryz.ntmps47
      go_wp2_with fail
      refine (HU.out _).mono ?_
      rintro e w2 ⟨rfl, hb2⟩
      have HK2 : Hid (Blk w2 b 69 (rdC s i true a t D n c st)) := HK1.out.below hb2 HK1.out.lt
      have HG2 : Hid (w.grownBy w2 (some b)) := Lib.grownBy_below HG1.out hb2
      have HK3 : Hid (Blk (w2.setCell ⟨b, 4, none⟩ (.string ⟨y.toArray⟩)) b 69 (rdC s i true a ⟨y.toArray⟩ D n c st)) := HK2.out.set_ 4 _
      have HG3 : Hid (w.grownBy (w2.setCell ⟨b, 4, none⟩ (.string ⟨y.toArray⟩)) (some b)) := only_setCell HG2.out (.inl rfl) _
      have l4 := HK2.out.cell 4
      have g4 := HK2.out.frozen 4
      have m4 := HK3.out.cell 4
      clear hb2 HK2 HG2 HK1 HG1 HK k2 k4 f4 hsz1 HBD
      go_wp2_with fail
      refine (HFN.out _).mono ?_
      rintro e w4 ⟨rfl, hb4⟩
      have HK4 : Hid (Blk w4 b 69 (rdC s i true a ⟨y.toArray⟩ D n c st)) := HK3.out.below hb4 HK3.out.lt
      have HG4 : Hid (w.grownBy w4 (some b)) := Lib.grownBy_below HG3.out hb4
      clear hb4 HK3 HG3 l4 g4 m4
      go_wp2_with fail
      go_ret
      exact ⟨_, rfl, HG4.out, ⟨_, HK4.out⟩, .inl ⟨y, HN.out, rfl, HK4.out⟩⟩
    · rw [if_neg h0] at HN
      have h1 : (unE t != 0) = true := by simpa using h0
      clear h0
      generalize unN t = y at *
      generalize unE t = ee at *
      generalize nmS true t = nn at *
      go_enter Tryz.func47, Tryz.ntmps47
      go_wp2_with fail
      refine (HU.out _).mono ?_
      rintro e w2 ⟨rfl, hb2⟩
      have hsz2 : w.heap.size ≤ w2.heap.size := by rw [← hsz1]; exact hb2.size
      have HG2 : Hid (w.grownBy w2 (some b)) := Lib.grownBy_below HG1.out hb2
      have HK2 : Hid (Blk w2 b 69 (rdC s i true a t D n c st)) := HK1.out.below hb2 HK1.out.lt
      clear hb2 HK1 HG1 HK k2 k4 f4 hsz1
      go_wp2_with fail
      refine (HBD.out _).mono ?_
      rintro e w4 ⟨x, rfl, hx, hb4⟩
      have HX : Hid (FltE w4 w.heap.size x j) := by
        obtain ⟨F, e1, e2, e3⟩ := hx
        exact ⟨F, e1, by omega, e3⟩
      have HG4 : Hid (w.grownBy w4 (some b)) := Lib.grownBy_below HG2.out hb4
      have HK4 := Lib.hid (HK2.out.below hb4 HK2.out.lt)
      clear hb4 hx HG2 HK2
      go_wp2_with fail
      go_ret
      exact ⟨_, rfl, HG4.out, ⟨t, HK4.out⟩, .inr ⟨HN.out, HX.out⟩⟩
  | false =>
    have HN : Hid (nmS false t = if fileB t.data.toList then some t.data.toList else none) := rfl
    have HFN := Lib.hid (fun W => c_named t (by omega) W)
    have m4 := HK1.out.cell 4
    have m2 := HK1.out.cell 2
    by_cases hf : fileB t.data.toList = true
    · rw [if_pos hf] at HN
      rw [hf] at HFN
      clear hf
      generalize nmS false t = nn at *
      go_enter Tryz.func47, Tryz.ntmps47
      go_wp2_with fail
      refine (HFN.out _).mono ?_
      rintro e w4 ⟨rfl, hb4⟩
      have HK4 : Hid (Blk w4 b 69 (rdC s i false a t D n c st)) := HK1.out.below hb4 HK1.out.lt
      have HG4 : Hid (w.grownBy w4 (some b)) := Lib.grownBy_below HG1.out hb4
      clear hb4 HK1 HG1 m4 m2 HK k2 k4 f4 hsz1
      go_wp2_with fail
      go_ret
      exact ⟨_, rfl, HG4.out, ⟨_, HK4.out⟩, .inl ⟨t.data.toList, HN.out, rfl, by rw [str_self]; exact HK4.out⟩⟩
    · rw [if_neg hf] at HN
      rw [Bool.eq_false_iff.2 hf] at HFN
      clear hf
      generalize nmS false t = nn at *
      go_enter Tryz.func47, Tryz.ntmps47
      go_wp2_with fail
      refine (HFN.out _).mono ?_
      rintro e w2 ⟨rfl, hb2⟩
      have hsz2 : w.heap.size ≤ w2.heap.size := by rw [← hsz1]; exact hb2.size
      have HG2 : Hid (w.grownBy w2 (some b)) := Lib.grownBy_below HG1.out hb2
      have HK2 : Hid (Blk w2 b 69 (rdC s i false a t D n c st)) := HK1.out.below hb2 HK1.out.lt
      clear hb2 HK1 HG1 m4 m2 HK k2 k4 f4 hsz1
      go_wp2_with fail
      refine (HBD.out _).mono ?_
      rintro e w4 ⟨x, rfl, hx, hb4⟩
      have HX : Hid (FltE w4 w.heap.size x j) := by
        obtain ⟨F, e1, e2, e3⟩ := hx
        exact ⟨F, e1, by omega, e3⟩
      have HG4 : Hid (w.grownBy w4 (some b)) := Lib.grownBy_below HG2.out hb4
      have HK4 := Lib.hid (HK2.out.below hb4 HK2.out.lt)
      clear hb4 hx HG2 HK2
      go_wp2_with fail
      go_ret
      exact ⟨_, rfl, HG4.out, ⟨t, HK4.out⟩, .inr ⟨HN.out, HX.out⟩⟩
end Go.Proofs.YtmnkdkibhchglaaGreatDoor
