/- Walks: parts of a float's text: strings.Cut at the letter, strings.Replace of one point, strconv.Atoi of the exponent, strings.Repeat of noughts, strconv.Itoa. Conditions: as stated. -/
import Derived.Test.YthoifpapdefheaaGreatDoorXn
import Derived.Test.YthoifpapdefheaaGreatDoorLg
import Derived.Test.YthoifpapdefheaaGreatDoorLv
import Derived.BigQuiet
import Derived.Lib.AtoiErrMem
namespace Go.Proofs.YthoifpapdefheaaGreatDoor
open Go.RowKit Go.Shelf Go.Sort
set_option linter.unusedVariables false
attribute [local go_sem ↓] Go.wp_at_zero Go.wp_at_succ

theorem c_IdxB (T : ByteArray) (ch : UInt8) (k : Int) (h : Lib.indexByte T.data.toList ch = k) (w : World) : Calls Tryz.prog 44 #[.string T, .string ⟨#[ch]⟩] w fun e w' => e = .returned (.int .i64 k) ∧ w = w' :=
  (Any.stringslite_Index_one lays219 T ch w).mono fun e w' ⟨h1, h2⟩ => ⟨by rw [h1, h], h2.symm⟩
theorem c_CutAt (T a b : ByteArray) (k : Nat) (hI : Lib.indexByte T.data.toList 101 = (k : Int)) (hk : k + 1 ≤ T.size) (hn : T.size ≤ 1000) (h1 : T.extract 0 k = a) (h2 : T.extract (k + 1) T.size = b) (w : World) :
    Calls Tryz.prog 9 #[.string T, .string ⟨#[101]⟩] w fun e w' => e = .returned (.tuple #[.string a, .string b, .bool true]) ∧ Below w.heap.size w w' := by
  have HI := Lib.hid (c_IdxB T 101 (k : Int) hI)
  have HS1 := Lib.hid h1
  have HS2 := Lib.hid h2
  have g1 : (k : Int) + 1 ≤ (T.size : Int) := by omega
  have g2 : (k : Int) ≤ (T.size : Int) := by omega
  clear hI h1 h2 hk
  have HC : Hid (∀ W, Calls Tryz.prog 21 #[.string T, .string ⟨#[101]⟩] W fun e w' => e = .returned (.tuple #[.string a, .string b, .bool true]) ∧ Below W.heap.size W w') := fun W => by
    go_enter Tryz.func21, Tryz.ntmps21
    go_wp2_with (go_at_call 44; refine (HI.out _).mono ?_; rintro e w' ⟨rfl, rfl⟩)
    go_quiet (fail)
    go_wp2_with fail
    go_ret3
    exact ⟨by show Ending.returned (.tuple #[.string (T.extract 0 k), .string (T.extract (k + 1) T.size), .bool true]) = _; rw [HS1.out, HS2.out], below_drewN (Below.refl _ _) _⟩
  go_enter Tryz.func9, Tryz.ntmps9
  go_wp2_with (go_at_call 21; refine (HC.out _).mono ?_; rintro e w1 ⟨rfl, hb⟩)
  go_ret3
  exact ⟨rfl, hb⟩
theorem c_Rep0P (T : ByteArray) (hc : Lib.countByte T.data.toList 46 = 0) (w : World) : Calls Tryz.prog 11 #[.string T, .string ⟨#[46]⟩, .string ⟨#[]⟩, .int .i64 1] w fun e w' => e = .returned (.string T) ∧ w = w' := by
  have HI : Hid (∀ W, Calls Tryz.prog 24 #[.string T, .string ⟨#[46]⟩] W fun e w' => e = .returned (.int .i64 0) ∧ W = w') := fun W =>
    (Any.strings_Count_one lays138 T 46 W).mono fun e w' ⟨h1, h2⟩ => ⟨by rw [h1, hc]; rfl, h2.symm⟩
  clear hc
  go_enter Tryz.func11, Tryz.ntmps11
  go_wp2_with fail
  refine (HI.out _).mono ?_; rintro e w' ⟨rfl, rfl⟩
  go_wp2
  go_ret
  exact ⟨rfl, rfl⟩
set_option maxHeartbeats 1000000 in
theorem c_Rep1P (T : ByteArray) (l1 l2 : List UInt8) (hc : Lib.countByte T.data.toList 46 = 1) (hi : Lib.indexByte T.data.toList 46 = 1) (h2 : 2 ≤ T.size) (hn : T.size ≤ 1000) (e0 : T.extract 0 T.size = T) (e1 : T.extract 0 1 = ⟨l1.toArray⟩) (e2 : T.extract 2 T.size = ⟨l2.toArray⟩) (n1 : l1.length = 1) (n2 : l2.length ≤ 1000) (w : World) :
    Calls Tryz.prog 11 #[.string T, .string ⟨#[46]⟩, .string ⟨#[]⟩, .int .i64 1] w fun e w' => e = .returned (bstr (l1 ++ l2)) ∧ Below w.heap.size w w' := by
  have HI : Hid (∀ W, Calls Tryz.prog 24 #[.string T, .string ⟨#[46]⟩] W fun e w' => e = .returned (.int .i64 1) ∧ W = w') := fun W =>
    (Any.strings_Count_one lays138 T 46 W).mono fun e w' ⟨h1, h2⟩ => ⟨by rw [h1, hc]; rfl, h2.symm⟩
  have HX : Hid (∀ W, Calls Tryz.prog 26 #[.string T, .string ⟨#[46]⟩] W fun e w' => e = .returned (.int .i64 1) ∧ W = w') := fun W => by
    have HJ := Lib.hid (c_IdxB T 46 1 hi)
    clear e0 e1 e2
    go_enter Tryz.func26, Tryz.ntmps26
    go_wp2_with (go_at_call 44; refine (HJ.out _).mono ?_; rintro e w' ⟨rfl, rfl⟩)
    go_ret
    exact ⟨rfl, rfl⟩
  obtain ⟨n, hsz⟩ : ∃ n, T.size = n + 2 := ⟨T.size - 2, by omega⟩
  have HGr := Lib.hid (fun W (hW : W.heap[w.heap.size]? = some (.cells #[.pointer none, .slice none 0 0] 51 (0, 0))) (hb : w.heap.size ≤ W.heap.size) => c_BGrow w.heap.size w.heap.size (n + 1) W (Nat.le_refl _) hW hb (by omega))
  have HE1 := Lib.hid e1
  have HE2 := Lib.hid e2
  have hnI : (T.size : Int) = (n : Int) + 2 := by omega
  have hn1k : (n : Int) ≤ 998 := by omega
  have HN : Hid (n1 = n1) := rfl
  have h1n := Lib.hid n1
  have h2n := Lib.hid n2
  clear hc hi h2 hn e1 e2 n1 n2 HN hsz
  go_enter Tryz.func11, Tryz.ntmps11
  go_wp2_with fail
  refine (HI.out _).mono ?_; rintro e w' ⟨rfl, rfl⟩
  go_wp2_with fail
  rw [show (n : Int) + 2 + -1 = ((n + 1 : Nat) : Int) from by omega]
  refine (HGr.out _ (heap_alloc_new w _) (((Below.refl w.heap.size w).alloc (Nat.le_refl _) _).size)).mono ?_; rintro e w1 ⟨rfl, hb0, hb1⟩
  have HB1 := Lib.hid (((Below.refl w.heap.size w).alloc (Nat.le_refl _) (.cells #[.pointer none, .slice none 0 0] 51)).trans hb1)
  have H1 := Lib.hid hb0
  clear hb0 hb1 HGr HI
  have HW1 : Hid (∀ W, IsB w.heap.size w.heap.size [] W → w.heap.size ≤ W.heap.size → Calls Tryz.prog 27 #[.pointer (some ⟨w.heap.size, 0, none⟩), .string (T.extract 0 1)] W fun e w' => e = .returned (.tuple #[.int .i64 1, .nilIface]) ∧ IsB w.heap.size w.heap.size l1 w' ∧ Below w.heap.size W w') := fun W hW hB => by
    rw [HE1.out]
    have := c_BWS w.heap.size w.heap.size [] l1 W hW (by rw [h1n.out]; decide) hB
    rwa [h1n.out] at this
  have HW2 : Hid (∀ W, IsB w.heap.size w.heap.size l1 W → w.heap.size ≤ W.heap.size → Calls Tryz.prog 27 #[.pointer (some ⟨w.heap.size, 0, none⟩), .string ⟨#[]⟩] W fun e w' => e = .returned (.tuple #[.int .i64 0, .nilIface]) ∧ IsB w.heap.size w.heap.size l1 w' ∧ Below w.heap.size W w') := fun W hW hB => by
    have := c_BWS w.heap.size w.heap.size l1 [] W hW (by rw [h1n.out]; decide) hB
    rwa [List.append_nil] at this
  have HW3 : Hid (∀ W, IsB w.heap.size w.heap.size l1 W → w.heap.size ≤ W.heap.size → Calls Tryz.prog 27 #[.pointer (some ⟨w.heap.size, 0, none⟩), .string (T.extract 2 T.size)] W fun e w' => e = .returned (.tuple #[.int .i64 (l2.length : Nat), .nilIface]) ∧ IsB w.heap.size w.heap.size (l1 ++ l2) w' ∧ Below w.heap.size W w') := fun W hW hB => by
    rw [HE2.out]
    exact c_BWS w.heap.size w.heap.size l1 l2 W hW (by rw [h1n.out]; have := h2n.out; omega) hB
  have HWS : Hid (∀ W, IsB w.heap.size w.heap.size (l1 ++ l2) W → w.heap.size ≤ W.heap.size → Calls Tryz.prog 29 #[.pointer (some ⟨w.heap.size, 0, none⟩)] W fun e w' => e = .returned (bstr (l1 ++ l2)) ∧ Below w.heap.size W w') := fun W hW hB => c_BStr w.heap.size w.heap.size (l1 ++ l2) W hW hB
  clear HE1 HE2 h1n h2n
  go_wp2_with fail
  go_loopw [11, 53] (fun s i wr => ((s = .int .i64 0 ∧ i = .int .i64 0 ∧ Hid (IsB w.heap.size w.heap.size [] wr)) ∨ (s = .int .i64 2 ∧ i = .int .i64 1 ∧ Hid (IsB w.heap.size w.heap.size l1 wr))) ∧ Hid (Below w.heap.size w wr)) (fun _ i _ => (1 - intOf i).toNat)
  case atStart => exact ⟨.inl ⟨rfl, rfl, H1⟩, HB1⟩
  case round =>
    clear H1 HB1
    obtain ⟨⟨rfl, rfl, HB⟩ | ⟨rfl, rfl, HB⟩, HW⟩ := hrel
    · go_wp2_with fail
      refine (HX.out _).mono ?_; rintro e w' ⟨rfl, rfl⟩
      go_wp2_with fail
      refine (HW1.out _ HB.out HW.out.size).mono ?_; rintro e w2 ⟨rfl, h2, hb2⟩
      have HBa := Lib.hid h2
      have HWa := Lib.hid (HW.out.trans hb2)
      clear h2 hb2
      go_wp2_with fail
      refine (HW2.out _ HBa.out HWa.out.size).mono ?_; rintro e w3 ⟨rfl, h3, hb3⟩
      have HBb := Lib.hid h3
      have HWb := Lib.hid (HWa.out.trans hb3)
      clear h3 hb3
      go_wp2_with fail
      go_roundw
      case rel => exact ⟨.inr ⟨by first | rfl | simp, by first | rfl | simp, HBb⟩, HWb⟩
      case measure => first | (simp [intOf]; done) | (simp [intOf]; omega)
    · have g2 : (2 : Int) ≤ (n : Int) + 2 := by omega
      go_wp2_with fail
      refine (HW3.out _ HB.out HW.out.size).mono ?_; rintro e w2 ⟨rfl, h2, hb2⟩
      have HBa := Lib.hid h2
      have HWa := Lib.hid (HW.out.trans hb2)
      clear h2 hb2
      go_wp2_with fail
      refine (HWS.out _ HBa.out HWa.out.size).mono ?_; rintro e w3 ⟨rfl, hb3⟩
      have HWb := Lib.hid (HWa.out.trans hb3)
      clear hb3
      go_wp2
      go_ret
      exact ⟨rfl, HWb.out⟩
theorem c_AtoiX (x : Int) (h1 : -400 ≤ x) (h2 : x ≤ 400) (w : World) : Calls Tryz.prog 10 #[bstr (expT x)] w fun e w' => e = .returned (.tuple #[.int .i64 x, .nilIface]) ∧ Below w.heap.size w w' := by
  obtain ⟨ha, hl⟩ := expT_atoi h1 h2
  refine (Any.strconv_Atoi lays172 ⟨(expT x).toArray⟩ x (by show (expT x).length ≤ 18; omega) ha w).mono ?_
  rintro e w' ⟨rfl, t, rfl⟩
  exact ⟨rfl, Lib.bytesWorld_below _ _ _⟩
theorem laysVX : Builder.Extra Tryz.prog lrenLv where
  sizeBuilder := by kernel_rfl
  liesBuilder := by kernel_rfl
  t5 := by kernel_rfl
  a5 := by intro w; kernel_rfl
  z5 := by intro w; kernel_rfl
  v5 := by intro w; kernel_rfl
  infoByte := by kernel_rfl
  cellsByte := by kernel_rfl
  sizeByte := by kernel_rfl
  neB5 := by decide
theorem c_Rep48 (c : Nat) (hc : c ≤ 1000) (w : World) : Calls Tryz.prog 13 #[.string ⟨#[48]⟩, .int .i64 (c : Int)] w fun e w' => e = .returned (bstr (List.replicate c 48)) ∧ Below w.heap.size w w' := by
  rcases Nat.lt_or_ge c 2 with h | h
  · rcases (by omega : c = 0 ∨ c = 1) with rfl | rfl
    · exact (Any.strings_Repeat_zero lays105 ⟨#[48]⟩ w).mono fun e w' ⟨h1, h2⟩ => ⟨h1, h2 ▸ Below.refl _ _⟩
    · exact (Any.strings_Repeat_one lays105 ⟨#[48]⟩ w).mono fun e w' ⟨h1, h2⟩ => ⟨h1, h2 ▸ Below.refl _ _⟩
  · refine (Any.strings_Repeat_main lays105 laysVX ⟨#[48]⟩ c w h (by omega) (by show 1 * c ≤ _; omega) (by decide)).mono fun e w' ⟨h1, h2⟩ => ⟨?_, h2⟩
    rw [h1]
    show Ending.returned (.string ⟨(Lib.repeatL [48] c).toArray⟩) = _
    rw [repeat48]
theorem below_grow (w : World) (k : Nat) (os : Array Obj) : RowKit.Below w.heap.size w (grow (w.drewN k) os) :=
  ⟨rfl, rfl, rfl, by simp [grow, World.drewN], fun i hi => heap_grow_old w os hi⟩
theorem c_ItoaX (x : Int) (h1 : -400 ≤ x) (h2 : x ≤ 400) (w : World) (ht : TabS w) : Calls Tryz.prog 12 #[.int .i64 x] w fun e w' => e = .returned (bstr (Lib.itoa x)) ∧ Below w.heap.size w w' :=
  (Any.strconv_Itoa lays171 x (by omega) (by omega) w ht.tab).mono fun e w' ⟨he, k, os, hw⟩ => by
    subst hw
    exact ⟨he, below_grow w k os⟩
end Go.Proofs.YthoifpapdefheaaGreatDoor
