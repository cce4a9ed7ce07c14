/- Walks of the reference: does a word stand at a place, how many digits of base 16, the name that a text says (quernref26.begins, hexes, name). Conditions: lengths within the reach. -/
import Derived.Test.YtmnkdkibhchglaaGreatDoorTb
namespace Go.Proofs.YtmnkdkibhchglaaGreatDoor
open Go.RowKit
set_option linter.unusedVariables false
attribute [local go_sem ↓] Go.wp_at_zero Go.wp_at_succ

/-- Does a word stand at a place? -/
def begB (s : ByteArray) (i : Nat) (p : List UInt8) : Bool := p.isPrefixOf (s.data.toList.drop i)
theorem beg_in {s p : ByteArray} {i : Nat} (h : i + p.size ≤ s.size) : ((s.extract i (i + p.size)).toList == p.toList) = begB s i p.data.toList := by
  rw [Lib.extract_toList, toList_data, begB]
  have e : i + p.size - i = p.data.toList.length := by show _ = p.size; omega
  have hl : p.data.toList.length ≤ (s.data.toList.drop i).length := by
    rw [List.length_drop]; show p.size ≤ s.size - i; omega
  rw [e]
  have := Lib.hasPrefix_of_take (s.data.toList.drop i) p.data.toList
  rw [decide_eq_true hl, Bool.true_and] at this
  exact this
theorem beg_out {s p : ByteArray} {i : Nat} (h : s.size < i + p.size) (hi : i ≤ s.size) : begB s i p.data.toList = false := by
  rw [Bool.eq_false_iff]
  intro hb
  have := (List.isPrefixOf_iff_prefix.1 hb).length_le
  rw [List.length_drop] at this
  have h1 : p.data.toList.length = p.size := rfl
  have h2 : s.data.toList.length = s.size := rfl
  omega
theorem c_begins (s p : ByteArray) (i : Nat) (hs : s.size ≤ 1000000) (hp : p.size ≤ 1000000) (hi : i ≤ s.size) (w : World) :
    Calls Tryz.prog 26 #[.string s, .int .i64 i, .string p] w fun e w' => e = .returned (.bool (begB s i p.data.toList)) ∧ w' = w := by
  by_cases h : i + p.size ≤ s.size
  · have HB := Lib.hid (beg_in h)
    have h1 : (p.size : Int) ≤ (s.size : Int) - (i : Int) := by omega
    generalize begB s i p.data.toList = r at *
    go_enter Tryz.func26, Tryz.ntmps26
    go_wp2_with fail
    go_ret
    exact ⟨by rw [← HB.out]; rfl, rfl⟩
  · have HB := Lib.hid (beg_out (s := s) (p := p) (i := i) (by omega) hi)
    have h1 : ¬ (p.size : Int) ≤ (s.size : Int) - (i : Int) := by omega
    generalize begB s i p.data.toList = r at *
    go_enter Tryz.func26, Tryz.ntmps26
    go_wp2_with fail
    go_ret
    exact ⟨by rw [HB.out]; rfl, rfl⟩
theorem hexN_lt {s : ByteArray} {i n : Nat} (h : n < hexN s i) : i + n < s.size := by have := hexN_le s i; omega
theorem c_hexes (s : ByteArray) (i : Nat) (hs : s.size ≤ 1000000) (hi : i ≤ s.size) (w : World) :
    Calls Tryz.prog 30 #[.string s, .int .i64 i] w fun e w' => e = .returned (.int .i64 (hexN s i : Nat)) ∧ w' = w := by
  have HD : Hid (∀ x : Nat, x < 256 → ∀ W, Calls Tryz.prog 52 #[.int .u8 (x : Int)] W fun e w' => e = .returned (.int .i64 (if hB x = true then (hV x : Int) else -1)) ∧ w' = W) := fun x hx W => c_rDigit x hx W
  have HS : Hid (∀ n, i + n < s.size → n ≤ hexN s i → (h : i + n < s.size) → hB s[i + n].toNat = true → n + 1 ≤ hexN s i) := fun n h hn h' hb => hexN_go s i n h hn hb
  have HT : Hid (∀ n, n ≤ hexN s i → (h : i + n < s.size) → hB s[i + n].toNat = false → hexN s i = n) := fun n hn h hb => hexN_stop s i n h hn hb
  have HE : Hid (∀ n, s.size ≤ i + n → n ≤ hexN s i → hexN s i = n) := fun n h hn => hexN_end s i n h hn
  generalize hexN s i = N at *
  go_enter Tryz.func30, Tryz.ntmps30
  go_wp2_with fail
  go_loop [5] (fun vn => ∃ n : Nat, vn = .int .i64 n ∧ i + n ≤ s.size ∧ Hid (n ≤ N)) (fun vn => s.size - (intOf vn).toNat)
  case atStart => exact ⟨0, rfl, hi, Nat.zero_le _⟩
  case round =>
    obtain ⟨n, rfl, hin, HN⟩ := hrel
    by_cases hlt : i + n < s.size
    · have t1 : (i : Int) + (n : Int) < (s.size : Int) := by omega
      have hx := s[i + n].toNat_lt
      by_cases hb : hB s[i + n].toNat = true
      · have HD' : Hid (∀ W, Calls Tryz.prog 52 #[.int .u8 (s[i + n].toNat : Int)] W fun e w' => e = .returned (.int .i64 (hV s[i + n].toNat : Int)) ∧ w' = W) := fun W => by
          have := HD.out s[i + n].toNat hx W
          rwa [if_pos hb] at this
        have HN' := Lib.hid (HS.out n hlt HN.out hlt hb)
        have h0 : (0 : Int) ≤ (hV s[i + n].toNat : Int) := by omega
        generalize hV s[i + n].toNat = v at *
        clear hb HD HS HT HE
        go_wp2_with (go_at_call 52; refine (HD'.out _).mono ?_; rintro e w' ⟨rfl, rfl⟩)
        go_round
        case rel => exact ⟨n + 1, by go_num, by omega, HN'.out⟩
        case measure => simp [intOf]; omega
      · rw [Bool.not_eq_true] at hb
        have HD' : Hid (∀ W, Calls Tryz.prog 52 #[.int .u8 (s[i + n].toNat : Int)] W fun e w' => e = .returned (.int .i64 (-1)) ∧ w' = W) := fun W => by
          have := HD.out s[i + n].toNat hx W
          rwa [if_neg (by rw [hb]; decide)] at this
        have HN' := Lib.hid (HT.out n HN.out hlt hb)
        clear hb HD HS HT HE
        go_wp2_with (go_at_call 52; refine (HD'.out _).mono ?_; rintro e w' ⟨rfl, rfl⟩)
        go_ret
        exact ⟨by rw [HN'.out]; rfl, rfl⟩
    · have t1 : ¬ (i : Int) + (n : Int) < (s.size : Int) := by omega
      have HN' := Lib.hid (HE.out n (by omega) HN.out)
      clear HD HS HT HE
      go_wp2_with fail
      go_ret
      exact ⟨by rw [HN'.out]; rfl, rfl⟩
/-- The name that a text says: what quernref26.name answers. -/
theorem unE_cases (t : ByteArray) : unE t = 0 ∨ unE t = 1 ∨ unE t = 4 := by
  unfold unE
  cases uneAt t 0 [] with
  | inr i => exact .inr (.inr rfl)
  | inl b => dsimp only; split; exact .inl rfl; exact .inr (.inl rfl)
theorem c_rname (t : ByteArray) (mk : Bool) (hs : t.size ≤ 1000000) (w : World) :
    Calls Tryz.prog 32 #[.string t, .bool mk] w fun e w' => (∃ x, e = .returned (.tuple #[bstr x, .bool (nmS mk t).isSome]) ∧ (∀ y, nmS mk t = some y → x = y)) ∧ Below w.heap.size w w' := by
  cases mk with
  | true =>
    have HU := Lib.hid (fun W => c_rUnescape t (by omega) W)
    have HN : Hid (nmS true t = if unE t = 0 then some (unN t) else none) := rfl
    by_cases h0 : unE t = 0
    · rw [if_pos h0] at HN
      rw [h0] at HU
      clear h0
      generalize unN t = nm at *
      generalize nmS true t = nn at *
      go_enter Tryz.func32, Tryz.ntmps32
      go_wp2_with (go_at_call 54; refine (HU.out _).mono ?_; rintro e w1 ⟨rfl, hb1⟩)
      go_ret2
      exact ⟨⟨nm, by rw [HN.out]; rfl, fun y hy => by rw [HN.out] at hy; exact Option.some.inj hy⟩, hb1⟩
    · rw [if_neg h0] at HN
      have h1 : (unE t == 0) = false := by simpa using h0
      clear h0
      generalize unN t = nm at *
      generalize unE t = ee at *
      generalize nmS true t = nn at *
      go_enter Tryz.func32, Tryz.ntmps32
      go_wp2_with (go_at_call 54; refine (HU.out _).mono ?_; rintro e w1 ⟨rfl, hb1⟩)
      go_ret2
      exact ⟨⟨nm, by rw [HN.out]; simp, fun y hy => by rw [HN.out] at hy; cases hy⟩, hb1⟩
  | false =>
    have HF : Hid (∀ W, Calls Tryz.prog 55 #[.string t] W fun e w' => e = .returned (.bool (fileB t.data.toList)) ∧ w' = W) := fun W => (c_File t (by omega) W).mono fun _ _ ⟨h1, h2⟩ => ⟨h1, h2.symm⟩
    have HN : Hid (nmS false t = if fileB t.data.toList then some t.data.toList else none) := rfl
    generalize hfb : fileB t.data.toList = fb at *
    clear hfb
    generalize nmS false t = nn at *
    go_enter Tryz.func32, Tryz.ntmps32
    go_wp2_with (go_at_call 55; refine (HF.out _).mono ?_; rintro e w1 ⟨rfl, rfl⟩)
    go_ret2
    refine ⟨⟨t.data.toList, ?_, ?_⟩, Below.refl _ _⟩
    · rw [HN.out]; cases fb <;> simp
    · intro y hy
      rw [HN.out] at hy
      cases fb
      · cases hy
      · exact Option.some.inj hy
end Go.Proofs.YtmnkdkibhchglaaGreatDoor
