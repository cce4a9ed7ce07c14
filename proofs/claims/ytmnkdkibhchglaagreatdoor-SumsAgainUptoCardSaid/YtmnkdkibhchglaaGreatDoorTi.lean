/- Walks: which way of hashing a line names (quernref26.tag, reader.tag). Conditions: lengths within the reach. -/
import Derived.Test.YtmnkdkibhchglaaGreatDoorTh
namespace Go.Proofs.YtmnkdkibhchglaaGreatDoor
open Go.RowKit
set_option linter.unusedVariables false
attribute [local go_sem ↓] Go.wp_at_zero Go.wp_at_succ

theorem prefix_snoc (p : List UInt8) (x : UInt8) (l : List UInt8) : (p ++ [x]).isPrefixOf l = (p.isPrefixOf l && l[p.length]? == some x) := by
  induction p generalizing l with
  | nil =>
    cases l with
    | nil => rfl
    | cons d l => simp [List.isPrefixOf]; rw [Bool.beq_comm]
  | cons c p ih =>
    cases l with
    | nil => rfl
    | cons d l => simp [List.isPrefixOf, ih, Bool.and_assoc]
theorem wayB_beg (s : ByteArray) (i : Nat) (a : Int) : wayB s i a = (begB s i (swrd a ++ [32]) || begB s i (swrd a ++ [45])) := by
  unfold wayB begB
  rw [prefix_snoc, prefix_snoc, List.getElem?_drop]
  cases (swrd a).isPrefixOf (s.data.toList.drop i) <;> simp
theorem c_rbeg (s : ByteArray) (l : List UInt8) (x : UInt8) (i : Nat) (hs : s.size ≤ 1000000) (hl : l.length ≤ 8) (hi : i ≤ s.size) (w : World) :
    Calls Tryz.prog 26 #[.string s, .int .i64 i, .string (⟨l.toArray⟩ ++ ⟨#[x]⟩)] w fun e w' => e = .returned (.bool (begB s i (l ++ [x]))) ∧ w' = w := by
  have h := c_begins s (⟨l.toArray⟩ ++ ⟨#[x]⟩) i hs (by rw [ByteArray.size_append]; show l.length + 1 ≤ _; omega) hi w
  rw [show (⟨l.toArray⟩ ++ ⟨#[x]⟩ : ByteArray).data.toList = l ++ [x] by rw [ba_app]] at h
  exact h
theorem smost_pos {a : Int} (h1 : 1 ≤ a) (h4 : a ≤ 4) : 0 < smost a := by
  obtain rfl | rfl | rfl | rfl : a = 1 ∨ a = 2 ∨ a = 3 ∨ a = 4 := by omega
  all_goals decide
set_option maxRecDepth 100000 in
set_option maxHeartbeats 1000000 in
theorem c_rtag (s : ByteArray) (i : Nat) (hs : s.size ≤ 1000000) (hi : i ≤ s.size) (w : World) :
    Calls Tryz.prog 27 #[.string s, .int .i64 i] w fun e w' => e = .returned (.int .i64 (wayAt s i)) ∧ w' = w := by
  have HW : Hid (∀ a : Int, 1 ≤ a → a ≤ 4 → ∀ W, Calls Tryz.prog 29 #[.int .i64 a] W fun e w' => e = .returned (.string ⟨(swrd a).toArray⟩) ∧ W = w') := fun a h1 h4 W => c_rword a (smost_pos h1 h4) W
  have HB : Hid (∀ (l : List UInt8) (x : UInt8), l.length ≤ 8 → ∀ W, Calls Tryz.prog 26 #[.string s, .int .i64 i, .string (⟨l.toArray⟩ ++ ⟨#[x]⟩)] W fun e w' => e = .returned (.bool (begB s i (l ++ [x]))) ∧ w' = W) := fun l x h W => c_rbeg s l x i hs h hi W
  have HE : Hid (∀ a, wayB s i a = (begB s i (swrd a ++ [32]) || begB s i (swrd a ++ [45]))) := fun a => wayB_beg s i a
  have HT : Hid (∀ a, 1 ≤ a → a ≤ 4 → (∀ b, 1 ≤ b → b < a → wayB s i b = false) → wayB s i a = true → wayAt s i = a) := fun a h1 h4 hb ha => wayAt_hit s i a h1 h4 hb ha
  have HN : Hid ((∀ b, 1 ≤ b → b < 5 → wayB s i b = false) → wayAt s i = 0) := fun hb => wayAt_no s i hb
  generalize wayAt s i = R at *
  go_enter Tryz.func27, Tryz.ntmps27
  go_wp2_with fail
  go_loop [5] (fun va => ∃ a : Int, va = .int .i64 a ∧ 1 ≤ a ∧ a ≤ 5 ∧ Hid (∀ b, 1 ≤ b → b < a → wayB s i b = false)) (fun va => (5 - intOf va).toNat)
  case atStart => exact ⟨1, rfl, by omega, by omega, fun b h1 h2 => by omega⟩
  case round =>
    obtain ⟨a, rfl, h1, h5, HA⟩ := hrel
    by_cases hlt : a ≤ 4
    · have hw := Lib.hid (HW.out a h1 hlt)
      have hlen := swrd_len a
      have hb1 := Lib.hid (HB.out (swrd a) 32 hlen)
      have hb2 := Lib.hid (HB.out (swrd a) 45 hlen)
      have HEa := Lib.hid (HE.out a)
      have HTa := Lib.hid (HT.out a h1 hlt HA.out)
      generalize swrd a = l at *
      clear HW HB HE HT
      cases hx : begB s i (l ++ [32]) with
      | true =>
        rw [hx] at hb1 HEa
        have HR := Lib.hid (HTa.out (by rw [HEa.out]; rfl))
        clear hx HTa HEa
        go_wp2_with (first | (go_at_call 29; refine (hw.out _).mono ?_; rintro e w' ⟨rfl, rfl⟩) | (go_at_call 26; first | ((with_reducible refine (hb1.out _).mono ?_); rintro e w' ⟨rfl, rfl⟩) | ((with_reducible refine (hb2.out _).mono ?_); rintro e w' ⟨rfl, rfl⟩)))
        go_ret
        exact ⟨by rw [HR.out]; rfl, rfl⟩
      | false =>
        cases hy : begB s i (l ++ [45]) with
        | true =>
          rw [hx] at hb1 HEa
          rw [hy] at hb2 HEa
          have HR := Lib.hid (HTa.out (by rw [HEa.out]; rfl))
          clear hx hy HTa HEa
          go_wp2_with (first | (go_at_call 29; refine (hw.out _).mono ?_; rintro e w' ⟨rfl, rfl⟩) | (go_at_call 26; first | ((with_reducible refine (hb1.out _).mono ?_); rintro e w' ⟨rfl, rfl⟩) | ((with_reducible refine (hb2.out _).mono ?_); rintro e w' ⟨rfl, rfl⟩)))
          go_ret
          exact ⟨by rw [HR.out]; rfl, rfl⟩
        | false =>
          rw [hx] at hb1 HEa
          rw [hy] at hb2 HEa
          have HA2 : Hid (∀ b, 1 ≤ b → b < a + 1 → wayB s i b = false) := fun b g1 g2 => by
            by_cases h : b = a
            · subst h; rw [HEa.out]; rfl
            · exact HA.out b g1 (by omega)
          clear hx hy HTa HEa
          go_wp2_with (first | (go_at_call 29; refine (hw.out _).mono ?_; rintro e w' ⟨rfl, rfl⟩) | (go_at_call 26; first | ((with_reducible refine (hb1.out _).mono ?_); rintro e w' ⟨rfl, rfl⟩) | ((with_reducible refine (hb2.out _).mono ?_); rintro e w' ⟨rfl, rfl⟩)))
          go_round
          case rel => exact ⟨a + 1, rfl, by omega, by omega, HA2.out⟩
          case measure => simp [intOf]; omega
    · obtain rfl : a = 5 := by omega
      have HR := Lib.hid (HN.out HA.out)
      go_wp2_with fail
      go_ret
      exact ⟨by rw [HR.out]; rfl, rfl⟩
theorem c_CutPrefix (t p : ByteArray) (w : World) : Calls Tryz.prog 63 #[.string t, .string p] w fun e w' => e = .returned (.tuple #[.string ⟨(Lib.trimPrefix t.data.toList p.data.toList).toArray⟩, .bool (Lib.hasPrefix t.data.toList p.data.toList)]) ∧ w' = w := Any.strings_CutPrefix lays103 t p w
theorem ext_drop (s : ByteArray) (i : Nat) (h : i ≤ s.size) : (s.extract i s.size).data.toList = s.data.toList.drop i := by
  rw [← toList_data, Lib.extract_toList]
  exact List.take_of_length_le (by rw [List.length_drop]; exact Nat.le_refl _)
/-- The four ways behind a word held against a line. -/
theorem tag_cases (s : ByteArray) (i : Nat) (a : Int) (h : i ≤ s.size) (T : ByteArray) (ok : Bool) (hT : T = ⟨(Lib.trimPrefix (s.extract i s.size).data.toList (swrd a)).toArray⟩) (hok : ok = Lib.hasPrefix (s.extract i s.size).data.toList (swrd a)) :
    (ok = false ∧ wayB s i a = false) ∨ (ok = true ∧ T.size = 0 ∧ wayB s i a = false) ∨ (ok = true ∧ ∃ h0 : 0 < T.size, wayB s i a = (decide (T[0] = 32) || decide (T[0] = 45))) := by
  rw [ext_drop s i h] at hT hok
  subst hok
  have hw : wayB s i a = (Lib.hasPrefix (s.data.toList.drop i) (swrd a) && (s.data.toList[i + (swrd a).length]? == some 32 || s.data.toList[i + (swrd a).length]? == some 45)) := rfl
  cases hp : Lib.hasPrefix (s.data.toList.drop i) (swrd a) with
  | false => exact .inl ⟨rfl, by rw [hw, hp]; rfl⟩
  | true =>
    rw [hp, Bool.true_and] at hw
    have hl : T.data.toList = (s.data.toList.drop i).drop (swrd a).length := by
      rw [hT]
      show Lib.trimPrefix _ _ = _
      unfold Lib.trimPrefix
      rw [if_pos hp]
    rw [List.drop_drop] at hl
    right
    have hsz : T.size = (s.data.toList.drop (i + (swrd a).length)).length := by rw [← hl]; rfl
    by_cases h0 : T.size = 0
    · refine .inl ⟨rfl, h0, ?_⟩
      rw [hw, List.getElem?_eq_none]
      · rfl
      · rw [List.length_drop] at hsz; omega
    · refine .inr ⟨rfl, by omega, ?_⟩
      have h2 : i + (swrd a).length < s.data.toList.length := by rw [List.length_drop] at hsz; omega
      have hx : s.data.toList[i + (swrd a).length]? = some T[0] := by
        have h3 := ba_get T 0 (by omega)
        rw [hl, List.getElem?_drop] at h3
        exact h3
      rw [hw, hx]
      rfl
theorem fld_word (x0 x1 x2 x3 : Value) (W : World) : (Instr.field 40 (.agg #[x0, x1, x2, x3]) 0).run Tryz.prog W = .ok x0 W := by kernel_rfl
set_option maxRecDepth 100000 in
set_option maxHeartbeats 1000000 in
theorem c_tag (s : ByteArray) (i b : Nat) (mk : Bool) (a : Int) (nm : ByteArray) (D : Option Addr) (n c : Nat) (st : Bool) (w : World) (hB : Blk w b 69 (rdC s i mk a nm D n c st)) (hs : s.size ≤ 1000000) (hi : i ≤ s.size) :
    Calls Tryz.prog 41 #[.pointer (some ⟨b, 0, none⟩)] w fun e w' => e = .returned (.int .i64 (wayAt s i)) ∧ Below w.heap.size w w' := by
  have HK := Lib.hid hB
  have hlt := hB.lt
  clear hB
  have HO : Hid (∀ a W, Calls Tryz.prog 10 #[.int .i64 a] W fun x w' => x = .returned (.agg #[bstr (swrd a), .int .i64 (smost a : Nat), .int .i64 (skind a), .bool (decide (a = 3 ∨ a = 4))]) ∧ Below W.heap.size W w') := fun a W => c_of a W
  have HC : Hid (∀ l : List UInt8, ∀ W, Calls Tryz.prog 63 #[.string (s.extract i s.size), .string ⟨l.toArray⟩] W fun e w' => e = .returned (.tuple #[.string ⟨(Lib.trimPrefix (s.extract i s.size).data.toList l).toArray⟩, .bool (Lib.hasPrefix (s.extract i s.size).data.toList l)]) ∧ W = w') := fun l W => (c_CutPrefix (s.extract i s.size) ⟨l.toArray⟩ W).mono fun _ _ ⟨h1, h2⟩ => ⟨h1, h2.symm⟩
  have HX : Hid (∀ a (T : ByteArray) (ok : Bool), T = ⟨(Lib.trimPrefix (s.extract i s.size).data.toList (swrd a)).toArray⟩ → ok = Lib.hasPrefix (s.extract i s.size).data.toList (swrd a) → (ok = false ∧ wayB s i a = false) ∨ (ok = true ∧ T.size = 0 ∧ wayB s i a = false) ∨ (ok = true ∧ ∃ h0 : 0 < T.size, wayB s i a = (decide (T[0] = 32) || decide (T[0] = 45)))) := fun a T ok h1 h2 => tag_cases s i a hi T ok h1 h2
  have HT : Hid (∀ a, 1 ≤ a → a ≤ 4 → (∀ b, 1 ≤ b → b < a → wayB s i b = false) → wayB s i a = true → wayAt s i = a) := fun a h1 h4 hb ha => wayAt_hit s i a h1 h4 hb ha
  have HN : Hid ((∀ b, 1 ≤ b → b < 5 → wayB s i b = false) → wayAt s i = 0) := fun hb => wayAt_no s i hb
  generalize wayAt s i = R at *
  have g1 : (0 : Int) ≤ (i : Int) := by omega
  have g2 : (i : Int) ≤ (s.size : Int) := by omega
  go_enter Tryz.func41, Tryz.ntmps41
  go_wp2_with fail
  go_loopw [3] (fun va wr => ∃ a : Int, va = .int .i64 a ∧ 1 ≤ a ∧ a ≤ 5 ∧ Hid (∀ b, 1 ≤ b → b < a → wayB s i b = false) ∧ Hid (Below w.heap.size w wr)) (fun va _ => (5 - intOf va).toNat)
  case atStart => exact ⟨1, rfl, by omega, by omega, fun b h1 h2 => by omega, Below.refl _ _⟩
  case round =>
    obtain ⟨a1, rfl, h1, h5, HA, HB⟩ := hrel
    by_cases hle : a1 ≤ 4
    · have ho := Lib.hid (HO.out a1)
      have hc := Lib.hid (HC.out (swrd a1))
      obtain ⟨T, hT⟩ : ∃ T : ByteArray, T = ⟨(Lib.trimPrefix (s.extract i s.size).data.toList (swrd a1)).toArray⟩ := ⟨_, rfl⟩
      obtain ⟨ok, hok⟩ : ∃ ok : Bool, ok = Lib.hasPrefix (s.extract i s.size).data.toList (swrd a1) := ⟨_, rfl⟩
      have HXa := HX.out a1 T ok hT hok
      have HTa := Lib.hid (HT.out a1 h1 hle HA.out)
      rw [← hT, ← hok] at hc
      clear hT hok HO HC HX HT
      generalize swrd a1 = l at *
      generalize smost a1 = M at *
      generalize skind a1 = K at *
      generalize decide (a1 = 3 ∨ a1 = 4) = dl at *
      have HKr : Hid (Blk wr b 69 (rdC s i mk a nm D n c st)) := HK.out.below HB.out hlt
      have hlr := HKr.out.lt
      have hfl := fun W => fld_word (bstr l) (.int .i64 (M : Int)) (.int .i64 K) (.bool dl) W
      have c0 : wr.cell? ⟨b, 0, none⟩ = some (.string s) := HKr.out.cell 0
      have c1 : wr.cell? ⟨b, 1, none⟩ = some (.int .i64 (i : Int)) := HKr.out.cell 1
      go_wp2_with fail
      go_region_held3 (fun V => V.cell? ⟨b, 0, none⟩ = some (.string s) ∧ V.cell? ⟨b, 1, none⟩ = some (.int .i64 (i : Int))) (first | go_keep | (refine ⟨?_, ?_⟩ <;> assumption)) (first | (go_at_call 10; refine (ho.out wr.drew).mono ?_; rintro x w1 ⟨rfl, hb1⟩; have d0 := (hb1.cell (p := ⟨b, 0, none⟩) hlr).trans c0; have d1 := (hb1.cell (p := ⟨b, 1, none⟩) hlr).trans c1) | (go_at_call 63; refine (hc.out _).mono ?_; rintro x w2 ⟨rfl, rfl⟩))
      rename _ ∧ _ => hh
      clear hh d0 d1 c0 c1 hfl
      have HB1 : Hid (Below w.heap.size w w1) := below_step HB.out (W := w) (w1 := wr) ⟨hb1.os, hb1.tape, hb1.output, hb1.size, hb1.block⟩
      clear hb1 ho hc HB HKr hlr
      have HGO : Hid (wayB s i a1 = false → ∀ b, 1 ≤ b → b < a1 + 1 → wayB s i b = false) := fun h0 b g1 g2 => by
        by_cases h : b = a1
        · subst h; exact h0
        · exact HA.out b g1 (by omega)
      rcases HXa with ⟨rfl, h0⟩ | ⟨rfl, hsz, h0⟩ | ⟨rfl, hpos, h0⟩
      · have HA2 := Lib.hid (HGO.out h0)
        clear h0 HGO
        go_wp2_with fail
        go_roundw
        case rel => exact ⟨a1 + 1, rfl, by omega, by omega, HA2.out, HB1.out⟩
        case measure => simp [intOf]; omega
      · have HA2 := Lib.hid (HGO.out h0)
        have e1 : T.toList = [] := str_empty.2 hsz
        clear h0 HGO
        go_wp2_with fail
        go_roundw
        case rel => exact ⟨a1 + 1, rfl, by omega, by omega, HA2.out, HB1.out⟩
        case measure => simp [intOf]; omega
      · have e1 : T.toList.isEmpty = false := by
          rw [List.isEmpty_eq_false_iff]
          intro h
          have := str_empty.1 h
          omega
        have b32 := u8_beq T[0] 32 32 rfl
        have b45 := u8_beq T[0] 45 45 rfl
        by_cases k1 : T[0] = 32
        · have HR := Lib.hid (HTa.out (by rw [h0, decide_eq_true k1]; rfl))
          rw [decide_eq_true k1] at b32
          clear h0 HGO k1 b45
          go_wp2_with fail
          go_ret
          exact ⟨by rw [HR.out]; rfl, HB1.out⟩
        · rw [decide_eq_false k1] at b32
          by_cases k2 : T[0] = 45
          · have HR := Lib.hid (HTa.out (by rw [h0, decide_eq_true k2]; simp))
            rw [decide_eq_true k2] at b45
            clear h0 HGO k1 k2
            go_wp2_with fail
            go_ret
            exact ⟨by rw [HR.out]; rfl, HB1.out⟩
          · have HA2 := Lib.hid (HGO.out (by rw [h0, decide_eq_false k1, decide_eq_false k2]; rfl))
            rw [decide_eq_false k2] at b45
            clear h0 HGO k1 k2
            go_wp2_with fail
            go_roundw
            case rel => exact ⟨a1 + 1, rfl, by omega, by omega, HA2.out, HB1.out⟩
            case measure => simp [intOf]; omega
    · obtain rfl : a1 = 5 := by omega
      have HR := Lib.hid (HN.out HA.out)
      go_wp2_with fail
      go_ret
      exact ⟨by rw [HR.out]; rfl, HB.out⟩
end Go.Proofs.YtmnkdkibhchglaaGreatDoor
