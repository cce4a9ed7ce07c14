/- Walks: how many digits a number has, its digits laid into 32 bytes, noughts at the end cut off (strconv: numDigits, setDigits). Conditions: the bytes are a new block of noughts. -/
import Derived.Test.YthoifpapdefheaaGreatDoorXf
import Derived.Test.YthoifpapdefheaaGreatDoorLy
import Derived.Test.YthoifpapdefheaaGreatDoorXv
namespace Go.Proofs.YthoifpapdefheaaGreatDoor
open Go.RowKit Go.Sort
set_option linter.unusedVariables false
attribute [local go_sem ↓] Go.wp_at_zero Go.wp_at_succ

theorem c_numdI (d : Nat) (h1 : 1 ≤ d) (h2 : d < 18446744073709551616) (w : World) (htab : Lib.TabIs Tryz.prog w "internal/strconv.uint64pow10" .u64 Lib.pow10Tab) : Calls Tryz.prog 72 #[.int .u64 (d : Int)] w fun e w' => e = .returned (.int .i64 ((lenD d : Nat) : Int)) ∧ w = w' := by
  refine (Any.internal_strconv_numDigits lays284 d h1 h2 w htab).mono fun e w' h => ?_
  obtain ⟨rfl, rfl⟩ := h
  unfold lenD
  rw [Lib.decDigits_length]
  exact ⟨rfl, rfl⟩
theorem holdsN (n : Nat) (hn : n ≤ 32) (w : World) (g : Nat) (T : TypeId) (hk : Blk w g T zrs32) : Holds (fun (b : UInt8) => Value.int .u8 (b.toNat : Int)) w g 0 (Array.replicate n (0 : UInt8)) := fun j hj => by
  have hj' : j < n := by simpa using hj
  refine ⟨?_, ?_⟩
  · rw [Nat.zero_add, hk.cell j, getElem!_pos _ j hj]
    unfold zrs32
    rw [Array.getElem?_replicate, if_pos (by omega)]
    simp
  · exact hk.frozen _
theorem lenD_gt (d : Nat) : d < 10 ^ lenD d := by
  induction d using Nat.strongRecOn with
  | _ d ih =>
    by_cases h : d < 10
    · rw [lenD_small h]; simpa using h
    · have := ih (d / 10) (by omega)
      rw [lenD_big (by omega), Nat.pow_succ]
      omega
/-- What holds at k digits: noughts stand behind them. -/
structure CutK (d k : Nat) : Prop where
  ex : ∃ u, 0 < u ∧ k = lenD u ∧ stripD u = stripD d ∧ Lib.decDigits d = Lib.decDigits u ++ List.replicate (lenD d - k) 48
theorem CutK.start {d : Nat} (h : 0 < d) : CutK d (lenD d) := ⟨⟨d, h, rfl, rfl, by simp⟩⟩
theorem dec_last {u : Nat} (h : 0 < u) : (Lib.decDigits u)[lenD u - 1]? = some (UInt8.ofNat (48 + u % 10)) := by
  by_cases hb : 10 ≤ u
  · have e := ddg_big hb
    have hl := lenD_big hb
    rw [e, hl, Nat.add_sub_cancel]
    unfold lenD
    rw [List.getElem?_append_right (Nat.le_refl _), Nat.sub_self]
    rfl
  · rw [ddg_small (by omega), lenD_small (by omega), Nat.mod_eq_of_lt (by omega)]
    rfl
theorem CutK.byte {d k : Nat} (h : CutK d k) : 1 ≤ k ∧ k ≤ lenD d ∧ ∃ x : Nat, x < 10 ∧ (Lib.decDigits d)[k - 1]? = some (UInt8.ofNat (48 + x)) ∧ (x = 0 → CutK d (k - 1) ∧ 2 ≤ k) ∧ (x ≠ 0 → k = lenD (stripD d) ∧ Lib.decDigits d = Lib.decDigits (stripD d) ++ List.replicate (lenD d - k) 48) := by
  obtain ⟨u, u0, rfl, hs, he⟩ := h.ex
  have hp := lenD_pos u
  have hle : lenD u ≤ lenD d := by
    have := congrArg List.length he
    rw [List.length_append] at this
    unfold lenD at *
    omega
  refine ⟨hp, hle, u % 10, Nat.mod_lt _ (by decide), ?_, fun hx => ?_, fun hx => ?_⟩
  · rw [he, List.getElem?_append_left (by unfold lenD at *; omega)]
    exact dec_last u0
  · have hb : 10 ≤ u := by omega
    have e := ddg_big hb
    have hl := lenD_big hb
    rw [hx] at e
    refine ⟨⟨⟨u / 10, by omega, by omega, ?_, ?_⟩⟩, ?_⟩
    · rw [← hs, stripD_go u0 hx]
    · rw [he, e, List.append_assoc]
      congr 1
      rw [show lenD d - (lenD u - 1) = (lenD d - lenD u) + 1 from by omega, List.replicate_succ]
      rfl
    · have := lenD_pos (u / 10); omega
  · have e : stripD u = u := stripD_stop hx
    rw [e] at hs
    rw [← hs]
    exact ⟨rfl, he⟩
set_option maxRecDepth 100000 in
set_option maxHeartbeats 400000 in
theorem c_setDI (g d : Nat) (p : Int) (h1 : 1 ≤ d) (h2 : d < 18446744073709551616) (hp : -2000 ≤ p) (hp2 : p ≤ 2000) (w : World) (hk : Blk w g 94 zrs32) :
    Calls Tryz.prog 71 #[.slice (some ⟨g, 0, none⟩) 32 32, .int .u64 (d : Int), .int .i64 p, .int .i64 ((lenD d : Nat) : Int)] w fun e w' =>
      e = .returned (.tuple #[.int .i64 ((lenD d : Nat) + p), .int .i64 ((lenD (stripD d) : Nat) : Int)]) ∧ (∀ j x, (Lib.decDigits (stripD d))[j]? = some x → w'.cell? ⟨g, j, none⟩ = some (.int .u8 (x.toNat : Int))) ∧ Below g w w' := by
  have hnd := lenD_20 h2
  have hn1 := lenD_pos d
  have hH0 := holdsN (lenD d) (by omega) w g _ hk
  have hfmt := Any.internal_strconv_formatBase10 lays285 g 0 32 d (Array.replicate (lenD d) 0) w hH0 (by rw [Array.size_replicate]; exact lenD_gt d) h2 (by rw [Array.size_replicate]; omega)
  rw [Array.size_replicate] at hfmt
  have HF : Hid (Calls Tryz.prog 89 #[.slice (some ⟨g, 0, none⟩) (lenD d) 32, .int .u64 (d : Int)] w fun e w' => e = .returned (.tuple #[]) ∧ Hid (Below g w w' ∧ ∀ j x, (Lib.decDigits d)[j]? = some x → w'.cell? ⟨g, j, none⟩ = some (.int .u8 (x.toNat : Int)))) := by
    refine hfmt.mono ?_
    rintro e w' ⟨rfl, k, v', dk, rfl, hF⟩
    refine ⟨rfl, below_row w g dk k, fun j x hx => ?_⟩
    have hF' : Lib.FmtInv (Lib.nDigits d) d 0 v' dk := by rw [← Lib.decDigits_length]; exact hF
    have hj : j < (Lib.decDigits d).length := (List.getElem?_eq_some_iff.1 hx).1
    obtain rfl : (Lib.decDigits d)[j] = x := (List.getElem?_eq_some_iff.1 hx).2
    rw [Lib.row_is_numeral hF' j hj, World.cell?_drewN]
    have := cell?_putRow (fun (b : UInt8) => Value.int .u8 (b.toNat : Int)) w g 0 _ dk hH0 (by rw [hF.size, Array.size_replicate]) j (by rw [hF.size]; exact hj)
    rw [Nat.zero_add] at this
    exact this
  have hle : ((lenD d : Nat) : Int) ≤ 32 := by omega
  have hwp : IntKind.i64.wrap (((lenD d : Nat) : Int) + p) = ((lenD d : Nat) : Int) + p := IntWalk.i64_in _ (by omega)
  have HC := Lib.hid (CutK.start (d := d) (by omega))
  have HCK : Hid (∀ k, CutK d k → 1 ≤ k ∧ k ≤ lenD d ∧ ∃ x : Nat, x < 10 ∧ (Lib.decDigits d)[k - 1]? = some (UInt8.ofNat (48 + x)) ∧ (x = 0 → CutK d (k - 1) ∧ 2 ≤ k) ∧ (x ≠ 0 → k = lenD (stripD d) ∧ Lib.decDigits d = Lib.decDigits (stripD d) ++ List.replicate (lenD d - k) 48)) := fun k h => h.byte
  clear hH0 hfmt hk
  have h1d := Lib.hid h1
  have h2d := Lib.hid h2
  clear h1 h2
  generalize lenD d = n at *
  go_enter Tryz.func71, Tryz.ntmps71
  go_wp2_with fail
  refine HF.out.mono ?_; rintro e w1 ⟨rfl, h1⟩
  have HB := Lib.hid h1.out.1
  have HK := Lib.hid h1.out.2
  clear h1 HF
  go_wp2_with fail
  go_loopw [3] (fun v wr => ∃ k : Nat, v = .int .i64 (k : Int) ∧ Hid (CutK d k) ∧ 1 ≤ k ∧ k ≤ 20 ∧ wr = w1) (fun v _ => (intOf v).toNat)
  case atStart => exact ⟨n, rfl, HC, hn1, hnd, rfl⟩
  case round =>
    obtain ⟨k, rfl, hk0, hk1, hk2, rfl⟩ := hrel
    obtain ⟨_, _, x, hx, hb, hz, hnz⟩ := HCK.out k hk0.out
    obtain ⟨j, rfl⟩ : ∃ j, k = j + 1 := ⟨k - 1, by omega⟩
    have kj := HK.out j _ hb
    have e1 : (0 : Int) < ((j + 1 : Nat) : Int) := by omega
    have hxb : ((UInt8.ofNat (48 + x)).toNat : Int) = 48 + (x : Int) := by
      rw [UInt8.toNat_ofNat']; omega
    rw [hxb] at kj
    by_cases h1 : x = 0
    · have HZ := Lib.hid (hz h1)
      subst h1
      clear hz hnz hb hxb
      go_wp2_with fail
      go_roundw
      case rel => exact ⟨j, by go_num, Lib.hid HZ.out.1, by have := HZ.out.2; omega, by omega, (by first | trivial | rfl)⟩
      case measure => first | (simp [intOf]; done) | (simp [intOf]; omega)
    · have HZ := Lib.hid (hnz h1)
      have t1 : ((48 : Int) + (x : Int) == 48) = false := by simp; omega
      clear hz hnz hb hxb
      go_wp2_with fail
      go_ret2
      refine ⟨?_, fun i y hy => HK.out i y ?_, HB.out⟩
      · rw [← HZ.out.1]; rfl
      · rw [HZ.out.2]
        rw [List.getElem?_append_left (List.getElem?_eq_some_iff.1 hy).1]
        exact hy
end Go.Proofs.YthoifpapdefheaaGreatDoor
