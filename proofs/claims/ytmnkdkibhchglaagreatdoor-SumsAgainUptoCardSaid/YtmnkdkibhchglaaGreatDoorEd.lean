/- Walk: may a file be called so, by its runes (sums.named). Conditions: lengths within the reach. -/
import Derived.Test.YtmnkdkibhchglaaGreatDoorEb
import Derived.Laws.RangeAny
import Derived.Lib.SpaceUEq
import Derived.Lib.QuoteLoop
import Derived.Lib.TrimUEq
namespace Go.Proofs.YtmnkdkibhchglaaGreatDoor
open Go.RowKit
set_option linter.unusedVariables false

theorem next_nz (s : ByteArray) (pos : Nat) (h : pos < s.size) :
    1 ≤ (Utf8.decode s pos).2 ∧ pos + (Utf8.decode s pos).2 ≤ s.size ∧ ((Utf8.decode s pos).1 = 0 ↔ s[pos] = 0) ∧ (s[pos] ≠ 0 → ∀ j, pos ≤ j → j < pos + (Utf8.decode s pos).2 → s.data.toList.getD j 0 ≠ 0) := by
  have hg : s.data.toList.getD pos 0 = s[pos] := by
    rw [List.getD, List.getElem?_eq_getElem (by simpa using h)]; rfl
  by_cases ha : s[pos].toNat < 128
  · rw [decode_ascii s pos h ha]
    refine ⟨by simp, by simp; omega, ?_, ?_⟩
    · show s[pos].toNat = 0 ↔ _
      exact ⟨fun e => UInt8.toNat_inj.1 e, fun e => by rw [e]; rfl⟩
    · intro hz j h1 h2
      have : j = pos := by simp at h2; omega
      subst this
      rw [hg]; exact hz
  · obtain ⟨d1, d2⟩ := decode_high s pos h (by omega)
    have hw := Lib.decodeN_width_le (s.data.toList.length - pos) (s.data.toList.getD pos 0).toNat (s.data.toList.getD (pos + 1) 0).toNat (s.data.toList.getD (pos + 2) 0).toNat (s.data.toList.getD (pos + 3) 0).toNat (by have : s.data.toList.length = s.size := rfl; omega)
    have hc := Lib.decodeN_conts (s.data.toList.length - pos) (s.data.toList.getD pos 0).toNat (s.data.toList.getD (pos + 1) 0).toNat (s.data.toList.getD (pos + 2) 0).toNat (s.data.toList.getD (pos + 3) 0).toNat
    rw [← Lib.decode_N] at hw hc
    have hl : s.data.toList.length = s.size := rfl
    refine ⟨d2, by omega, ⟨fun e => by omega, fun e => by rw [e] at ha; exact absurd (by decide) ha⟩, ?_⟩
    intro hz j h1 h2 h0
    obtain ⟨c1, c2, c3, c4⟩ := hc
    have h00 : (s.data.toList.getD j 0).toNat = 0 := by rw [h0]; rfl
    rcases (show j = pos ∨ j = pos + 1 ∨ j = pos + 2 ∨ j = pos + 3 by omega) with rfl | rfl | rfl | rfl
    · rw [hg] at h0; exact hz h0
    · have := c1 (by omega); omega
    · have := c2 (by omega); omega
    · have := c3 (by omega); omega
theorem nz_contains {s : ByteArray} (h : ∀ j, j < s.size → s.data.toList.getD j 0 ≠ 0) : s.data.toList.contains 0 = false := by
  rw [Bool.eq_false_iff]
  intro hc
  rw [List.contains_iff_mem] at hc
  obtain ⟨j, hj, e⟩ := List.mem_iff_getElem.1 hc
  refine h j (by simpa using hj) ?_
  rw [List.getD, List.getElem?_eq_getElem hj]
  exact e
theorem toList_data (s : ByteArray) : s.toList = s.data.toList := by
  obtain ⟨⟨l⟩⟩ := s
  show (⟨l.toArray⟩ : ByteArray).toList = l
  simp
theorem str_empty {s : ByteArray} : s.toList = [] ↔ s.size = 0 := by
  rw [toList_data]
  constructor
  · intro h
    have : s.data.toList.length = 0 := by rw [h]; rfl
    exact this
  · intro h
    exact List.eq_nil_of_length_eq_zero h
set_option maxHeartbeats 400000 in
theorem c_named (s : ByteArray) (hs : s.size ≤ 140737488351232) (w : World) : Calls Tryz.prog 56 #[.string s] w fun e w' => e = .returned (.bool (fileB s.data.toList)) ∧ Below w.heap.size w w' := by
  go_enter Tryz.func56, Tryz.ntmps56
  go_wp2
  go_loopw [4] (fun _ wr => ∃ k : Nat, k ≤ s.size ∧ Hid (∀ j, j < k → s.data.toList.getD j 0 ≠ 0) ∧ wr = w.iter s k) (fun _ wr => s.size - wr.iterPos w.heap.size)
  case atStart => exact ⟨0, Nat.zero_le _, fun j h => absurd h (by omega), rfl⟩
  case round =>
    obtain ⟨k, hk, HK, rfl⟩ := hrel
    by_cases hlt : k < s.size
    · obtain ⟨n1, n2, n3, n4⟩ := next_nz s k hlt
      have hnx := fun ty => run_next_any (P := Tryz.prog) w s k ty hlt
      have hB : Hid (s[k] = 0 → fileB s.data.toList = false) := by
        intro hz
        rw [fileB_eq, Bool.and_eq_false_iff]
        right
        rw [Bool.not_eq_false', List.contains_iff_mem, ← hz]
        exact List.getElem_mem (l := s.data.toList) (by simpa using hlt)
      have HN4 := Lib.hid n4
      generalize (Utf8.decode s k).1 = r at *
      generalize (Utf8.decode s k).2 = d at *
      clear n4
      by_cases hz : s[k] = 0
      · have hr : ((r : Int) == 0) = true := by rw [n3.2 hz]; rfl
        have HB := Lib.hid (hB.out hz)
        clear n3 hB HN4 hz
        go_wp2
        go_ret
        exact ⟨by rw [HB.out]; rfl, (Below.refl _ _).alloc (Nat.le_refl _) _⟩
      · have hr : ((r : Int) == 0) = false := by
          have : r ≠ 0 := fun e => hz (n3.1 e)
          simpa using this
        have HK2 : Hid (∀ j, j < k + d → s.data.toList.getD j 0 ≠ 0) := fun j hj => by
          by_cases h : j < k
          · exact HK.out j h
          · exact HN4.out hz j (by omega) hj
        clear n3 hB HN4 hz
        go_wp2
        go_roundw
        case rel => exact ⟨k + d, n2, HK2.out, rfl⟩
        case measure => simp; omega
    · obtain rfl : k = s.size := by omega
      have hnx := fun ty => run_next_end (P := Tryz.prog) w s s.size ty (by omega)
      have HF : Hid (fileB s.data.toList = (decide (1 ≤ s.size) && decide (s.size ≤ 4096))) := by show _ = _; rw [fileB_eq, nz_contains HK.out]; simp
      by_cases h0 : s.size = 0
      · have e1 : s.toList = [] := str_empty.2 h0
        have HB : Hid (fileB s.data.toList = false) := by show _ = _; rw [HF.out, h0]; rfl
        clear h0
        go_wp2
        go_ret
        exact ⟨by rw [HB.out]; rfl, (Below.refl _ _).alloc (Nat.le_refl _) _⟩
      · have e1 : ¬ s.toList = [] := fun h => h0 (str_empty.1 h)
        by_cases h4 : (s.size : Int) ≤ 4096
        · have HB : Hid (fileB s.data.toList = true) := by show _ = _; rw [HF.out, decide_eq_true (by omega), decide_eq_true (by omega)]; rfl
          clear h0
          go_wp2
          go_ret
          exact ⟨by rw [HB.out]; first | rfl | (simp [e1]; done) | (simp [e1]; omega), (Below.refl _ _).alloc (Nat.le_refl _) _⟩
        · have HB : Hid (fileB s.data.toList = false) := by show _ = _; rw [HF.out, decide_eq_false (show ¬ s.size ≤ 4096 by omega)]; simp
          clear h0
          go_wp2
          go_ret
          exact ⟨by rw [HB.out]; first | rfl | (simp [e1]; done) | (simp [e1]; omega), (Below.refl _ _).alloc (Nat.le_refl _) _⟩
end Go.Proofs.YtmnkdkibhchglaaGreatDoor
