/- Walk: quernref02.trimmed: bytes without the noughts at their end, one by one. Conditions: the slice reads as the list. -/
import Derived.Test.YtbpbokcglicggaaDoorPm
import Derived.Test.YtbpbokcglicggaaDoorMem2
namespace Go.Proofs.YtbpbokcglicggaaDoor
open Go.RowKit
set_option linter.unusedVariables false

set_option maxHeartbeats 1000000 in
theorem c_rtrimmed (A : Option Addr) (n c : Nat) (xs : List Int) (w : World) (hr : Reads w w.heap.size 1 A n (u8s xs)) (hc : n ≤ c) (hn : n ≤ 140737488351232) :
    Calls Tryd.prog 38 #[.slice A n c] w (OwnBytes w (xs.take (keep xs n))) := by
  obtain ⟨i0, hi0, hz0, hz1, hz2⟩ := info_parts u8_info
  have hl : xs.length = n := by simpa using hr.1
  have Hl := Lib.hid hl
  clear hl
  go_enter Tryd.func38, Tryd.ntmps38
  go_wp2
  go_loop [3] (fun v => ∃ k : Nat, k ≤ n ∧ v = .int .i64 k ∧ Hid (keep xs n = keep xs k)) (fun v => (intOf v).toNat)
  case atStart => exact ⟨n, Nat.le_refl _, rfl, rfl⟩
  case round =>
    obtain ⟨k, hk, rfl, HK⟩ := hrel
    have hdone : Hid (keep xs n = k) → True := fun _ => trivial
    clear hdone
    by_cases hgo : 0 < k ∧ xs.getD (k - 1) 0 = 0
    · obtain ⟨h0, hz⟩ := hgo
      obtain ⟨b, off, rfl, hbB, hbw, hcells⟩ := hr.form (by omega)
      have hcell := hcells (k - 1) (by omega)
      rw [getD_u8s (by rw [Hl.out]; omega), hz] at hcell
      have HX : Hid (keep xs k = keep xs (k - 1)) := by
        show keep xs k = _
        obtain ⟨j, rfl⟩ : ∃ j, k = j + 1 := ⟨k - 1, by omega⟩
        show (if xs.getD j 0 = 0 then keep xs j else j + 1) = _
        rw [if_pos (by simpa using hz)]; rfl
      clear hcells hz
      go_wp2
      go_round
      case rel => exact ⟨k - 1, by omega, by go_num, by show keep xs n = _; rw [HK.out, HX.out]⟩
      case measure => simp [intOf]; omega
    · have HF : Hid (keep xs n = k) := by
        show keep xs n = k
        rw [HK.out]
        rcases Nat.eq_zero_or_pos k with h0 | h0
        · subst h0; rfl
        · obtain ⟨j, rfl⟩ : ∃ j, k = j + 1 := ⟨k - 1, by omega⟩
          show (if xs.getD j 0 = 0 then keep xs j else j + 1) = _
          rw [if_neg (fun h => hgo ⟨h0, by simpa using h⟩)]
      have hfin : Hid (∀ v w', w'.ownsRow w.heap.size 5 1 v k (u8s (xs.take k)) → Below w.heap.size w w' → OwnBytes w (xs.take (keep xs n)) (.returned v) w') := fun v w' ho hb => by
        rw [HF.out]
        refine ⟨v, rfl, ?_, hb⟩
        rw [show (xs.take k).length = k from by have := Hl.out; simp; omega]
        exact ho
      have hex : (k = 0) ∨ (0 < k ∧ (xs.getD (k - 1) 0 == 0) = false) := by
        rcases Nat.eq_zero_or_pos k with h0 | h0
        · exact .inl h0
        · exact .inr ⟨h0, by simpa using fun h => hgo ⟨h0, h⟩⟩
      clear hgo
      rcases hex with rfl | ⟨h0, hz⟩
      · go_wp2
        go_loop [4, 5] (fun v i => v = .slice none 0 0 ∧ i = .int .i64 0) (fun _ _ => 0)
        case atStart => exact ⟨rfl, rfl⟩
        case round =>
          obtain ⟨rfl, rfl⟩ := hrel
          go_wp2
          go_ret
          exact hfin.out _ _ (by simpa using World.ownsRow_nil w w.heap.size 5 1) (Below.refl _ _)
      · obtain ⟨b, off, rfl, hbB, hbw, hcells⟩ := hr.form (by omega)
        have hcell := hcells (k - 1) (by omega)
        rw [getD_u8s (by rw [Hl.out]; omega)] at hcell
        have Hcells := Lib.hid hcells
        clear hcells HK
        generalize xs.getD (k - 1) 0 = z at *
        go_wp2
        go_loopw [4, 5] (fun v i wr => ∃ j : Nat, j ≤ k ∧ i = .int .i64 j ∧ wr.ownsRow w.heap.size 5 1 v j (u8s (xs.take j)) ∧ Below w.heap.size w wr) (fun _ i _ => k - (intOf i).toNat)
        case atStart => exact ⟨0, Nat.zero_le _, rfl, by simpa using World.ownsRow_nil w w.heap.size 5 1, Below.refl _ _⟩
        case round =>
          obtain ⟨j, hj, rfl, hown, hbel⟩ := hrel
          by_cases hlt : j < k
          · have hcj := Hcells.out j (by omega)
            rw [getD_u8s (by rw [Hl.out]; omega)] at hcj
            have hcj2 : u4 = u4 := rfl
            have hc2 := (hbel.cell (p := ⟨b, off + j, none⟩) hbw).trans hcj
            have HT : Hid (xs.take (j + 1) = xs.take j ++ [xs.getD j 0]) := by
              show xs.take (j + 1) = _
              rw [List.take_succ_eq_append_getElem (by rw [Hl.out]; omega)]
              simp [List.getD, List.getElem?_eq_getElem (show j < xs.length by rw [Hl.out]; omega)]
            clear hcj hcell hcj2
            generalize xs.getD j 0 = y at *
            have hsz := hbel.size
            go_wp2_with (first | (at_builtin; refine wpList_append_any _ rfl (.tmp 25) (.tmp 30) _ rfl w.heap.size 5 i0 _ 1 1 Tryd.underlying24 hi0 hz0 hz1 hz2 rfl (by omega) _ j _ rfl (hown.alloc _) _ _ 1 1 [.int .u8 y] rfl (reads_one _ _ _) (by intro u hu; rw [List.mem_singleton.1 hu]; rfl) (by simp only [maxLen]; omega) (by omega) (by simp; omega) ?_; intro v1 w1 hown1 hg1 _; have hb1 := below_own (hbel.alloc hsz _) (hown.alloc _) hg1; clear hg1))
            go_roundw
            case rel => exact ⟨j + 1, by omega, by go_num, by rw [HT.out]; simpa [u8s] using hown1, hb1⟩
            case measure => simp [intOf]; omega
          · obtain rfl : j = k := by omega
            go_wp2
            go_ret
            exact hfin.out _ _ hown hbel
end Go.Proofs.YtbpbokcglicggaaDoor
