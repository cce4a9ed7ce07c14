/- Walk: param.Decode of a block of the greater kind whose spare bytes are no noughts. Conditions: as stated. -/
import Derived.Test.YtofcdffcaiajmaaDoorDec
import Derived.Test.YtofcdffcaiajmaaDoorTwP
namespace Go.Proofs.YtofcdffcaiajmaaDoor
open Go.RowKit
set_option linter.unusedVariables false

theorem seg18_at {xs : List Int} (h : seg xs 18 14 = List.replicate 14 0) {m : Nat} (hm : m < 14) : xs.getD (18 + m) 0 = 0 := by
  have h3 : (seg xs 18 14).getD m 0 = 0 := by rw [h]; exact rep_getD _ _
  rw [seg_getD, if_pos hm] at h3
  exact h3
theorem seg18_of {xs : List Int} (hl : xs.length = 64) (h : ∀ m, m < 14 → xs.getD (18 + m) 0 = 0) : seg xs 18 14 = List.replicate 14 0 := by
  have hs : (seg xs 18 14).length = 14 := seg_len (by omega)
  refine ext_getD (by rw [hs]; simp) fun i hi => ?_
  rw [hs] at hi
  rw [seg_getD, if_pos hi, h i hi]
  exact (rep_getD _ _).symm
set_option maxRecDepth 100000 in
set_option maxHeartbeats 1000000 in
theorem c_Decode_1f (A : Option Addr) (c : Nat) (xs : List Int) (ext : Bool) (w : World) (hl : xs.length = 64) (hc : 64 ≤ c) (hr : Reads w w.heap.size 1 A 64 (u8s xs)) (hz18 : seg xs 18 14 ≠ List.replicate 14 0) :
    Calls Tryd.prog 8 #[.int .i64 1, .slice A 64 c, .bool ext] w (GivesP w (decA 1 xs ext) (decE 1 xs ext)) := by
  have hR := c_right 1 A 64 c
  rw [show szerr 1 64 = 0 from rfl] at hR
  have HR := Lib.hid hR
  have HS := Lib.hid (c_sizes 1 (by decide))
  obtain ⟨b, off, rfl, hbB, hbw, hcells⟩ := hr.form (by omega)
  have HC1 : Hid (∀ w1, Below w.heap.size w w1 → ∀ j, j < 64 → w1.cell? ⟨b, off + j, none⟩ = some (.int .u8 (xs.getD j 0))) := fun w1 hb j hj => by
    rw [hb.cell (p := ⟨b, off + j, none⟩) hbB, hcells j hj, getD_u8s (by omega)]
  have hE : decE 1 xs ext = 4 := by
    unfold decE
    rw [hl, if_neg (by decide), if_pos ⟨rfl, hz18⟩]
  have HZ : Hid (∀ w', Below w.heap.size w w' → GivesP w (decA 1 xs ext) (decE 1 xs ext) (.returned (.tuple #[pv 0 0 0 0 0 0 0 0 0 (.slice none 0 0) (.slice none 0 0), .int .i64 4])) w') := fun w' hb => gives_zero hE (by decide) hb
  have HNO : Hid (¬ ∀ m, m < 14 → xs.getD (18 + m) 0 = 0) := fun h => hz18 (seg18_of hl h)
  generalize decE 1 xs ext = E at *
  generalize decA 1 xs ext = D at *
  have e18 : ¬ c = 18 := by omega
  have e32 : (32 : Int) ≤ ↑c := by omega
  clear hR hcells hr hl hz18 hE
  go_enter Tryd.func8, Tryd.ntmps8
  go_wp2_with (first | (go_at_call 18; refine (HR.out _ (by omega)).mono ?_; rintro e w' ⟨rfl, rfl⟩) | (go_at_call 13; refine (HS.out _).mono ?_; rintro e w' ⟨rfl, rfl⟩))
  go_wp2_with fail
  go_loop [35] (fun i => ∃ j : Nat, j ≤ 14 ∧ i = .int .i64 j ∧ Hid (∀ m, m < j → xs.getD (18 + m) 0 = 0)) (fun i => (14 - intOf i).toNat)
  case atStart => exact ⟨0, by omega, rfl, fun m hm => absurd hm (by omega)⟩
  case round =>
    obtain ⟨j, hj, rfl, HJ⟩ := hrel
    by_cases hlt : j < 14
    · have hcell : (w.alloc (.cells pz 26)).cell? ⟨b, off + 18 + j, none⟩ = some (.int .u8 (xs.getD (18 + j) 0)) := by
        rw [Nat.add_assoc, HC1.out _ ((Below.refl w.heap.size w).alloc (Nat.le_refl _) (.cells pz 26)) (18 + j) (by omega)]
      have HN : Hid (xs.getD (18 + j) 0 = 0 → ∀ m, m < j + 1 → xs.getD (18 + m) 0 = 0) := fun h0 m hm => by
        by_cases hmj : m = j
        · rw [hmj]; exact h0
        · exact HJ.out m (by omega)
      generalize xs.getD (18 + j) 0 = z at *
      by_cases hz : z = 0
      · have hz' : (z != 0) = false := by simp [hz]
        have HNN := Lib.hid (HN.out hz)
        clear hz HN
        go_wp2_with fail
        go_round
        case rel => exact ⟨j + 1, by omega, by go_num, HNN.out⟩
        case measure => simp [intOf]; omega
      · have hz' : (z != 0) = true := by simp [hz]
        have HB0 := Lib.hid (Blk.new w 26 pz)
        clear hz HN
        go_wp2_with (first | (refine wpList_storeB rfl 26 (.tmp 6) (.tmp 41) rfl rfl w.heap.size _ rfl rfl HB0.out (by kernel_rfl) rfl rfl ?_; intro w6 hB6 hg6 hz6))
        exact bodyPost_ret (results_cell_tmpB (p := 6) (u := 7) rfl _ hB6 _ rfl Tryd.underlying26 rfl (by kernel_rfl)) rfl (HZ.out _ (((Below.refl w.heap.size w).alloc (Nat.le_refl _) (.cells pz 26)).grown hg6 (by simp) (fun _ h => by injection h with h; omega)))
    · obtain rfl : j = 14 := by omega
      exact absurd HJ.out HNO.out
end Go.Proofs.YtofcdffcaiajmaaDoor
