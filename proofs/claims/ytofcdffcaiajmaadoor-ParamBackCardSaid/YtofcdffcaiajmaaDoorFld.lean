/- Walks: numbers read out of bytes and laid into them (param.get, put; quernref02.read, lay). Conditions: as stated. -/
import Derived.Test.YtofcdffcaiajmaaDoorPm
import Derived.Test.YtofcdffcaiajmaaDoorLe
namespace Go.Proofs.YtofcdffcaiajmaaDoor
open Go.RowKit

theorem ret_int {k : IntKind} {a b : Int} (h : a = b) : Ending.returned (.int k a) = .returned (.int k b) := by rw [h]
set_option maxHeartbeats 400000 in
theorem c_get (A : Option Addr) (n c : Nat) (xs : List Int) (w : World) (B : Nat) (hr : Reads w B 1 A n (u8s xs)) (hn : n ≤ 140737488355328) (hx : ∀ z ∈ xs, 0 ≤ z ∧ z < 256) (at_ size : Nat) (h1 : at_ + size ≤ n) (h8 : size ≤ 8) :
    Calls Tryd.prog 19 #[.slice A n c, .int .i64 at_, .int .i64 size] w fun e w' => e = .returned (.int .u64 (le ((xs.drop at_).take size))) ∧ w = w' := by
  have hl : xs.length = n := by simpa using hr.1
  have Hl := Lib.hid hl
  clear hl
  go_enter Tryd.func19, Tryd.ntmps19
  go_wp2
  go_loop [7, 10] (fun v i => ∃ k : Nat, k ≤ size ∧ i = .int .i64 k ∧ ∃ V : Int, v = .int .u64 V ∧ 0 ≤ V ∧ V < 256 ^ k ∧ Hid (V = le ((xs.drop at_).take k))) (fun _ i => size - (intOf i).toNat)
  case atStart => exact ⟨0, Nat.zero_le _, rfl, 0, rfl, by omega, by simp, rfl⟩
  case round =>
    obtain ⟨k, hk, rfl, V, rfl, hV0, hV1, HV⟩ := hrel
    by_cases hlt : k < size
    · obtain ⟨b, off, rfl, hbB, hbw, hcells⟩ := hr.form (by omega)
      have hcell := hcells (at_ + k) (by omega)
      rw [getD_u8s (by rw [Hl.out]; omega)] at hcell
      have hb := mem_bd hx (at_ + k)
      have HS := Lib.hid (drop_take_snoc xs at_ k (by rw [Hl.out]; omega))
      clear hcells
      generalize xs.getD (at_ + k) 0 = z at *
      go_wp2
      go_round
      case rel =>
        have ho := or_next V z k hV0 hV1 hb.1 hb.2 (by omega)
        refine ⟨k + 1, by omega, by go_num, _, by rw [ho], by have := Int.mul_nonneg hb.1 (Int.pow_nonneg (n := 256) (m := k) (by omega)); omega, ?_, ?_⟩
        · have a : (z + 1) * 256 ^ k ≤ 256 * 256 ^ k := Int.mul_le_mul_of_nonneg_right (by omega) (Int.pow_nonneg (by omega))
          rw [Int.pow_succ]
          rw [Int.add_mul] at a
          omega
        · show V + z * 256 ^ k = _
          have hlen : ((xs.drop at_).take k).length = k := by have := Hl.out; simp; omega
          rw [HS.out, le_snoc, HV.out, hlen]
      case measure => simp [intOf]; omega
    · go_wp2
      go_ret
      obtain rfl : k = size := by omega
      exact ⟨ret_int HV.out, rfl⟩
theorem u8s_get {xs : List Int} {j : Nat} (h : j < xs.length) : (u8s xs)[j]? = some (.int .u8 (xs.getD j 0)) := by
  simp [List.getElem?_eq_getElem h]
set_option maxHeartbeats 400000 in
theorem c_put (base g n cap : Nat) (xs : List Int) (w : World) (hown : w.ownsRow base 5 1 (.slice (some ⟨g, 0, none⟩) n cap) n (u8s xs)) (hn : n ≤ 140737488355328) (at_ size : Nat) (V : Int) (h1 : at_ + size ≤ n) (h8 : size ≤ 8) :
    Calls Tryd.prog 16 #[.slice (some ⟨g, 0, none⟩) n cap, .int .i64 at_, .int .i64 size, .int .u64 V] w fun e w' => e = .returned (.tuple #[]) ∧ w'.ownsRow base 5 1 (.slice (some ⟨g, 0, none⟩) n cap) n (u8s (layL xs at_ V size)) ∧ w.grownBy w' (some g) := by
  have hl : xs.length = n := by simpa using hown.1
  have Hl := Lib.hid hl
  clear hl
  go_enter Tryd.func16, Tryd.ntmps16
  go_wp2
  go_loopw [10] (fun i wr => ∃ k : Nat, k ≤ size ∧ i = .int .i64 k ∧ wr.ownsRow base 5 1 (.slice (some ⟨g, 0, none⟩) n cap) n (u8s (layL xs at_ V k)) ∧ w.grownBy wr (some g)) (fun i _ => size - (intOf i).toNat)
  case atStart => exact ⟨0, Nat.zero_le _, rfl, hown, World.grownBy.refl _ _⟩
  case round =>
    obtain ⟨k, hk, rfl, hown1, hg1⟩ := hrel
    by_cases hlt : k < size
    · have hcell := hown1.cellAt (at_ + k) (by omega)
      rw [u8s_get (by rw [layL_length, Hl.out]; omega)] at hcell
      have hfr := hown1.frozenAt (at_ + k)
      generalize (layL xs at_ V k).getD (at_ + k) 0 = z at *
      go_wp2
      go_roundw
      case rel =>
        refine ⟨k + 1, by omega, by go_num, ?_, only_setCell hg1 (.inl rfl) _⟩
        have := hown1.stored (at_ + k) (.int .u8 (V / 2 ^ (8 * k) % 256))
        rw [← List.map_set] at this
        exact this.1
      case measure => simp [intOf]; omega
    · go_wp2
      obtain rfl : k = size := by omega
      go_end0
      exact ⟨rfl, hown1, hg1⟩
end Go.Proofs.YtofcdffcaiajmaaDoor
