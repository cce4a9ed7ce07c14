/- Walk: the digits of 10^15 laid into 32 bytes, noughts at the end cut off (strconv: setDigits). Conditions: the bytes are a new block of noughts. -/
import Derived.Test.YtcohidjaehdbnaaGreatDoorTe
import Derived.Lib.ItoaMem
import Derived.BigCall
import Derived.BigGuard
import Derived.Deep.DrawnRows
namespace Go.Proofs.YtcohidjaehdbnaaGreatDoor
open Go.RowKit Go.Sort
set_option linter.unusedVariables false
attribute [local go_sem ↓] Go.wp_at_zero Go.wp_at_succ

def zrs32 : Array Value := Array.replicate 32 (Value.int .u8 0)
theorem dec15 : Lib.decDigits 1000000000000000 = [49, 48, 48, 48, 48, 48, 48, 48, 48, 48, 48, 48, 48, 48, 48, 48] := by decide +kernel
theorem nd15 : Lib.nDigits 1000000000000000 = 16 := by decide +kernel
theorem holds32 (w : World) (g : Nat) (T : TypeId) (hk : Blk w g T zrs32) : Holds (fun (b : UInt8) => Value.int .u8 (b.toNat : Int)) w g 0 (Array.replicate 16 (0 : UInt8)) := fun j hj => by
  have hj' : j < 16 := by simpa using hj
  refine ⟨?_, ?_⟩
  · rw [Nat.zero_add, hk.cell j, getElem!_pos _ j hj]
    unfold zrs32
    rw [Array.getElem?_replicate, if_pos (by omega)]
    simp
  · exact hk.frozen _
theorem below_row (w : World) (g : Nat) (dk : Array UInt8) (k : Nat) : RowKit.Below g w ((putRow (fun (b : UInt8) => Value.int .u8 (b.toNat : Int)) w g 0 dk).drewN k) :=
  ⟨rfl, rfl, rfl, by simp [World.drewN], fun i hi => by
    show (putRow _ w g 0 dk).heap[i]? = w.heap[i]?
    unfold putRow mapBlock
    rw [Array.getElem?_modify, if_neg (by omega)]⟩
set_option maxRecDepth 100000 in
theorem c_setD (g : Nat) (w : World) (hk : Blk w g 112 zrs32) : Calls Tryz.prog 92 #[.slice (some ⟨g, 0, none⟩) 32 32, .int .u64 1000000000000000, .int .i64 (-16), .int .i64 16] w fun e w' => e = .returned (.tuple #[.int .i64 0, .int .i64 1]) ∧ w'.cell? ⟨g, 0, none⟩ = some (.int .u8 49) ∧ Below g w w' := by
  have hH0 := holds32 w g _ hk
  have hfmt := Any.internal_strconv_formatBase10 lays285 g 0 32 1000000000000000 (Array.replicate 16 0) w hH0 (by rw [Array.size_replicate]; decide) (by decide) (by rw [Array.size_replicate]; decide)
  rw [Array.size_replicate] at hfmt
  have HF : Hid (Calls Tryz.prog 110 #[.slice (some ⟨g, 0, none⟩) 16 32, .int .u64 1000000000000000] w fun e w' => e = .returned (.tuple #[]) ∧ Hid (Below g w w' ∧ w'.cell? ⟨g, 0, none⟩ = some (.int .u8 49) ∧ ∀ j, 0 < j → j < 16 → w'.cell? ⟨g, j, none⟩ = some (.int .u8 48))) := by
    refine hfmt.mono ?_
    rintro e w' ⟨rfl, k, v', dk, rfl, hF⟩
    refine ⟨rfl, below_row w g dk k, ?_⟩
    have hc : ∀ j (hj : j < (Lib.decDigits 1000000000000000).length), ((putRow (fun (b : UInt8) => Value.int .u8 (b.toNat : Int)) w g 0 dk).drewN k).cell? ⟨g, j, none⟩ = some (.int .u8 (((Lib.decDigits 1000000000000000)[j].toNat : Nat) : Int)) := fun j hj => by
      have hF' : Lib.FmtInv (Lib.nDigits 1000000000000000) 1000000000000000 0 v' dk := by rw [nd15]; exact hF
      rw [Lib.row_is_numeral hF' j hj, World.cell?_drewN]
      have := cell?_putRow (fun (b : UInt8) => Value.int .u8 (b.toNat : Int)) w g 0 _ dk hH0 (by rw [hF.size, Array.size_replicate]) j (by rw [hF.size]; rw [Lib.decDigits_length, nd15] at hj; exact hj)
      rw [Nat.zero_add] at this
      exact this
    simp only [dec15] at hc
    refine ⟨hc 0 (by decide), fun j h0 h1 => ?_⟩
    have := hc j (by simpa using h1)
    rw [this]
    have : [(49 : UInt8), 48, 48, 48, 48, 48, 48, 48, 48, 48, 48, 48, 48, 48, 48, 48][j]'(by simpa using h1) = 48 := by
      rcases j with _ | j
      · omega
      · iterate 15 (rcases j with _ | j; · rfl)
        omega
    rw [this]; rfl
  clear hH0 hfmt hk
  go_enter Tryz.func92, Tryz.ntmps92
  go_wp2_with fail
  refine HF.out.mono ?_; rintro e w1 ⟨rfl, h1⟩
  have HB := Lib.hid h1.out.1
  have k0 := h1.out.2.1
  have HK := Lib.hid h1.out.2.2
  clear h1 HF
  go_wp2_with fail
  go_loopw [3] (fun v wr => ∃ k : Nat, v = .int .i64 (k : Int) ∧ 1 ≤ k ∧ k ≤ 16 ∧ wr = w1) (fun v _ => (intOf v).toNat)
  case atStart => exact ⟨16, rfl, by decide, by decide, rfl⟩
  case round =>
    obtain ⟨k, rfl, hk1, hk2, rfl⟩ := hrel
    by_cases h1 : 1 < k
    · obtain ⟨j, rfl⟩ : ∃ j, k = j + 1 := ⟨k - 1, by omega⟩
      have kj : wr.cell? ⟨g, j, none⟩ = some (.int .u8 48) := HK.out j (by omega) (by omega)
      have e1 : (0 : Int) < ((j + 1 : Nat) : Int) := by omega
      go_wp2_with fail
      go_roundw
      case rel => exact ⟨j, by go_num, by omega, by omega, (by first | trivial | rfl)⟩
      case measure => first | (simp [intOf]; done) | (simp [intOf]; omega)
    · obtain rfl : k = 1 := by omega
      go_wp2_with fail
      go_ret2
      exact ⟨rfl, k0, HB.out⟩
end Go.Proofs.YtcohidjaehdbnaaGreatDoor
