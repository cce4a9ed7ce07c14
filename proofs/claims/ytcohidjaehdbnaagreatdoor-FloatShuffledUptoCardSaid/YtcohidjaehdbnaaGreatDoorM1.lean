/- Walks: the small ways of a float's print at one input, 0.1 (strconv: log10Pow2, log2Pow10, bool2, nudge, ceil, floor). Conditions: none. Walks: the scaled product of a float's print at one input, 0.1 (strconv: uscale). Conditions: the three cells of the scale as 'prescale' leaves them. Walks: the scale of a float's print at one input, 0.1 (strconv: prescale). Conditions: the table's row of 17, the three cells of the scale in new memory. Walk: the shortest digits of a float at one input, 0.1 (strconv: shortFloat[float64]). Conditions: the table's row of 17. Walk: how many digits 10^15 has (strconv: numDigits), by the library's contract. Conditions: the table of powers. Walk: the digits of 10^15 laid into 32 bytes, noughts at the end cut off (strconv: setDigits). Conditions: the bytes are a new block of noughts. Walk: one digit, '1' with the exponent -1, as text (strconv: fmtEFG in the form 'e'). Conditions: the digit's byte reads; the text begins empty. Walk: 0.1 as text in the form 'e', the shortest (strconv: ftoa64). Conditions: the library's tables read as they were laid; the text begins empty. -/
import Derived.Test.YtcohidjaehdbnaaGreatDoorFs
import Derived.Test.YtcohidjaehdbnaaGreatDoorMem2
import Derived.IntWalk
import Derived.Handy
import Derived.Test.YtcohidjaehdbnaaGreatDoorLb
import Derived.Deep.RegionHeld3
import Derived.Great.Walk
import Derived.Test.YtcohidjaehdbnaaGreatDoorLy
import Derived.Lib.ItoaMem
import Derived.BigCall
import Derived.BigGuard
import Derived.Deep.DrawnRows
import Derived.Lib.AppendIntMem
import Derived.Deep.RegionLaw
namespace Go.Proofs.YtcohidjaehdbnaaGreatDoor
open Go.RowKit
set_option linter.unusedVariables false

theorem c_log10 (w : World) : Calls Tryz.prog 94 #[.int .i64 (-56)] w fun e w' => e = .returned (.int .i64 (-17)) ∧ w = w' := by
  have h1 : IntKind.i64.wrap (-56 * 78913) = -4419128 := by decide +kernel
  go_enter Tryz.func94, Tryz.ntmps94
  go_wp2
  go_ret
  exact ⟨rfl, rfl⟩
theorem c_log2 (w : World) : Calls Tryz.prog 118 #[.int .i64 17] w fun e w' => e = .returned (.int .i64 56) ∧ w = w' := by
  go_enter Tryz.func118, Tryz.ntmps118
  go_wp2
  go_ret
  exact ⟨rfl, rfl⟩
theorem c_bool2 (b : Bool) (w : World) : Calls Tryz.prog 138 #[.bool b] w fun e w' => e = .returned (.int .u64 (if b then 1 else 0)) ∧ w = w' := by
  cases b with
  | true =>
    go_enter Tryz.func138, Tryz.ntmps138
    go_wp2
    go_ret
    exact ⟨rfl, rfl⟩
  | false =>
    go_enter Tryz.func138, Tryz.ntmps138
    go_wp2
    go_ret
    exact ⟨rfl, rfl⟩
theorem c_nudge0 (x : Nat) (hx : x < 18446744073709551616) (w : World) : Calls Tryz.prog 120 #[.int .u64 (x : Int), .int .i64 0] w fun e w' => e = .returned (.int .u64 (x : Int)) ∧ w = w' := by
  go_enter Tryz.func120, Tryz.ntmps120
  go_wp2
  go_ret
  exact ⟨rfl, rfl⟩
theorem c_ceil (w : World) : Calls Tryz.prog 121 #[.int .u64 39999999999999999] w fun e w' => e = .returned (.int .u64 10000000000000000) ∧ w = w' := by
  go_enter Tryz.func121, Tryz.ntmps121
  go_wp2
  go_ret
  exact ⟨rfl, rfl⟩
theorem c_floor (w : World) : Calls Tryz.prog 122 #[.int .u64 40000000000000005] w fun e w' => e = .returned (.int .u64 10000000000000001) ∧ w = w' := by
  go_enter Tryz.func122, Tryz.ntmps122
  go_wp2
  go_ret
  exact ⟨rfl, rfl⟩
end Go.Proofs.YtcohidjaehdbnaaGreatDoor
namespace Go.Proofs.YtcohidjaehdbnaaGreatDoor
open Go.RowKit
set_option linter.unusedVariables false

theorem c_MulA (w : World) : Calls Tryz.prog 38 #[.int .u64 14757395258967641088, .int .u64 12800000000000000000] w fun e w' => e = .returned (.tuple #[.int .u64 10239999999999999857, .int .u64 16444402540465881088]) ∧ w = w' := by
  refine (Any.bits_Mul64 lays264 14757395258967641088 12800000000000000000 (by decide) (by decide) w).mono fun e w' h => ⟨?_, h.2.symm⟩
  rw [h.1]
  rfl
theorem c_MulB (w : World) : Calls Tryz.prog 38 #[.int .u64 14757395258967643136, .int .u64 12800000000000000000] w fun e w' => e = .returned (.tuple #[.int .u64 10240000000000001278, .int .u64 18021073799193034752]) ∧ w = w' := by
  refine (Any.bits_Mul64 lays264 14757395258967643136 12800000000000000000 (by decide) (by decide) w).mono fun e w' h => ⟨?_, h.2.symm⟩
  rw [h.1]
  rfl
theorem c_uscaleA (g : Nat) (w : World) (h0 : w.cell? ⟨g, 0, none⟩ = some (.int .u64 12800000000000000000)) (h2 : w.cell? ⟨g, 2, none⟩ = some (.int .i64 8)) :
    Calls Tryz.prog 119 #[.int .u64 14757395258967641088, .pointer (some ⟨g, 0, none⟩)] w fun e w' => e = .returned (.int .u64 39999999999999999) ∧ w = w' := by
  have hb1 : bits BinOp.and .i64 8 63 = 8 := by decide +kernel
  have hb2 : bits BinOp.or .u64 39999999999999999 1 = 39999999999999999 := by decide +kernel
  have HM := Lib.hid c_MulA
  go_enter Tryz.func119, Tryz.ntmps119
  go_wp2_with ((go_at_call 38; refine (HM.out _).mono ?_; rintro e w' ⟨rfl, rfl⟩))
  go_ret
  exact ⟨rfl, rfl⟩
theorem c_uscaleB (g : Nat) (w : World) (h0 : w.cell? ⟨g, 0, none⟩ = some (.int .u64 12800000000000000000)) (h2 : w.cell? ⟨g, 2, none⟩ = some (.int .i64 8)) :
    Calls Tryz.prog 119 #[.int .u64 14757395258967643136, .pointer (some ⟨g, 0, none⟩)] w fun e w' => e = .returned (.int .u64 40000000000000005) ∧ w = w' := by
  have hb1 : bits BinOp.and .i64 8 63 = 8 := by decide +kernel
  have hb2 : bits BinOp.or .u64 40000000000000004 1 = 40000000000000005 := by decide +kernel
  have HM := Lib.hid c_MulB
  go_enter Tryz.func119, Tryz.ntmps119
  go_wp2_with ((go_at_call 38; refine (HM.out _).mono ?_; rintro e w' ⟨rfl, rfl⟩))
  go_ret
  exact ⟨rfl, rfl⟩
end Go.Proofs.YtcohidjaehdbnaaGreatDoor
namespace Go.Proofs.YtcohidjaehdbnaaGreatDoor
open Go.RowKit
set_option linter.unusedVariables false

theorem c_prescale (g : Nat) (a b c : Value) (w : World) (h0 : w.cell? ⟨10, 730, none⟩ = some (.int .u64 12800000000000000000)) (h1 : w.cell? ⟨10, 731, none⟩ = some (.int .u64 0)) (hk : Blk w g 145 #[a, b, c]) (hg : 10 < g) :
    Calls Tryz.prog 117 #[.pointer (some ⟨g, 0, none⟩), .int .i64 (-67), .int .i64 17, .int .i64 56] w fun e w' => e = .returned (.tuple #[]) ∧ Blk w' g 145 #[.int .u64 12800000000000000000, .int .u64 0, .int .i64 8] ∧ Below g w w' := by
  have f0 := hk.frozen 0
  have f1 := hk.frozen 1
  have f2 := hk.frozen 2
  have k0 : w.cell? ⟨g, 0, none⟩ = some a := hk.cell 0
  have k1 : w.cell? ⟨g, 1, none⟩ = some b := hk.cell 1
  have k2 : w.cell? ⟨g, 2, none⟩ = some c := hk.cell 2
  have HK := Lib.hid hk
  clear hk
  go_enter Tryz.func117, Tryz.ntmps117
  go_wp2_with fail
  go_end0
  exact ⟨rfl, ((HK.out.set_ 0 _).set_ 1 _).set_ 2 _, (((Below.refl g w).setCell (Nat.le_refl _) _).setCell (Nat.le_refl _) _).setCell (Nat.le_refl _) _⟩
end Go.Proofs.YtcohidjaehdbnaaGreatDoor
namespace Go.Proofs.YtcohidjaehdbnaaGreatDoor
open Go.RowKit
set_option linter.unusedVariables false

set_option maxRecDepth 100000 in
theorem c_short (w : World) (h0 : w.cell? ⟨10, 730, none⟩ = some (.int .u64 12800000000000000000)) (h1 : w.cell? ⟨10, 731, none⟩ = some (.int .u64 0)) (hg : 10 < w.heap.size) :
    Calls Tryz.prog 99 #[.int .u64 14757395258967642112, .int .i64 (-67)] w fun e w' => e = .returned (.tuple #[.int .u64 1000000000000000, .int .i64 (-16)]) ∧ Below w.heap.size w w' := by
  have HT0 := Lib.hid h0
  have HT1 := Lib.hid h1
  have HK := Lib.hid (Blk.new w 145 #[.int .u64 0, .int .u64 0, .int .i64 0])
  have HB := Lib.hid ((Below.refl w.heap.size w).alloc (Nat.le_refl _) (.cells #[.int .u64 0, .int .u64 0, .int .i64 0] 145))
  have hb1 : bits BinOp.and .i64 7205759403792794 1 = 0 := by decide +kernel
  have HA : Hid ((w.alloc (.cells #[.int .u64 0, .int .u64 0, .int .i64 0] 145)).cell? ⟨10, 730, none⟩ = some (.int .u64 12800000000000000000) ∧ (w.alloc (.cells #[.int .u64 0, .int .u64 0, .int .i64 0] 145)).cell? ⟨10, 731, none⟩ = some (.int .u64 0)) := ⟨by rw [World.cell?_alloc_lt w _ _ hg]; exact h0, by rw [World.cell?_alloc_lt w _ _ hg]; exact h1⟩
  have HP := Lib.hid (c_prescale w.heap.size _ _ _ _ HA.out.1 HA.out.2 HK.out hg)
  clear h0 h1
  go_enter Tryz.func99, Tryz.ntmps99
  go_wp2_with (first
    | (go_at_call 94; refine (c_log10 _).mono ?_; rintro e w' ⟨rfl, rfl⟩)
    | (go_at_call 118; refine (c_log2 _).mono ?_; rintro e w' ⟨rfl, rfl⟩))
  refine HP.out.mono ?_; rintro e w2 ⟨rfl, hk2, hb2⟩
  have k0 : w2.cell? ⟨w.heap.size, 0, none⟩ = some (.int .u64 12800000000000000000) := hk2.cell 0
  have k2 : w2.cell? ⟨w.heap.size, 2, none⟩ = some (.int .i64 8) := hk2.cell 2
  have HBB := Lib.hid (HB.out.trans hb2)
  have HUA := Lib.hid (c_uscaleA w.heap.size w2 k0 k2)
  have HUB := Lib.hid (c_uscaleB w.heap.size w2 k0 k2)
  clear hk2 hb2 k0 k2 HP HA
  go_wp2_with fail
  refine HUA.out.mono ?_; rintro e w3 ⟨rfl, rfl⟩
  go_wp2_with fail
  refine (c_nudge0 39999999999999999 (by decide) _).mono ?_; rintro e w3 ⟨rfl, rfl⟩
  go_wp2_with fail
  refine (c_ceil _).mono ?_; rintro e w3 ⟨rfl, rfl⟩
  go_wp2_with fail
  refine HUB.out.mono ?_; rintro e w3 ⟨rfl, rfl⟩
  go_wp2_with fail
  refine (c_nudge0 40000000000000005 (by decide) _).mono ?_; rintro e w3 ⟨rfl, rfl⟩
  go_wp2_with fail
  refine (c_floor _).mono ?_; rintro e w3 ⟨rfl, rfl⟩
  go_wp2
  go_ret2
  exact ⟨rfl, HBB.out⟩
end Go.Proofs.YtcohidjaehdbnaaGreatDoor
namespace Go.Proofs.YtcohidjaehdbnaaGreatDoor
open Go.RowKit
set_option linter.unusedVariables false

theorem c_numd (w : World) (htab : Lib.TabIs Tryz.prog w "internal/strconv.uint64pow10" .u64 Lib.pow10Tab) : Calls Tryz.prog 93 #[.int .u64 1000000000000000] w fun e w' => e = .returned (.int .i64 16) ∧ w = w' := by
  have h := Any.internal_strconv_numDigits lays284 1000000000000000 (by decide) (by decide) w htab
  refine h.mono fun e w' h => ?_
  obtain ⟨rfl, rfl⟩ := h
  have hn : Lib.nDigits 1000000000000000 = 16 := by decide +kernel
  rw [hn]
  exact ⟨rfl, rfl⟩
end Go.Proofs.YtcohidjaehdbnaaGreatDoor
namespace Go.Proofs.YtcohidjaehdbnaaGreatDoor
open Go.RowKit Go.Sort
set_option linter.unusedVariables false
attribute [local go_sem ↓] Go.wp_at_zero Go.wp_at_succ

def zrs32 : Array Value := Array.replicate 32 (Value.int .u8 0)
theorem dec15 : Lib.decDigits 1000000000000000 = [49, 48, 48, 48, 48, 48, 48, 48, 48, 48, 48, 48, 48, 48, 48, 48] := by decide +kernel
theorem nd15 : Lib.nDigits 1000000000000000 = 16 := by decide +kernel
theorem holds32 (w : World) (g : Nat) (T : TypeId) (hk : Blk w g T zrs32) : Holds (fun (b : UInt8) => Value.int .u8 (b.toNat : Int)) w g 0 (Array.replicate 16 (0 : UInt8)) := fun j hj => by
  have hj' : j < 16 := by simpa using hj
  refine ⟨?_, ?_⟩
  · rw [Nat.zero_add, hk.cell j, getElem!_pos _ j hj]
    unfold zrs32
    rw [Array.getElem?_replicate, if_pos (by omega)]
    simp
  · exact hk.frozen _
theorem below_row (w : World) (g : Nat) (dk : Array UInt8) (k : Nat) : RowKit.Below g w ((putRow (fun (b : UInt8) => Value.int .u8 (b.toNat : Int)) w g 0 dk).drewN k) :=
  ⟨rfl, rfl, rfl, by simp [World.drewN], fun i hi => by
    show (putRow _ w g 0 dk).heap[i]? = w.heap[i]?
    unfold putRow mapBlock
    rw [Array.getElem?_modify, if_neg (by omega)]⟩
set_option maxRecDepth 100000 in
theorem c_setD (g : Nat) (w : World) (hk : Blk w g 112 zrs32) : Calls Tryz.prog 92 #[.slice (some ⟨g, 0, none⟩) 32 32, .int .u64 1000000000000000, .int .i64 (-16), .int .i64 16] w fun e w' => e = .returned (.tuple #[.int .i64 0, .int .i64 1]) ∧ w'.cell? ⟨g, 0, none⟩ = some (.int .u8 49) ∧ Below g w w' := by
  have hH0 := holds32 w g _ hk
  have hfmt := Any.internal_strconv_formatBase10 lays285 g 0 32 1000000000000000 (Array.replicate 16 0) w hH0 (by rw [Array.size_replicate]; decide) (by decide) (by rw [Array.size_replicate]; decide)
  rw [Array.size_replicate] at hfmt
  have HF : Hid (Calls Tryz.prog 110 #[.slice (some ⟨g, 0, none⟩) 16 32, .int .u64 1000000000000000] w fun e w' => e = .returned (.tuple #[]) ∧ Hid (Below g w w' ∧ w'.cell? ⟨g, 0, none⟩ = some (.int .u8 49) ∧ ∀ j, 0 < j → j < 16 → w'.cell? ⟨g, j, none⟩ = some (.int .u8 48))) := by
    refine hfmt.mono ?_
    rintro e w' ⟨rfl, k, v', dk, rfl, hF⟩
    refine ⟨rfl, below_row w g dk k, ?_⟩
    have hc : ∀ j (hj : j < (Lib.decDigits 1000000000000000).length), ((putRow (fun (b : UInt8) => Value.int .u8 (b.toNat : Int)) w g 0 dk).drewN k).cell? ⟨g, j, none⟩ = some (.int .u8 (((Lib.decDigits 1000000000000000)[j].toNat : Nat) : Int)) := fun j hj => by
      have hF' : Lib.FmtInv (Lib.nDigits 1000000000000000) 1000000000000000 0 v' dk := by rw [nd15]; exact hF
      rw [Lib.row_is_numeral hF' j hj, World.cell?_drewN]
      have := cell?_putRow (fun (b : UInt8) => Value.int .u8 (b.toNat : Int)) w g 0 _ dk hH0 (by rw [hF.size, Array.size_replicate]) j (by rw [hF.size]; rw [Lib.decDigits_length, nd15] at hj; exact hj)
      rw [Nat.zero_add] at this
      exact this
    simp only [dec15] at hc
    refine ⟨hc 0 (by decide), fun j h0 h1 => ?_⟩
    have := hc j (by simpa using h1)
    rw [this]
    have : [(49 : UInt8), 48, 48, 48, 48, 48, 48, 48, 48, 48, 48, 48, 48, 48, 48, 48][j]'(by simpa using h1) = 48 := by
      rcases j with _ | j
      · omega
      · iterate 15 (rcases j with _ | j; · rfl)
        omega
    rw [this]; rfl
  clear hH0 hfmt hk
  go_enter Tryz.func92, Tryz.ntmps92
  go_wp2_with fail
  refine HF.out.mono ?_; rintro e w1 ⟨rfl, h1⟩
  have HB := Lib.hid h1.out.1
  have k0 := h1.out.2.1
  have HK := Lib.hid h1.out.2.2
  clear h1 HF
  go_wp2_with fail
  go_loopw [3] (fun v wr => ∃ k : Nat, v = .int .i64 (k : Int) ∧ 1 ≤ k ∧ k ≤ 16 ∧ wr = w1) (fun v _ => (intOf v).toNat)
  case atStart => exact ⟨16, rfl, by decide, by decide, rfl⟩
  case round =>
    obtain ⟨k, rfl, hk1, hk2, rfl⟩ := hrel
    by_cases h1 : 1 < k
    · obtain ⟨j, rfl⟩ : ∃ j, k = j + 1 := ⟨k - 1, by omega⟩
      have kj : wr.cell? ⟨g, j, none⟩ = some (.int .u8 48) := HK.out j (by omega) (by omega)
      have e1 : (0 : Int) < ((j + 1 : Nat) : Int) := by omega
      go_wp2_with fail
      go_roundw
      case rel => exact ⟨j, by go_num, by omega, by omega, (by first | trivial | rfl)⟩
      case measure => first | (simp [intOf]; done) | (simp [intOf]; omega)
    · obtain rfl : k = 1 := by omega
      go_wp2_with fail
      go_ret2
      exact ⟨rfl, k0, HB.out⟩
end Go.Proofs.YtcohidjaehdbnaaGreatDoor
namespace Go.Proofs.YtcohidjaehdbnaaGreatDoor
open Go.RowKit
set_option linter.unusedVariables false
attribute [local go_sem ↓] Go.wp_at_zero Go.wp_at_succ

def bys (l : List UInt8) : List Value := l.map fun x => .int .u8 (x.toNat : Int)
/-- Bytes of the call's own, as a row. -/
def OwnB (W w : World) (A : Option Addr) (c : Nat) (l : List UInt8) : Prop := w.ownsRow W.heap.size 5 1 (.slice A l.length c) l.length (bys l) ∧ Below W.heap.size W w
/-- What an append of new bytes leaves. -/
theorem ownB_app {W w1 w2 : World} {A : Option Addr} {c : Nat} {l m : List UInt8} {v : Value} (hb : Below W.heap.size W w1) (h : w1.ownsRow W.heap.size 5 1 (.slice A l.length c) l.length (bys l)) (hown : w2.ownsRow W.heap.size 5 1 v (l.length + m.length) (bys l ++ bys m)) (hg : w1.grownBy w2 (Value.slice A l.length c).ownBlock) :
    ∃ A' c', v = .slice A' (l ++ m).length c' ∧ OwnB W w2 A' c' (l ++ m) := by
  have e : bys l ++ bys m = bys (l ++ m) := by simp [bys]
  rw [e, ← List.length_append] at hown
  obtain ⟨A', c', rfl⟩ := own_slice hown
  exact ⟨A', c', rfl, hown, below_own hb h hg⟩
theorem reads_lit1 (w : World) (x : Int) : Reads (w.alloc (.cells #[.int .u8 x] 5)) (w.alloc (.cells #[.int .u8 x] 5)).heap.size 1 (some ⟨w.heap.size, 0, none⟩) 1 [.int .u8 x] :=
  Reads.of_own (World.ownsRow_lit (e := 5) (size := 1) (base := 0) w #[.int .u8 x] 1 (Nat.zero_le _) (by decide) rfl)
theorem reads_lit2 (w : World) (x y : Int) : Reads (w.alloc (.cells #[.int .u8 x, .int .u8 y] 5)) (w.alloc (.cells #[.int .u8 x, .int .u8 y] 5)).heap.size 1 (some ⟨w.heap.size, 0, none⟩) 2 [.int .u8 x, .int .u8 y] :=
  Reads.of_own (World.ownsRow_lit (e := 5) (size := 1) (base := 0) w #[.int .u8 x, .int .u8 y] 2 (Nat.zero_le _) (by decide) rfl)
theorem u8_info : (Tryz.prog.info? 5).map (fun i => (i.zero, i.size, i.bytes)) = some (some (.int .u8 0), 1, 1) := by kernel_rfl
theorem builtB1 (y : Int) : Tryz.prog.builtSlice 5 1 [(0, .int .u8 y)] = some #[.int .u8 y] := by kernel_rfl
theorem builtB2 (x y : Int) : Tryz.prog.builtSlice 5 2 [(0, .int .u8 x), (1, .int .u8 y)] = some #[.int .u8 x, .int .u8 y] := by kernel_rfl
set_option maxRecDepth 100000 in
set_option maxHeartbeats 1000000 in
theorem c_fmtE (W w : World) (A : Option Addr) (c g : Nat) (ho : OwnB W w A c []) (k0 : w.cell? ⟨g, 0, none⟩ = some (.int .u8 49)) :
    Calls Tryz.prog 90 #[.slice A 0 c, .bool false, .slice (some ⟨g, 0, none⟩) 32 32, .int .i64 0, .int .i64 1, .int .i64 0, .int .u8 101, .bool true] w fun e w' => ∃ A' c', e = .returned (.slice A' 5 c') ∧ OwnB W w' A' c' [49, 101, 45, 48, 49] := by
  obtain ⟨i0, hi0, hz0, hz1, hz2⟩ := info_parts u8_info
  have HO0 := Lib.hid ho
  clear ho
  go_enter Tryz.func90, Tryz.ntmps90
  go_wp2_with (first
    | (at_builtin; have HO1A : Hid ((w.alloc (.cells #[.int .u8 49] 5)).ownsRow W.heap.size 5 1 (.slice A ([] : List UInt8).length c) ([] : List UInt8).length (bys ([] : List UInt8))) := HO0.out.1.alloc _; have HB1 : Hid (Below W.heap.size W (w.alloc (.cells #[.int .u8 49] 5))) := HO0.out.2.alloc HO0.out.2.size _; have HR1 := Lib.hid (reads_lit1 w 49); refine wpList_append_any _ rfl (.tmp 87) (.tmp 89) 75 rfl W.heap.size 5 i0 _ 1 1 Tryz.underlying75 hi0 hz0 hz1 hz2 rfl (by omega) (.slice A ([] : List UInt8).length c) ([] : List UInt8).length (bys ([] : List UInt8)) rfl HO1A.out _ (some ⟨w.heap.size, 0, none⟩) 1 1 [.int .u8 49] rfl HR1.out (by simp [Value.oneCell']) (by simp [maxLen]) (by simp) HB1.out.size ?_; intro v2 w1 hown2 hg2 _; obtain ⟨A1, c1, rfl, ho2⟩ := ownB_app (m := [49]) HB1.out HO1A.out hown2 hg2; have HO1 := Lib.hid ho2; clear ho2 hown2 hg2)
    | (at_builtin; have HO2A : Hid ((w1.alloc (.cells #[.int .u8 101] 5)).ownsRow W.heap.size 5 1 (.slice A1 ([49] : List UInt8).length c1) ([49] : List UInt8).length (bys ([49] : List UInt8))) := HO1.out.1.alloc _; have HB2 : Hid (Below W.heap.size W (w1.alloc (.cells #[.int .u8 101] 5))) := HO1.out.2.alloc HO1.out.2.size _; have HR2 := Lib.hid (reads_lit1 w1 101); refine wpList_append_any _ rfl (.tmp 120) (.tmp 122) 75 rfl W.heap.size 5 i0 _ 1 1 Tryz.underlying75 hi0 hz0 hz1 hz2 rfl (by omega) (.slice A1 ([49] : List UInt8).length c1) ([49] : List UInt8).length (bys ([49] : List UInt8)) rfl HO2A.out _ (some ⟨w1.heap.size, 0, none⟩) 1 1 [.int .u8 101] rfl HR2.out (by simp [Value.oneCell']) (by simp [maxLen]) (by simp) HB2.out.size ?_; intro v2 w2 hown2 hg2 _; obtain ⟨A2, c2, rfl, ho2⟩ := ownB_app (m := [101]) HB2.out HO2A.out hown2 hg2; have HO2 := Lib.hid ho2; clear ho2 hown2 hg2)
    | (at_builtin; have HO3A : Hid ((w2.alloc (.cells #[.int .u8 45] 5)).ownsRow W.heap.size 5 1 (.slice A2 ([49, 101] : List UInt8).length c2) ([49, 101] : List UInt8).length (bys ([49, 101] : List UInt8))) := HO2.out.1.alloc _; have HB3 : Hid (Below W.heap.size W (w2.alloc (.cells #[.int .u8 45] 5))) := HO2.out.2.alloc HO2.out.2.size _; have HR3 := Lib.hid (reads_lit1 w2 45); refine wpList_append_any _ rfl (.tmp 132) (.tmp 134) 75 rfl W.heap.size 5 i0 _ 1 1 Tryz.underlying75 hi0 hz0 hz1 hz2 rfl (by omega) (.slice A2 ([49, 101] : List UInt8).length c2) ([49, 101] : List UInt8).length (bys ([49, 101] : List UInt8)) rfl HO3A.out _ (some ⟨w2.heap.size, 0, none⟩) 1 1 [.int .u8 45] rfl HR3.out (by simp [Value.oneCell']) (by simp [maxLen]) (by simp) HB3.out.size ?_; intro v2 w3 hown2 hg2 _; obtain ⟨A3, c3, rfl, ho2⟩ := ownB_app (m := [45]) HB3.out HO3A.out hown2 hg2; have HO3 := Lib.hid ho2; clear ho2 hown2 hg2)
    | (at_builtin; have HO4A : Hid ((w3.alloc (.cells #[.int .u8 48, .int .u8 49] 5)).ownsRow W.heap.size 5 1 (.slice A3 ([49, 101, 45] : List UInt8).length c3) ([49, 101, 45] : List UInt8).length (bys ([49, 101, 45] : List UInt8))) := HO3.out.1.alloc _; have HB4 : Hid (Below W.heap.size W (w3.alloc (.cells #[.int .u8 48, .int .u8 49] 5))) := HO3.out.2.alloc HO3.out.2.size _; have HR4 := Lib.hid (reads_lit2 w3 48 49); refine wpList_append_any _ rfl (.tmp 155) (.tmp 159) 75 rfl W.heap.size 5 i0 _ 1 1 Tryz.underlying75 hi0 hz0 hz1 hz2 rfl (by omega) (.slice A3 ([49, 101, 45] : List UInt8).length c3) ([49, 101, 45] : List UInt8).length (bys ([49, 101, 45] : List UInt8)) rfl HO4A.out _ (some ⟨w3.heap.size, 0, none⟩) 2 2 [.int .u8 48, .int .u8 49] rfl HR4.out (by simp [Value.oneCell']) (by simp [maxLen]) (by simp) HB4.out.size ?_; intro v2 w4 hown2 hg2 _; obtain ⟨A4, c4, rfl, ho2⟩ := ownB_app (m := [48, 49]) HB4.out HO4A.out hown2 hg2; have HO4 := Lib.hid ho2; clear ho2 hown2 hg2))
  go_ret
  exact ⟨_, _, rfl, HO4.out⟩
end Go.Proofs.YtcohidjaehdbnaaGreatDoor
namespace Go.Proofs.YtcohidjaehdbnaaGreatDoor
open Go.RowKit
set_option linter.unusedVariables false
attribute [local go_sem ↓] Go.wp_at_zero Go.wp_at_succ

theorem call_bits64 (b : Nat) (w : World) : (callFunc 87 #[.float .f64 b]).run Tryz.prog w = .ok (.value (.int .u64 (b : Int))) w := by kernel_rfl
theorem c_Len53 (w : World) : Calls Tryz.prog 62 #[.int .u64 7205759403792794] w fun e w' => e = .returned (.int .i64 53) ∧ w = w' :=
  (Any.bits_Len64 lays129 7205759403792794 w (by decide) (by decide)).mono fun _ _ h => ⟨by rw [h.1]; rw [show Lib.bitLen (Int.toNat 7205759403792794) = 53 from by decide +kernel]; rfl, h.2.symm⟩
/-- What a print of 0.1 asks of memory: the table's row of 17, the table of tens. -/
structure Tab (w : World) : Prop where
  c0 : w.cell? ⟨10, 730, none⟩ = some (.int .u64 12800000000000000000)
  c1 : w.cell? ⟨10, 731, none⟩ = some (.int .u64 0)
  hg : 10 < w.heap.size
  tab : Lib.TabIs Tryz.prog w "internal/strconv.uint64pow10" .u64 Lib.pow10Tab
theorem Tab.below {w w' : World} (h : Tab w) (hb : Below w.heap.size w w') : Tab w' :=
  ⟨(hb.cell h.hg).trans h.c0, (hb.cell h.hg).trans h.c1, Nat.lt_of_lt_of_le h.hg hb.size, Lib.tabBelow_of_tabIs h.tab w' hb⟩
set_option maxRecDepth 100000 in
set_option maxHeartbeats 1000000 in
theorem c_ftoa (W w : World) (A : Option Addr) (c : Nat) (ho : OwnB W w A c []) (ht : Tab w) :
    Calls Tryz.prog 67 #[.slice A 0 c, .float .f64 4591870180066957722, .int .u8 101, .int .i64 (-1)] w fun e w' => ∃ A' c', e = .returned (.slice A' 5 c') ∧ OwnB W w' A' c' [49, 101, 45, 48, 49] := by
  have hcall : ∀ w : World, (callFunc 87 #[.float .f64 4591870180066957722]).run Tryz.prog w = .ok (.value (.int .u64 4591870180066957722)) w := fun w => call_bits64 4591870180066957722 w
  have b1 : bits BinOp.and .i64 1019 2047 = 1019 := by decide +kernel
  have b2 : bits BinOp.and .u64 4591870180066957722 4503599627370495 = 2702159776422298 := by decide +kernel
  have b3 : bits BinOp.or .u64 2702159776422298 4503599627370496 = 7205759403792794 := by decide +kernel
  have HO := Lib.hid ho
  have HT := Lib.hid ht
  clear ho ht
  go_enter Tryz.func67, Tryz.ntmps67
  go_wp2_with fail
  go_region
  go_wp2_with fail
  have HV : Hid (Below w.heap.size w (w.alloc (.cells zrs32 112)).drew) := ((Below.refl _ _).alloc (Nat.le_refl _) _).drew
  have HK : Hid (Blk (w.alloc (.cells zrs32 112)).drew w.heap.size 112 zrs32) := (Blk.new w _ _).drew
  have HV' : Hid (w.heap.size < (w.alloc (.cells zrs32 112)).drew.heap.size) := HK.out.lt
  change Calls _ _ _ (w.alloc (.cells zrs32 112)).drew _
  generalize (w.alloc (.cells zrs32 112)).drew = V at *
  have HTV := Lib.hid (HT.out.below HV.out)
  refine (c_Len53 _).mono ?_; rintro e w1 ⟨rfl, rfl⟩
  go_wp2_with fail
  refine (c_short V HTV.out.c0 HTV.out.c1 HTV.out.hg).mono ?_; rintro e w2 ⟨rfl, hb2⟩
  have HT2 := Lib.hid (HTV.out.below hb2)
  have HK2 := Lib.hid (HK.out.below hb2 HV'.out)
  have HB2 := Lib.hid (HV.out.trans (hb2.mono (Nat.le_of_lt HV'.out)))
  clear hb2
  go_wp2_with fail
  have HN := Lib.hid (c_numd w2.drew HT2.out.tab)
  have HS := Lib.hid (c_setD w.heap.size w2.drew HK2.out.drew)
  go_region_with (first
    | (go_at_call 93; (with_reducible refine HN.out.mono ?_); rintro e w3 ⟨rfl, rfl⟩)
    | (go_at_call 92; (with_reducible refine HS.out.mono ?_); rintro e w3 ⟨rfl, k3, hb3⟩))
  all_goals
    have hB3 : Below w.heap.size w w3 := HB2.out.drew.trans hb3
    have HO3 : Hid (OwnB W w3 A c []) := ⟨own_below HO.out.1 hB3, HO.out.2.trans (hB3.mono HO.out.2.size)⟩
    have HF := Lib.hid (c_fmtE W w3 A c w.heap.size HO3.out k3)
    clear hb3 hB3 HN HS HB2 HV HV' HTV HT HT2 HO
    go_wp2_with fail
    refine HF.out.mono ?_; rintro e w4 ⟨A4, c4, rfl, ho4⟩
    have HO4 := Lib.hid ho4
    clear ho4
    go_wp2
    go_ret
    exact ⟨_, _, rfl, HO4.out⟩
/-- Bytes as a string. -/
abbrev bstr (l : List UInt8) : Value := .string ⟨l.toArray⟩
theorem conv_nilb (w : World) : (convert 75 9 (.slice none 0 0)).run Tryz.prog w = .ok (.string ⟨#[]⟩) w := by kernel_rfl
theorem conv_bys {w : World} {base m : Nat} {v : Value} {l : List UInt8} (h : w.ownsRow base 5 1 v m (bys l)) : (convert 75 9 v).run Tryz.prog w = .ok (bstr l) w := by
  have hl : l.length = m := by simpa [bys] using h.1
  rcases h.2 with ⟨rfl, rfl⟩ | ⟨g, cap, cur, rfl, _⟩
  · obtain rfl := List.eq_nil_of_length_eq_zero hl
    exact conv_nilb w
  · have := run_convert_bytes_back (P := Tryz.prog) w 75 9 5 ⟨g, 0, none⟩ cap l Tryz.underlying75 Tryz.underlying5 Tryz.underlying9 (fun j hj => by
      rw [h.cells rfl j (.int .u8 (l[j].toNat : Int)) (by simp [bys, List.getElem?_eq_getElem hj])])
    rw [hl] at this
    exact this
set_option maxRecDepth 100000 in
theorem c_iFF (w : World) (ht : Tab w) :
    Calls Tryz.prog 46 #[.float .f64 4591870180066957722, .int .u8 101, .int .i64 (-1), .int .i64 64] w fun e w' => e = .returned (bstr [49, 101, 45, 48, 49]) ∧ Below w.heap.size w w' := by
  obtain ⟨i0, hi0, hz0, hz1, hz2⟩ := info_parts u8_info
  obtain ⟨w1, hmk, ho1, hg1⟩ := run_makeSlice_owned (P := Tryz.prog) w w.heap.size 75 5 i0 _ 1 Tryz.underlying75 hi0 hz0 hz1 .i64 .i64 24 (by decide) (by rw [hz2]; decide) (by decide) (Nat.le_refl _)
  replace hmk : (Instr.makeSlice 75 (.int .i64 0) (.int .i64 24)).run Tryz.prog w = .ok (.slice (some ⟨w.heap.size, 0, none⟩) 0 24) w1 := hmk
  have e24 : max (3 : Int) 24 = 24 := by decide
  have HB1 := Lib.hid (below_of_grown hg1)
  have HF := Lib.hid (c_ftoa w w1 (some ⟨w.heap.size, 0, none⟩) 24 ⟨ho1, HB1.out⟩ (ht.below HB1.out))
  clear ht ho1 hg1 hz0 hz1 hz2
  go_enter Tryz.func46, Tryz.ntmps46
  go_wp2_with fail
  refine HF.out.mono ?_; rintro e w2 ⟨A2, c2, rfl, ho2⟩
  have hcv : (convert 75 9 (.slice A2 5 c2)).run Tryz.prog w2 = .ok (bstr [49, 101, 45, 48, 49]) w2 := conv_bys (l := [49, 101, 45, 48, 49]) ho2.1
  have HB2 := Lib.hid ho2.2
  clear ho2
  go_wp2
  go_ret
  exact ⟨rfl, HB2.out⟩
theorem c_FF (w : World) (ht : Tab w) :
    Calls Tryz.prog 29 #[.float .f64 4591870180066957722, .int .u8 101, .int .i64 (-1), .int .i64 64] w fun e w' => e = .returned (bstr [49, 101, 45, 48, 49]) ∧ Below w.heap.size w w' := by
  have HF := Lib.hid (c_iFF w ht)
  go_enter Tryz.func29, Tryz.ntmps29
  go_wp2_with fail
  refine HF.out.mono ?_; rintro e w2 ⟨rfl, hb⟩
  have HB := Lib.hid hb
  go_wp2
  go_ret
  exact ⟨rfl, HB.out⟩
end Go.Proofs.YtcohidjaehdbnaaGreatDoor
