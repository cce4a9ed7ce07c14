/- Walks: the number of a value's text ((*value.text).int) at a text whose bytes 1 and 2 are '1' and ','. Conditions: as stated. -/
import Derived.Test.YtacnoedhpamdmaaGreatDoorYq
import Derived.Deep.RegionHeld3
import Derived.Lib.BufferOwn
import Derived.Lib.AtoiErrMem
import Derived.Test.YtacnoedhpamdmaaGreatDoorLn
namespace Go.Proofs.YtacnoedhpamdmaaGreatDoor
open Go.RowKit Go.Shelf
set_option linter.unusedVariables false
attribute [local go_sem ↓] Go.wp_at_zero Go.wp_at_succ

/-- The text '[1,]', by its bytes. -/
structure Is4 (S T : ByteArray) : Prop where
  size : S.size = 4
  b0 : ∀ h, (S[0]'h).toNat = 91
  b1 : ∀ h, (S[1]'h).toNat = 49
  b2 : ∀ h, (S[2]'h).toNat = 44
  b3 : ∀ h, (S[3]'h).toNat = 93
  ex : S.extract 1 2 = T
  len : T.size = 1
  row : T.data.toList = [49]
  ne : (T.toList == [45, 48]) = false
theorem is4 : Is4 ⟨#[91, 49, 44, 93]⟩ ⟨#[49]⟩ := ⟨rfl, fun _ => rfl, fun _ => rfl, fun _ => rfl, fun _ => rfl, by decide +kernel, rfl, rfl, by decide +kernel⟩
def txPos (W : World) (g : Nat) : Nat := match W.cell? ⟨g, 1, none⟩ with | some (.int _ i) => i.toNat | _ => 0
set_option maxRecDepth 100000 in
set_option maxHeartbeats 1000000 in
theorem c_int (S T : ByteArray) (g : Nat) (w : World) (hS : Is4 S T) (hB : Blk w g 79 (TxC S 1))
    (hPI : ∀ W, Calls Tryz.prog 122 #[.string T, .int .i64 10, .int .i64 64] W fun e w' => e = .returned (.tuple #[.int .i64 1, .nilIface]) ∧ Below W.heap.size W w') :
    Calls Tryz.prog 104 #[.pointer (some ⟨g, 0, none⟩)] w fun e w' => e = .returned (.int .i64 1) ∧ Blk w' g 79 (TxC S 2) ∧ w.grownBy w' (some g) := by
  have hs := hS.size
  have hb1 := hS.b1
  have hb2 := hS.b2
  have hex := hS.ex
  have hlen := hS.len
  have hne := hS.ne
  have HPI := Lib.hid hPI
  have HPK : Hid (∀ W k, Blk W g 79 (TxC S k) → ∀ (h : k < S.size), Calls Tryz.prog 102 #[.pointer (some ⟨g, 0, none⟩)] W fun e w' => e = .returned (.int .u8 ((S[k]'h).toNat : Int)) ∧ ∃ q, w' = W.drewN q) := fun W k hk h => c_peek S k g W hk hs h
  have HK := Lib.hid hB
  have c0 : w.cell? ⟨g, 0, none⟩ = some (.string S) := hB.cell 0
  have c1 : w.cell? ⟨g, 1, none⟩ = some (.int .i64 1) := hB.cell 1
  clear hPI hB hS
  go_enter Tryz.func104, Tryz.ntmps104
  go_wp2_with fail
  refine (HPK.out w 1 HK.out (by omega)).mono ?_
  rintro e w1 ⟨rfl, q, rfl⟩
  rw [hb1]
  go_wp2_with fail
  go_loopw [] (fun wr => ∃ p : Nat, (p = 1 ∨ p = 2) ∧ Hid (Blk wr g 79 (TxC S p)) ∧ Hid (w.grownBy wr (some g))) (fun wr => 2 - txPos wr g)
  case atStart => exact ⟨1, .inl rfl, HK.out.drewN q, only_drewN (World.grownBy.refl w _) q⟩
  case round =>
    obtain ⟨p, hp, KR, GR⟩ := hrel
    clear c0 c1
    rcases hp with rfl | rfl
    · have c0 : wr.cell? ⟨g, 0, none⟩ = some (.string S) := KR.out.cell 0
      have c1 : wr.cell? ⟨g, 1, none⟩ = some (.int .i64 1) := KR.out.cell 1
      have f1 := KR.out.frozen 1
      go_wp2_with fail
      go_quiet (fail)
      go_wp2_with fail
      have K2 : Blk ((wr.drewN nq).setCell ⟨g, 1, none⟩ (.int .i64 2)) g 79 (TxC S 2) := (KR.out.drewN nq).set_ 1 _
      have m1 : txPos ((wr.drewN nq).setCell ⟨g, 1, none⟩ (.int .i64 2)) g = 2 := by unfold txPos; rw [K2.cell 1]; rfl
      have m2 : txPos wr g = 1 := by unfold txPos; rw [KR.out.cell 1]; rfl
      go_roundw
      case rel => exact ⟨2, .inr rfl, K2, only_setCell (only_drewN GR.out nq) (.inl rfl) _⟩
      case measure => rw [m1, m2]; omega
    · have c0 : wr.cell? ⟨g, 0, none⟩ = some (.string S) := KR.out.cell 0
      have c1 : wr.cell? ⟨g, 1, none⟩ = some (.int .i64 2) := KR.out.cell 1
      go_wp2_with fail
      go_quiet (fail)
      go_wp2_with fail
      go_quiet (fail)
      go_wp2_with fail
      have kl := KR.out.lt
      generalize hV5 : (wr.drewN _).drewN _ = w5
      obtain ⟨n5, hW5⟩ : ∃ n, w5 = wr.drewN n := ⟨_, hV5.symm.trans (World.drewN_drewN _ _ _)⟩
      clear hV5
      have K5 : Hid (Blk w5 g 79 (TxC S 2)) := by rw [hW5]; exact KR.out.drewN _
      have G5 : Hid (w.grownBy w5 (some g)) := by rw [hW5]; exact only_drewN GR.out _
      clear hW5 c0 c1 KR GR
      have c0 : w5.cell? ⟨g, 0, none⟩ = some (.string S) := K5.out.cell 0
      have c1 : w5.cell? ⟨g, 1, none⟩ = some (.int .i64 2) := K5.out.cell 1
      have hlt : g < w5.heap.size := K5.out.lt
      go_region_held3 (fun V => V.cell? ⟨g, 0, none⟩ = some (.string S) ∧ V.cell? ⟨g, 1, none⟩ = some (.int .i64 2)) (first | go_keep | (refine ⟨?_, ?_⟩ <;> assumption)) ((go_at_call 122; refine (HPI.out _).mono ?_; rintro x w6 ⟨rfl, hb6⟩; have l0 := (hb6.cell (p := ⟨g, 0, none⟩) hlt).trans c0; have l1 := (hb6.cell (p := ⟨g, 1, none⟩) hlt).trans c1))
      go_wp2_with fail
      go_ret
      exact ⟨rfl, K5.out.below (B := w5.heap.size) ⟨hb6.os, hb6.tape, hb6.output, hb6.size, hb6.block⟩ hlt, Lib.grownBy_below G5.out ⟨hb6.os, hb6.tape, hb6.output, hb6.size, hb6.block⟩⟩
theorem c_PI {S T : ByteArray} (hS : Is4 S T) (w : World) : Calls Tryz.prog 122 #[.string T, .int .i64 10, .int .i64 64] w fun e w' => e = .returned (.tuple #[.int .i64 1, .nilIface]) ∧ Below w.heap.size w w' := by
  have hlen := hS.len
  have H : Hid (∀ W, Calls Tryz.prog 138 #[.string T, .int .i64 10, .int .i64 64] W fun e w' => e = .returned (.tuple #[.int .i64 1, .nilIface]) ∧ Below W.heap.size W w') := fun W => by
    refine (Any.internal_strconv_ParseInt_10_at64 lays247 T (by omega) (by omega) W).mono ?_
    rintro e w' ⟨h1, h2⟩
    rw [hS.row] at h1
    refine ⟨h1, ?_⟩
    rcases h2 with rfl | ⟨t, rfl⟩
    · exact Below.refl _ _
    · exact Lib.bytesWorld_below _ _ _
  clear hS
  go_enter Tryz.func122, Tryz.ntmps122
  go_wp2_with (go_at_call 138; refine (H.out _).mono ?_; rintro e w1 ⟨rfl, hb1⟩)
  go_ret2
  exact ⟨rfl, hb1⟩
end Go.Proofs.YtacnoedhpamdmaaGreatDoor
