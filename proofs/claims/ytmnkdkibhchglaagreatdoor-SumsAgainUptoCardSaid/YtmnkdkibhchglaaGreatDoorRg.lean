/- Walks: the table is built once, all escapes laid ((*sync.Once).Do, (*strings.Replacer).Replace, sums.Escape). Conditions: lengths within the reach. -/
import Derived.Test.YtmnkdkibhchglaaGreatDoorRf
namespace Go.Proofs.YtmnkdkibhchglaaGreatDoor
open Go.RowKit
set_option linter.unusedVariables false
attribute [local go_sem ↓] Go.wp_at_zero Go.wp_at_succ

/-- A replacer whose table stands. -/
def RepUp (W w : World) (R g : Nat) (d m : Int) : Prop := Blk w R 164 (rpC d m (.iface 202 (.pointer (some ⟨g, 0, none⟩))) (.slice none 0 0)) ∧ RepSt W w g rep3
set_option maxRecDepth 100000 in
set_option maxHeartbeats 1600000 in
theorem c_doSlow (R : Nat) (W w : World) (h : NewRp W w R) :
    Calls Tryz.prog 97 #[.pointer (some ⟨R, 0, none⟩), .func (.func 86) #[.pointer (some ⟨R, 0, none⟩)] #[]] w fun e w' => ∃ g, e = .returned (.tuple #[]) ∧ RepUp W w' R g 1 0 := by
  obtain ⟨q, c, hc, hB, hown, hb, hW⟩ := h
  have hB1 : Blk (w.setCell ⟨R, 1, none⟩ (.int .i32 1)) R 164 (rpC 0 1 .nilIface (.slice (some ⟨q, 0, none⟩) 6 c)) := hB.set_ 1 (.int .i32 1)
  have hown1 := hown.kept (grown_setCell w R 1 (.int .i32 1)) (.inr (own_blk_ne hown hB (by decide)))
  have hb1 : Below W.heap.size W (w.setCell ⟨R, 1, none⟩ (.int .i32 1)) := hb.setCell (p := ⟨R, 1, none⟩) hW _
  have HBO := Lib.hid (c_buildOnce R q c 0 1 W (w.setCell ⟨R, 1, none⟩ (.int .i32 1)) hc hB1 hown1 hb1 hW)
  have HLK := Lib.hid (so_lock ⟨R, 1, none⟩ w (hB.cell 1) (hB.frozen 1))
  have hl := run_call_load (P := Tryz.prog) Tryz.func109 (by kernel_rfl) (by kernel_rfl) (by kernel_rfl) .u32 (by kernel_rfl) (w := w.setCell ⟨R, 1, none⟩ (.int .i32 1)) (a := ⟨R, 0, none⟩) (x := 0) (hB1.cell 0)
  have hnot : ∀ (x : Bool) (w : World), (Op.unary .not (.bool x)).run Tryz.prog w = .ok (.bool (!x)) w := fun _ _ => rfl
  clear hB hown hb hB1 hown1 hb1
  go_enter_defers Tryz.func97, Tryz.ntmps97
  go_wp2_with (first | (go_at_call 110; refine (HLK.out).mono ?_; rintro e w' ⟨rfl, rfl⟩) | (go_at_call 96; go_in) | (go_at_call 86; refine (HBO.out).mono ?_; rintro e w2 ⟨g, rfl, hB2, hS2⟩; have HB2 := Lib.hid hB2; have HS2 := Lib.hid hS2; clear hB2 hS2))
  have e0 := HB2.out.cell 0
  have f0 := HB2.out.frozen 0
  have hB3 : Blk (w2.drew.setCell ⟨R, 0, none⟩ (.int .u32 1)) R 164 (rpC 1 1 (.iface 202 (.pointer (some ⟨g, 0, none⟩))) (.slice none 0 0)) := HB2.out.drew.set_ 0 (.int .u32 1)
  have hS3 : RepSt W (w2.drew.setCell ⟨R, 0, none⟩ (.int .u32 1)) g rep3 := HS2.out.drew.put HB2.out.drew hW 0 (.int .u32 1)
  have HB4 : Hid (Blk ((w2.drew.setCell ⟨R, 0, none⟩ (.int .u32 1)).setCell ⟨R, 1, none⟩ (.int .i32 0)) R 164 (rpC 1 0 (.iface 202 (.pointer (some ⟨g, 0, none⟩))) (.slice none 0 0))) := hB3.set_ 1 (.int .i32 0)
  have HS4 : Hid (RepSt W ((w2.drew.setCell ⟨R, 0, none⟩ (.int .u32 1)).setCell ⟨R, 1, none⟩ (.int .i32 0)) g rep3) := hS3.put hB3 hW 1 (.int .i32 0)
  refine leaves_cons (f := 112) (args := #[.pointer (some ⟨R, 0, none⟩), .bool true]) (by simp) (by simp [go_sem]) ?_
  refine (so_store ⟨R, 0, none⟩ (.int .u32 0) .returning _ e0 f0).mono ?_
  rintro e u' w'' ⟨rfl, rfl, rfl⟩
  refine leaves_cons (f := 111) (args := #[.pointer (some ⟨R, 1, none⟩)]) (by simp [settle]) (by simp [go_sem]) ?_
  refine (so_unlock ⟨R, 1, none⟩ _ _ (hB3.cell 1) (hB3.frozen 1)).mono ?_
  rintro e u' w'' ⟨rfl, rfl, rfl⟩
  simp [Leaves, settle, results, Tryz.results97]
  exact ⟨g, HB4.out, HS4.out⟩
set_option maxRecDepth 100000 in
set_option maxHeartbeats 1000000 in
theorem c_Do (R : Nat) (W w : World) (h : NewRp W w R) :
    Calls Tryz.prog 85 #[.pointer (some ⟨R, 0, none⟩), .func (.func 86) #[.pointer (some ⟨R, 0, none⟩)] #[]] w fun e w' => ∃ g, e = .returned (.tuple #[]) ∧ RepUp W w' R g 1 0 := by
  have HD := Lib.hid (c_doSlow R W w h)
  obtain ⟨q, c, hc, hB, hown, hb, hW⟩ := h
  have hl := run_call_load (P := Tryz.prog) Tryz.func109 (by kernel_rfl) (by kernel_rfl) (by kernel_rfl) .u32 (by kernel_rfl) (w := w) (a := ⟨R, 0, none⟩) (x := 0) (hB.cell 0)
  have hnot : ∀ (x : Bool) (w : World), (Op.unary .not (.bool x)).run Tryz.prog w = .ok (.bool (!x)) w := fun _ _ => rfl
  clear hB hown hb
  go_enter Tryz.func85, Tryz.ntmps85
  go_wp2_with (first | (go_at_call 97; refine (HD.out).mono ?_; rintro e w2 ⟨g, rfl, hU⟩; have HU := Lib.hid hU; clear hU) | (go_at_call 96; go_in))
  go_end0
  exact ⟨g, rfl, HU.out⟩
set_option maxRecDepth 100000 in
set_option maxHeartbeats 1000000 in
theorem c_repReplace (R : Nat) (s : ByteArray) (hs : s.size ≤ 35184372088832) (W w : World) (h : NewRp W w R) :
    Calls Tryz.prog 74 #[.pointer (some ⟨R, 0, none⟩), .string s] w fun e w' => e = .returned (bstr (esc s.data.toList)) ∧ Below W.heap.size W w' := by
  have HD := Lib.hid (c_Do R W w h)
  clear h
  go_enter Tryz.func74, Tryz.ntmps74
  go_wp2_with fail
  refine (HD.out).mono ?_
  rintro e w1 ⟨g, rfl, hB, hS⟩
  have e3 := hB.cell 3
  simp at e3
  have HRP := Lib.hid (c_bsReplace g s hs W w1 hS)
  have HBL := Lib.hid hS.bel
  clear hB hS
  go_wp2_with fail
  refine (HRP.out).mono ?_
  rintro e w2 ⟨rfl, hb2⟩
  have HB2 := Lib.hid (below_step HBL.out hb2)
  clear hb2
  go_wp2_with fail
  go_ret
  exact ⟨rfl, HB2.out⟩
theorem reads_strs (w : World) : Reads (w.alloc (.cells strs6.toArray 9)) (w.alloc (.cells strs6.toArray 9)).heap.size 1 (some ⟨w.heap.size, 0, none⟩) 6 strs6 :=
  Reads.of_own (World.ownsRow_lit (e := 9) (size := 1) (base := 0) w strs6.toArray 6 (Nat.zero_le _) (by decide) rfl)
set_option maxRecDepth 100000 in
set_option maxHeartbeats 1000000 in
theorem c_Escape (s : ByteArray) (hs : s.size ≤ 140737488351232) (w : World) : Calls Tryz.prog 57 #[.string s] w fun e w' => e = .returned (.tuple #[bstr (escN s), .bool (escO s), .int .i64 (escE s)]) ∧ Below w.heap.size w w' := by
  have HF := Lib.hid (fun W => c_named s (by omega) W)
  by_cases hf : fileB s.data.toList = true
  · have h4 := fileB_le hf
    have HN : Hid (escN s = esc s.data.toList ∧ escO s = escD s ∧ escE s = 0) := by
      show _ ∧ _ ∧ _
      unfold escN escO escE
      rw [if_pos hf, if_pos hf, hf]; exact ⟨rfl, rfl, rfl⟩
    rw [hf] at HF
    have HD : Hid (escD s = !(esc s.data.toList == s.toList)) := rfl
    have HRS := Lib.hid (fun W => reads_strs W)
    have HNR := Lib.hid (fun W => c_NewReplacer ⟨World.heap W |>.size, 0, none⟩ 6 (W.alloc (.cells strs6.toArray 9)) (HRS.out W))
    have HRR := Lib.hid (fun R W w h => c_repReplace R s (by omega) W w h)
    clear hf HRS
    generalize esc s.data.toList = m at *
    go_enter Tryz.func57, Tryz.ntmps57
    go_wp2_with fail
    refine (HF.out _).mono ?_
    rintro e w1 ⟨rfl, hb1⟩
    have HB1 := Lib.hid hb1
    clear hb1
    go_wp2_with fail
    refine (HNR.out w1).mono ?_
    rintro e w2 ⟨R, rfl, hR⟩
    have HR := Lib.hid hR
    clear hR
    go_wp2_with fail
    refine (HRR.out R _ w2 HR.out).mono ?_
    rintro e w3 ⟨rfl, hb3⟩
    have HB3 : Hid (Below w.heap.size w w3) := below_step (HB1.out.alloc HB1.out.size _) hb3
    clear hb3
    go_wp2_with fail
    go_ret3
    exact ⟨by rw [HN.out.1, HN.out.2.1, HN.out.2.2, HD.out]; simp, HB3.out⟩
  · have HN : Hid (escN s = [] ∧ escO s = false ∧ escE s = 1) := by
      show _ ∧ _ ∧ _
      unfold escN escO escE
      rw [if_neg hf, if_neg hf, Bool.eq_false_iff.2 hf]; exact ⟨rfl, rfl, rfl⟩
    rw [Bool.eq_false_iff.2 hf] at HF
    clear hf
    go_enter Tryz.func57, Tryz.ntmps57
    go_wp2_with fail
    refine (HF.out _).mono ?_
    rintro e w1 ⟨rfl, hb1⟩
    have HB1 := Lib.hid hb1
    clear hb1
    go_wp2_with fail
    go_ret3
    exact ⟨by rw [HN.out.1, HN.out.2.1, HN.out.2.2]; rfl, HB1.out⟩
end Go.Proofs.YtmnkdkibhchglaaGreatDoor
