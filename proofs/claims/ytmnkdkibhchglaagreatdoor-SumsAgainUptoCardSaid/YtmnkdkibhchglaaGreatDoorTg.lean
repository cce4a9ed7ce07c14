/- Words for a line's reader in memory; walks of its small steps (reader.bad, must, digits). Conditions: lengths within the reach. -/
import Derived.Test.YtmnkdkibhchglaaGreatDoorTe
import Derived.Test.YtmnkdkibhchglaaGreatDoorLz
import Derived.Lib.BufferOwn
namespace Go.Proofs.YtmnkdkibhchglaaGreatDoor
open Go.RowKit
set_option linter.unusedVariables false
attribute [local go_sem ↓] Go.wp_at_zero Go.wp_at_succ

/-- A reader's cells. -/
abbrev rdC (s : ByteArray) (i : Nat) (mk : Bool) (a : Int) (nm : ByteArray) (D : Option Addr) (n c : Nat) (st : Bool) : Array Value := #[.string s, .int .i64 (i : Int), .bool mk, .int .i64 a, .string nm, .slice D n c, .bool st]
/-- A fault at a place, in new memory. -/
def FltE (w : World) (B : Nat) (x : Value) (j : Nat) : Prop := ∃ F, x = .iface 71 (.pointer (some ⟨F, 0, none⟩)) ∧ B ≤ F ∧ Blk w F 75 #[.int .i64 (j : Int), .int .i64 4]
theorem FltE.more {w w' : World} {B B' : Nat} {x : Value} {j : Nat} (h : FltE w B x j) (hb : Below w.heap.size w w') (hB : B' ≤ B) : FltE w' B' x j := by
  obtain ⟨F, h1, h2, h3⟩ := h
  exact ⟨F, h1, by omega, h3.below hb h3.lt⟩
theorem c_bad (b : Nat) (j : Nat) (w : World) : Calls Tryz.prog 44 #[.pointer (some ⟨b, 0, none⟩), .int .i64 (j : Int)] w fun e w' => ∃ x, e = .returned x ∧ FltE w' w.heap.size x j ∧ Below w.heap.size w w' := by
  go_enter Tryz.func44, Tryz.ntmps44
  go_wp2
  go_ret
  exact ⟨_, rfl, ⟨w.heap.size, rfl, Nat.le_refl _, Blk.new _ _ _⟩, (Below.refl _ _).alloc (Nat.le_refl _) _⟩
theorem indexByte_cases (l : List UInt8) (c : UInt8) : (Lib.indexByte l c = -1 ∧ l.contains c = false) ∨ (0 ≤ Lib.indexByte l c ∧ l.contains c = true) := by
  induction l with
  | nil => exact .inl ⟨rfl, rfl⟩
  | cons d l ih =>
    unfold Lib.indexByte
    by_cases h : d = c
    · subst h
      exact .inr ⟨by simp, by simp⟩
    · have hb : (d == c) = false := by simpa using h
      have hb2 : (c == d) = false := by simpa using fun e => h e.symm
      rw [hb, List.contains_cons, hb2]
      rcases ih with ⟨h1, h2⟩ | ⟨h1, h2⟩
      · exact .inl ⟨by rw [h1]; rfl, by rw [h2]; rfl⟩
      · refine .inr ⟨?_, by rw [h2]; rfl⟩
        rw [if_neg (by simp)]
        split <;> rename_i h3
        · simp at h3; omega
        · omega
theorem c_IndexByte (t : ByteArray) (c : UInt8) (w : World) : Calls Tryz.prog 68 #[.string t, .int .u8 (c.toNat : Int)] w fun e w' => e = .returned (.int .i64 (Lib.indexByte t.data.toList c)) ∧ w' = w := by
  have h := Any.strings_IndexByte lays137 t (c.toNat : Int) w
  rw [show ((c.toNat : Int).toNat.toUInt8) = c by simp] at h
  exact h
/-- Does one of these bytes stand here? -/
def okB (s ch : ByteArray) (i : Nat) : Bool := match s.data.toList[i]? with | none => false | some c => ch.data.toList.contains c
theorem okB_out {s ch : ByteArray} {i : Nat} (h : s.size ≤ i) : okB s ch i = false := by unfold okB; rw [ba_none s i h]
theorem okB_in {s ch : ByteArray} {i : Nat} (h : i < s.size) : okB s ch i = ch.data.toList.contains s[i] := by unfold okB; rw [ba_get s i h]
set_option maxHeartbeats 1000000 in
theorem c_must (s ch : ByteArray) (i b : Nat) (mk : Bool) (a : Int) (nm : ByteArray) (D : Option Addr) (n c : Nat) (st : Bool) (w : World) (hB : Blk w b 69 (rdC s i mk a nm D n c st)) (hs : s.size ≤ 1000000) (hi : i ≤ s.size) :
    Calls Tryz.prog 46 #[.pointer (some ⟨b, 0, none⟩), .string ch] w fun e w' => ∃ x, e = .returned x ∧ w.grownBy w' (some b) ∧
      ((okB s ch i = true ∧ x = .nilIface ∧ Blk w' b 69 (rdC s (i + 1) mk a nm D n c st)) ∨ (okB s ch i = false ∧ FltE w' w.heap.size x i)) := by
  have c0 : w.cell? ⟨b, 0, none⟩ = some (.string s) := hB.cell 0
  have c1 : w.cell? ⟨b, 1, none⟩ = some (.int .i64 (i : Int)) := hB.cell 1
  have f1 := hB.frozen 1
  have HK := Lib.hid hB
  have HBD := Lib.hid (fun W => c_bad b i W)
  clear hB
  by_cases hlt : i < s.size
  · have hio := okB_in (ch := ch) hlt
    have HI := Lib.hid (fun W => c_IndexByte ch s[i] W)
    rcases indexByte_cases ch.data.toList s[i] with ⟨h1, h2⟩ | ⟨h1, h2⟩
    · rw [h2] at hio
      have HO := Lib.hid hio
      rw [h1] at HI
      have t0 : ¬ (s.size : Int) ≤ (i : Int) := by omega
      clear h1 h2 hio
      generalize okB s ch i = ok at *
      go_enter Tryz.func46, Tryz.ntmps46
      go_wp2_with fail
      go_quiet ((go_at_call 68; exact Calls.quiet_of_same (HI.out _)))
      generalize hw5 : w.drewN nq = w5 at *
      have d1 : w5.cell? ⟨b, 1, none⟩ = some (.int .i64 (i : Int)) := by rw [← hw5]; exact c1
      have HG : Hid (w.grownBy w5 (some b)) := by rw [← hw5]; exact only_drewN (World.grownBy.refl w _) nq
      have hsz : w.heap.size = w5.heap.size := by rw [← hw5]; rfl
      clear hw5
      go_wp2_with fail
      refine (HBD.out _).mono ?_
      rintro e w6 ⟨x, rfl, hx, hb6⟩
      have HX := Lib.hid hx
      have HB6 := Lib.hid hb6
      clear hx hb6
      go_wp2_with fail
      go_ret
      exact ⟨x, rfl, Lib.grownBy_below HG.out HB6.out, .inr ⟨HO.out, by rw [hsz]; exact HX.out⟩⟩
    · rw [h2] at hio
      have HO := Lib.hid hio
      have t0 : ¬ (s.size : Int) ≤ (i : Int) := by omega
      have t1 : ¬ Lib.indexByte ch.data.toList s[i] < 0 := by omega
      generalize Lib.indexByte ch.data.toList s[i] = r at *
      clear h1 h2 hio
      generalize okB s ch i = ok at *
      go_enter Tryz.func46, Tryz.ntmps46
      go_wp2_with fail
      go_quiet ((go_at_call 68; exact Calls.quiet_of_same (HI.out _)))
      generalize hw5 : w.drewN nq = w5 at *
      have d1 : w5.cell? ⟨b, 1, none⟩ = some (.int .i64 (i : Int)) := by rw [← hw5]; exact c1
      have g1 : w5.frozen? ⟨b, 1, none⟩ = false := by rw [← hw5]; exact f1
      have HG : Hid (w.grownBy w5 (some b)) := by rw [← hw5]; exact only_drewN (World.grownBy.refl w _) nq
      have HK5 : Hid (Blk w5 b 69 (rdC s i mk a nm D n c st)) := by rw [← hw5]; exact HK.out
      clear hw5
      go_wp2_with fail
      go_ret
      exact ⟨_, rfl, only_setCell HG.out (.inl rfl) _, .inl ⟨HO.out, rfl, HK5.out.set_ 1 _⟩⟩
  · have HO : Hid (okB s ch i = false) := okB_out (by omega)
    have t0 : (s.size : Int) ≤ (i : Int) := by omega
    generalize okB s ch i = ok at *
    go_enter Tryz.func46, Tryz.ntmps46
    go_wp2_with fail
    go_quiet (fail)
    generalize hw5 : w.drewN nq = w5 at *
    have d1 : w5.cell? ⟨b, 1, none⟩ = some (.int .i64 (i : Int)) := by rw [← hw5]; exact c1
    have HG : Hid (w.grownBy w5 (some b)) := by rw [← hw5]; exact only_drewN (World.grownBy.refl w _) nq
    have hsz : w.heap.size = w5.heap.size := by rw [← hw5]; rfl
    clear hw5
    go_wp2_with fail
    refine (HBD.out _).mono ?_
    rintro e w6 ⟨x, rfl, hx, hb6⟩
    have HX := Lib.hid hx
    have HB6 := Lib.hid hb6
    clear hx hb6
    go_wp2_with fail
    go_ret
    exact ⟨x, rfl, Lib.grownBy_below HG.out HB6.out, .inr ⟨HO.out, by rw [hsz]; exact HX.out⟩⟩
end Go.Proofs.YtmnkdkibhchglaaGreatDoor
