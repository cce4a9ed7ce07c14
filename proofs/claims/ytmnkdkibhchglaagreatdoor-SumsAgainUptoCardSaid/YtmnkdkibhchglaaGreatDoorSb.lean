/- Words for an entry of a list, walks: may an entry be (sums.right, quernref26.right). Conditions: lengths within the reach. -/
import Derived.Test.YtmnkdkibhchglaaGreatDoorSa
import Derived.Deep.RegionWith
namespace Go.Proofs.YtmnkdkibhchglaaGreatDoor
open Go.RowKit
set_option linter.unusedVariables false
attribute [local go_sem ↓] Go.wp_at_zero Go.wp_at_succ

/-- An entry, plain. -/
structure Sm where
  a : Int
  nm : ByteArray
  dg : List UInt8
  st : Bool
/-- An entry's cells. -/
abbrev smC (e : Sm) (D : Option Addr) (n c : Nat) : Array Value := #[.int .i64 e.a, .string e.nm, .slice D n c, .bool e.st]
abbrev smV (e : Sm) (D : Option Addr) (n c : Nat) : Value := .agg (smC e D n c)
/-- May an entry be? -/
def rightS (e : Sm) : Bool := decide (1 ≤ e.dg.length) && decide (e.dg.length ≤ smost e.a) && fileB e.nm.data.toList
/-- An entry that can be read. -/
structure RdS (w : World) (e : Sm) (D : Option Addr) (n c : Nat) : Prop where
  hn : e.dg.length = n
  bn : e.nm.size ≤ 140737488351232
  rd : Reads w w.heap.size 1 D n (bys e.dg)
theorem RdS.step {w w' : World} {e : Sm} {D : Option Addr} {n c : Nat} (h : RdS w e D n c) (hb : Below w.heap.size w w') : RdS w' e D n c := ⟨h.hn, h.bn, h.rd.step hb⟩
theorem fld_most (x0 x2 x3 : Value) (m : Int) (W : World) : (Instr.field 40 (.agg #[x0, .int .i64 m, x2, x3]) 1).run Tryz.prog W = .ok (.int .i64 m) W := by kernel_rfl
set_option maxRecDepth 100000 in
set_option maxHeartbeats 1000000 in
theorem c_right (e : Sm) (D : Option Addr) (n c : Nat) (hn : e.dg.length = n) (bn : e.nm.size ≤ 140737488351232) (hn2 : n ≤ 140737488351232) (w : World) :
    Calls Tryz.prog 33 #[smV e D n c] w fun x w' => x = .returned (.bool (rightS e)) ∧ Below w.heap.size w w' := by
  have hB0 := Blk.new w 33 (smC e D n c)
  have HB := Lib.hid ((Below.refl w.heap.size w).alloc (Nat.le_refl _) (.cells (smC e D n c) 33))
  have HO : Hid (∀ W, Calls Tryz.prog 10 #[.int .i64 e.a] W fun x w' => x = .returned (.agg #[bstr (swrd e.a), .int .i64 (smost e.a : Nat), .int .i64 (skind e.a), .bool (decide (e.a = 3 ∨ e.a = 4))]) ∧ Below W.heap.size W w') := fun W => c_of e.a W
  have hfl := fun m W => fld_most (bstr (swrd e.a)) (.int .i64 (skind e.a)) (.bool (decide (e.a = 3 ∨ e.a = 4))) m W
  have hmb : smost e.a ≤ 64 := by unfold smost; split; omega; split <;> omega
  have HF := Lib.hid (fun W => c_named e.nm bn W)
  have HR : Hid (rightS e = (decide (1 ≤ n) && decide (n ≤ smost e.a) && fileB e.nm.data.toList)) := by show _ = _; unfold rightS; rw [hn]
  generalize fileB e.nm.data.toList = fb at *
  generalize smost e.a = MM at *
  generalize bstr (swrd e.a) = WW at *
  generalize skind e.a = KK at *
  generalize decide (e.a = 3 ∨ e.a = 4) = DD at *
  by_cases h1 : 1 ≤ n
  · have g1 : (1 : Int) ≤ (n : Int) := by omega
    by_cases h2 : n ≤ MM
    · have g2 : (n : Int) ≤ (MM : Int) := by omega
      rw [decide_eq_true h1, decide_eq_true h2] at HR
      clear h1 h2
      go_enter Tryz.func33, Tryz.ntmps33
      go_wp2_with fail
      generalize w.alloc (.cells (smC e D n c) 33) = w0 at *
      have c0 : w0.cell? ⟨w.heap.size, 0, none⟩ = some (.int .i64 e.a) := hB0.cell 0
      have c1 : w0.cell? ⟨w.heap.size, 1, none⟩ = some (.string e.nm) := hB0.cell 1
      have c2 : w0.cell? ⟨w.heap.size, 2, none⟩ = some (.slice D n c) := hB0.cell 2
      have hz := hB0.lt
      clear hB0
      go_region_held3 (fun V => V.cell? ⟨w.heap.size, 0, none⟩ = some (.int .i64 e.a) ∧ V.cell? ⟨w.heap.size, 1, none⟩ = some (.string e.nm) ∧ V.cell? ⟨w.heap.size, 2, none⟩ = some (.slice D n c)) (first | go_keep | (refine ⟨?_, ?_, ?_⟩ <;> assumption)) (first | (go_at_call 10; refine (HO.out w0.drew).mono ?_; rintro x w1 ⟨rfl, hb1⟩; have d0 := (hb1.cell (p := ⟨w.heap.size, 0, none⟩) hz).trans c0; have d1 := (hb1.cell (p := ⟨w.heap.size, 1, none⟩) hz).trans c1; have d2 := (hb1.cell (p := ⟨w.heap.size, 2, none⟩) hz).trans c2; have hz1 := Nat.lt_of_lt_of_le hz hb1.size) | (go_at_call 56; refine (HF.out w1).mono ?_; rintro x w2 ⟨rfl, hb2⟩; have k0 := (hb2.cell (p := ⟨w.heap.size, 0, none⟩) hz1).trans d0; have k1 := (hb2.cell (p := ⟨w.heap.size, 1, none⟩) hz1).trans d1; have k2 := (hb2.cell (p := ⟨w.heap.size, 2, none⟩) hz1).trans d2))
      have HX : Hid (Below w.heap.size w w2) := below_step HB.out (below_step (W := w0) ⟨hb1.os, hb1.tape, hb1.output, hb1.size, hb1.block⟩ hb2)
      clear hb1 hb2
      go_wp2_with fail
      go_ret
      exact ⟨by rw [HR.out]; go_simp, HX.out⟩
    · have g2 : ¬ (n : Int) ≤ (MM : Int) := by omega
      rw [decide_eq_true h1, decide_eq_false h2] at HR
      have g3 : decide (n ≤ MM) = false := decide_eq_false h2
      have g4 : MM < n := by omega
      clear h1 h2
      go_enter Tryz.func33, Tryz.ntmps33
      go_wp2_with fail
      generalize w.alloc (.cells (smC e D n c) 33) = w0 at *
      have c0 : w0.cell? ⟨w.heap.size, 0, none⟩ = some (.int .i64 e.a) := hB0.cell 0
      have c1 : w0.cell? ⟨w.heap.size, 1, none⟩ = some (.string e.nm) := hB0.cell 1
      have c2 : w0.cell? ⟨w.heap.size, 2, none⟩ = some (.slice D n c) := hB0.cell 2
      have hz := hB0.lt
      clear hB0
      have g5 : decide ((n : Int) ≤ (MM : Int)) = false := by rw [decide_eq_false_iff_not]; omega
      have g6 : ((n : Int) ≤ (MM : Int)) = False := eq_false (by omega)
      have e0 : w0.drew.cell? ⟨w.heap.size, 0, none⟩ = some (.int .i64 e.a) := c0
      have e2 : w0.drew.cell? ⟨w.heap.size, 2, none⟩ = some (.slice D n c) := c2
      first | (go_region_with (go_at_call 10; refine (HO.out w0.drew).mono ?_; rintro x w1 ⟨rfl, hb1⟩; have d0 := (hb1.cell (p := ⟨w.heap.size, 0, none⟩) hz).trans c0; have d2 := (hb1.cell (p := ⟨w.heap.size, 2, none⟩) hz).trans c2)) | fail
      all_goals
        have HX : Hid (Below w.heap.size w w1) := below_step HB.out (W := w) (w1 := w0) ⟨hb1.os, hb1.tape, hb1.output, hb1.size, hb1.block⟩
        clear hb1
        go_wp2_with fail
        go_ret
        exact ⟨by rw [HR.out]; rfl, HX.out⟩
  · rw [decide_eq_false h1] at HR
    have hn0 : n = 0 := by omega
    subst hn0
    clear h1
    go_enter Tryz.func33, Tryz.ntmps33
    go_wp2_with fail
    generalize w.alloc (.cells (smC e D 0 c) 33) = w0 at *
    have c0 : w0.cell? ⟨w.heap.size, 0, none⟩ = some (.int .i64 e.a) := hB0.cell 0
    have c1 : w0.cell? ⟨w.heap.size, 1, none⟩ = some (.string e.nm) := hB0.cell 1
    have c2 : w0.cell? ⟨w.heap.size, 2, none⟩ = some (.slice D 0 c) := hB0.cell 2
    have hz := hB0.lt
    clear hB0
    go_quiet (fail)
    have HX : Hid (Below w.heap.size w (w0.drewN nq)) := below_drewN HB.out nq
    go_wp2_with fail
    go_ret
    exact ⟨by rw [HR.out]; rfl, HX.out⟩
end Go.Proofs.YtmnkdkibhchglaaGreatDoor
