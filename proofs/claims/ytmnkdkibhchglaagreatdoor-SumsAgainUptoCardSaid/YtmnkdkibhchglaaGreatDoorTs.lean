/- Walks of the law's own functions: bytes held against bytes, answers spoilt, entries held against one another (quernlaw26.same, spoil, alike). Conditions: lengths within the reach. -/
import Derived.Test.YtmnkdkibhchglaaGreatDoorTj
namespace Go.Proofs.YtmnkdkibhchglaaGreatDoor
open Go.RowKit
set_option linter.unusedVariables false

set_option maxHeartbeats 400000 in
theorem c_same26 (A A' : Option Addr) (n c n' c' : Nat) (xs ys : List Int) (w : World) (B : Nat) (hr : Reads w B 1 A n (u8s xs)) (hr' : Reads w B 1 A' n' (u8s ys)) (hn : n ≤ 140737488355328) :
    Calls Tryz.prog 16 #[.slice A n c, .slice A' n' c'] w fun e w' => e = .returned (.bool (decide (xs = ys))) ∧ Below w.heap.size w w' := by
  have hl : xs.length = n := by simpa using hr.1
  have hl' : ys.length = n' := by simpa using hr'.1
  by_cases hnn : n = n'
  · subst hnn
    have Hl := Lib.hid hl
    have Hl' := Lib.hid hl'
    clear hl hl'
    go_enter Tryz.func16, Tryz.ntmps16
    go_wp2
    go_loopw [5] (fun i wr => ∃ k d : Nat, k ≤ n ∧ i = .int .i64 k ∧ Hid (xs.take k = ys.take k) ∧ wr = w.drewN d) (fun i _ => n - (intOf i).toNat)
    case atStart => exact ⟨0, 0, Nat.zero_le _, rfl, rfl, rfl⟩
    case round =>
      obtain ⟨k, d, hk, rfl, HT, rfl⟩ := hrel
      by_cases hlt : k < n
      · obtain ⟨b, off, rfl, hbB, hbw, hcells⟩ := hr.form (by omega)
        obtain ⟨b', off', rfl, hbB', hbw', hcells'⟩ := hr'.form (by omega)
        have hcell := hcells k hlt
        have hcell' := hcells' k hlt
        rw [getD_u8s (by rw [Hl.out]; exact hlt)] at hcell
        rw [getD_u8s (by rw [Hl'.out]; exact hlt)] at hcell'
        clear hcells hcells'
        have HN : Hid (xs.getD k 0 = ys.getD k 0 → xs.take (k + 1) = ys.take (k + 1)) := fun he => take_next (by rw [Hl.out]; exact hlt) (by rw [Hl'.out]; exact hlt) HT.out he
        have HD : Hid (xs.getD k 0 ≠ ys.getD k 0 → xs ≠ ys) := ne_of_getD
        generalize xs.getD k 0 = z at *
        generalize ys.getD k 0 = z' at *
        by_cases hz : z = z'
        · have hz' : (z != z') = false := by simp [hz]
          have HZ : Hid (xs.take (k + 1) = ys.take (k + 1)) := HN.out hz
          clear hz HN HD
          go_wp2
          go_quiet (fail)
          go_wp2
          go_roundw
          case rel => exact ⟨k + 1, _, by omega, by go_num, HZ, rfl⟩
          case measure => simp [intOf]; omega
        · have hz' : (z != z') = true := by simp [hz]
          have HZ : Hid (xs ≠ ys) := HD.out hz
          clear hz HN HD
          go_wp2
          go_quiet (fail)
          go_wp2
          go_ret
          exact ⟨by rw [decide_eq_false HZ.out]; rfl, below_drewN (below_drewN (Below.refl _ _) _) _⟩
      · have HZ : Hid (xs = ys) := by
          have hx : xs.take k = xs := List.take_of_length_le (by rw [Hl.out]; omega)
          have hy : ys.take k = ys := List.take_of_length_le (by rw [Hl'.out]; omega)
          show xs = ys
          rw [← hx, ← hy]
          exact HT.out
        go_wp2
        go_ret
        exact ⟨by rw [decide_eq_true HZ.out]; rfl, below_drewN (Below.refl _ _) _⟩
  · have HZ : Hid (xs ≠ ys) := by
      show xs ≠ ys
      rintro rfl
      exact hnn (by omega)
    have hne : ((n : Int) != (n' : Int)) = true := by simp; omega
    clear hnn hl hl'
    go_enter Tryz.func16, Tryz.ntmps16
    go_wp2
    go_ret
    exact ⟨by rw [decide_eq_false HZ.out]; rfl, Below.refl _ _⟩
theorem grown_mix {w wr w' : World} {ob row : Option Nat} (h : w.grownBy wr ob) (k : wr.grownBy w' row) (hr : row = ob ∨ row = none ∨ ∃ g, row = some g ∧ w.heap.size ≤ g) : w.grownBy w' ob :=
  ⟨k.os.trans h.os, k.tape.trans h.tape, k.output.trans h.output, Nat.le_trans h.size k.size, fun i hi hne => (k.block i (Nat.lt_of_lt_of_le hi h.size) (by
    rcases hr with rfl | rfl | ⟨g, rfl, hg⟩
    · exact hne
    · simp
    · simp; omega)).trans (h.block i hi hne)⟩
theorem u8s_set (xs : List Int) (j : Nat) (z : Int) : (u8s xs).set j (.int .u8 z) = u8s (xs.set j z) := by unfold u8s; rw [List.map_set]
theorem own_oneZ {w : World} {B n : Nat} {v : Value} {xs : List Int} (h : w.ownsRow B 5 1 v n (u8s xs)) : v.ownBlock = none ∨ ∃ g, v.ownBlock = some g ∧ B ≤ g := by
  rcases h.2 with ⟨rfl, _⟩ | ⟨g, cap, cur, rfl, hb, _⟩
  · exact .inl rfl
  · exact .inr ⟨g, rfl, hb⟩
theorem bys_z (l : List UInt8) : u8s (l.map fun c => (c.toNat : Int)) = bys l := by simp [bys]
theorem nat_inj {l m : List UInt8} (h : (l.map fun c => (c.toNat : Int)) = m.map fun c => (c.toNat : Int)) : l = m := by
  induction l generalizing m with
  | nil => cases m with
    | nil => rfl
    | cons d m => cases h
  | cons c l ih => cases m with
    | nil => cases h
    | cons d m =>
      simp only [List.map_cons, List.cons.injEq] at h
      rw [ih h.2, show c = d from UInt8.toNat_inj.1 (by omega)]
theorem c_sameL (A A' : Option Addr) (n c n' c' : Nat) (l m : List UInt8) (w : World) (B : Nat) (hr : Reads w B 1 A n (bys l)) (hr' : Reads w B 1 A' n' (bys m)) (hn : n ≤ 140737488355328) :
    Calls Tryz.prog 16 #[.slice A n c, .slice A' n' c'] w fun e w' => e = .returned (.bool (decide (l = m))) ∧ Below w.heap.size w w' := by
  have h := c_same26 A A' n c n' c' (l.map fun c => (c.toNat : Int)) (m.map fun c => (c.toNat : Int)) w B (by rw [bys_z]; exact hr) (by rw [bys_z]; exact hr') hn
  have e : decide ((l.map fun c => (c.toNat : Int)) = m.map fun c => (c.toNat : Int)) = decide (l = m) := by
    rw [decide_eq_decide]
    exact ⟨nat_inj, fun h => by rw [h]⟩
  rw [e] at h
  exact h
set_option maxRecDepth 100000 in
set_option maxHeartbeats 1000000 in
theorem c_alike (e : Sm) (D D' : Option Addr) (n c c' : Nat) (w : World) (B : Nat) (hB : B ≤ w.heap.size) (hr : Reads w B 1 D n (bys e.dg)) (hr' : Reads w B 1 D' n (bys e.dg)) (hn : n ≤ 140737488355328) :
    Calls Tryz.prog 7 #[smV e D n c, smV e D' n c'] w fun x w' => x = .returned (.bool true) ∧ Below w.heap.size w w' := by
  have HS : Hid (∀ W, Reads W B 1 D n (bys e.dg) → Reads W B 1 D' n (bys e.dg) → Calls Tryz.prog 16 #[.slice D n c, .slice D' n c'] W fun x w' => x = .returned (.bool true) ∧ Below W.heap.size W w') := fun W h1 h2 => by
    have := c_sameL D D' n c n c' e.dg e.dg W B h1 h2 hn
    rwa [decide_eq_true rfl] at this
  have HR1 := Lib.hid ((hr.alloc hB (.cells (smC e D n c) 33)).alloc (by simp; omega) (.cells (smC e D' n c') 33))
  have HR2 := Lib.hid ((hr'.alloc hB (.cells (smC e D n c) 33)).alloc (by simp; omega) (.cells (smC e D' n c') 33))
  have HBL := Lib.hid (((Below.refl w.heap.size w).alloc (Nat.le_refl _) (.cells (smC e D n c) 33)).alloc (by simp) (.cells (smC e D' n c') 33))
  clear hr hr' hB
  obtain ⟨ea, en, ed, es⟩ := e
  simp only [smV, smC] at *
  generalize bys ed = ys at *
  go_enter Tryz.func7, Tryz.ntmps7
  go_wp2_with (go_at_call 16; refine (HS.out _ HR1.out HR2.out).mono ?_; rintro x w7 ⟨rfl, hb7⟩; have HB7 := Lib.hid (below_step HBL.out hb7); clear hb7)
  go_ret
  exact ⟨by simp, HB7.out⟩
end Go.Proofs.YtmnkdkibhchglaaGreatDoor
