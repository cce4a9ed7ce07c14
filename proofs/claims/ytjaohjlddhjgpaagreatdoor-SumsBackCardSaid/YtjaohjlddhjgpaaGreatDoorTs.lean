/- Walks of the law's own functions: bytes held against bytes, answers spoilt, entries held against one another (quernlaw26.same, spoil, alike). Conditions: lengths within the reach. -/
import Derived.Test.YtjaohjlddhjgpaaGreatDoorTj
namespace Go.Proofs.YtjaohjlddhjgpaaGreatDoor
open Go.RowKit
set_option linter.unusedVariables false

set_option maxHeartbeats 400000 in
theorem c_same26 (A A' : Option Addr) (n c n' c' : Nat) (xs ys : List Int) (w : World) (B : Nat) (hr : Reads w B 1 A n (u8s xs)) (hr' : Reads w B 1 A' n' (u8s ys)) (hn : n ≤ 140737488355328) :
    Calls Tryz.prog 43 #[.slice A n c, .slice A' n' c'] w fun e w' => e = .returned (.bool (decide (xs = ys))) ∧ Below w.heap.size w w' := by
  have hl : xs.length = n := by simpa using hr.1
  have hl' : ys.length = n' := by simpa using hr'.1
  by_cases hnn : n = n'
  · subst hnn
    have Hl := Lib.hid hl
    have Hl' := Lib.hid hl'
    clear hl hl'
    go_enter Tryz.func43, Tryz.ntmps43
    go_wp2
    go_loopw [5] (fun i wr => ∃ k d : Nat, k ≤ n ∧ i = .int .i64 k ∧ Hid (xs.take k = ys.take k) ∧ wr = w.drewN d) (fun i _ => n - (intOf i).toNat)
    case atStart => exact ⟨0, 0, Nat.zero_le _, rfl, rfl, rfl⟩
    case round =>
      obtain ⟨k, d, hk, rfl, HT, rfl⟩ := hrel
      by_cases hlt : k < n
      · obtain ⟨b, off, rfl, hbB, hbw, hcells⟩ := hr.form (by omega)
        obtain ⟨b', off', rfl, hbB', hbw', hcells'⟩ := hr'.form (by omega)
        have hcell := hcells k hlt
        have hcell' := hcells' k hlt
        rw [getD_u8s (by rw [Hl.out]; exact hlt)] at hcell
        rw [getD_u8s (by rw [Hl'.out]; exact hlt)] at hcell'
        clear hcells hcells'
        have HN : Hid (xs.getD k 0 = ys.getD k 0 → xs.take (k + 1) = ys.take (k + 1)) := fun he => take_next (by rw [Hl.out]; exact hlt) (by rw [Hl'.out]; exact hlt) HT.out he
        have HD : Hid (xs.getD k 0 ≠ ys.getD k 0 → xs ≠ ys) := ne_of_getD
        generalize xs.getD k 0 = z at *
        generalize ys.getD k 0 = z' at *
        by_cases hz : z = z'
        · have hz' : (z != z') = false := by simp [hz]
          have HZ : Hid (xs.take (k + 1) = ys.take (k + 1)) := HN.out hz
          clear hz HN HD
          go_wp2
          go_quiet (fail)
          go_wp2
          go_roundw
          case rel => exact ⟨k + 1, _, by omega, by go_num, HZ, rfl⟩
          case measure => simp [intOf]; omega
        · have hz' : (z != z') = true := by simp [hz]
          have HZ : Hid (xs ≠ ys) := HD.out hz
          clear hz HN HD
          go_wp2
          go_quiet (fail)
          go_wp2
          go_ret
          exact ⟨by rw [decide_eq_false HZ.out]; rfl, below_drewN (below_drewN (Below.refl _ _) _) _⟩
      · have HZ : Hid (xs = ys) := by
          have hx : xs.take k = xs := List.take_of_length_le (by rw [Hl.out]; omega)
          have hy : ys.take k = ys := List.take_of_length_le (by rw [Hl'.out]; omega)
          show xs = ys
          rw [← hx, ← hy]
          exact HT.out
        go_wp2
        go_ret
        exact ⟨by rw [decide_eq_true HZ.out]; rfl, below_drewN (Below.refl _ _) _⟩
  · have HZ : Hid (xs ≠ ys) := by
      show xs ≠ ys
      rintro rfl
      exact hnn (by omega)
    have hne : ((n : Int) != (n' : Int)) = true := by simp; omega
    clear hnn hl hl'
    go_enter Tryz.func43, Tryz.ntmps43
    go_wp2
    go_ret
    exact ⟨by rw [decide_eq_false HZ.out]; rfl, Below.refl _ _⟩
theorem grown_mix {w wr w' : World} {ob row : Option Nat} (h : w.grownBy wr ob) (k : wr.grownBy w' row) (hr : row = ob ∨ row = none ∨ ∃ g, row = some g ∧ w.heap.size ≤ g) : w.grownBy w' ob :=
  ⟨k.os.trans h.os, k.tape.trans h.tape, k.output.trans h.output, Nat.le_trans h.size k.size, fun i hi hne => (k.block i (Nat.lt_of_lt_of_le hi h.size) (by
    rcases hr with rfl | rfl | ⟨g, rfl, hg⟩
    · exact hne
    · simp
    · simp; omega)).trans (h.block i hi hne)⟩
theorem u8s_set (xs : List Int) (j : Nat) (z : Int) : (u8s xs).set j (.int .u8 z) = u8s (xs.set j z) := by unfold u8s; rw [List.map_set]
theorem own_oneZ {w : World} {B n : Nat} {v : Value} {xs : List Int} (h : w.ownsRow B 5 1 v n (u8s xs)) : v.ownBlock = none ∨ ∃ g, v.ownBlock = some g ∧ B ≤ g := by
  rcases h.2 with ⟨rfl, _⟩ | ⟨g, cap, cur, rfl, hb, _⟩
  · exact .inl rfl
  · exact .inr ⟨g, rfl, hb⟩
set_option maxRecDepth 100000 in
set_option maxHeartbeats 1000000 in
theorem c_spoil26 (B : Nat) (A : Option Addr) (n c : Nat) (xs0 : List Int) (w : World) (h0 : w.ownsRow B 5 1 (.slice A n c) n (u8s xs0)) (hn : n ≤ 140737488351232) (hB : B ≤ w.heap.size) :
    Calls Tryz.prog 17 #[.slice A n c] w fun e w' => e = .returned (.tuple #[]) ∧ w.grownBy w' (Value.slice A n c).ownBlock := by
  obtain ⟨i0, hi0, hz0, hz1, hz2⟩ := info_parts u8_info
  go_enter Tryz.func17, Tryz.ntmps17
  go_wp2
  go_loopw [2] (fun i wr => ∃ (j : Nat) (xs : List Int), j ≤ n ∧ i = .int .i64 j ∧ wr.ownsRow B 5 1 (.slice A n c) n (u8s xs) ∧ Hid (w.grownBy wr (Value.slice A n c).ownBlock)) (fun i _ => n - (intOf i).toNat)
  case atStart => exact ⟨0, xs0, Nat.zero_le _, rfl, h0, World.grownBy.refl w _⟩
  case round =>
    obtain ⟨j, xs, hj, rfl, hown, HPR⟩ := hrel
    have hl : xs.length = n := by have := hown.1; simpa using this
    by_cases hlt : j < n
    · obtain ⟨g, cap, hv, hg1, hg2⟩ := own_form hown (by omega)
      injection hv with hv _ hv2
      subst hv; subst hv2
      have hcell : wr.cell? ⟨g, j, none⟩ = some (.int .u8 (xs.getD j 0)) := by
        rw [hown.cellAt j (by omega)]
        simp [List.getD, List.getElem?_eq_getElem (show j < xs.length by omega)]
      have hfr := hown.frozenAt j
      have HST : Hid (∀ z, (wr.setCell ⟨g, j, none⟩ (.int .u8 z)).ownsRow B 5 1 (.slice (some ⟨g, 0, none⟩) n c) n (u8s (xs.set j z)) ∧ w.grownBy (wr.setCell ⟨g, j, none⟩ (.int .u8 z)) (Value.slice (some ⟨g, 0, none⟩) n c).ownBlock) := fun z => by
        have h1 := (hown.stored j (.int .u8 z)).1
        rw [u8s_set] at h1
        exact ⟨h1, only_setCell (g := g) HPR.out (.inl rfl) _⟩
      have HOW := Lib.hid hown
      clear hl hown
      generalize xs.getD j 0 = y at *
      go_wp2
      go_roundw
      case rel => exact ⟨j + 1, _, by omega, by go_num, (HST.out _).1, (HST.out _).2⟩
      case measure => simp [intOf]; omega
    · have HOW := Lib.hid hown
      clear hl hown
      obtain ⟨wo, rfl⟩ : ∃ wo : World, wo = wr := ⟨_, rfl⟩
      go_wp2
      go_loopw [0, 3] (fun b i wr => ∃ (j : Nat) (xs : List Int), j ≤ 70 ∧ i = .int .i64 j ∧ wr.ownsRow B 5 1 b (n + j) (u8s xs) ∧ Hid (w.grownBy wr (Value.slice A n c).ownBlock) ∧ Hid (b.ownBlock = (Value.slice A n c).ownBlock ∨ b.ownBlock = none ∨ ∃ g, b.ownBlock = some g ∧ w.heap.size ≤ g)) (fun _ i _ => 70 - (intOf i).toNat)
      case atStart => exact ⟨0, xs, by omega, rfl, HOW.out, HPR.out, .inl rfl⟩
      case round =>
        obtain ⟨j2, ys, hj2, rfl, hown2, HPR2, HOB⟩ := hrel
        have hsz : B ≤ wr.heap.size := Nat.le_trans hB HPR2.out.size
        have HOW2 := Lib.hid hown2
        clear hown2
        by_cases hlt2 : j2 < 70
        · have e1 : IntKind.u8.wrap (17 + (j2 : Int)) = 17 + (j2 : Int) := by rw [IntKind.wrap_u8]; omega
          have HA := Lib.hid (only_alloc HPR2.out (.cells #[.int .u8 (17 + (j2 : Int))] 5))
          have hza : w.heap.size ≤ (wr.alloc (.cells #[.int .u8 (17 + (j2 : Int))] 5)).heap.size := HA.out.size
          go_wp2_with (at_builtin; refine wpList_append_any _ rfl (.tmp 22) (.tmp 26) _ rfl B 5 i0 _ 1 1 Tryz.underlying23 hi0 hz0 hz1 hz2 rfl (by omega) _ (n + j2) _ rfl (HOW2.out.alloc _) _ _ 1 1 [.int .u8 (17 + (j2 : Int))] rfl (reads_one _ _ _) (by intro u hu; rw [List.mem_singleton.1 hu]; rfl) (by simp only [maxLen]; omega) (by omega) (by simp; omega) ?_; intro v1 w1 hown1 hg1 hob1; have hg2 := Lib.hid (grown_mix HA.out hg1 HOB.out); have hob2 := Lib.hid (show v1.ownBlock = (Value.slice A n c).ownBlock ∨ v1.ownBlock = none ∨ ∃ g, v1.ownBlock = some g ∧ w.heap.size ≤ g from (by rcases hob1 with h | h; rw [h]; exact HOB.out; exact .inr (.inr ⟨_, h, hza⟩))); clear hg1 hob1)
          have hown3 : w1.ownsRow B 5 1 v1 (n + (j2 + 1)) (u8s (ys ++ [17 + (j2 : Int)])) := by simpa [u8s, Nat.add_assoc] using hown1
          have HO3 := Lib.hid hown3
          clear hown1 hown3
          go_roundw
          case rel => exact ⟨j2 + 1, _, by omega, by go_num, HO3.out, hg2.out, hob2.out⟩
          case measure => simp [intOf]; omega
        · go_wp2
          go_end0
          exact ⟨rfl, HPR2.out⟩
theorem bys_z (l : List UInt8) : u8s (l.map fun c => (c.toNat : Int)) = bys l := by simp [bys]
theorem nat_inj {l m : List UInt8} (h : (l.map fun c => (c.toNat : Int)) = m.map fun c => (c.toNat : Int)) : l = m := by
  induction l generalizing m with
  | nil => cases m with
    | nil => rfl
    | cons d m => cases h
  | cons c l ih => cases m with
    | nil => cases h
    | cons d m =>
      simp only [List.map_cons, List.cons.injEq] at h
      rw [ih h.2, show c = d from UInt8.toNat_inj.1 (by omega)]
theorem c_sameL (A A' : Option Addr) (n c n' c' : Nat) (l m : List UInt8) (w : World) (B : Nat) (hr : Reads w B 1 A n (bys l)) (hr' : Reads w B 1 A' n' (bys m)) (hn : n ≤ 140737488355328) :
    Calls Tryz.prog 43 #[.slice A n c, .slice A' n' c'] w fun e w' => e = .returned (.bool (decide (l = m))) ∧ Below w.heap.size w w' := by
  have h := c_same26 A A' n c n' c' (l.map fun c => (c.toNat : Int)) (m.map fun c => (c.toNat : Int)) w B (by rw [bys_z]; exact hr) (by rw [bys_z]; exact hr') hn
  have e : decide ((l.map fun c => (c.toNat : Int)) = m.map fun c => (c.toNat : Int)) = decide (l = m) := by
    rw [decide_eq_decide]
    exact ⟨nat_inj, fun h => by rw [h]⟩
  rw [e] at h
  exact h
set_option maxRecDepth 100000 in
set_option maxHeartbeats 1000000 in
theorem c_alike (e : Sm) (D D' : Option Addr) (n c c' : Nat) (w : World) (B : Nat) (hB : B ≤ w.heap.size) (hr : Reads w B 1 D n (bys e.dg)) (hr' : Reads w B 1 D' n (bys e.dg)) (hn : n ≤ 140737488355328) :
    Calls Tryz.prog 16 #[smV e D n c, smV e D' n c'] w fun x w' => x = .returned (.bool true) ∧ Below w.heap.size w w' := by
  have HS : Hid (∀ W, Reads W B 1 D n (bys e.dg) → Reads W B 1 D' n (bys e.dg) → Calls Tryz.prog 43 #[.slice D n c, .slice D' n c'] W fun x w' => x = .returned (.bool true) ∧ Below W.heap.size W w') := fun W h1 h2 => by
    have := c_sameL D D' n c n c' e.dg e.dg W B h1 h2 hn
    rwa [decide_eq_true rfl] at this
  have HR1 := Lib.hid ((hr.alloc hB (.cells (smC e D n c) 25)).alloc (by simp; omega) (.cells (smC e D' n c') 25))
  have HR2 := Lib.hid ((hr'.alloc hB (.cells (smC e D n c) 25)).alloc (by simp; omega) (.cells (smC e D' n c') 25))
  have HBL := Lib.hid (((Below.refl w.heap.size w).alloc (Nat.le_refl _) (.cells (smC e D n c) 25)).alloc (by simp) (.cells (smC e D' n c') 25))
  clear hr hr' hB
  obtain ⟨ea, en, ed, es⟩ := e
  simp only [smV, smC] at *
  generalize bys ed = ys at *
  go_enter Tryz.func16, Tryz.ntmps16
  go_wp2_with (go_at_call 43; refine (HS.out _ HR1.out HR2.out).mono ?_; rintro x w7 ⟨rfl, hb7⟩; have HB7 := Lib.hid (below_step HBL.out hb7); clear hb7)
  go_ret
  exact ⟨by simp, HB7.out⟩
end Go.Proofs.YtjaohjlddhjgpaaGreatDoor
