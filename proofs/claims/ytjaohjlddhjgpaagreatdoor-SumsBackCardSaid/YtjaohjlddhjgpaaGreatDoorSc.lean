/- Walks: may an entry be, of the reference (quernref26.right). Conditions: lengths within the reach. -/
import Derived.Test.YtjaohjlddhjgpaaGreatDoorSb
namespace Go.Proofs.YtjaohjlddhjgpaaGreatDoor
open Go.RowKit
set_option linter.unusedVariables false
attribute [local go_sem ↓] Go.wp_at_zero Go.wp_at_succ

set_option maxRecDepth 100000 in
set_option maxHeartbeats 2000000 in
theorem c_rright (e : Sm) (D : Option Addr) (n c : Nat) (hn : e.dg.length = n) (bn : e.nm.size ≤ 140737488351232) (hn2 : n ≤ 140737488351232) (w : World) :
    Calls Tryz.prog 24 #[smV e D n c] w fun x w' => x = .returned (.bool (rightS e)) ∧ Below w.heap.size w w' := by
  have hB0 := Blk.new w 25 (smC e D n c)
  have HB := Lib.hid ((Below.refl w.heap.size w).alloc (Nat.le_refl _) (.cells (smC e D n c) 25))
  have HO : Hid (∀ W, Calls Tryz.prog 31 #[.int .i64 e.a] W fun x w' => x = .returned (.int .i64 (smost e.a : Nat)) ∧ w' = W) := fun W => (c_rMost e.a W).mono fun _ _ ⟨h1, h2⟩ => ⟨h1, h2.symm⟩
  have HF : Hid (∀ W, Calls Tryz.prog 48 #[.string e.nm] W fun x w' => x = .returned (.bool (fileB e.nm.data.toList)) ∧ w' = W) := fun W => (c_File e.nm bn W).mono fun _ _ ⟨h1, h2⟩ => ⟨h1, h2.symm⟩
  have hmb : smost e.a ≤ 64 := by unfold smost; split; omega; split <;> omega
  have HR : Hid (rightS e = (decide (1 ≤ n) && decide (n ≤ smost e.a) && fileB e.nm.data.toList)) := by show _ = _; unfold rightS; rw [hn]
  generalize fileB e.nm.data.toList = fb at *
  generalize smost e.a = MM at *
  by_cases h0 : MM = 0
  · have HX : Hid (rightS e = false) := by
      show _ = _; rw [HR.out]
      by_cases h1 : 1 ≤ n
      · rw [decide_eq_false (show ¬ n ≤ MM by omega)]; simp
      · rw [decide_eq_false h1]; rfl
    subst h0
    clear HR
    go_enter Tryz.func24, Tryz.ntmps24
    go_wp2_with fail
    generalize w.alloc (.cells (smC e D n c) 25) = w0 at *
    have c0 : w0.cell? ⟨w.heap.size, 0, none⟩ = some (.int .i64 e.a) := hB0.cell 0
    clear hB0
    go_quiet ((first | (go_at_call 31; exact Calls.quiet_of_same (HO.out _)) | (go_at_call 48; exact Calls.quiet_of_same (HF.out _))))
    go_wp2_with fail
    go_ret
    exact ⟨by rw [HX.out]; rfl, below_drewN HB.out nq⟩
  · by_cases hf : fb = true
    · subst hf
      by_cases h1 : 1 ≤ n
      · by_cases h2 : n ≤ MM
        · have HX : Hid (rightS e = true) := by show _ = _; rw [HR.out, decide_eq_true h1, decide_eq_true h2]; rfl
          clear HR
          go_enter Tryz.func24, Tryz.ntmps24
          go_wp2_with fail
          generalize w.alloc (.cells (smC e D n c) 25) = w0 at *
          have c0 : w0.cell? ⟨w.heap.size, 0, none⟩ = some (.int .i64 e.a) := hB0.cell 0
          have c1 : w0.cell? ⟨w.heap.size, 1, none⟩ = some (.string e.nm) := hB0.cell 1
          have c2 : w0.cell? ⟨w.heap.size, 2, none⟩ = some (.slice D n c) := hB0.cell 2
          clear hB0
          have g0 : (0 : Int) < (MM : Int) := by omega
          have g0n : 0 < MM := by omega
          have g0d : decide (0 < MM) = true := decide_eq_true (by omega)
          have g1 : (1 : Int) ≤ (n : Int) := by omega
          have g2 : (n : Int) ≤ (MM : Int) := by omega
          go_quiet ((first | (go_at_call 31; exact Calls.quiet_of_same (HO.out _)) | (go_at_call 48; exact Calls.quiet_of_same (HF.out _))))
          go_wp2_with fail
          go_ret
          exact ⟨by rw [HX.out]; rfl, below_drewN HB.out nq⟩
        · have HX : Hid (rightS e = false) := by show _ = _; rw [HR.out, decide_eq_false h2]; simp
          clear HR
          go_enter Tryz.func24, Tryz.ntmps24
          go_wp2_with fail
          generalize w.alloc (.cells (smC e D n c) 25) = w0 at *
          have c0 : w0.cell? ⟨w.heap.size, 0, none⟩ = some (.int .i64 e.a) := hB0.cell 0
          have c1 : w0.cell? ⟨w.heap.size, 1, none⟩ = some (.string e.nm) := hB0.cell 1
          have c2 : w0.cell? ⟨w.heap.size, 2, none⟩ = some (.slice D n c) := hB0.cell 2
          clear hB0
          have g0 : (0 : Int) < (MM : Int) := by omega
          have g0n : 0 < MM := by omega
          have g0d : decide (0 < MM) = true := decide_eq_true (by omega)
          have g1 : (1 : Int) ≤ (n : Int) := by omega
          have g2 : decide ((n : Int) ≤ (MM : Int)) = false := by rw [decide_eq_false_iff_not]; omega
          have g3 : decide (n ≤ MM) = false := decide_eq_false h2
          have g4 : MM < n := by omega
          go_quiet ((first | (go_at_call 31; exact Calls.quiet_of_same (HO.out _)) | (go_at_call 48; exact Calls.quiet_of_same (HF.out _))))
          go_wp2_with fail
          go_ret
          exact ⟨by rw [HX.out]; rfl, below_drewN HB.out nq⟩
      · have HX : Hid (rightS e = false) := by show _ = _; rw [HR.out, decide_eq_false h1]; rfl
        have hn0 : n = 0 := by omega
        clear h1
        subst hn0
        clear HR
        go_enter Tryz.func24, Tryz.ntmps24
        go_wp2_with fail
        generalize w.alloc (.cells (smC e D 0 c) 25) = w0 at *
        have c0 : w0.cell? ⟨w.heap.size, 0, none⟩ = some (.int .i64 e.a) := hB0.cell 0
        have c1 : w0.cell? ⟨w.heap.size, 1, none⟩ = some (.string e.nm) := hB0.cell 1
        have c2 : w0.cell? ⟨w.heap.size, 2, none⟩ = some (.slice D 0 c) := hB0.cell 2
        clear hB0
        have g0 : (0 : Int) < (MM : Int) := by omega
        have g0n : 0 < MM := by omega
        have g0d : decide (0 < MM) = true := decide_eq_true (by omega)
        go_quiet ((first | (go_at_call 31; exact Calls.quiet_of_same (HO.out _)) | (go_at_call 48; exact Calls.quiet_of_same (HF.out _))))
        go_wp2_with fail
        go_ret
        exact ⟨by rw [HX.out]; rfl, below_drewN HB.out nq⟩
    · have hf' : fb = false := by simpa using hf
      subst hf'
      have HX : Hid (rightS e = false) := by show _ = _; rw [HR.out]; simp
      clear hf
      clear HR
      go_enter Tryz.func24, Tryz.ntmps24
      go_wp2_with fail
      generalize w.alloc (.cells (smC e D n c) 25) = w0 at *
      have c0 : w0.cell? ⟨w.heap.size, 0, none⟩ = some (.int .i64 e.a) := hB0.cell 0
      have c1 : w0.cell? ⟨w.heap.size, 1, none⟩ = some (.string e.nm) := hB0.cell 1
      have c2 : w0.cell? ⟨w.heap.size, 2, none⟩ = some (.slice D n c) := hB0.cell 2
      clear hB0
      have g0 : (0 : Int) < (MM : Int) := by omega
      have g0n : 0 < MM := by omega
      have g0d : decide (0 < MM) = true := decide_eq_true (by omega)
      go_quiet ((first | (go_at_call 31; exact Calls.quiet_of_same (HO.out _)) | (go_at_call 48; exact Calls.quiet_of_same (HF.out _))))
      go_wp2_with fail
      go_ret
      exact ⟨by rw [HX.out]; rfl, below_drewN HB.out nq⟩
end Go.Proofs.YtjaohjlddhjgpaaGreatDoor
