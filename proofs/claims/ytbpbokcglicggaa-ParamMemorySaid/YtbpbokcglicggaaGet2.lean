/- Walks: a field of a block found and read (param.find, Get; quernref02.Get). Conditions: as stated. -/
import Derived.Test.YtbpbokcglicggaaGet
namespace Go.Proofs.Ytbpbokcglicggaa
open Go.RowKit
set_option linter.unusedVariables false

theorem szerr_k {k : Int} {n : Nat} (hz : szerr k n = 0) : k = 1 ∨ k = 2 := by
  unfold szerr at hz
  by_cases h : k = 1 ∨ k = 2
  · exact h
  · rw [if_neg h] at hz; cases hz
set_option maxRecDepth 100000 in
theorem c_find_ok (k : Int) (i : Nat) (A : Option Addr) (n c : Nat) (w : World) (hn : n ≤ 140737488355328) (hi : i < 9) (hz : szerr k n = 0) :
    Calls Try.prog 49 #[.int .i64 k, .slice A n c, .int .i64 ((i : Int) + 1)] w fun e w' => e = .returned (.tuple #[.agg #[.int .i64 ((i : Int) + 1), .int .i64 (fatN k i : Nat), .int .i64 (fszN k i : Nat), .string (rname (i + 1)), .int .i64 (rwhy (i + 1))], .int .i64 0]) ∧ Below w.heap.size w w' := by
  have hr := c_right k A n c
  rw [hz] at hr
  have Hr := Lib.hid hr
  obtain ⟨r0, r1, r2, r3, r4⟩ := row_at k (szerr_k hz) i hi
  have HK := Lib.hid (szerr_k hz)
  clear hr hz
  generalize fatN k i = FA at *
  generalize fszN k i = FS at *
  generalize rname (i + 1) = RN at *
  generalize rwhy (i + 1) = RW at *
  have R0 := Lib.hid r0
  have R1 := Lib.hid r1
  have R2 := Lib.hid r2
  have R3 := Lib.hid r3
  have R4 := Lib.hid r4
  clear r0 r1 r2 r3 r4
  have hd9 : decide ((i : Int) + 1 ≤ 9) = true := decide_eq_true (by omega)
  go_enter Try.func49, Try.ntmps49
  go_wp2_with (first | (go_at_call 56; refine (Hr.out _ hn).mono ?_; rintro e w' ⟨rfl, rfl⟩) | (go_at_call 45; go_in))
  refine (c_rows k HK.out _).mono ?_
  rintro e w1 ⟨rfl, hB, hb⟩
  obtain ⟨hcl, hfl⟩ := bcell hb
  simp only [World.size_alloc] at hB hb hcl hfl
  have c0 := (hB.cell _).trans R0.out
  have c1 := (hB.cell _).trans R1.out
  have c2 := (hB.cell _).trans R2.out
  have c3 := (hB.cell _).trans R3.out
  have c4 := (hB.cell _).trans R4.out
  have hz := hb.size
  simp only [World.size_alloc] at hz
  have HB := Lib.hid hb
  clear hb
  go_wp2
  refine bodyPost_ret (v := .tuple #[.agg #[.int .i64 ((i : Int) + 1), .int .i64 FA, .int .i64 FS, .string RN, .int .i64 RW], .int .i64 0]) (by simp [results, Try.results49, go_sem, hcl]) rfl ⟨rfl, ?_⟩
  exact ((((((((Below.refl _ _).alloc (Nat.le_refl _) _).trans (HB.out.mono (by omega))).setCell (by simp) _).setCell (by simp) _).setCell (by simp) _).setCell (by simp) _).setCell (by simp) _)
set_option maxRecDepth 100000 in
theorem c_find_bad (k f : Int) (A : Option Addr) (n c : Nat) (w : World) (hn : n ≤ 140737488355328) (hz : szerr k n ≠ 0) :
    Calls Try.prog 49 #[.int .i64 k, .slice A n c, .int .i64 f] w fun e w' => e = .returned (.tuple #[.agg #[.int .i64 0, .int .i64 0, .int .i64 0, .string ⟨#[]⟩, .int .i64 0], .int .i64 (szerr k n)]) ∧ Below w.heap.size w w' := by
  have hr := c_right k A n c
  have hne : (szerr k n != 0) = true := by simpa using hz
  generalize szerr k n = E at *
  have Hr := Lib.hid hr
  clear hr hz
  go_enter Try.func49, Try.ntmps49
  go_wp2_with (first | (go_at_call 56; refine (Hr.out _ hn).mono ?_; rintro e w' ⟨rfl, rfl⟩) | (go_at_call 45; go_in))
  refine bodyPost_ret (v := .tuple #[.agg #[.int .i64 0, .int .i64 0, .int .i64 0, .string ⟨#[]⟩, .int .i64 0], .int .i64 E]) (by simp [results, Try.results49, go_sem]) rfl ⟨rfl, (Below.refl _ _).alloc (Nat.le_refl _) _⟩
set_option maxRecDepth 100000 in
theorem c_find_out (k f : Int) (A : Option Addr) (n c : Nat) (w : World) (hn : n ≤ 140737488355328) (hz : szerr k n = 0) (hf : ¬(1 ≤ f ∧ f ≤ 9)) :
    Calls Try.prog 49 #[.int .i64 k, .slice A n c, .int .i64 f] w fun e w' => e = .returned (.tuple #[.agg #[.int .i64 0, .int .i64 0, .int .i64 0, .string ⟨#[]⟩, .int .i64 0], .int .i64 1]) ∧ Below w.heap.size w w' := by
  have hr := c_right k A n c
  rw [hz] at hr
  have Hr := Lib.hid hr
  clear hr hz
  by_cases h1 : 1 ≤ f
  · have hd : decide (f ≤ 9) = false := decide_eq_false (by omega)
    clear hf
    go_enter Try.func49, Try.ntmps49
    go_wp2_with (first | (go_at_call 56; refine (Hr.out _ hn).mono ?_; rintro e w' ⟨rfl, rfl⟩) | (go_at_call 45; go_in))
    refine bodyPost_ret (v := .tuple #[.agg #[.int .i64 0, .int .i64 0, .int .i64 0, .string ⟨#[]⟩, .int .i64 0], .int .i64 1]) (by simp [results, Try.results49, go_sem]) rfl ⟨rfl, (Below.refl _ _).alloc (Nat.le_refl _) _⟩
  · clear hf
    go_enter Try.func49, Try.ntmps49
    go_wp2_with (first | (go_at_call 56; refine (Hr.out _ hn).mono ?_; rintro e w' ⟨rfl, rfl⟩) | (go_at_call 45; go_in))
    refine bodyPost_ret (v := .tuple #[.agg #[.int .i64 0, .int .i64 0, .int .i64 0, .string ⟨#[]⟩, .int .i64 0], .int .i64 1]) (by simp [results, Try.results49, go_sem]) rfl ⟨rfl, (Below.refl _ _).alloc (Nat.le_refl _) _⟩
/-- What Get answers: the error; the number. -/
def gerr (k f : Int) (n : Nat) : Int := if szerr k n ≠ 0 then szerr k n else if 1 ≤ f ∧ f ≤ 9 then 0 else 1
def gval (k f : Int) (n : Nat) (xs : List Int) : Int := if szerr k n = 0 ∧ 1 ≤ f ∧ f ≤ 9 then le ((xs.drop (fatN k (f - 1).toNat)).take (fszN k (f - 1).toNat)) else 0
theorem c_Get (k f : Int) (A : Option Addr) (n c : Nat) (xs : List Int) (w : World) (hr : Reads w w.heap.size 1 A n (u8s xs)) (hn : n ≤ 140737488355328) (hx : ∀ z ∈ xs, 0 ≤ z ∧ z < 256) :
    Calls Try.prog 26 #[.int .i64 k, .slice A n c, .int .i64 f] w fun e w' => e = .returned (.tuple #[.int .u64 (gval k f n xs), .int .i64 (gerr k f n)]) ∧ Below w.heap.size w w' := by
  by_cases hz : szerr k n = 0
  · by_cases hf : 1 ≤ f ∧ f ≤ 9
    · obtain ⟨i, rfl⟩ : ∃ i : Nat, f = (i : Int) + 1 := ⟨(f - 1).toNat, by omega⟩
      have hi : i < 9 := by omega
      have HG : Hid (gval k ((i : Int) + 1) n xs = le ((xs.drop (fatN k i)).take (fszN k i))) := by
        show gval _ _ _ _ = _
        unfold gval; rw [if_pos ⟨hz, hf⟩, show ((i : Int) + 1 - 1).toNat = i from by omega]
      have HE : Hid (gerr k ((i : Int) + 1) n = 0) := by
        show gerr _ _ _ = _
        unfold gerr; rw [if_neg (by simpa using hz), if_pos hf]
      have hfi := c_find_ok k i A n c w hn hi hz
      have b1 := fatN_bd (szerr_k hz) hi hz
      have b2 := (fszN_bd k i).2
      generalize fatN k i = FA at *
      generalize fszN k i = FS at *
      generalize rname (i + 1) = RN at *
      generalize rwhy (i + 1) = RW at *
      have Hfi := Lib.hid hfi
      clear hfi hz hf
      go_enter Try.func26, Try.ntmps26
      go_wp2_with fail
      refine Hfi.out.mono ?_
      rintro e w1 ⟨rfl, hb⟩
      have HB := Lib.hid hb
      have hr1 := (Reads.below hr hb).alloc hb.size (.cells #[.int .i64 ((i : Int) + 1), .int .i64 (FA : Nat), .int .i64 (FS : Nat), .string RN, .int .i64 RW] 82)
      clear hb
      go_wp2_with fail
      refine (c_get A n c xs _ w.heap.size hr1 hn hx FA FS b1 b2).mono ?_
      rintro e w2 ⟨rfl, rfl⟩
      go_wp2
      go_ret2
      exact ⟨ret2i HG.out.symm HE.out.symm, HB.out.alloc HB.out.size _⟩
    · have HG : Hid (gval k f n xs = 0) := if_neg (fun h => hf h.2)
      have HE : Hid (gerr k f n = 1) := by show gerr _ _ _ = _; unfold gerr; rw [if_neg (by simpa using hz), if_neg hf]
      have hfi := c_find_out k f A n c w hn hz hf
      have Hfi := Lib.hid hfi
      clear hfi hz hf
      go_enter Try.func26, Try.ntmps26
      go_wp2_with fail
      refine Hfi.out.mono ?_
      rintro e w1 ⟨rfl, hb⟩
      have HB := Lib.hid hb
      clear hb
      go_wp2
      go_ret2
      exact ⟨ret2i HG.out.symm HE.out.symm, HB.out.alloc HB.out.size _⟩
  · have HG : Hid (gval k f n xs = 0) := if_neg (fun h => hz h.1)
    have HE : Hid (gerr k f n = szerr k n) := if_pos hz
    have hne : (szerr k n != 0) = true := by simpa using hz
    have hfi := c_find_bad k f A n c w hn hz
    generalize szerr k n = E at *
    have Hfi := Lib.hid hfi
    clear hfi hz
    go_enter Try.func26, Try.ntmps26
    go_wp2_with fail
    refine Hfi.out.mono ?_
    rintro e w1 ⟨rfl, hb⟩
    have HB := Lib.hid hb
    clear hb
    go_wp2
    go_ret2
    exact ⟨ret2i HG.out.symm HE.out.symm, HB.out.alloc HB.out.size _⟩
theorem c_rGet (k f : Int) (A : Option Addr) (n c : Nat) (xs : List Int) (w : World) (B : Nat) (hr : Reads w B 1 A n (u8s xs)) (hn : n ≤ 140737488355328) (hx : ∀ z ∈ xs, 0 ≤ z ∧ z < 256) :
    Calls Try.prog 27 #[.int .i64 k, .slice A n c, .int .i64 f] w fun e w' => e = .returned (.tuple #[.int .u64 (gval k f n xs), .int .i64 (gerr k f n)]) ∧ w = w' := by
  have hs := c_sized k A n c
  by_cases hz : szerr k n = 0
  · have hp := fun w => c_place k f w (szerr_k hz)
    rw [hz] at hs
    by_cases hf : 1 ≤ f ∧ f ≤ 9
    · rw [if_pos hf, if_pos hf] at hp
      obtain ⟨i, rfl⟩ : ∃ i : Nat, f = (i : Int) + 1 := ⟨(f - 1).toNat, by omega⟩
      have hi : i < 9 := by omega
      have HG : Hid (gval k ((i : Int) + 1) n xs = le ((xs.drop (fatN k i)).take (fszN k i))) := by
        show gval _ _ _ _ = _
        unfold gval; rw [if_pos ⟨hz, hf⟩, show ((i : Int) + 1 - 1).toNat = i from by omega]
      have HE : Hid (gerr k ((i : Int) + 1) n = 0) := by
        show gerr _ _ _ = _
        unfold gerr; rw [if_neg (by simpa using hz), if_pos hf]
      rw [fatN_eq (szerr_k hz) hi, fszN_eq] at hp
      have b1 := fatN_bd (szerr_k hz) hi hz
      have b2 := (fszN_bd k i).2
      have b3 := (fszN_bd k i).1
      generalize fatN k i = FA at *
      generalize fszN k i = FS at *
      have Hs := Lib.hid hs
      have Hp := Lib.hid hp
      clear hs hp hz hf
      have hd : ((FS : Int) == 0) = false := by simp; omega
      go_enter Try.func27, Try.ntmps27
      go_wp2_with (first | (go_at_call 51; refine (Hs.out _ hn).mono ?_; rintro e w' ⟨rfl, rfl⟩) | (go_at_call 52; refine (Hp.out _).mono ?_; rintro e w' ⟨rfl, rfl⟩) | (go_at_call 53; refine (c_read A n c xs _ B hr hn hx FA FS b1 b2).mono ?_; rintro e w' ⟨rfl, rfl⟩))
      go_ret2
      exact ⟨ret2i HG.out.symm HE.out.symm, rfl⟩
    · rw [if_neg hf, if_neg hf] at hp
      have HG : Hid (gval k f n xs = 0) := if_neg (fun h => hf h.2)
      have HE : Hid (gerr k f n = 1) := by show gerr _ _ _ = _; unfold gerr; rw [if_neg (by simpa using hz), if_neg hf]
      have Hs := Lib.hid hs
      have Hp := Lib.hid hp
      clear hs hp hz hf
      go_enter Try.func27, Try.ntmps27
      go_wp2_with (first | (go_at_call 51; refine (Hs.out _ hn).mono ?_; rintro e w' ⟨rfl, rfl⟩) | (go_at_call 52; refine (Hp.out _).mono ?_; rintro e w' ⟨rfl, rfl⟩))
      go_ret2
      exact ⟨ret2i HG.out.symm HE.out.symm, rfl⟩
  · have HG : Hid (gval k f n xs = 0) := if_neg (fun h => hz h.1)
    have HE : Hid (gerr k f n = szerr k n) := if_pos hz
    have hne : (szerr k n != 0) = true := by simpa using hz
    generalize szerr k n = E at *
    have Hs := Lib.hid hs
    clear hs hz
    go_enter Try.func27, Try.ntmps27
    go_wp2_with (first | (go_at_call 51; refine (Hs.out _ hn).mono ?_; rintro e w' ⟨rfl, rfl⟩))
    go_ret2
    exact ⟨ret2i HG.out.symm HE.out.symm, rfl⟩
end Go.Proofs.Ytbpbokcglicggaa
