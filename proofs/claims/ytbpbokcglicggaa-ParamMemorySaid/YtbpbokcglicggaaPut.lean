/- Walks: a field of a block put (param.Put; quernref02.Put), the law ParamFields. Conditions: as stated. -/
import Derived.Test.YtbpbokcglicggaaGet2
import Derived.Test.YtbpbokcglicggaaLaw
namespace Go.Proofs.Ytbpbokcglicggaa
open Go.RowKit
set_option linter.unusedVariables false

/-- What Put answers: the error; the block. -/
def perr (k f : Int) (n : Nat) (V : Int) : Int := if gerr k f n ≠ 0 then gerr k f n else if fszN k (f - 1).toNat < 8 ∧ V / 2 ^ (8 * fszN k (f - 1).toNat) ≠ 0 then 1 else 0
def pput (k f : Int) (xs : List Int) (V : Int) : List Int := layL xs (fatN k (f - 1).toNat) V (fszN k (f - 1).toNat)
def pans (k f : Int) (n : Nat) (xs : List Int) (V : Int) : List Int := if perr k f n V = 0 then pput k f xs V else []
theorem pans_len (k f : Int) (n : Nat) (xs : List Int) (V : Int) : (pans k f n xs V).length ≤ xs.length := by
  unfold pans; split
  · unfold pput; rw [layL_length]; exact Nat.le_refl _
  · simp
/-- What both Puts hand back. -/
def PutGives (w : World) (k f : Int) (n : Nat) (xs : List Int) (V : Int) (e : Ending) (w' : World) : Prop :=
  ∃ v, e = .returned (.tuple #[v, .int .i64 (perr k f n V)]) ∧ OwnB w w' v (pans k f n xs V) ∧ Below w.heap.size w w'
theorem gerr_cases (k f : Int) (n : Nat) : (szerr k n ≠ 0 ∧ gerr k f n = szerr k n) ∨ (szerr k n = 0 ∧ ¬(1 ≤ f ∧ f ≤ 9) ∧ gerr k f n = 1) ∨ (szerr k n = 0 ∧ (1 ≤ f ∧ f ≤ 9) ∧ gerr k f n = 0) := by unfold gerr; grind
theorem put_bad {w w' : World} {k f : Int} {n : Nat} {xs : List Int} {V E : Int} (h : gerr k f n = E) (h0 : E ≠ 0) (hb : Below w.heap.size w w') : PutGives w k f n xs V (.returned (.tuple #[.slice none 0 0, .int .i64 E])) w' := by
  have : perr k f n V = E := by unfold perr; rw [h, if_pos h0]
  refine ⟨_, by rw [this], ?_, hb⟩
  rw [pans, this, if_neg h0]
  exact World.ownsRow_nil _ _ _ _
theorem put_big {w w' : World} {k : Int} {i n : Nat} {xs : List Int} {V : Int} (h : gerr k ((i : Int) + 1) n = 0) (h8 : fszN k i < 8) (hV : V / 2 ^ (8 * fszN k i) ≠ 0) (hb : Below w.heap.size w w') : PutGives w k ((i : Int) + 1) n xs V (.returned (.tuple #[.slice none 0 0, .int .i64 1])) w' := by
  have : perr k ((i : Int) + 1) n V = 1 := by unfold perr; rw [h, if_neg (by simp), show ((i : Int) + 1 - 1).toNat = i from by omega, if_pos ⟨h8, hV⟩]
  refine ⟨_, by rw [this], ?_, hb⟩
  rw [pans, this, if_neg (by decide)]
  exact World.ownsRow_nil _ _ _ _
theorem put_ok {w w' : World} {k : Int} {i n : Nat} {xs : List Int} {V : Int} {v : Value} (h : gerr k ((i : Int) + 1) n = 0) (hV : ¬(fszN k i < 8 ∧ V / 2 ^ (8 * fszN k i) ≠ 0)) (hl : xs.length = n) (ho : w'.ownsRow w.heap.size 5 1 v n (u8s (layL xs (fatN k i) V (fszN k i)))) (hb : Below w.heap.size w w') : PutGives w k ((i : Int) + 1) n xs V (.returned (.tuple #[v, .int .i64 0])) w' := by
  have : perr k ((i : Int) + 1) n V = 0 := by unfold perr; rw [h, if_neg (by simp), show ((i : Int) + 1 - 1).toNat = i from by omega, if_neg hV]
  refine ⟨_, by rw [this], ?_, hb⟩
  rw [pans, this, if_pos rfl]
  unfold pput OwnB
  rw [show ((i : Int) + 1 - 1).toNat = i from by omega, layL_length, hl]
  exact ho
set_option maxHeartbeats 1000000 in
theorem c_Put (k f : Int) (A : Option Addr) (n c : Nat) (xs : List Int) (w : World) (V : Int) (hr : Reads w w.heap.size 1 A n (u8s xs)) (hn : n ≤ 140737488355328) (hx : ∀ z ∈ xs, 0 ≤ z ∧ z < 256) (h0 : 0 ≤ V) (h1 : V < 18446744073709551616) :
    Calls Try.prog 28 #[.int .i64 k, .slice A n c, .int .i64 f, .int .u64 V] w (PutGives w k f n xs V) := by
  obtain ⟨i0, hi0, hz0, hz1, hz2⟩ := info_parts u8_info
  have hl : xs.length = n := by simpa using hr.1
  rcases gerr_cases k f n with ⟨hz, he⟩ | ⟨hz, hf, he⟩ | ⟨hz, hf, he⟩
  · have HP : Hid (∀ w', Below w.heap.size w w' → PutGives w k f n xs V (.returned (.tuple #[.slice none 0 0, .int .i64 (szerr k n)])) w') := fun w' hb => put_bad he hz hb
    have hne : (szerr k n != 0) = true := by simpa using hz
    have hfi := c_find_bad k f A n c w hn hz
    generalize szerr k n = E at *
    have Hfi := Lib.hid hfi
    clear hfi hz he hl
    go_enter Try.func28, Try.ntmps28
    go_wp2_with fail
    refine Hfi.out.mono ?_
    rintro e w1 ⟨rfl, hb⟩
    have HB := Lib.hid hb
    clear hb
    go_wp2
    go_ret2
    exact HP.out _ (HB.out.alloc HB.out.size _)
  · have HP : Hid (∀ w', Below w.heap.size w w' → PutGives w k f n xs V (.returned (.tuple #[.slice none 0 0, .int .i64 1])) w') := fun w' hb => put_bad he (by decide) hb
    have hfi := c_find_out k f A n c w hn hz hf
    have Hfi := Lib.hid hfi
    clear hfi hz hf he hl
    go_enter Try.func28, Try.ntmps28
    go_wp2_with fail
    refine Hfi.out.mono ?_
    rintro e w1 ⟨rfl, hb⟩
    have HB := Lib.hid hb
    clear hb
    go_wp2
    go_ret2
    exact HP.out _ (HB.out.alloc HB.out.size _)
  · obtain ⟨i, rfl⟩ : ∃ i : Nat, f = (i : Int) + 1 := ⟨(f - 1).toNat, by omega⟩
    have hi : i < 9 := by omega
    have hfi := c_find_ok k i A n c w hn hi hz
    have b1 := fatN_bd (szerr_k hz) hi hz
    have b2 := (fszN_bd k i).2
    have b3 := (fszN_bd k i).1
    have HP1 : Hid (∀ w', fszN k i < 8 → V / 2 ^ (8 * fszN k i) ≠ 0 → Below w.heap.size w w' → PutGives w k ((i : Int) + 1) n xs V (.returned (.tuple #[.slice none 0 0, .int .i64 1])) w') := fun w' a b hb => put_big he a b hb
    have HP2 : Hid (∀ w' v, ¬(fszN k i < 8 ∧ V / 2 ^ (8 * fszN k i) ≠ 0) → w'.ownsRow w.heap.size 5 1 v n (u8s (layL xs (fatN k i) V (fszN k i))) → Below w.heap.size w w' → PutGives w k ((i : Int) + 1) n xs V (.returned (.tuple #[v, .int .i64 0])) w') := fun w' v a ho hb => put_ok he a hl ho hb
    have hn0 : 0 < n := by omega
    generalize fatN k i = FA at *
    generalize fszN k i = FS at *
    generalize rname (i + 1) = RN at *
    generalize rwhy (i + 1) = RW at *
    have Hfi := Lib.hid hfi
    clear hfi hz hf he hl
    go_enter Try.func28, Try.ntmps28
    go_wp2_with fail
    refine Hfi.out.mono ?_
    rintro e w1 ⟨rfl, hb⟩
    have HB := Lib.hid hb
    have hr1 := (Reads.below hr hb).alloc hb.size (.cells #[.int .i64 ((i : Int) + 1), .int .i64 (FA : Nat), .int .i64 (FS : Nat), .string RN, .int .i64 RW] 82)
    have hbs := hb.size
    clear hb
    have hX : (w1.alloc (.cells #[.int .i64 ((i : Int) + 1), .int .i64 (FA : Nat), .int .i64 (FS : Nat), .string RN, .int .i64 RW] 82)).heap.size = w1.heap.size + 1 := by simp
    have HX := Lib.hid hX
    clear hX
    go_wp2_with (at_builtin; refine wpList_append_any _ rfl (.const (Value.slice none 0 0)) (.tmp 34) _ rfl w.heap.size 5 i0 _ 1 1 Try.underlying29 hi0 hz0 hz1 hz2 rfl (by omega) (.slice none 0 0) 0 [] rfl ⟨by simp, .inl ⟨rfl, rfl⟩⟩ w.heap.size _ n c (u8s xs) rfl hr1 (u8s_one _) (by simp only [maxLen]; omega) (by omega) (by simp; omega) ?_; intro v1 w2 hown1 hg1 _; rw [Nat.zero_add, List.nil_append] at hown1; obtain ⟨g, cap, rfl, hg0, hgl⟩ := own_form hown1 hn0; have hb2 := below_of_grown hg1; obtain ⟨hc2, hf2⟩ := bcell hb2; simp only [World.size_alloc] at hc2 hf2; have HB2 := Lib.hid hb2; clear hb2 hg1)
    · go_ret2
      exact HP1.out _ (by omega) (by simpa using ‹(V / 2 ^ (8 * FS) != 0) = true›) (HB.out.alloc HB.out.size _)
    all_goals
      refine (c_put w.heap.size g n cap xs w2 hown1 hn FA FS V b1 b2).mono ?_
      rintro e w3 ⟨rfl, hown3, hg3⟩
      clear hc2 hf2 hown1
      go_wp2
      go_ret2
      refine HP2.out _ _ ?_ hown3 ?_
      · grind
      · refine ((HB.out.alloc HB.out.size _).trans (HB2.out.mono (by simp; omega))).grown hg3 ?_ (fun _ h => by injection h with h; omega)
        have := HB2.out.size
        simp at this
        omega
set_option maxHeartbeats 1000000 in
theorem c_rPut (k f : Int) (A : Option Addr) (n c : Nat) (xs : List Int) (w : World) (V : Int) (hr : Reads w w.heap.size 1 A n (u8s xs)) (hn : n ≤ 140737488355328) (hx : ∀ z ∈ xs, 0 ≤ z ∧ z < 256) (h0 : 0 ≤ V) (h1 : V < 18446744073709551616) :
    Calls Try.prog 29 #[.int .i64 k, .slice A n c, .int .i64 f, .int .u64 V] w (PutGives w k f n xs V) := by
  obtain ⟨i0, hi0, hz0, hz1, hz2⟩ := info_parts u8_info
  have hl : xs.length = n := by simpa using hr.1
  have hG := fun w B h => c_rGet k f A n c xs w B h hn hx
  rcases gerr_cases k f n with ⟨hz, he⟩ | ⟨hz, hf, he⟩ | ⟨hz, hf, he⟩
  · have HP : Hid (∀ w', Below w.heap.size w w' → PutGives w k f n xs V (.returned (.tuple #[.slice none 0 0, .int .i64 (szerr k n)])) w') := fun w' hb => put_bad he hz hb
    have hne : (szerr k n != 0) = true := by simpa using hz
    rw [he] at hG
    generalize szerr k n = E at *
    have HG := Lib.hid hG
    clear hG hz he hl
    go_enter Try.func29, Try.ntmps29
    go_wp2_with fail
    refine (HG.out _ _ hr).mono ?_
    rintro e w1 ⟨rfl, rfl⟩
    go_wp2
    go_ret2
    exact HP.out _ (Below.refl _ _)
  · have HP : Hid (∀ w', Below w.heap.size w w' → PutGives w k f n xs V (.returned (.tuple #[.slice none 0 0, .int .i64 1])) w') := fun w' hb => put_bad he (by decide) hb
    rw [he] at hG
    have HG := Lib.hid hG
    clear hG hz hf he hl
    go_enter Try.func29, Try.ntmps29
    go_wp2_with fail
    refine (HG.out _ _ hr).mono ?_
    rintro e w1 ⟨rfl, rfl⟩
    go_wp2
    go_ret2
    exact HP.out _ (Below.refl _ _)
  · have hp := fun w => c_place k f w (szerr_k hz)
    rw [if_pos hf, if_pos hf] at hp
    obtain ⟨i, rfl⟩ : ∃ i : Nat, f = (i : Int) + 1 := ⟨(f - 1).toNat, by omega⟩
    have hi : i < 9 := by omega
    rw [fatN_eq (szerr_k hz) hi, fszN_eq] at hp
    have b1 := fatN_bd (szerr_k hz) hi hz
    have b2 := (fszN_bd k i).2
    have b3 := (fszN_bd k i).1
    have HP1 : Hid (∀ w', fszN k i < 8 → V / 2 ^ (8 * fszN k i) ≠ 0 → Below w.heap.size w w' → PutGives w k ((i : Int) + 1) n xs V (.returned (.tuple #[.slice none 0 0, .int .i64 1])) w') := fun w' a b hb => put_big he a b hb
    have HP2 : Hid (∀ w' v, ¬(fszN k i < 8 ∧ V / 2 ^ (8 * fszN k i) ≠ 0) → w'.ownsRow w.heap.size 5 1 v n (u8s (layL xs (fatN k i) V (fszN k i))) → Below w.heap.size w w' → PutGives w k ((i : Int) + 1) n xs V (.returned (.tuple #[v, .int .i64 0])) w') := fun w' v a ho hb => put_ok he a hl ho hb
    have hn0 : 0 < n := by omega
    rw [he] at hG
    generalize fatN k i = FA at *
    generalize fszN k i = FS at *
    have HG := Lib.hid hG
    have Hp := Lib.hid hp
    clear hG hp hz hf he hl
    go_enter Try.func29, Try.ntmps29
    go_wp2_with fail
    refine (HG.out _ _ hr).mono ?_
    rintro e w1 ⟨rfl, rfl⟩
    go_wp2_with fail
    refine (Hp.out _).mono ?_
    rintro e w1 ⟨rfl, rfl⟩
    go_wp2_with (at_builtin; refine wpList_append_any _ rfl (.tmp 41) (.tmp 42) _ rfl w.heap.size 5 i0 _ 1 1 Try.underlying29 hi0 hz0 hz1 hz2 rfl (by omega) (.slice none 0 0) 0 [] rfl ⟨by simp, .inl ⟨rfl, rfl⟩⟩ w.heap.size _ n c (u8s xs) rfl hr (u8s_one _) (by simp only [maxLen]; omega) (by omega) (Nat.le_refl _) ?_; intro v1 w2 hown1 hg1 _; rw [Nat.zero_add, List.nil_append] at hown1; obtain ⟨g, cap, rfl, hg0, hgl⟩ := own_form hown1 hn0; have hb2 := below_of_grown hg1; have HB2 := Lib.hid hb2; clear hb2 hg1)
    · go_ret2
      exact HP1.out _ (by omega) (by simpa using ‹(V / 2 ^ (8 * FS) != 0) = true›) (Below.refl _ _)
    all_goals
      refine (c_lay w.heap.size g n cap xs w2 hown1 hn FA FS V b1 b2).mono ?_
      rintro e w3 ⟨rfl, hown3, hg3⟩
      clear hown1
      go_wp2
      go_ret2
      refine HP2.out _ _ ?_ hown3 ?_
      · grind
      · exact HB2.out.grown hg3 HB2.out.size (fun _ h => by injection h with h; omega)
end Go.Proofs.Ytbpbokcglicggaa
