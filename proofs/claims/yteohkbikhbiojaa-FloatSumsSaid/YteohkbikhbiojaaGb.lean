/- Walks: sums of two numbers (float.nat's add, quernref22's add). Conditions: as stated. -/
import Derived.Test.YteohkbikhbiojaaGa
import Derived.Laws.Externs
namespace Go.Proofs.Yteohkbikhbiojaa
open Go.RowKit
set_option linter.unusedVariables false

theorem u64_info : (Try.prog.info? 29).map (fun i => (i.zero, i.size, i.bytes)) = some (some (.int .u64 0), 1, 8) := by kernel_rfl
theorem u32_info : (Try.prog.info? 73).map (fun i => (i.zero, i.size, i.bytes)) = some (some (.int .u32 0), 1, 4) := by kernel_rfl
theorem call_add64_0 (x y : Nat) (w : World) : (callFunc 45 #[.int .u64 (x : Int), .int .u64 (y : Int), .int .u64 ((0 : Nat) : Int)]).run Try.prog w = .ok (.value (.tuple #[.int .u64 (((x + y + 0) % 18446744073709551616 : Nat) : Int), .int .u64 (((x + y + 0) / 18446744073709551616 : Nat) : Int)])) w := by kernel_rfl
theorem call_add64_1 (x y : Nat) (w : World) : (callFunc 45 #[.int .u64 (x : Int), .int .u64 (y : Int), .int .u64 ((1 : Nat) : Int)]).run Try.prog w = .ok (.value (.tuple #[.int .u64 (((x + y + 1) % 18446744073709551616 : Nat) : Int), .int .u64 (((x + y + 1) / 18446744073709551616 : Nat) : Int)])) w := by kernel_rfl
theorem call_add64 {x y c : Nat} (hc : c ≤ 1) (w : World) : (callFunc 45 #[.int .u64 (x : Int), .int .u64 (y : Int), .int .u64 (c : Int)]).run Try.prog w = .ok (.value (.tuple #[.int .u64 (((x + y + c) % 18446744073709551616 : Nat) : Int), .int .u64 (((x + y + c) / 18446744073709551616 : Nat) : Int)])) w := by
  have : c = 0 ∨ c = 1 := by omega
  rcases this with rfl | rfl
  · exact call_add64_0 x y w
  · exact call_add64_1 x y w
theorem call_sub64_0 (x y : Nat) (w : World) : (callFunc 49 #[.int .u64 (x : Int), .int .u64 (y : Int), .int .u64 ((0 : Nat) : Int)]).run Try.prog w = .ok (.value (.tuple #[.int .u64 (((x + 18446744073709551616 - y - 0) % 18446744073709551616 : Nat) : Int), .int .u64 ((if x < y + 0 then 1 else 0 : Nat) : Int)])) w := by kernel_rfl
theorem call_sub64_1 (x y : Nat) (w : World) : (callFunc 49 #[.int .u64 (x : Int), .int .u64 (y : Int), .int .u64 ((1 : Nat) : Int)]).run Try.prog w = .ok (.value (.tuple #[.int .u64 (((x + 18446744073709551616 - y - 1) % 18446744073709551616 : Nat) : Int), .int .u64 ((if x < y + 1 then 1 else 0 : Nat) : Int)])) w := by kernel_rfl
theorem call_sub64 {x y c : Nat} (hc : c ≤ 1) (w : World) : (callFunc 49 #[.int .u64 (x : Int), .int .u64 (y : Int), .int .u64 (c : Int)]).run Try.prog w = .ok (.value (.tuple #[.int .u64 (((x + 18446744073709551616 - y - c) % 18446744073709551616 : Nat) : Int), .int .u64 ((if x < y + c then 1 else 0 : Nat) : Int)])) w := by
  have : c = 0 ∨ c = 1 := by omega
  rcases this with rfl | rfl
  · exact call_sub64_0 x y w
  · exact call_sub64_1 x y w
/-- What holds ahead of a round of a sum: i digits are there, y is carried. -/
structure AddS (B : Nat) (kd : IntKind) (t : TypeId) (w wr : World) (l m : List Nat) (i : Nat) (A0 : Option Addr) (c0 : Nat) (L : List Nat) (y : Nat) : Prop where
  own : wr.ownsRow w.heap.size t 1 (.slice A0 i c0) i (digs kd L)
  len : L.length = i
  rng : ∀ x ∈ L, x < B
  eq : nval B L + y * B ^ i = nval B (l.take i) + nval B (m.take i)
  bel : Below w.heap.size w wr
/-- Behind an append: one digit more, or another row of it. -/
theorem own_next {w wr w2 : World} {t : TypeId} {v : Value} {i : Nat} {xs : List Value} {o : Obj} (ho : (wr.alloc o).ownsRow w.heap.size t 1 v i xs) (hb : Below w.heap.size w wr) (hg : (wr.alloc o).grownBy w2 v.ownBlock) : Below w.heap.size w w2 :=
  below_own (hb.alloc hb.size _) ho hg
theorem rng_snoc {B : Nat} {L : List Nat} {s : Nat} (h : ∀ x ∈ L, x < B) (hs : s < B) : ∀ x ∈ L ++ [s], x < B := by
  intro x hx
  rcases List.mem_append.1 hx with hx | hx
  · exact h x hx
  · rw [List.mem_singleton.1 hx]; exact hs
theorem digs_snoc (k : IntKind) (L : List Nat) (s : Nat) : digs k L ++ [Value.int k (s : Int)] = digs k (L ++ [s]) := by simp [digs]
theorem getD_big {l : List Nat} {i : Nat} (h : l.length ≤ i) : l.getD i 0 = 0 := by rw [List.getD, List.getElem?_eq_none h]; rfl
theorem built64 (x : Int) : Try.prog.builtSlice 29 1 [(0, .int .u64 x)] = some #[.int .u64 x] := by kernel_rfl
theorem built32 (x : Int) : Try.prog.builtSlice 73 1 [(0, .int .u32 x)] = some #[.int .u32 x] := by kernel_rfl
set_option maxRecDepth 100000 in
set_option maxHeartbeats 2000000 in
theorem c_add (A A' : Option Addr) (c c' : Nat) (l m : List Nat) (N M : Nat) (w : World) (h : IsN w w.heap.size .u64 18446744073709551616 A c l N) (h' : IsN w w.heap.size .u64 18446744073709551616 A' c' m M) (hN : N < nbig) (hM : M < nbig) :
    Calls Try.prog 24 #[.slice A l.length c, .slice A' m.length c'] w (NewN .u64 18446744073709551616 (N + M) w) := by
  obtain ⟨i0, hi0, hz0, hz1, hz2⟩ := info_parts u64_info
  have hn := len_big h.lb (by decide) hN
  have hm := len_big h'.lb (by decide) hM
  have HI := Lib.hid h
  have HI' := Lib.hid h'
  clear h h' hN hM
  obtain ⟨n, hL⟩ : ∃ n, l.length = n := ⟨_, rfl⟩
  obtain ⟨n', hL'⟩ : ∃ n', m.length = n' := ⟨_, rfl⟩
  rw [hL] at hn ⊢
  rw [hL'] at hm ⊢
  have HL := Lib.hid hL
  have HL' := Lib.hid hL'
  clear hL hL'
  rcases Nat.lt_or_ge n n' with hx | hx
  · have hx' : (n : Int) < n' := by omega
    have hmax : max (n : Int) (n' : Int) = (n' : Int) := by omega
    have HK1 : Hid (l.length ≤ n') := by show _ ≤ _; have := HL.out; omega
    have HK2 : Hid (m.length ≤ n') := by show _ ≤ _; have := HL'.out; omega
    have hmk : (Instr.makeSlice 42 (.int .i64 0) (.int .i64 ((n' : Int) + 1))).run Try.prog w = .ok (.slice (some ⟨w.heap.size, 0, none⟩) 0 (n' + 1)) (w.alloc (.cells (madeCells (Value.cells (.int .u64 0)) ((n' + 1) * i0.size)) 29)) :=
      run_make_rowN (P := Try.prog) 42 29 i0 _ Try.underlying42 hi0 hz0 .i64 .i64 0 (n' + 1) (by omega) (by rw [hz2]; omega) (by omega) w
    have HOM : Hid ((w.alloc (.cells (madeCells (Value.cells (.int .u64 0)) ((n' + 1) * i0.size)) 29)).ownsRow w.heap.size 29 1 (.slice (some ⟨w.heap.size, 0, none⟩) 0 (n' + 1)) 0 []) := World.ownsRow_made w _ (n' + 1) (Nat.le_refl _) (by simp only [maxLen]; omega) (by rw [size_madeCells, hz1])
    have HBM : Hid (Below w.heap.size w (w.alloc (.cells (madeCells (Value.cells (.int .u64 0)) ((n' + 1) * i0.size)) 29))) := (Below.refl w.heap.size w).alloc (Nat.le_refl _) _
    generalize w.alloc (.cells (madeCells (Value.cells (.int .u64 0)) ((n' + 1) * i0.size)) 29) = wm at *
    go_enter Try.func24, Try.ntmps24
    go_wp2_with fail
    go_loopw [5, 6, 23] (fun vo vc vi wr => ∃ (i : Nat) (A0 : Option Addr) (c0 : Nat) (L : List Nat) (y : Nat), vo = .slice A0 i c0 ∧ vc = .int .u64 y ∧ vi = .int .i64 i ∧ i ≤ n' ∧ y ≤ 1 ∧ AddS 18446744073709551616 .u64 29 w wr l m i A0 c0 L y) (fun _ _ vi _ => n' - (intOf vi).toNat)
    case atStart => exact ⟨0, _, _, [], 0, rfl, rfl, rfl, Nat.zero_le _, Nat.zero_le _, ⟨HOM.out, rfl, (by intro x hx; cases hx), by simp [nval], HBM.out⟩⟩
    case round =>
      obtain ⟨i, A0, c0, L, y, rfl, rfl, rfl, hi, hy, HS⟩ := hrel
      by_cases hlt : i < n'
      · have hik : (i : Int) < (n' : Int) := by omega
        rcases Nat.lt_or_ge i l.length with ha | ha <;> rcases Nat.lt_or_ge i m.length with hb | hb
        · obtain ⟨b1, o1, hA1, _, hb1, hcell1⟩ := HI.out.at_ ha
          subst hA1
          have hc1 : wr.cell? ⟨b1, o1 + i, none⟩ = some (.int .u64 ((l.getD i 0 : Nat) : Int)) := by rw [(bcell HS.bel).1 _ _ hb1, hcell1]
          clear hcell1
          have ha' : (i : Int) < (n : Int) := by have := HL.out; omega
          obtain ⟨b2, o2, hA2, _, hb2, hcell2⟩ := HI'.out.at_ hb
          subst hA2
          have hc2 : wr.cell? ⟨b2, o2 + i, none⟩ = some (.int .u64 ((m.getD i 0 : Nat) : Int)) := by rw [(bcell HS.bel).1 _ _ hb2, hcell2]
          clear hcell2
          have hb' : (i : Int) < (n' : Int) := by have := HL'.out; omega
          clear ha hb
          have hd1 := HI.out.dig (by decide) i
          have hd2 := HI'.out.dig (by decide) i
          have HE := Lib.hid (fun (s : Nat) (hs : s = l.getD i 0 + m.getD i 0 + y) => add_next (B := 18446744073709551616) HS.len rfl rfl hs HS.eq)
          generalize l.getD i 0 = x1 at *
          generalize m.getD i 0 = x2 at *
          have HE1 := Lib.hid (HE.out (x1 + x2 + y) rfl)
          clear HE
          have hadd : ∀ W, (callFunc 45 #[.int .u64 (x1 : Int), .int .u64 (x2 : Int), .int .u64 (y : Int)]).run Try.prog W = .ok (.value (.tuple #[.int .u64 (((x1 + x2 + y) % 18446744073709551616 : Nat) : Int), .int .u64 (((x1 + x2 + y) / 18446744073709551616 : Nat) : Int)])) W := fun W => call_add64 (x := x1) (y := x2) hy W
          have hs1 : (x1 + x2 + y) % 18446744073709551616 < 18446744073709551616 := Nat.mod_lt _ (by decide)
          have hs2 : (x1 + x2 + y) / 18446744073709551616 ≤ 1 := by omega
          generalize (x1 + x2 + y) % 18446744073709551616 = s at *
          generalize (x1 + x2 + y) / 18446744073709551616 = y2 at *
          have HOA := Lib.hid (HS.own.alloc (.cells #[.int .u64 (s : Int)] 29))
          have HRA := Lib.hid (reads_one wr 29 (.int .u64 (s : Int)))
          go_wp2_with (first
        | (refine wpList_buildSliceTo rfl 42 29 1 _ rfl wr.heap.size rfl (some 51) rfl Try.underlying42 #[.int .u64 (s : Int)] (by exact built64 _) ?_)
        | (at_builtin; refine wpList_append_any _ rfl (.tmp 49) (.tmp 51) _ rfl w.heap.size 29 i0 _ 1 8 Try.underlying42 hi0 hz0 hz1 hz2 rfl (by omega) _ i (digs .u64 L) rfl HOA.out _ _ 1 1 [.int .u64 (s : Int)] rfl HRA.out (by simp [Value.oneCell']) (by simp only [maxLen]; omega) (by omega) (by have := HS.bel.size; simp; omega) ?_; intro v2 w2 hown2 hg2 _; rw [digs_snoc] at hown2; have HB2 := Lib.hid (own_next HOA.out HS.bel hg2); obtain ⟨A2, c2, rfl⟩ := own_slice hown2; have HW2 := Lib.hid hown2; clear hown2 hg2 HOA HRA))
          go_roundw
          case rel => exact ⟨i + 1, A2, c2, L ++ [s], y2, rfl, rfl, by go_num, by omega, hs2, ⟨HW2.out, by rw [List.length_append, HS.len]; rfl, rng_snoc HS.rng hs1, HE1.out, HB2.out⟩⟩
          case measure => simp [intOf]; omega
        · exfalso; have := HL.out; have := HL'.out; omega
        · have HX0 := Lib.hid (getD_big ha)
          have ha' : ¬ (i : Int) < (n : Int) := by have := HL.out; omega
          have haN : ¬ i < n := by omega
          obtain ⟨b2, o2, hA2, _, hb2, hcell2⟩ := HI'.out.at_ hb
          subst hA2
          have hc2 : wr.cell? ⟨b2, o2 + i, none⟩ = some (.int .u64 ((m.getD i 0 : Nat) : Int)) := by rw [(bcell HS.bel).1 _ _ hb2, hcell2]
          clear hcell2
          have hb' : (i : Int) < (n' : Int) := by have := HL'.out; omega
          clear ha hb
          have hd1 := HI.out.dig (by decide) i
          have hd2 := HI'.out.dig (by decide) i
          have HE := Lib.hid (fun (s : Nat) (hs : s = l.getD i 0 + m.getD i 0 + y) => add_next (B := 18446744073709551616) HS.len rfl rfl hs HS.eq)
          rw [HX0.out] at hd1 HE
          generalize m.getD i 0 = x2 at *
          have HE1 := Lib.hid (HE.out (0 + x2 + y) rfl)
          clear HE
          have hadd : ∀ W, (callFunc 45 #[.int .u64 0, .int .u64 (x2 : Int), .int .u64 (y : Int)]).run Try.prog W = .ok (.value (.tuple #[.int .u64 (((0 + x2 + y) % 18446744073709551616 : Nat) : Int), .int .u64 (((0 + x2 + y) / 18446744073709551616 : Nat) : Int)])) W := fun W => call_add64 (x := 0) (y := x2) hy W
          have hs1 : (0 + x2 + y) % 18446744073709551616 < 18446744073709551616 := Nat.mod_lt _ (by decide)
          have hs2 : (0 + x2 + y) / 18446744073709551616 ≤ 1 := by omega
          generalize (0 + x2 + y) % 18446744073709551616 = s at *
          generalize (0 + x2 + y) / 18446744073709551616 = y2 at *
          have HOA := Lib.hid (HS.own.alloc (.cells #[.int .u64 (s : Int)] 29))
          have HRA := Lib.hid (reads_one wr 29 (.int .u64 (s : Int)))
          go_wp2_with (first
        | (refine wpList_buildSliceTo rfl 42 29 1 _ rfl wr.heap.size rfl (some 51) rfl Try.underlying42 #[.int .u64 (s : Int)] (by exact built64 _) ?_)
        | (at_builtin; refine wpList_append_any _ rfl (.tmp 49) (.tmp 51) _ rfl w.heap.size 29 i0 _ 1 8 Try.underlying42 hi0 hz0 hz1 hz2 rfl (by omega) _ i (digs .u64 L) rfl HOA.out _ _ 1 1 [.int .u64 (s : Int)] rfl HRA.out (by simp [Value.oneCell']) (by simp only [maxLen]; omega) (by omega) (by have := HS.bel.size; simp; omega) ?_; intro v2 w2 hown2 hg2 _; rw [digs_snoc] at hown2; have HB2 := Lib.hid (own_next HOA.out HS.bel hg2); obtain ⟨A2, c2, rfl⟩ := own_slice hown2; have HW2 := Lib.hid hown2; clear hown2 hg2 HOA HRA))
          go_roundw
          case rel => exact ⟨i + 1, A2, c2, L ++ [s], y2, rfl, rfl, by go_num, by omega, hs2, ⟨HW2.out, by rw [List.length_append, HS.len]; rfl, rng_snoc HS.rng hs1, HE1.out, HB2.out⟩⟩
          case measure => simp [intOf]; omega
        · exfalso; have := HL.out; have := HL'.out; omega
      · have HIK : Hid (i = n') := by show _ = _; omega
        have HOA := Lib.hid (HS.own.alloc (.cells #[.int .u64 (y : Int)] 29))
        have HRA := Lib.hid (reads_one wr 29 (.int .u64 (y : Int)))
        have hs1 : y < 18446744073709551616 := by omega
        have HF : Hid (nval 18446744073709551616 (L ++ [y]) = N + M) := by
          have := HS.eq
          rw [List.take_of_length_le (by rw [HIK.out]; exact HK1.out), List.take_of_length_le (by rw [HIK.out]; exact HK2.out), HI.out.lb.val, HI'.out.lb.val] at this
          show _ = _
          rw [nval_snoc, HS.len, Nat.mul_comm, this]
        go_wp2_with (first
        | (refine wpList_buildSliceTo rfl 42 29 1 _ rfl wr.heap.size rfl (some 56) rfl Try.underlying42 #[.int .u64 (y : Int)] (by exact built64 _) ?_)
        | (at_builtin; refine wpList_append_any _ rfl (.tmp 54) (.tmp 56) _ rfl w.heap.size 29 i0 _ 1 8 Try.underlying42 hi0 hz0 hz1 hz2 rfl (by omega) _ i (digs .u64 L) rfl HOA.out _ _ 1 1 [.int .u64 (y : Int)] rfl HRA.out (by simp [Value.oneCell']) (by simp only [maxLen]; omega) (by omega) (by have := HS.bel.size; simp; omega) ?_; intro v2 w2 hown2 hg2 _; rw [digs_snoc] at hown2; have HB2 := Lib.hid (own_next HOA.out HS.bel hg2); obtain ⟨A2, c2, rfl⟩ := own_slice hown2; have HW2 := Lib.hid hown2; clear hown2 hg2 HOA HRA))
        obtain ⟨A3, c3, hv3, hc3, hr3⟩ := own_reads HW2.out
        injection hv3 with hv3 _ hv4
        subst hv3; subst hv4
        have hl3 : (L ++ [y]).length = i + 1 := by rw [List.length_append, HS.len]; rfl
        have HT := Lib.hid (isN_trim hr3 hl3.symm hc3 (rng_snoc HS.rng hs1))
        have hct := c_trim A2 c2 (L ++ [y]) w2 w2.heap.size (by rw [hl3]; exact hr3) (by omega) (by omega)
        rw [hl3] at hct
        have HC := Lib.hid hct
        clear hct hr3 hl3
        refine (HC.out).mono ?_; rintro e w' ⟨rfl, rfl⟩
        go_wp2
        go_ret
        exact ⟨A2, c2, _, rfl, by rw [← HF.out]; exact HT.out, HB2.out⟩
  · have hx' : ¬ n < n' := by omega
    have hmax : max (n : Int) (n' : Int) = (n : Int) := by omega
    have HK1 : Hid (l.length ≤ n) := by show _ ≤ _; have := HL.out; omega
    have HK2 : Hid (m.length ≤ n) := by show _ ≤ _; have := HL'.out; omega
    have hmk : (Instr.makeSlice 42 (.int .i64 0) (.int .i64 ((n : Int) + 1))).run Try.prog w = .ok (.slice (some ⟨w.heap.size, 0, none⟩) 0 (n + 1)) (w.alloc (.cells (madeCells (Value.cells (.int .u64 0)) ((n + 1) * i0.size)) 29)) :=
      run_make_rowN (P := Try.prog) 42 29 i0 _ Try.underlying42 hi0 hz0 .i64 .i64 0 (n + 1) (by omega) (by rw [hz2]; omega) (by omega) w
    have HOM : Hid ((w.alloc (.cells (madeCells (Value.cells (.int .u64 0)) ((n + 1) * i0.size)) 29)).ownsRow w.heap.size 29 1 (.slice (some ⟨w.heap.size, 0, none⟩) 0 (n + 1)) 0 []) := World.ownsRow_made w _ (n + 1) (Nat.le_refl _) (by simp only [maxLen]; omega) (by rw [size_madeCells, hz1])
    have HBM : Hid (Below w.heap.size w (w.alloc (.cells (madeCells (Value.cells (.int .u64 0)) ((n + 1) * i0.size)) 29))) := (Below.refl w.heap.size w).alloc (Nat.le_refl _) _
    generalize w.alloc (.cells (madeCells (Value.cells (.int .u64 0)) ((n + 1) * i0.size)) 29) = wm at *
    go_enter Try.func24, Try.ntmps24
    go_wp2_with fail
    go_loopw [5, 6, 23] (fun vo vc vi wr => ∃ (i : Nat) (A0 : Option Addr) (c0 : Nat) (L : List Nat) (y : Nat), vo = .slice A0 i c0 ∧ vc = .int .u64 y ∧ vi = .int .i64 i ∧ i ≤ n ∧ y ≤ 1 ∧ AddS 18446744073709551616 .u64 29 w wr l m i A0 c0 L y) (fun _ _ vi _ => n - (intOf vi).toNat)
    case atStart => exact ⟨0, _, _, [], 0, rfl, rfl, rfl, Nat.zero_le _, Nat.zero_le _, ⟨HOM.out, rfl, (by intro x hx; cases hx), by simp [nval], HBM.out⟩⟩
    case round =>
      obtain ⟨i, A0, c0, L, y, rfl, rfl, rfl, hi, hy, HS⟩ := hrel
      by_cases hlt : i < n
      · have hik : (i : Int) < (n : Int) := by omega
        rcases Nat.lt_or_ge i l.length with ha | ha <;> rcases Nat.lt_or_ge i m.length with hb | hb
        · obtain ⟨b1, o1, hA1, _, hb1, hcell1⟩ := HI.out.at_ ha
          subst hA1
          have hc1 : wr.cell? ⟨b1, o1 + i, none⟩ = some (.int .u64 ((l.getD i 0 : Nat) : Int)) := by rw [(bcell HS.bel).1 _ _ hb1, hcell1]
          clear hcell1
          have ha' : (i : Int) < (n : Int) := by have := HL.out; omega
          obtain ⟨b2, o2, hA2, _, hb2, hcell2⟩ := HI'.out.at_ hb
          subst hA2
          have hc2 : wr.cell? ⟨b2, o2 + i, none⟩ = some (.int .u64 ((m.getD i 0 : Nat) : Int)) := by rw [(bcell HS.bel).1 _ _ hb2, hcell2]
          clear hcell2
          have hb' : (i : Int) < (n' : Int) := by have := HL'.out; omega
          clear ha hb
          have hd1 := HI.out.dig (by decide) i
          have hd2 := HI'.out.dig (by decide) i
          have HE := Lib.hid (fun (s : Nat) (hs : s = l.getD i 0 + m.getD i 0 + y) => add_next (B := 18446744073709551616) HS.len rfl rfl hs HS.eq)
          generalize l.getD i 0 = x1 at *
          generalize m.getD i 0 = x2 at *
          have HE1 := Lib.hid (HE.out (x1 + x2 + y) rfl)
          clear HE
          have hadd : ∀ W, (callFunc 45 #[.int .u64 (x1 : Int), .int .u64 (x2 : Int), .int .u64 (y : Int)]).run Try.prog W = .ok (.value (.tuple #[.int .u64 (((x1 + x2 + y) % 18446744073709551616 : Nat) : Int), .int .u64 (((x1 + x2 + y) / 18446744073709551616 : Nat) : Int)])) W := fun W => call_add64 (x := x1) (y := x2) hy W
          have hs1 : (x1 + x2 + y) % 18446744073709551616 < 18446744073709551616 := Nat.mod_lt _ (by decide)
          have hs2 : (x1 + x2 + y) / 18446744073709551616 ≤ 1 := by omega
          generalize (x1 + x2 + y) % 18446744073709551616 = s at *
          generalize (x1 + x2 + y) / 18446744073709551616 = y2 at *
          have HOA := Lib.hid (HS.own.alloc (.cells #[.int .u64 (s : Int)] 29))
          have HRA := Lib.hid (reads_one wr 29 (.int .u64 (s : Int)))
          go_wp2_with (first
        | (refine wpList_buildSliceTo rfl 42 29 1 _ rfl wr.heap.size rfl (some 51) rfl Try.underlying42 #[.int .u64 (s : Int)] (by exact built64 _) ?_)
        | (at_builtin; refine wpList_append_any _ rfl (.tmp 49) (.tmp 51) _ rfl w.heap.size 29 i0 _ 1 8 Try.underlying42 hi0 hz0 hz1 hz2 rfl (by omega) _ i (digs .u64 L) rfl HOA.out _ _ 1 1 [.int .u64 (s : Int)] rfl HRA.out (by simp [Value.oneCell']) (by simp only [maxLen]; omega) (by omega) (by have := HS.bel.size; simp; omega) ?_; intro v2 w2 hown2 hg2 _; rw [digs_snoc] at hown2; have HB2 := Lib.hid (own_next HOA.out HS.bel hg2); obtain ⟨A2, c2, rfl⟩ := own_slice hown2; have HW2 := Lib.hid hown2; clear hown2 hg2 HOA HRA))
          go_roundw
          case rel => exact ⟨i + 1, A2, c2, L ++ [s], y2, rfl, rfl, by go_num, by omega, hs2, ⟨HW2.out, by rw [List.length_append, HS.len]; rfl, rng_snoc HS.rng hs1, HE1.out, HB2.out⟩⟩
          case measure => simp [intOf]; omega
        · obtain ⟨b1, o1, hA1, _, hb1, hcell1⟩ := HI.out.at_ ha
          subst hA1
          have hc1 : wr.cell? ⟨b1, o1 + i, none⟩ = some (.int .u64 ((l.getD i 0 : Nat) : Int)) := by rw [(bcell HS.bel).1 _ _ hb1, hcell1]
          clear hcell1
          have ha' : (i : Int) < (n : Int) := by have := HL.out; omega
          have HY0 := Lib.hid (getD_big hb)
          have hb' : ¬ (i : Int) < (n' : Int) := by have := HL'.out; omega
          have hbN : ¬ i < n' := by omega
          clear ha hb
          have hd1 := HI.out.dig (by decide) i
          have hd2 := HI'.out.dig (by decide) i
          have HE := Lib.hid (fun (s : Nat) (hs : s = l.getD i 0 + m.getD i 0 + y) => add_next (B := 18446744073709551616) HS.len rfl rfl hs HS.eq)
          generalize l.getD i 0 = x1 at *
          rw [HY0.out] at hd2 HE
          have HE1 := Lib.hid (HE.out (x1 + 0 + y) rfl)
          clear HE
          have hadd : ∀ W, (callFunc 45 #[.int .u64 (x1 : Int), .int .u64 0, .int .u64 (y : Int)]).run Try.prog W = .ok (.value (.tuple #[.int .u64 (((x1 + 0 + y) % 18446744073709551616 : Nat) : Int), .int .u64 (((x1 + 0 + y) / 18446744073709551616 : Nat) : Int)])) W := fun W => call_add64 (x := x1) (y := 0) hy W
          have hs1 : (x1 + 0 + y) % 18446744073709551616 < 18446744073709551616 := Nat.mod_lt _ (by decide)
          have hs2 : (x1 + 0 + y) / 18446744073709551616 ≤ 1 := by omega
          generalize (x1 + 0 + y) % 18446744073709551616 = s at *
          generalize (x1 + 0 + y) / 18446744073709551616 = y2 at *
          have HOA := Lib.hid (HS.own.alloc (.cells #[.int .u64 (s : Int)] 29))
          have HRA := Lib.hid (reads_one wr 29 (.int .u64 (s : Int)))
          go_wp2_with (first
        | (refine wpList_buildSliceTo rfl 42 29 1 _ rfl wr.heap.size rfl (some 51) rfl Try.underlying42 #[.int .u64 (s : Int)] (by exact built64 _) ?_)
        | (at_builtin; refine wpList_append_any _ rfl (.tmp 49) (.tmp 51) _ rfl w.heap.size 29 i0 _ 1 8 Try.underlying42 hi0 hz0 hz1 hz2 rfl (by omega) _ i (digs .u64 L) rfl HOA.out _ _ 1 1 [.int .u64 (s : Int)] rfl HRA.out (by simp [Value.oneCell']) (by simp only [maxLen]; omega) (by omega) (by have := HS.bel.size; simp; omega) ?_; intro v2 w2 hown2 hg2 _; rw [digs_snoc] at hown2; have HB2 := Lib.hid (own_next HOA.out HS.bel hg2); obtain ⟨A2, c2, rfl⟩ := own_slice hown2; have HW2 := Lib.hid hown2; clear hown2 hg2 HOA HRA))
          go_roundw
          case rel => exact ⟨i + 1, A2, c2, L ++ [s], y2, rfl, rfl, by go_num, by omega, hs2, ⟨HW2.out, by rw [List.length_append, HS.len]; rfl, rng_snoc HS.rng hs1, HE1.out, HB2.out⟩⟩
          case measure => simp [intOf]; omega
        · exfalso; have := HL.out; have := HL'.out; omega
        · exfalso; have := HL.out; have := HL'.out; omega
      · have HIK : Hid (i = n) := by show _ = _; omega
        have HOA := Lib.hid (HS.own.alloc (.cells #[.int .u64 (y : Int)] 29))
        have HRA := Lib.hid (reads_one wr 29 (.int .u64 (y : Int)))
        have hs1 : y < 18446744073709551616 := by omega
        have HF : Hid (nval 18446744073709551616 (L ++ [y]) = N + M) := by
          have := HS.eq
          rw [List.take_of_length_le (by rw [HIK.out]; exact HK1.out), List.take_of_length_le (by rw [HIK.out]; exact HK2.out), HI.out.lb.val, HI'.out.lb.val] at this
          show _ = _
          rw [nval_snoc, HS.len, Nat.mul_comm, this]
        go_wp2_with (first
        | (refine wpList_buildSliceTo rfl 42 29 1 _ rfl wr.heap.size rfl (some 56) rfl Try.underlying42 #[.int .u64 (y : Int)] (by exact built64 _) ?_)
        | (at_builtin; refine wpList_append_any _ rfl (.tmp 54) (.tmp 56) _ rfl w.heap.size 29 i0 _ 1 8 Try.underlying42 hi0 hz0 hz1 hz2 rfl (by omega) _ i (digs .u64 L) rfl HOA.out _ _ 1 1 [.int .u64 (y : Int)] rfl HRA.out (by simp [Value.oneCell']) (by simp only [maxLen]; omega) (by omega) (by have := HS.bel.size; simp; omega) ?_; intro v2 w2 hown2 hg2 _; rw [digs_snoc] at hown2; have HB2 := Lib.hid (own_next HOA.out HS.bel hg2); obtain ⟨A2, c2, rfl⟩ := own_slice hown2; have HW2 := Lib.hid hown2; clear hown2 hg2 HOA HRA))
        obtain ⟨A3, c3, hv3, hc3, hr3⟩ := own_reads HW2.out
        injection hv3 with hv3 _ hv4
        subst hv3; subst hv4
        have hl3 : (L ++ [y]).length = i + 1 := by rw [List.length_append, HS.len]; rfl
        have HT := Lib.hid (isN_trim hr3 hl3.symm hc3 (rng_snoc HS.rng hs1))
        have hct := c_trim A2 c2 (L ++ [y]) w2 w2.heap.size (by rw [hl3]; exact hr3) (by omega) (by omega)
        rw [hl3] at hct
        have HC := Lib.hid hct
        clear hct hr3 hl3
        refine (HC.out).mono ?_; rintro e w' ⟨rfl, rfl⟩
        go_wp2
        go_ret
        exact ⟨A2, c2, _, rfl, by rw [← HF.out]; exact HT.out, HB2.out⟩
set_option maxRecDepth 100000 in
set_option maxHeartbeats 2000000 in
theorem c_radd (A A' : Option Addr) (c c' : Nat) (l m : List Nat) (N M : Nat) (w : World) (h : IsN w w.heap.size .u32 4294967296 A c l N) (h' : IsN w w.heap.size .u32 4294967296 A' c' m M) (hN : N < nbig) (hM : M < nbig) :
    Calls Try.prog 34 #[.slice A l.length c, .slice A' m.length c'] w (NewN .u32 4294967296 (N + M) w) := by
  obtain ⟨i0, hi0, hz0, hz1, hz2⟩ := info_parts u32_info
  have hn := len_big h.lb (by decide) hN
  have hm := len_big h'.lb (by decide) hM
  have HI := Lib.hid h
  have HI' := Lib.hid h'
  clear h h' hN hM
  obtain ⟨n, hL⟩ : ∃ n, l.length = n := ⟨_, rfl⟩
  obtain ⟨n', hL'⟩ : ∃ n', m.length = n' := ⟨_, rfl⟩
  rw [hL] at hn ⊢
  rw [hL'] at hm ⊢
  have HL := Lib.hid hL
  have HL' := Lib.hid hL'
  clear hL hL'
  obtain ⟨k, hK1, hK2, hK3⟩ : ∃ k, n ≤ k ∧ n' ≤ k ∧ k ≤ 65536 := ⟨65536, hn, hm, Nat.le_refl _⟩
  go_enter Try.func34, Try.ntmps34
  go_wp2_with fail
  go_loopw [5, 6, 7] (fun vo vc vi wr => ∃ (i : Nat) (A0 : Option Addr) (c0 : Nat) (L : List Nat) (y : Nat), vo = .slice A0 i c0 ∧ vc = .int .u64 y ∧ vi = .int .i64 i ∧ i ≤ k + 1 ∧ y ≤ 1 ∧ Hid (i = k + 1 → y = 0) ∧ AddS 4294967296 .u32 73 w wr l m i A0 c0 L y) (fun _ _ vi _ => k + 1 - (intOf vi).toNat)
  case atStart => exact ⟨0, none, 0, [], 0, rfl, rfl, rfl, Nat.zero_le _, Nat.zero_le _, fun _ => rfl, ⟨⟨by simp [digs], .inl ⟨rfl, rfl⟩⟩, rfl, (by intro x hx; cases hx), by simp [nval], Below.refl _ _⟩⟩
  case round =>
    obtain ⟨i, A0, c0, L, y, rfl, rfl, rfl, hi, hy, HY, HS⟩ := hrel
    rcases Nat.lt_or_ge i l.length with ha | ha <;> rcases Nat.lt_or_ge i m.length with hb | hb
    · obtain ⟨b1, o1, hA1, _, hb1, hcell1⟩ := HI.out.at_ ha
      subst hA1
      have hc1 : wr.cell? ⟨b1, o1 + i, none⟩ = some (.int .u32 ((l.getD i 0 : Nat) : Int)) := by rw [(bcell HS.bel).1 _ _ hb1, hcell1]
      clear hcell1
      have haN : i < n := by have := HL.out; omega
      obtain ⟨b2, o2, hA2, _, hb2, hcell2⟩ := HI'.out.at_ hb
      subst hA2
      have hc2 : wr.cell? ⟨b2, o2 + i, none⟩ = some (.int .u32 ((m.getD i 0 : Nat) : Int)) := by rw [(bcell HS.bel).1 _ _ hb2, hcell2]
      clear hcell2
      have hbN : i < n' := by have := HL'.out; omega
      clear ha hb
      have hik : i < k + 1 := by omega
      have hd1 := HI.out.dig (by decide) i
      have hd2 := HI'.out.dig (by decide) i
      have HE := Lib.hid (fun (s : Nat) (hs : s = l.getD i 0 + m.getD i 0 + y) => add_next (B := 4294967296) HS.len rfl rfl hs HS.eq)
      generalize l.getD i 0 = x1 at *
      generalize m.getD i 0 = x2 at *
      obtain ⟨s, hs⟩ : ∃ s : Nat, s = x1 + x2 + y := ⟨_, rfl⟩
      have HE1 := Lib.hid (HE.out s hs)
      clear HE
      have hsI : (y : Int) + (x1 : Int) + (x2 : Int) = (s : Int) := by omega
      have hs1 : s % 4294967296 < 4294967296 := Nat.mod_lt _ (by decide)
      have hs2 : s / 4294967296 ≤ 1 := by omega
      have hs3 : s < 8589934592 := by omega
      have HYN : Hid (i + 1 = k + 1 → s / 4294967296 = 0) := fun e => by omega
      clear hs
      have hq : (s : Int) % 4294967296 = ((s % 4294967296 : Nat) : Int) := by omega
      have hr : (s : Int) / 4294967296 = ((s / 4294967296 : Nat) : Int) := by omega
      generalize s % 4294967296 = q at *
      generalize s / 4294967296 = y2 at *
      have HOA := Lib.hid (HS.own.alloc (.cells #[.int .u32 (q : Int)] 73))
      have HRA := Lib.hid (reads_one wr 73 (.int .u32 (q : Int)))
      go_wp2_with (first
        | (refine wpList_buildSliceTo rfl 33 73 1 _ rfl wr.heap.size rfl (some 49) rfl Try.underlying33 #[.int .u32 (q : Int)] (by exact built32 _) ?_)
        | (at_builtin; refine wpList_append_any _ rfl (.tmp 46) (.tmp 49) _ rfl w.heap.size 73 i0 _ 1 4 Try.underlying33 hi0 hz0 hz1 hz2 rfl (by omega) _ i (digs .u32 L) rfl HOA.out _ _ 1 1 [.int .u32 (q : Int)] rfl HRA.out (by simp [Value.oneCell']) (by simp only [maxLen]; omega) (by omega) (by have := HS.bel.size; simp; omega) ?_; intro v2 w2 hown2 hg2 _; rw [digs_snoc] at hown2; have HB2 := Lib.hid (own_next HOA.out HS.bel hg2); obtain ⟨A2, c2, rfl⟩ := own_slice hown2; have HW2 := Lib.hid hown2; clear hown2 hg2 HOA HRA))
      go_roundw
      case rel => exact ⟨i + 1, A2, c2, L ++ [q], y2, rfl, rfl, by go_num, by omega, hs2, HYN.out, ⟨HW2.out, by rw [List.length_append, HS.len]; rfl, rng_snoc HS.rng hs1, HE1.out, HB2.out⟩⟩
      case measure => simp [intOf]; omega
    · obtain ⟨b1, o1, hA1, _, hb1, hcell1⟩ := HI.out.at_ ha
      subst hA1
      have hc1 : wr.cell? ⟨b1, o1 + i, none⟩ = some (.int .u32 ((l.getD i 0 : Nat) : Int)) := by rw [(bcell HS.bel).1 _ _ hb1, hcell1]
      clear hcell1
      have haN : i < n := by have := HL.out; omega
      have HY0 := Lib.hid (getD_big hb)
      have hbN : ¬ i < n' := by have := HL'.out; omega
      clear ha hb
      have hik : i < k + 1 := by omega
      have hd1 := HI.out.dig (by decide) i
      have hd2 := HI'.out.dig (by decide) i
      have HE := Lib.hid (fun (s : Nat) (hs : s = l.getD i 0 + m.getD i 0 + y) => add_next (B := 4294967296) HS.len rfl rfl hs HS.eq)
      generalize l.getD i 0 = x1 at *
      rw [HY0.out] at hd2 HE
      obtain ⟨s, hs⟩ : ∃ s : Nat, s = x1 + 0 + y := ⟨_, rfl⟩
      have HE1 := Lib.hid (HE.out s hs)
      clear HE
      have hsI : (y : Int) + (x1 : Int) = (s : Int) := by omega
      have hs1 : s % 4294967296 < 4294967296 := Nat.mod_lt _ (by decide)
      have hs2 : s / 4294967296 ≤ 1 := by omega
      have hs3 : s < 8589934592 := by omega
      have HYN : Hid (i + 1 = k + 1 → s / 4294967296 = 0) := fun e => by omega
      clear hs
      have hq : (s : Int) % 4294967296 = ((s % 4294967296 : Nat) : Int) := by omega
      have hr : (s : Int) / 4294967296 = ((s / 4294967296 : Nat) : Int) := by omega
      generalize s % 4294967296 = q at *
      generalize s / 4294967296 = y2 at *
      have HOA := Lib.hid (HS.own.alloc (.cells #[.int .u32 (q : Int)] 73))
      have HRA := Lib.hid (reads_one wr 73 (.int .u32 (q : Int)))
      go_wp2_with (first
        | (refine wpList_buildSliceTo rfl 33 73 1 _ rfl wr.heap.size rfl (some 49) rfl Try.underlying33 #[.int .u32 (q : Int)] (by exact built32 _) ?_)
        | (at_builtin; refine wpList_append_any _ rfl (.tmp 46) (.tmp 49) _ rfl w.heap.size 73 i0 _ 1 4 Try.underlying33 hi0 hz0 hz1 hz2 rfl (by omega) _ i (digs .u32 L) rfl HOA.out _ _ 1 1 [.int .u32 (q : Int)] rfl HRA.out (by simp [Value.oneCell']) (by simp only [maxLen]; omega) (by omega) (by have := HS.bel.size; simp; omega) ?_; intro v2 w2 hown2 hg2 _; rw [digs_snoc] at hown2; have HB2 := Lib.hid (own_next HOA.out HS.bel hg2); obtain ⟨A2, c2, rfl⟩ := own_slice hown2; have HW2 := Lib.hid hown2; clear hown2 hg2 HOA HRA))
      go_roundw
      case rel => exact ⟨i + 1, A2, c2, L ++ [q], y2, rfl, rfl, by go_num, by omega, hs2, HYN.out, ⟨HW2.out, by rw [List.length_append, HS.len]; rfl, rng_snoc HS.rng hs1, HE1.out, HB2.out⟩⟩
      case measure => simp [intOf]; omega
    · have HX0 := Lib.hid (getD_big ha)
      have haN : ¬ i < n := by have := HL.out; omega
      obtain ⟨b2, o2, hA2, _, hb2, hcell2⟩ := HI'.out.at_ hb
      subst hA2
      have hc2 : wr.cell? ⟨b2, o2 + i, none⟩ = some (.int .u32 ((m.getD i 0 : Nat) : Int)) := by rw [(bcell HS.bel).1 _ _ hb2, hcell2]
      clear hcell2
      have hbN : i < n' := by have := HL'.out; omega
      clear ha hb
      have hik : i < k + 1 := by omega
      have hd1 := HI.out.dig (by decide) i
      have hd2 := HI'.out.dig (by decide) i
      have HE := Lib.hid (fun (s : Nat) (hs : s = l.getD i 0 + m.getD i 0 + y) => add_next (B := 4294967296) HS.len rfl rfl hs HS.eq)
      rw [HX0.out] at hd1 HE
      generalize m.getD i 0 = x2 at *
      obtain ⟨s, hs⟩ : ∃ s : Nat, s = 0 + x2 + y := ⟨_, rfl⟩
      have HE1 := Lib.hid (HE.out s hs)
      clear HE
      have hsI : (y : Int) + (x2 : Int) = (s : Int) := by omega
      have hs1 : s % 4294967296 < 4294967296 := Nat.mod_lt _ (by decide)
      have hs2 : s / 4294967296 ≤ 1 := by omega
      have hs3 : s < 8589934592 := by omega
      have HYN : Hid (i + 1 = k + 1 → s / 4294967296 = 0) := fun e => by omega
      clear hs
      have hq : (s : Int) % 4294967296 = ((s % 4294967296 : Nat) : Int) := by omega
      have hr : (s : Int) / 4294967296 = ((s / 4294967296 : Nat) : Int) := by omega
      generalize s % 4294967296 = q at *
      generalize s / 4294967296 = y2 at *
      have HOA := Lib.hid (HS.own.alloc (.cells #[.int .u32 (q : Int)] 73))
      have HRA := Lib.hid (reads_one wr 73 (.int .u32 (q : Int)))
      go_wp2_with (first
        | (refine wpList_buildSliceTo rfl 33 73 1 _ rfl wr.heap.size rfl (some 49) rfl Try.underlying33 #[.int .u32 (q : Int)] (by exact built32 _) ?_)
        | (at_builtin; refine wpList_append_any _ rfl (.tmp 46) (.tmp 49) _ rfl w.heap.size 73 i0 _ 1 4 Try.underlying33 hi0 hz0 hz1 hz2 rfl (by omega) _ i (digs .u32 L) rfl HOA.out _ _ 1 1 [.int .u32 (q : Int)] rfl HRA.out (by simp [Value.oneCell']) (by simp only [maxLen]; omega) (by omega) (by have := HS.bel.size; simp; omega) ?_; intro v2 w2 hown2 hg2 _; rw [digs_snoc] at hown2; have HB2 := Lib.hid (own_next HOA.out HS.bel hg2); obtain ⟨A2, c2, rfl⟩ := own_slice hown2; have HW2 := Lib.hid hown2; clear hown2 hg2 HOA HRA))
      go_roundw
      case rel => exact ⟨i + 1, A2, c2, L ++ [q], y2, rfl, rfl, by go_num, by omega, hs2, HYN.out, ⟨HW2.out, by rw [List.length_append, HS.len]; rfl, rng_snoc HS.rng hs1, HE1.out, HB2.out⟩⟩
      case measure => simp [intOf]; omega
    · have haN : ¬ i < n := by have := HL.out; omega
      have hbN : ¬ i < n' := by have := HL'.out; omega
      by_cases hy0 : y = 0
      · have hyN : ¬ (0 : Int) < (y : Int) := by omega
        have HF : Hid (nval 4294967296 L = N + M) := by
          have := HS.eq
          rw [List.take_of_length_le ha, List.take_of_length_le hb, HI.out.lb.val, HI'.out.lb.val, hy0] at this
          show _ = _
          omega
        clear ha hb hy0
        obtain ⟨A3, c3, hv3, hc3, hr3⟩ := own_reads HS.own
        injection hv3 with hv3 _ hv4
        subst hv3; subst hv4
        have HT := Lib.hid (isN_trim hr3 HS.len.symm hc3 HS.rng)
        have hct := c_rtrim A0 c0 L wr wr.heap.size (by rw [HS.len]; exact hr3) (by rw [HS.len]; exact hc3) (by rw [HS.len]; omega)
        rw [HS.len] at hct
        have HC := Lib.hid hct
        clear hct hr3
        go_wp2_with ((go_at_call 54; refine (HC.out).mono ?_; rintro e w' ⟨rfl, rfl⟩))
        go_ret
        exact ⟨A0, c0, _, rfl, by rw [← HF.out]; exact HT.out, HS.bel⟩
      · have hyN : (0 : Int) < (y : Int) := by omega
        have hik : i < k + 1 := by have := HY.out; omega
        have HX0 := Lib.hid (getD_big ha)
        have HY0 := Lib.hid (getD_big hb)
        clear ha hb hy0
        have hd1 := HI.out.dig (by decide) i
        have hd2 := HI'.out.dig (by decide) i
        have HE := Lib.hid (fun (s : Nat) (hs : s = l.getD i 0 + m.getD i 0 + y) => add_next (B := 4294967296) HS.len rfl rfl hs HS.eq)
        rw [HX0.out] at hd1 HE
        rw [HY0.out] at hd2 HE
        obtain ⟨s, hs⟩ : ∃ s : Nat, s = 0 + 0 + y := ⟨_, rfl⟩
        have HE1 := Lib.hid (HE.out s hs)
        clear HE
        obtain rfl : s = y := by omega
        rw [Nat.mod_eq_of_lt (show s < 4294967296 by omega), Nat.div_eq_of_lt (show s < 4294967296 by omega)] at HE1
        clear hs
        have hr : (s : Int) / 4294967296 = 0 := by omega
        have hs1 : s < 4294967296 := by omega
        have hs2 : 0 ≤ 1 := by omega
        have HYN : Hid (i + 1 = k + 1 → 0 = 0) := fun e => rfl
        have HOA := Lib.hid (HS.own.alloc (.cells #[.int .u32 (s : Int)] 73))
        have HRA := Lib.hid (reads_one wr 73 (.int .u32 (s : Int)))
        go_wp2_with (first
        | (refine wpList_buildSliceTo rfl 33 73 1 _ rfl wr.heap.size rfl (some 49) rfl Try.underlying33 #[.int .u32 (s : Int)] (by exact built32 _) ?_)
        | (at_builtin; refine wpList_append_any _ rfl (.tmp 46) (.tmp 49) _ rfl w.heap.size 73 i0 _ 1 4 Try.underlying33 hi0 hz0 hz1 hz2 rfl (by omega) _ i (digs .u32 L) rfl HOA.out _ _ 1 1 [.int .u32 (s : Int)] rfl HRA.out (by simp [Value.oneCell']) (by simp only [maxLen]; omega) (by omega) (by have := HS.bel.size; simp; omega) ?_; intro v2 w2 hown2 hg2 _; rw [digs_snoc] at hown2; have HB2 := Lib.hid (own_next HOA.out HS.bel hg2); obtain ⟨A2, c2, rfl⟩ := own_slice hown2; have HW2 := Lib.hid hown2; clear hown2 hg2 HOA HRA))
        go_roundw
        case rel => exact ⟨i + 1, A2, c2, L ++ [s], 0, rfl, rfl, by go_num, by omega, hs2, HYN.out, ⟨HW2.out, by rw [List.length_append, HS.len]; rfl, rng_snoc HS.rng hs1, HE1.out, HB2.out⟩⟩
        case measure => simp [intOf]; omega
end Go.Proofs.Yteohkbikhbiojaa
