/- Walks: sums of two numbers (float.nat's add, quernref22's add). Conditions: as stated. -/
import Derived.Test.YtcohidjaehdbnaaGreatDoorGa
import Derived.Laws.Externs
namespace Go.Proofs.YtcohidjaehdbnaaGreatDoor
open Go.RowKit
set_option linter.unusedVariables false

theorem u64_info : (Tryz.prog.info? 22).map (fun i => (i.zero, i.size, i.bytes)) = some (some (.int .u64 0), 1, 8) := by kernel_rfl
theorem u32_info : (Tryz.prog.info? 101).map (fun i => (i.zero, i.size, i.bytes)) = some (some (.int .u32 0), 1, 4) := by kernel_rfl
theorem call_add64_0 (x y : Nat) (w : World) : (callFunc 37 #[.int .u64 (x : Int), .int .u64 (y : Int), .int .u64 ((0 : Nat) : Int)]).run Tryz.prog w = .ok (.value (.tuple #[.int .u64 (((x + y + 0) % 18446744073709551616 : Nat) : Int), .int .u64 (((x + y + 0) / 18446744073709551616 : Nat) : Int)])) w := by kernel_rfl
theorem call_add64_1 (x y : Nat) (w : World) : (callFunc 37 #[.int .u64 (x : Int), .int .u64 (y : Int), .int .u64 ((1 : Nat) : Int)]).run Tryz.prog w = .ok (.value (.tuple #[.int .u64 (((x + y + 1) % 18446744073709551616 : Nat) : Int), .int .u64 (((x + y + 1) / 18446744073709551616 : Nat) : Int)])) w := by kernel_rfl
theorem call_add64 {x y c : Nat} (hc : c ≤ 1) (w : World) : (callFunc 37 #[.int .u64 (x : Int), .int .u64 (y : Int), .int .u64 (c : Int)]).run Tryz.prog w = .ok (.value (.tuple #[.int .u64 (((x + y + c) % 18446744073709551616 : Nat) : Int), .int .u64 (((x + y + c) / 18446744073709551616 : Nat) : Int)])) w := by
  have : c = 0 ∨ c = 1 := by omega
  rcases this with rfl | rfl
  · exact call_add64_0 x y w
  · exact call_add64_1 x y w
theorem call_sub64_0 (x y : Nat) (w : World) : (callFunc 41 #[.int .u64 (x : Int), .int .u64 (y : Int), .int .u64 ((0 : Nat) : Int)]).run Tryz.prog w = .ok (.value (.tuple #[.int .u64 (((x + 18446744073709551616 - y - 0) % 18446744073709551616 : Nat) : Int), .int .u64 ((if x < y + 0 then 1 else 0 : Nat) : Int)])) w := by kernel_rfl
theorem call_sub64_1 (x y : Nat) (w : World) : (callFunc 41 #[.int .u64 (x : Int), .int .u64 (y : Int), .int .u64 ((1 : Nat) : Int)]).run Tryz.prog w = .ok (.value (.tuple #[.int .u64 (((x + 18446744073709551616 - y - 1) % 18446744073709551616 : Nat) : Int), .int .u64 ((if x < y + 1 then 1 else 0 : Nat) : Int)])) w := by kernel_rfl
theorem call_sub64 {x y c : Nat} (hc : c ≤ 1) (w : World) : (callFunc 41 #[.int .u64 (x : Int), .int .u64 (y : Int), .int .u64 (c : Int)]).run Tryz.prog w = .ok (.value (.tuple #[.int .u64 (((x + 18446744073709551616 - y - c) % 18446744073709551616 : Nat) : Int), .int .u64 ((if x < y + c then 1 else 0 : Nat) : Int)])) w := by
  have : c = 0 ∨ c = 1 := by omega
  rcases this with rfl | rfl
  · exact call_sub64_0 x y w
  · exact call_sub64_1 x y w
/-- What holds ahead of a round of a sum: i digits are there, y is carried. -/
structure AddS (B : Nat) (kd : IntKind) (t : TypeId) (w wr : World) (l m : List Nat) (i : Nat) (A0 : Option Addr) (c0 : Nat) (L : List Nat) (y : Nat) : Prop where
  own : wr.ownsRow w.heap.size t 1 (.slice A0 i c0) i (digs kd L)
  len : L.length = i
  rng : ∀ x ∈ L, x < B
  eq : nval B L + y * B ^ i = nval B (l.take i) + nval B (m.take i)
  bel : Below w.heap.size w wr
/-- Behind an append: one digit more, or another row of it. -/
theorem own_next {w wr w2 : World} {t : TypeId} {v : Value} {i : Nat} {xs : List Value} {o : Obj} (ho : (wr.alloc o).ownsRow w.heap.size t 1 v i xs) (hb : Below w.heap.size w wr) (hg : (wr.alloc o).grownBy w2 v.ownBlock) : Below w.heap.size w w2 :=
  below_own (hb.alloc hb.size _) ho hg
theorem rng_snoc {B : Nat} {L : List Nat} {s : Nat} (h : ∀ x ∈ L, x < B) (hs : s < B) : ∀ x ∈ L ++ [s], x < B := by
  intro x hx
  rcases List.mem_append.1 hx with hx | hx
  · exact h x hx
  · rw [List.mem_singleton.1 hx]; exact hs
theorem digs_snoc (k : IntKind) (L : List Nat) (s : Nat) : digs k L ++ [Value.int k (s : Int)] = digs k (L ++ [s]) := by simp [digs]
theorem getD_big {l : List Nat} {i : Nat} (h : l.length ≤ i) : l.getD i 0 = 0 := by rw [List.getD, List.getElem?_eq_none h]; rfl
theorem built64 (x : Int) : Tryz.prog.builtSlice 22 1 [(0, .int .u64 x)] = some #[.int .u64 x] := by kernel_rfl
theorem built32 (x : Int) : Tryz.prog.builtSlice 101 1 [(0, .int .u32 x)] = some #[.int .u32 x] := by kernel_rfl
set_option maxRecDepth 100000 in
set_option maxHeartbeats 2000000 in
theorem c_add (A A' : Option Addr) (c c' : Nat) (l m : List Nat) (N M : Nat) (w : World) (h : IsN w w.heap.size .u64 18446744073709551616 A c l N) (h' : IsN w w.heap.size .u64 18446744073709551616 A' c' m M) (hN : N < nbig) (hM : M < nbig) :
    Calls Tryz.prog 22 #[.slice A l.length c, .slice A' m.length c'] w (NewN .u64 18446744073709551616 (N + M) w) := by
  obtain ⟨i0, hi0, hz0, hz1, hz2⟩ := info_parts u64_info
  have hn := len_big h.lb (by decide) hN
  have hm := len_big h'.lb (by decide) hM
  have HI := Lib.hid h
  have HI' := Lib.hid h'
  clear h h' hN hM
  obtain ⟨n, hL⟩ : ∃ n, l.length = n := ⟨_, rfl⟩
  obtain ⟨n', hL'⟩ : ∃ n', m.length = n' := ⟨_, rfl⟩
  rw [hL] at hn ⊢
  rw [hL'] at hm ⊢
  have HL := Lib.hid hL
  have HL' := Lib.hid hL'
  clear hL hL'
  rcases Nat.lt_or_ge n n' with hx | hx
  · have hx' : (n : Int) < n' := by omega
    have hmax : max (n : Int) (n' : Int) = (n' : Int) := by omega
    have HK1 : Hid (l.length ≤ n') := by show _ ≤ _; have := HL.out; omega
    have HK2 : Hid (m.length ≤ n') := by show _ ≤ _; have := HL'.out; omega
    have hmk : (Instr.makeSlice 39 (.int .i64 0) (.int .i64 ((n' : Int) + 1))).run Tryz.prog w = .ok (.slice (some ⟨w.heap.size, 0, none⟩) 0 (n' + 1)) (w.alloc (.cells (madeCells (Value.cells (.int .u64 0)) ((n' + 1) * i0.size)) 22)) :=
      run_make_rowN (P := Tryz.prog) 39 22 i0 _ Tryz.underlying39 hi0 hz0 .i64 .i64 0 (n' + 1) (by omega) (by rw [hz2]; omega) (by omega) w
    have HOM : Hid ((w.alloc (.cells (madeCells (Value.cells (.int .u64 0)) ((n' + 1) * i0.size)) 22)).ownsRow w.heap.size 22 1 (.slice (some ⟨w.heap.size, 0, none⟩) 0 (n' + 1)) 0 []) := World.ownsRow_made w _ (n' + 1) (Nat.le_refl _) (by simp only [maxLen]; omega) (by rw [size_madeCells, hz1])
    have HBM : Hid (Below w.heap.size w (w.alloc (.cells (madeCells (Value.cells (.int .u64 0)) ((n' + 1) * i0.size)) 22))) := (Below.refl w.heap.size w).alloc (Nat.le_refl _) _
    generalize w.alloc (.cells (madeCells (Value.cells (.int .u64 0)) ((n' + 1) * i0.size)) 22) = wm at *
    go_enter Tryz.func22, Tryz.ntmps22
    go_wp2_with fail
    go_loopw [5, 6, 23] (fun vo vc vi wr => ∃ (i : Nat) (A0 : Option Addr) (c0 : Nat) (L : List Nat) (y : Nat), vo = .slice A0 i c0 ∧ vc = .int .u64 y ∧ vi = .int .i64 i ∧ i ≤ n' ∧ y ≤ 1 ∧ AddS 18446744073709551616 .u64 22 w wr l m i A0 c0 L y) (fun _ _ vi _ => n' - (intOf vi).toNat)
    case atStart => exact ⟨0, _, _, [], 0, rfl, rfl, rfl, Nat.zero_le _, Nat.zero_le _, ⟨HOM.out, rfl, (by intro x hx; cases hx), by simp [nval], HBM.out⟩⟩
    case round =>
      obtain ⟨i, A0, c0, L, y, rfl, rfl, rfl, hi, hy, HS⟩ := hrel
      by_cases hlt : i < n'
      · have hik : (i : Int) < (n' : Int) := by omega
        rcases Nat.lt_or_ge i l.length with ha | ha <;> rcases Nat.lt_or_ge i m.length with hb | hb
        · obtain ⟨b1, o1, hA1, _, hb1, hcell1⟩ := HI.out.at_ ha
          subst hA1
          have hc1 : wr.cell? ⟨b1, o1 + i, none⟩ = some (.int .u64 ((l.getD i 0 : Nat) : Int)) := by rw [(bcell HS.bel).1 _ _ hb1, hcell1]
          clear hcell1
          have ha' : (i : Int) < (n : Int) := by have := HL.out; omega
          obtain ⟨b2, o2, hA2, _, hb2, hcell2⟩ := HI'.out.at_ hb
          subst hA2
          have hc2 : wr.cell? ⟨b2, o2 + i, none⟩ = some (.int .u64 ((m.getD i 0 : Nat) : Int)) := by rw [(bcell HS.bel).1 _ _ hb2, hcell2]
          clear hcell2
          have hb' : (i : Int) < (n' : Int) := by have := HL'.out; omega
          clear ha hb
          have hd1 := HI.out.dig (by decide) i
          have hd2 := HI'.out.dig (by decide) i
          have HE := Lib.hid (fun (s : Nat) (hs : s = l.getD i 0 + m.getD i 0 + y) => add_next (B := 18446744073709551616) HS.len rfl rfl hs HS.eq)
          generalize l.getD i 0 = x1 at *
          generalize m.getD i 0 = x2 at *
          have HE1 := Lib.hid (HE.out (x1 + x2 + y) rfl)
          clear HE
          have hadd : ∀ W, (callFunc 37 #[.int .u64 (x1 : Int), .int .u64 (x2 : Int), .int .u64 (y : Int)]).run Tryz.prog W = .ok (.value (.tuple #[.int .u64 (((x1 + x2 + y) % 18446744073709551616 : Nat) : Int), .int .u64 (((x1 + x2 + y) / 18446744073709551616 : Nat) : Int)])) W := fun W => call_add64 (x := x1) (y := x2) hy W
          have hs1 : (x1 + x2 + y) % 18446744073709551616 < 18446744073709551616 := Nat.mod_lt _ (by decide)
          have hs2 : (x1 + x2 + y) / 18446744073709551616 ≤ 1 := by omega
          generalize (x1 + x2 + y) % 18446744073709551616 = s at *
          generalize (x1 + x2 + y) / 18446744073709551616 = y2 at *
          have HOA := Lib.hid (HS.own.alloc (.cells #[.int .u64 (s : Int)] 22))
          have HRA := Lib.hid (reads_one wr 22 (.int .u64 (s : Int)))
          go_wp2_with (first
        | (refine wpList_buildSliceTo rfl 39 22 1 _ rfl wr.heap.size rfl (some 51) rfl Tryz.underlying39 #[.int .u64 (s : Int)] (by exact built64 _) ?_)
        | (at_builtin; refine wpList_append_any _ rfl (.tmp 49) (.tmp 51) _ rfl w.heap.size 22 i0 _ 1 8 Tryz.underlying39 hi0 hz0 hz1 hz2 rfl (by omega) _ i (digs .u64 L) rfl HOA.out _ _ 1 1 [.int .u64 (s : Int)] rfl HRA.out (by simp [Value.oneCell']) (by simp only [maxLen]; omega) (by omega) (by have := HS.bel.size; simp; omega) ?_; intro v2 w2 hown2 hg2 _; rw [digs_snoc] at hown2; have HB2 := Lib.hid (own_next HOA.out HS.bel hg2); obtain ⟨A2, c2, rfl⟩ := own_slice hown2; have HW2 := Lib.hid hown2; clear hown2 hg2 HOA HRA))
          go_roundw
          case rel => exact ⟨i + 1, A2, c2, L ++ [s], y2, rfl, rfl, by go_num, by omega, hs2, ⟨HW2.out, by rw [List.length_append, HS.len]; rfl, rng_snoc HS.rng hs1, HE1.out, HB2.out⟩⟩
          case measure => simp [intOf]; omega
        · exfalso; have := HL.out; have := HL'.out; omega
        · have HX0 := Lib.hid (getD_big ha)
          have ha' : ¬ (i : Int) < (n : Int) := by have := HL.out; omega
          have haN : ¬ i < n := by omega
          obtain ⟨b2, o2, hA2, _, hb2, hcell2⟩ := HI'.out.at_ hb
          subst hA2
          have hc2 : wr.cell? ⟨b2, o2 + i, none⟩ = some (.int .u64 ((m.getD i 0 : Nat) : Int)) := by rw [(bcell HS.bel).1 _ _ hb2, hcell2]
          clear hcell2
          have hb' : (i : Int) < (n' : Int) := by have := HL'.out; omega
          clear ha hb
          have hd1 := HI.out.dig (by decide) i
          have hd2 := HI'.out.dig (by decide) i
          have HE := Lib.hid (fun (s : Nat) (hs : s = l.getD i 0 + m.getD i 0 + y) => add_next (B := 18446744073709551616) HS.len rfl rfl hs HS.eq)
          rw [HX0.out] at hd1 HE
          generalize m.getD i 0 = x2 at *
          have HE1 := Lib.hid (HE.out (0 + x2 + y) rfl)
          clear HE
          have hadd : ∀ W, (callFunc 37 #[.int .u64 0, .int .u64 (x2 : Int), .int .u64 (y : Int)]).run Tryz.prog W = .ok (.value (.tuple #[.int .u64 (((0 + x2 + y) % 18446744073709551616 : Nat) : Int), .int .u64 (((0 + x2 + y) / 18446744073709551616 : Nat) : Int)])) W := fun W => call_add64 (x := 0) (y := x2) hy W
          have hs1 : (0 + x2 + y) % 18446744073709551616 < 18446744073709551616 := Nat.mod_lt _ (by decide)
          have hs2 : (0 + x2 + y) / 18446744073709551616 ≤ 1 := by omega
          generalize (0 + x2 + y) % 18446744073709551616 = s at *
          generalize (0 + x2 + y) / 18446744073709551616 = y2 at *
          have HOA := Lib.hid (HS.own.alloc (.cells #[.int .u64 (s : Int)] 22))
          have HRA := Lib.hid (reads_one wr 22 (.int .u64 (s : Int)))
          go_wp2_with (first
        | (refine wpList_buildSliceTo rfl 39 22 1 _ rfl wr.heap.size rfl (some 51) rfl Tryz.underlying39 #[.int .u64 (s : Int)] (by exact built64 _) ?_)
        | (at_builtin; refine wpList_append_any _ rfl (.tmp 49) (.tmp 51) _ rfl w.heap.size 22 i0 _ 1 8 Tryz.underlying39 hi0 hz0 hz1 hz2 rfl (by omega) _ i (digs .u64 L) rfl HOA.out _ _ 1 1 [.int .u64 (s : Int)] rfl HRA.out (by simp [Value.oneCell']) (by simp only [maxLen]; omega) (by omega) (by have := HS.bel.size; simp; omega) ?_; intro v2 w2 hown2 hg2 _; rw [digs_snoc] at hown2; have HB2 := Lib.hid (own_next HOA.out HS.bel hg2); obtain ⟨A2, c2, rfl⟩ := own_slice hown2; have HW2 := Lib.hid hown2; clear hown2 hg2 HOA HRA))
          go_roundw
          case rel => exact ⟨i + 1, A2, c2, L ++ [s], y2, rfl, rfl, by go_num, by omega, hs2, ⟨HW2.out, by rw [List.length_append, HS.len]; rfl, rng_snoc HS.rng hs1, HE1.out, HB2.out⟩⟩
          case measure => simp [intOf]; omega
        · exfalso; have := HL.out; have := HL'.out; omega
      · have HIK : Hid (i = n') := by show _ = _; omega
        have HOA := Lib.hid (HS.own.alloc (.cells #[.int .u64 (y : Int)] 22))
        have HRA := Lib.hid (reads_one wr 22 (.int .u64 (y : Int)))
        have hs1 : y < 18446744073709551616 := by omega
        have HF : Hid (nval 18446744073709551616 (L ++ [y]) = N + M) := by
          have := HS.eq
          rw [List.take_of_length_le (by rw [HIK.out]; exact HK1.out), List.take_of_length_le (by rw [HIK.out]; exact HK2.out), HI.out.lb.val, HI'.out.lb.val] at this
          show _ = _
          rw [nval_snoc, HS.len, Nat.mul_comm, this]
        go_wp2_with (first
        | (refine wpList_buildSliceTo rfl 39 22 1 _ rfl wr.heap.size rfl (some 56) rfl Tryz.underlying39 #[.int .u64 (y : Int)] (by exact built64 _) ?_)
        | (at_builtin; refine wpList_append_any _ rfl (.tmp 54) (.tmp 56) _ rfl w.heap.size 22 i0 _ 1 8 Tryz.underlying39 hi0 hz0 hz1 hz2 rfl (by omega) _ i (digs .u64 L) rfl HOA.out _ _ 1 1 [.int .u64 (y : Int)] rfl HRA.out (by simp [Value.oneCell']) (by simp only [maxLen]; omega) (by omega) (by have := HS.bel.size; simp; omega) ?_; intro v2 w2 hown2 hg2 _; rw [digs_snoc] at hown2; have HB2 := Lib.hid (own_next HOA.out HS.bel hg2); obtain ⟨A2, c2, rfl⟩ := own_slice hown2; have HW2 := Lib.hid hown2; clear hown2 hg2 HOA HRA))
        obtain ⟨A3, c3, hv3, hc3, hr3⟩ := own_reads HW2.out
        injection hv3 with hv3 _ hv4
        subst hv3; subst hv4
        have hl3 : (L ++ [y]).length = i + 1 := by rw [List.length_append, HS.len]; rfl
        have HT := Lib.hid (isN_trim hr3 hl3.symm hc3 (rng_snoc HS.rng hs1))
        have hct := c_trim A2 c2 (L ++ [y]) w2 w2.heap.size (by rw [hl3]; exact hr3) (by omega) (by omega)
        rw [hl3] at hct
        have HC := Lib.hid hct
        clear hct hr3 hl3
        refine (HC.out).mono ?_; rintro e w' ⟨rfl, rfl⟩
        go_wp2
        go_ret
        exact ⟨A2, c2, _, rfl, by rw [← HF.out]; exact HT.out, HB2.out⟩
  · have hx' : ¬ n < n' := by omega
    have hmax : max (n : Int) (n' : Int) = (n : Int) := by omega
    have HK1 : Hid (l.length ≤ n) := by show _ ≤ _; have := HL.out; omega
    have HK2 : Hid (m.length ≤ n) := by show _ ≤ _; have := HL'.out; omega
    have hmk : (Instr.makeSlice 39 (.int .i64 0) (.int .i64 ((n : Int) + 1))).run Tryz.prog w = .ok (.slice (some ⟨w.heap.size, 0, none⟩) 0 (n + 1)) (w.alloc (.cells (madeCells (Value.cells (.int .u64 0)) ((n + 1) * i0.size)) 22)) :=
      run_make_rowN (P := Tryz.prog) 39 22 i0 _ Tryz.underlying39 hi0 hz0 .i64 .i64 0 (n + 1) (by omega) (by rw [hz2]; omega) (by omega) w
    have HOM : Hid ((w.alloc (.cells (madeCells (Value.cells (.int .u64 0)) ((n + 1) * i0.size)) 22)).ownsRow w.heap.size 22 1 (.slice (some ⟨w.heap.size, 0, none⟩) 0 (n + 1)) 0 []) := World.ownsRow_made w _ (n + 1) (Nat.le_refl _) (by simp only [maxLen]; omega) (by rw [size_madeCells, hz1])
    have HBM : Hid (Below w.heap.size w (w.alloc (.cells (madeCells (Value.cells (.int .u64 0)) ((n + 1) * i0.size)) 22))) := (Below.refl w.heap.size w).alloc (Nat.le_refl _) _
    generalize w.alloc (.cells (madeCells (Value.cells (.int .u64 0)) ((n + 1) * i0.size)) 22) = wm at *
    go_enter Tryz.func22, Tryz.ntmps22
    go_wp2_with fail
    go_loopw [5, 6, 23] (fun vo vc vi wr => ∃ (i : Nat) (A0 : Option Addr) (c0 : Nat) (L : List Nat) (y : Nat), vo = .slice A0 i c0 ∧ vc = .int .u64 y ∧ vi = .int .i64 i ∧ i ≤ n ∧ y ≤ 1 ∧ AddS 18446744073709551616 .u64 22 w wr l m i A0 c0 L y) (fun _ _ vi _ => n - (intOf vi).toNat)
    case atStart => exact ⟨0, _, _, [], 0, rfl, rfl, rfl, Nat.zero_le _, Nat.zero_le _, ⟨HOM.out, rfl, (by intro x hx; cases hx), by simp [nval], HBM.out⟩⟩
    case round =>
      obtain ⟨i, A0, c0, L, y, rfl, rfl, rfl, hi, hy, HS⟩ := hrel
      by_cases hlt : i < n
      · have hik : (i : Int) < (n : Int) := by omega
        rcases Nat.lt_or_ge i l.length with ha | ha <;> rcases Nat.lt_or_ge i m.length with hb | hb
        · obtain ⟨b1, o1, hA1, _, hb1, hcell1⟩ := HI.out.at_ ha
          subst hA1
          have hc1 : wr.cell? ⟨b1, o1 + i, none⟩ = some (.int .u64 ((l.getD i 0 : Nat) : Int)) := by rw [(bcell HS.bel).1 _ _ hb1, hcell1]
          clear hcell1
          have ha' : (i : Int) < (n : Int) := by have := HL.out; omega
          obtain ⟨b2, o2, hA2, _, hb2, hcell2⟩ := HI'.out.at_ hb
          subst hA2
          have hc2 : wr.cell? ⟨b2, o2 + i, none⟩ = some (.int .u64 ((m.getD i 0 : Nat) : Int)) := by rw [(bcell HS.bel).1 _ _ hb2, hcell2]
          clear hcell2
          have hb' : (i : Int) < (n' : Int) := by have := HL'.out; omega
          clear ha hb
          have hd1 := HI.out.dig (by decide) i
          have hd2 := HI'.out.dig (by decide) i
          have HE := Lib.hid (fun (s : Nat) (hs : s = l.getD i 0 + m.getD i 0 + y) => add_next (B := 18446744073709551616) HS.len rfl rfl hs HS.eq)
          generalize l.getD i 0 = x1 at *
          generalize m.getD i 0 = x2 at *
          have HE1 := Lib.hid (HE.out (x1 + x2 + y) rfl)
          clear HE
          have hadd : ∀ W, (callFunc 37 #[.int .u64 (x1 : Int), .int .u64 (x2 : Int), .int .u64 (y : Int)]).run Tryz.prog W = .ok (.value (.tuple #[.int .u64 (((x1 + x2 + y) % 18446744073709551616 : Nat) : Int), .int .u64 (((x1 + x2 + y) / 18446744073709551616 : Nat) : Int)])) W := fun W => call_add64 (x := x1) (y := x2) hy W
          have hs1 : (x1 + x2 + y) % 18446744073709551616 < 18446744073709551616 := Nat.mod_lt _ (by decide)
          have hs2 : (x1 + x2 + y) / 18446744073709551616 ≤ 1 := by omega
          generalize (x1 + x2 + y) % 18446744073709551616 = s at *
          generalize (x1 + x2 + y) / 18446744073709551616 = y2 at *
          have HOA := Lib.hid (HS.own.alloc (.cells #[.int .u64 (s : Int)] 22))
          have HRA := Lib.hid (reads_one wr 22 (.int .u64 (s : Int)))
          go_wp2_with (first
        | (refine wpList_buildSliceTo rfl 39 22 1 _ rfl wr.heap.size rfl (some 51) rfl Tryz.underlying39 #[.int .u64 (s : Int)] (by exact built64 _) ?_)
        | (at_builtin; refine wpList_append_any _ rfl (.tmp 49) (.tmp 51) _ rfl w.heap.size 22 i0 _ 1 8 Tryz.underlying39 hi0 hz0 hz1 hz2 rfl (by omega) _ i (digs .u64 L) rfl HOA.out _ _ 1 1 [.int .u64 (s : Int)] rfl HRA.out (by simp [Value.oneCell']) (by simp only [maxLen]; omega) (by omega) (by have := HS.bel.size; simp; omega) ?_; intro v2 w2 hown2 hg2 _; rw [digs_snoc] at hown2; have HB2 := Lib.hid (own_next HOA.out HS.bel hg2); obtain ⟨A2, c2, rfl⟩ := own_slice hown2; have HW2 := Lib.hid hown2; clear hown2 hg2 HOA HRA))
          go_roundw
          case rel => exact ⟨i + 1, A2, c2, L ++ [s], y2, rfl, rfl, by go_num, by omega, hs2, ⟨HW2.out, by rw [List.length_append, HS.len]; rfl, rng_snoc HS.rng hs1, HE1.out, HB2.out⟩⟩
          case measure => simp [intOf]; omega
        · obtain ⟨b1, o1, hA1, _, hb1, hcell1⟩ := HI.out.at_ ha
          subst hA1
          have hc1 : wr.cell? ⟨b1, o1 + i, none⟩ = some (.int .u64 ((l.getD i 0 : Nat) : Int)) := by rw [(bcell HS.bel).1 _ _ hb1, hcell1]
          clear hcell1
          have ha' : (i : Int) < (n : Int) := by have := HL.out; omega
          have HY0 := Lib.hid (getD_big hb)
          have hb' : ¬ (i : Int) < (n' : Int) := by have := HL'.out; omega
          have hbN : ¬ i < n' := by omega
          clear ha hb
          have hd1 := HI.out.dig (by decide) i
          have hd2 := HI'.out.dig (by decide) i
          have HE := Lib.hid (fun (s : Nat) (hs : s = l.getD i 0 + m.getD i 0 + y) => add_next (B := 18446744073709551616) HS.len rfl rfl hs HS.eq)
          generalize l.getD i 0 = x1 at *
          rw [HY0.out] at hd2 HE
          have HE1 := Lib.hid (HE.out (x1 + 0 + y) rfl)
          clear HE
          have hadd : ∀ W, (callFunc 37 #[.int .u64 (x1 : Int), .int .u64 0, .int .u64 (y : Int)]).run Tryz.prog W = .ok (.value (.tuple #[.int .u64 (((x1 + 0 + y) % 18446744073709551616 : Nat) : Int), .int .u64 (((x1 + 0 + y) / 18446744073709551616 : Nat) : Int)])) W := fun W => call_add64 (x := x1) (y := 0) hy W
          have hs1 : (x1 + 0 + y) % 18446744073709551616 < 18446744073709551616 := Nat.mod_lt _ (by decide)
          have hs2 : (x1 + 0 + y) / 18446744073709551616 ≤ 1 := by omega
          generalize (x1 + 0 + y) % 18446744073709551616 = s at *
          generalize (x1 + 0 + y) / 18446744073709551616 = y2 at *
          have HOA := Lib.hid (HS.own.alloc (.cells #[.int .u64 (s : Int)] 22))
          have HRA := Lib.hid (reads_one wr 22 (.int .u64 (s : Int)))
          go_wp2_with (first
        | (refine wpList_buildSliceTo rfl 39 22 1 _ rfl wr.heap.size rfl (some 51) rfl Tryz.underlying39 #[.int .u64 (s : Int)] (by exact built64 _) ?_)
        | (at_builtin; refine wpList_append_any _ rfl (.tmp 49) (.tmp 51) _ rfl w.heap.size 22 i0 _ 1 8 Tryz.underlying39 hi0 hz0 hz1 hz2 rfl (by omega) _ i (digs .u64 L) rfl HOA.out _ _ 1 1 [.int .u64 (s : Int)] rfl HRA.out (by simp [Value.oneCell']) (by simp only [maxLen]; omega) (by omega) (by have := HS.bel.size; simp; omega) ?_; intro v2 w2 hown2 hg2 _; rw [digs_snoc] at hown2; have HB2 := Lib.hid (own_next HOA.out HS.bel hg2); obtain ⟨A2, c2, rfl⟩ := own_slice hown2; have HW2 := Lib.hid hown2; clear hown2 hg2 HOA HRA))
          go_roundw
          case rel => exact ⟨i + 1, A2, c2, L ++ [s], y2, rfl, rfl, by go_num, by omega, hs2, ⟨HW2.out, by rw [List.length_append, HS.len]; rfl, rng_snoc HS.rng hs1, HE1.out, HB2.out⟩⟩
          case measure => simp [intOf]; omega
        · exfalso; have := HL.out; have := HL'.out; omega
        · exfalso; have := HL.out; have := HL'.out; omega
      · have HIK : Hid (i = n) := by show _ = _; omega
        have HOA := Lib.hid (HS.own.alloc (.cells #[.int .u64 (y : Int)] 22))
        have HRA := Lib.hid (reads_one wr 22 (.int .u64 (y : Int)))
        have hs1 : y < 18446744073709551616 := by omega
        have HF : Hid (nval 18446744073709551616 (L ++ [y]) = N + M) := by
          have := HS.eq
          rw [List.take_of_length_le (by rw [HIK.out]; exact HK1.out), List.take_of_length_le (by rw [HIK.out]; exact HK2.out), HI.out.lb.val, HI'.out.lb.val] at this
          show _ = _
          rw [nval_snoc, HS.len, Nat.mul_comm, this]
        go_wp2_with (first
        | (refine wpList_buildSliceTo rfl 39 22 1 _ rfl wr.heap.size rfl (some 56) rfl Tryz.underlying39 #[.int .u64 (y : Int)] (by exact built64 _) ?_)
        | (at_builtin; refine wpList_append_any _ rfl (.tmp 54) (.tmp 56) _ rfl w.heap.size 22 i0 _ 1 8 Tryz.underlying39 hi0 hz0 hz1 hz2 rfl (by omega) _ i (digs .u64 L) rfl HOA.out _ _ 1 1 [.int .u64 (y : Int)] rfl HRA.out (by simp [Value.oneCell']) (by simp only [maxLen]; omega) (by omega) (by have := HS.bel.size; simp; omega) ?_; intro v2 w2 hown2 hg2 _; rw [digs_snoc] at hown2; have HB2 := Lib.hid (own_next HOA.out HS.bel hg2); obtain ⟨A2, c2, rfl⟩ := own_slice hown2; have HW2 := Lib.hid hown2; clear hown2 hg2 HOA HRA))
        obtain ⟨A3, c3, hv3, hc3, hr3⟩ := own_reads HW2.out
        injection hv3 with hv3 _ hv4
        subst hv3; subst hv4
        have hl3 : (L ++ [y]).length = i + 1 := by rw [List.length_append, HS.len]; rfl
        have HT := Lib.hid (isN_trim hr3 hl3.symm hc3 (rng_snoc HS.rng hs1))
        have hct := c_trim A2 c2 (L ++ [y]) w2 w2.heap.size (by rw [hl3]; exact hr3) (by omega) (by omega)
        rw [hl3] at hct
        have HC := Lib.hid hct
        clear hct hr3 hl3
        refine (HC.out).mono ?_; rintro e w' ⟨rfl, rfl⟩
        go_wp2
        go_ret
        exact ⟨A2, c2, _, rfl, by rw [← HF.out]; exact HT.out, HB2.out⟩
end Go.Proofs.YtcohidjaehdbnaaGreatDoor
