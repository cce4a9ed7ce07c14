/- Walks: the document's numbers times a power of two, and out of one word (quernref22's up and from). Conditions: as stated. -/
import Derived.Test.YteohkbikhbiojaaGf
namespace Go.Proofs.Yteohkbikhbiojaa
open Go.RowKit
set_option linter.unusedVariables false

theorem up_parts {x y r : Nat} (hx : x < 4294967296) (hr : r < 32) (hy : y < 2 ^ r) : y ||| x * 2 ^ r = x * 2 ^ r + y ∧ x * 2 ^ r + y < 9223372036854775808 ∧ (x * 2 ^ r + y) / 4294967296 < 2 ^ r ∧ x * 2 ^ r < 9223372036854775808 := by
  have hp : 0 < 2 ^ r := Nat.pow_pos (by decide)
  have hr2 : 2 ^ r ≤ 2147483648 := by
    have : 2 ^ r ≤ 2 ^ 31 := Nat.pow_le_pow_right (by decide) (by omega)
    simpa using this
  have h1 : (x + 1) * 2 ^ r ≤ 4294967296 * 2 ^ r := Nat.mul_le_mul_right _ hx
  rw [Nat.add_mul, Nat.one_mul] at h1
  refine ⟨?_, by omega, ?_, by omega⟩
  · have := Nat.shiftLeft_add_eq_or_of_lt hy x
    rw [Nat.shiftLeft_eq] at this
    rw [Nat.or_comm]; exact this.symm
  · rw [Nat.div_lt_iff_lt_mul (by decide), Nat.mul_comm (2 ^ r)]
    omega
set_option maxRecDepth 100000 in
set_option maxHeartbeats 1000000 in
theorem c_up (A : Option Addr) (c : Nat) (l : List Nat) (k : Nat) (N : Nat) (w : World) (h : IsN w w.heap.size .u32 4294967296 A c l N) (hN : N < nbig) (hk : k ≤ 1000000) :
    Calls Try.prog 32 #[.slice A l.length c, .int .i64 k] w (NewN .u32 4294967296 (N * 2 ^ k) w) := by
  obtain ⟨i0, hi0, hz0, hz1, hz2⟩ := info_parts u32_info
  have hl := len_big h.lb (by decide) hN
  have HI := Lib.hid h
  clear h hN
  obtain ⟨n, hL⟩ : ∃ n, l.length = n := ⟨_, rfl⟩
  rw [hL] at hl ⊢
  have HL := Lib.hid hL
  clear hL
  have hq : (k : Int) / 32 = ((k / 32 : Nat) : Int) := by omega
  have hr : (k : Int) % 32 = ((k % 32 : Nat) : Int) := by omega
  have hqk : k / 32 ≤ 1000000 := by omega
  have hrk : k % 32 < 32 := Nat.mod_lt _ (by decide)
  have HK : Hid (k = 32 * (k / 32) + k % 32) := by show _ = _; omega
  obtain ⟨q, hq2⟩ : ∃ q, k / 32 = q := ⟨_, rfl⟩
  obtain ⟨r, hr2⟩ : ∃ r, k % 32 = r := ⟨_, rfl⟩
  rw [hq2] at hq hqk HK
  rw [hr2] at hr hrk HK
  clear hq2 hr2
  have hmk := run_make_rowN (P := Try.prog) 33 73 i0 _ Try.underlying33 hi0 hz0 .i64 .i64 q q (Nat.le_refl _) (by rw [hz2]; omega) (by omega) w
  have HOM := Lib.hid (own_madeN w 73 .u32 q q i0 hz1 (by omega) (by simp only [maxLen]; omega))
  have HBM : Hid (Below w.heap.size w (w.alloc (.cells (madeCells (Value.cells (.int .u32 0)) (q * i0.size)) 73))) := (Below.refl w.heap.size w).alloc (Nat.le_refl _) _
  generalize w.alloc (.cells (madeCells (Value.cells (.int .u32 0)) (q * i0.size)) 73) = wm at *
  go_enter Try.func32, Try.ntmps32
  go_wp2_with fail
  go_loopw [5, 6, 7] (fun vo vc vi wr => ∃ (i : Nat) (A0 : Option Addr) (c0 : Nat) (L : List Nat) (y : Nat), vo = .slice A0 (q + i : Nat) c0 ∧ vc = .int .u64 y ∧ vi = .int .i64 i ∧ i ≤ n ∧ y < 4294967296 ∧ Hid (y < 2 ^ r) ∧ ShlS 4294967296 .u32 73 w wr l q r i A0 c0 L y) (fun _ _ vi _ => n - (intOf vi).toNat)
  case atStart => exact ⟨0, _, _, _, 0, rfl, rfl, rfl, Nat.zero_le _, by decide, Nat.pow_pos (by decide), ⟨HOM.out, by rw [List.length_replicate]; rfl, (by intro x hx; rw [(List.mem_replicate.1 hx).2]; decide), by rw [nval_zeros]; simp [nval], HBM.out⟩⟩
  case round =>
    obtain ⟨i, A0, c0, L, y, rfl, rfl, rfl, hi, hyb, hy, HS⟩ := hrel
    by_cases hlt : i < n
    · obtain ⟨b1, o1, hA1, _, hb1, hcell1⟩ := HI.out.at_ (show i < l.length by have := HL.out; omega)
      subst hA1
      have hc1 : wr.cell? ⟨b1, o1 + i, none⟩ = some (.int .u32 ((l.getD i 0 : Nat) : Int)) := by rw [(bcell HS.bel).1 _ _ hb1, hcell1]
      clear hcell1
      have hd := HI.out.dig (by decide) i
      have HE := Lib.hid (fun (s : Nat) (hs : s = l.getD i 0 * 2 ^ r + y) => up_next (B := 4294967296) HS.len rfl hs HS.eq)
      generalize l.getD i 0 = x at *
      obtain ⟨p1, p2, p3, p4⟩ := up_parts hd hrk hy.out
      have hwr : IntKind.u64.wrap ((x : Int) * 2 ^ r) = ((x * 2 ^ r : Nat) : Int) := by
        rw [show IntKind.u64.wrap ((x : Int) * 2 ^ r) = ((x : Int) * 2 ^ r) % 18446744073709551616 from rfl]
        have : (x : Int) * 2 ^ r = ((x * 2 ^ r : Nat) : Int) := by rw [Int.natCast_mul, Int.natCast_pow]; rfl
        rw [this]; omega
      have hdig : bits .or .u64 (y : Int) ((x * 2 ^ r : Nat) : Int) = ((x * 2 ^ r + y : Nat) : Int) := by
        have h := u64_or_nat y (x * 2 ^ r) (by omega) (by omega)
        rw [p1] at h
        exact h
      have HE1 := Lib.hid (HE.out (x * 2 ^ r + y) rfl)
      have HS2 := Lib.hid p3
      have HR := Lib.hid hr
      clear HE p1 p3
      generalize hz : x * 2 ^ r = z at *
      clear hz
      obtain ⟨s, hs⟩ : ∃ s, z + y = s := ⟨_, rfl⟩
      rw [hs] at hdig HE1 HS2 p2
      clear hs
      have hq1 : (s : Int) % 4294967296 = ((s % 4294967296 : Nat) : Int) := by omega
      have hr1 : (s : Int) / 4294967296 = ((s / 4294967296 : Nat) : Int) := by omega
      have hs1 : s % 4294967296 < 4294967296 := Nat.mod_lt _ (by decide)
      have hs2 : s / 4294967296 < 4294967296 := by omega
      generalize s % 4294967296 = q1 at *
      generalize s / 4294967296 = y2 at *
      have HOA := Lib.hid (HS.own.alloc (.cells #[.int .u32 (q1 : Int)] 73))
      have HRA := Lib.hid (reads_one wr 73 (.int .u32 (q1 : Int)))
      go_wp2_with (first
        | (refine wpList_buildSliceTo rfl 33 73 1 _ rfl wr.heap.size rfl (some 31) rfl Try.underlying33 #[.int .u32 (q1 : Int)] (by exact built32 _) ?_)
        | (at_builtin; refine wpList_append_any _ rfl (.tmp 28) (.tmp 31) _ rfl w.heap.size 73 i0 _ 1 4 Try.underlying33 hi0 hz0 hz1 hz2 rfl (by omega) _ (q + i) (digs .u32 L) rfl HOA.out _ _ 1 1 [.int .u32 (q1 : Int)] rfl HRA.out (by simp [Value.oneCell']) (by simp only [maxLen]; omega) (by omega) (by have := HS.bel.size; simp; omega) ?_; intro v2 w2 hown2 hg2 _; rw [digs_snoc] at hown2; have HB2 := Lib.hid (own_next HOA.out HS.bel hg2); obtain ⟨A2, c2, rfl⟩ := own_slice hown2; have HW2 := Lib.hid hown2; clear hown2 hg2 HOA HRA))
      go_roundw
      case rel => exact ⟨i + 1, A2, c2, L ++ [q1], y2, rfl, rfl, by go_num, by omega, hs2, HS2.out, ⟨HW2.out, by rw [List.length_append, HS.len]; rfl, rng_snoc HS.rng hs1, HE1.out, HB2.out⟩⟩
      case measure => simp [intOf]; omega
    · have HIK : Hid (i = n) := by show _ = _; omega
      have HOA := Lib.hid (HS.own.alloc (.cells #[.int .u32 (y : Int)] 73))
      have HRA := Lib.hid (reads_one wr 73 (.int .u32 (y : Int)))
      have HF : Hid (nval 4294967296 (L ++ [y]) = N * 2 ^ k) := by
        have := HS.eq
        rw [List.take_of_length_le (by have := HL.out; have := HIK.out; omega), HI.out.lb.val, Nat.mul_assoc] at this
        show _ = _
        rw [nval_snoc, HS.len, Nat.mul_comm (4294967296 ^ (q + i)), this, HK.out, Nat.pow_add, Nat.pow_mul, Nat.mul_comm (2 ^ r)]
      go_wp2_with (first
        | (refine wpList_buildSliceTo rfl 33 73 1 _ rfl wr.heap.size rfl (some 38) rfl Try.underlying33 #[.int .u32 (y : Int)] (by exact built32 _) ?_)
        | (at_builtin; refine wpList_append_any _ rfl (.tmp 35) (.tmp 38) _ rfl w.heap.size 73 i0 _ 1 4 Try.underlying33 hi0 hz0 hz1 hz2 rfl (by omega) _ (q + i) (digs .u32 L) rfl HOA.out _ _ 1 1 [.int .u32 (y : Int)] rfl HRA.out (by simp [Value.oneCell']) (by simp only [maxLen]; omega) (by omega) (by have := HS.bel.size; simp; omega) ?_; intro v2 w2 hown2 hg2 _; rw [digs_snoc] at hown2; have HB2 := Lib.hid (own_next HOA.out HS.bel hg2); obtain ⟨A2, c2, rfl⟩ := own_slice hown2; have HW2 := Lib.hid hown2; clear hown2 hg2 HOA HRA))
      obtain ⟨A3, c3, hv3, hc3, hr3⟩ := own_reads HW2.out
      injection hv3 with hv3 _ hv4
      subst hv3; subst hv4
      have hl3 : (L ++ [y]).length = q + i + 1 := by rw [List.length_append, HS.len]; rfl
      have HT := Lib.hid (isN_trim hr3 hl3.symm hc3 (rng_snoc HS.rng hyb))
      have hct := c_rtrim A2 c2 (L ++ [y]) w2 w2.heap.size (by rw [hl3]; exact hr3) (by omega) (by omega)
      rw [hl3] at hct
      have HC := Lib.hid hct
      clear hct hr3 hl3
      refine (HC.out).mono ?_; rintro e w' ⟨rfl, rfl⟩
      go_wp2
      go_ret
      exact ⟨A2, c2, _, rfl, by rw [← HF.out]; exact HT.out, HB2.out⟩
theorem built32_2 (x y : Int) : Try.prog.builtSlice 73 2 [(0, .int .u32 x), (1, .int .u32 y)] = some #[.int .u32 x, .int .u32 y] := by kernel_rfl
theorem c_from (v : Nat) (hv : v < 18446744073709551616) (w : World) :
    Calls Try.prog 33 #[.int .u64 v] w (NewN .u32 4294967296 v w) := by
  have hq : (v : Int) % 4294967296 = ((v % 4294967296 : Nat) : Int) := by omega
  have hr : (v : Int) / 4294967296 = ((v / 4294967296 : Nat) : Int) := by omega
  have HV : Hid (nval 4294967296 [v % 4294967296, v / 4294967296] = v) := by show _ = _; simp only [nval]; omega
  have h1 : v % 4294967296 < 4294967296 := Nat.mod_lt _ (by decide)
  have h2 : v / 4294967296 < 4294967296 := by omega
  generalize v % 4294967296 = a at *
  generalize v / 4294967296 = b at *
  have hbk : Blk (w.alloc (.cells #[.int .u32 (a : Int), .int .u32 (b : Int)] 73)) w.heap.size 73 (digs .u32 [a, b]).toArray := Blk.new w _ _
  have HT := Lib.hid (isN_trim (c := 2) (blk_reads hbk) rfl (by simp) (by intro x hx; simp only [List.mem_cons, List.not_mem_nil, or_false] at hx; rcases hx with rfl | rfl <;> assumption))
  have HC := Lib.hid (c_rtrim (some ⟨w.heap.size, 0, none⟩) 2 [a, b] _ _ (blk_reads hbk) (by simp) (by simp))
  have HB := Lib.hid ((Below.refl w.heap.size w).alloc (Nat.le_refl _) (.cells #[.int .u32 (a : Int), .int .u32 (b : Int)] 73))
  clear hbk h1 h2
  go_enter Try.func33, Try.ntmps33
  go_wp2_with ((go_at_call 54; refine (HC.out).mono ?_; rintro e w' ⟨rfl, rfl⟩))
  go_ret
  exact ⟨_, 2, _, rfl, by rw [← HV.out]; exact HT.out, HB.out⟩
end Go.Proofs.Yteohkbikhbiojaa
