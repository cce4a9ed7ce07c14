/- Walks: numbers times a power of two, and out of one word (float.nat's shl, quernref22's up and from). Conditions: as stated. -/
import Derived.Test.YtcohidjaehdbnaaGreatDoorGe
namespace Go.Proofs.YtcohidjaehdbnaaGreatDoor
open Go.RowKit
set_option linter.unusedVariables false

theorem own_madeN (w : World) (t : TypeId) (k : IntKind) (q c : Nat) (i0 : TypeInfo) (hz1 : i0.size = 1) (hqc : q ≤ c) (hc : c ≤ maxLen) : (w.alloc (.cells (madeCells (Value.cells (.int k 0)) (c * i0.size)) t)).ownsRow w.heap.size t 1 (.slice (some ⟨w.heap.size, 0, none⟩) q c) q (digs k (List.replicate q 0)) := by
  have h := blk_made w t k c i0 hz1
  refine ⟨by simp [digs], .inr ⟨w.heap.size, c, _, rfl, Nat.le_refl _, h, hqc, hc, by simp [digs], ?_⟩⟩
  rw [Nat.mul_one, List.toList_toArray, ← digs_take, List.take_replicate, Nat.min_eq_left hqc]
/-- What holds ahead of a round of a shift: q noughts and i digits are there, y is carried. -/
structure ShlS (B : Nat) (kd : IntKind) (t : TypeId) (w wr : World) (l : List Nat) (q r i : Nat) (A0 : Option Addr) (c0 : Nat) (L : List Nat) (y : Nat) : Prop where
  own : wr.ownsRow w.heap.size t 1 (.slice A0 (q + i) c0) (q + i) (digs kd L)
  len : L.length = q + i
  rng : ∀ x ∈ L, x < B
  eq : nval B L + y * B ^ (q + i) = nval B (l.take i) * 2 ^ r * B ^ q
  bel : Below w.heap.size w wr
theorem shl_parts {x y r : Nat} (hx : x < 18446744073709551616) (hr : r < 64) (hy : y < 2 ^ r) : (x * 2 ^ r + y) / 18446744073709551616 = x / 2 ^ (64 - r) ∧ (x * 2 ^ r + y) / 18446744073709551616 < 2 ^ r ∧
    x * 2 ^ r % 18446744073709551616 ||| y = (x * 2 ^ r + y) % 18446744073709551616 := by
  have hp : 0 < 2 ^ r := Nat.pow_pos (by decide)
  have e : (18446744073709551616 : Nat) = 2 ^ r * 2 ^ (64 - r) := by rw [← Nat.pow_add, show r + (64 - r) = 64 from by omega]
  have h1 : (x * 2 ^ r + y) / 18446744073709551616 = x / 2 ^ (64 - r) := by
    conv => lhs; rw [e, ← Nat.div_div_eq_div_mul]
    rw [Nat.mul_comm x, Nat.mul_add_div hp, Nat.div_eq_of_lt hy, Nat.add_zero]
  refine ⟨h1, ?_, ?_⟩
  · rw [h1, Nat.div_lt_iff_lt_mul (Nat.pow_pos (by decide)), ← e]; exact hx
  · have e2 : x * 2 ^ r % 18446744073709551616 = (x % 2 ^ (64 - r)) * 2 ^ r := by
      rw [e, Nat.mul_comm (2 ^ r) (2 ^ (64 - r)), Nat.mul_mod_mul_right]
    have e3 : (x * 2 ^ r + y) % 18446744073709551616 = (x % 2 ^ (64 - r)) * 2 ^ r + y := by
      rw [e, Nat.mod_mul, Nat.mul_comm x, Nat.mul_add_mod, Nat.mod_eq_of_lt hy, Nat.mul_add_div hp, Nat.div_eq_of_lt hy, Nat.add_zero, Nat.mul_comm (2 ^ r), Nat.add_comm]
    rw [e2, e3]
    have := Nat.shiftLeft_add_eq_or_of_lt hy (x % 2 ^ (64 - r))
    rw [Nat.shiftLeft_eq] at this
    exact this.symm
set_option maxRecDepth 100000 in
set_option maxHeartbeats 1000000 in
theorem c_shl (A : Option Addr) (c : Nat) (l : List Nat) (k : Nat) (N : Nat) (w : World) (h : IsN w w.heap.size .u64 18446744073709551616 A c l N) (hN : N < nbig) (hk : k ≤ 1000000) :
    Calls Tryz.prog 21 #[.slice A l.length c, .int .i64 k] w (NewN .u64 18446744073709551616 (N * 2 ^ k) w) := by
  obtain ⟨i0, hi0, hz0, hz1, hz2⟩ := info_parts u64_info
  have hl := len_big h.lb (by decide) hN
  by_cases h0 : l = []
  · subst h0
    have HN : Hid (N = 0) := (h.lb.zero (by decide)).1 rfl
    clear h hN
    go_enter Tryz.func21, Tryz.ntmps21
    go_wp2
    go_ret
    exact ⟨none, 0, [], rfl, by rw [HN.out, Nat.zero_mul]; exact IsN.nil, Below.refl _ _⟩
  · have hp : 0 < l.length := List.length_pos_iff.2 h0
    have HI := Lib.hid h
    clear h h0 hN
    obtain ⟨n, hL⟩ : ∃ n, l.length = n := ⟨_, rfl⟩
    rw [hL] at hl hp ⊢
    have HL := Lib.hid hL
    clear hL
    have hn0 : ((n : Int) == 0) = false := by simp; omega
    have hq : (k : Int) / 64 = ((k / 64 : Nat) : Int) := by omega
    have hr : (k : Int) % 64 = ((k % 64 : Nat) : Int) := by omega
    have hqk : k / 64 ≤ 1000000 := by omega
    have hrk : k % 64 < 64 := Nat.mod_lt _ (by decide)
    have HK : Hid (k = 64 * (k / 64) + k % 64) := by show _ = _; omega
    obtain ⟨q, hq2⟩ : ∃ q, k / 64 = q := ⟨_, rfl⟩
    obtain ⟨r, hr2⟩ : ∃ r, k % 64 = r := ⟨_, rfl⟩
    rw [hq2] at hq hqk HK
    rw [hr2] at hr hrk HK
    clear hq2 hr2
    have hmk : (Instr.makeSlice 39 (.int .i64 (q : Int)) (.int .i64 ((q : Int) + (n : Int) + 1))).run Tryz.prog w = .ok (.slice (some ⟨w.heap.size, 0, none⟩) q (q + n + 1)) (w.alloc (.cells (madeCells (Value.cells (.int .u64 0)) ((q + n + 1) * i0.size)) 22)) :=
      run_make_rowN (P := Tryz.prog) 39 22 i0 _ Tryz.underlying39 hi0 hz0 .i64 .i64 q (q + n + 1) (by omega) (by rw [hz2]; omega) (by omega) w
    have HOM := Lib.hid (own_madeN w 22 .u64 q (q + n + 1) i0 hz1 (by omega) (by simp only [maxLen]; omega))
    have HBM : Hid (Below w.heap.size w (w.alloc (.cells (madeCells (Value.cells (.int .u64 0)) ((q + n + 1) * i0.size)) 22))) := (Below.refl w.heap.size w).alloc (Nat.le_refl _) _
    generalize w.alloc (.cells (madeCells (Value.cells (.int .u64 0)) ((q + n + 1) * i0.size)) 22) = wm at *
    have HR := Lib.hid hr
    clear hr
    go_enter Tryz.func21, Tryz.ntmps21
    go_wp2_with fail
    rw [HR.out]
    go_loopw [5, 7, 26] (fun vo vc vi wr => ∃ (i : Nat) (A0 : Option Addr) (c0 : Nat) (L : List Nat) (y : Nat), vo = .slice A0 (q + i : Nat) c0 ∧ vc = .int .u64 y ∧ vi = .int .i64 i ∧ i ≤ n ∧ y < 18446744073709551616 ∧ Hid (y < 2 ^ r) ∧ ShlS 18446744073709551616 .u64 22 w wr l q r i A0 c0 L y) (fun _ _ vi _ => n - (intOf vi).toNat)
    case atStart => exact ⟨0, _, _, _, 0, rfl, rfl, rfl, Nat.zero_le _, by decide, Nat.pow_pos (by decide), ⟨HOM.out, by rw [List.length_replicate]; rfl, (by intro x hx; rw [(List.mem_replicate.1 hx).2]; decide), by rw [nval_zeros]; simp [nval], HBM.out⟩⟩
    case round =>
      obtain ⟨i, A0, c0, L, y, rfl, rfl, rfl, hi, hyb, hy, HS⟩ := hrel
      by_cases hlt : i < n
      · obtain ⟨b1, o1, hA1, _, hb1, hcell1⟩ := HI.out.at_ (show i < l.length by have := HL.out; omega)
        subst hA1
        have hc1 : wr.cell? ⟨b1, o1 + i, none⟩ = some (.int .u64 ((l.getD i 0 : Nat) : Int)) := by rw [(bcell HS.bel).1 _ _ hb1, hcell1]
        clear hcell1
        have hd := HI.out.dig (by decide) i
        have HE := Lib.hid (fun (s : Nat) (hs : s = l.getD i 0 * 2 ^ r + y) => up_next (B := 18446744073709551616) HS.len rfl hs HS.eq)
        generalize l.getD i 0 = x at *
        obtain ⟨p1, p2, p3⟩ := shl_parts hd hrk hy.out
        have hdig : bits .or .u64 (IntKind.u64.wrap ((x : Int) * 2 ^ r)) (y : Int) = (((x * 2 ^ r + y) % 18446744073709551616 : Nat) : Int) := by
          have h := u64_or_nat (x * 2 ^ r % 18446744073709551616) y (Nat.mod_lt _ (by decide)) hyb
          rw [p3] at h
          rw [← h]
          congr 1
        have HE1 := Lib.hid (HE.out (x * 2 ^ r + y) rfl)
        have hs1 : (x * 2 ^ r + y) % 18446744073709551616 < 18446744073709551616 := Nat.mod_lt _ (by decide)
        have hs2 : (x * 2 ^ r + y) / 18446744073709551616 < 18446744073709551616 := by rw [p1]; exact Nat.lt_of_le_of_lt (Nat.div_le_self _ _) hd
        have HS2 := Lib.hid p2
        have HP1 := Lib.hid p1
        clear HE p1 p2 p3
        generalize (x * 2 ^ r + y) % 18446744073709551616 = s at *
        generalize (x * 2 ^ r + y) / 18446744073709551616 = y2 at *
        have HOA := Lib.hid (HS.own.alloc (.cells #[.int .u64 (s : Int)] 22))
        have HRA := Lib.hid (reads_one wr 22 (.int .u64 (s : Int)))
        by_cases hr0 : r = 0
        · have hr0' : ((r : Int) == 0) = true := by simp [hr0]
          have HR0 := Lib.hid hr0
          clear hr0
          go_wp2_with (first
          | (refine wpList_buildSliceTo rfl 39 22 1 _ rfl wr.heap.size rfl (some 36) rfl Tryz.underlying39 #[.int .u64 (s : Int)] (by exact built64 _) ?_)
          | (at_builtin; refine wpList_append_any _ rfl (.tmp 30) (.tmp 36) _ rfl w.heap.size 22 i0 _ 1 8 Tryz.underlying39 hi0 hz0 hz1 hz2 rfl (by omega) _ (q + i) (digs .u64 L) rfl HOA.out _ _ 1 1 [.int .u64 (s : Int)] rfl HRA.out (by simp [Value.oneCell']) (by simp only [maxLen]; omega) (by omega) (by have := HS.bel.size; simp; omega) ?_; intro v2 w2 hown2 hg2 _; rw [digs_snoc] at hown2; have HB2 := Lib.hid (own_next HOA.out HS.bel hg2); obtain ⟨A2, c2, rfl⟩ := own_slice hown2; have HW2 := Lib.hid hown2; clear hown2 hg2 HOA HRA))
          go_roundw
          case rel => exact ⟨i + 1, A2, c2, L ++ [s], 0, rfl, rfl, by go_num, by omega, by decide, Nat.pow_pos (by decide), ⟨HW2.out, by rw [List.length_append, HS.len]; rfl, rng_snoc HS.rng hs1, by have h := HE1.out; have h2 := HS2.out; rw [HR0.out] at h2; rw [show y2 = 0 from by omega] at h; exact h, HB2.out⟩⟩
          case measure => simp [intOf]; omega
        · have hr0' : ((r : Int) == 0) = false := by simp [hr0]
          have hsr : (x : Int) / 2 ^ (64 - r) = (y2 : Int) := by
            rw [HP1.out, Int.natCast_ediv, Int.natCast_pow]; rfl
          clear hr0
          go_wp2_with (first
          | (refine wpList_buildSliceTo rfl 39 22 1 _ rfl wr.heap.size rfl (some 36) rfl Tryz.underlying39 #[.int .u64 (s : Int)] (by exact built64 _) ?_)
          | (at_builtin; refine wpList_append_any _ rfl (.tmp 30) (.tmp 36) _ rfl w.heap.size 22 i0 _ 1 8 Tryz.underlying39 hi0 hz0 hz1 hz2 rfl (by omega) _ (q + i) (digs .u64 L) rfl HOA.out _ _ 1 1 [.int .u64 (s : Int)] rfl HRA.out (by simp [Value.oneCell']) (by simp only [maxLen]; omega) (by omega) (by have := HS.bel.size; simp; omega) ?_; intro v2 w2 hown2 hg2 _; rw [digs_snoc] at hown2; have HB2 := Lib.hid (own_next HOA.out HS.bel hg2); obtain ⟨A2, c2, rfl⟩ := own_slice hown2; have HW2 := Lib.hid hown2; clear hown2 hg2 HOA HRA))
          go_roundw
          case rel => exact ⟨i + 1, A2, c2, L ++ [s], y2, rfl, rfl, by go_num, by omega, hs2, HS2.out, ⟨HW2.out, by rw [List.length_append, HS.len]; rfl, rng_snoc HS.rng hs1, HE1.out, HB2.out⟩⟩
          case measure => simp [intOf]; omega
      · have HIK : Hid (i = n) := by show _ = _; omega
        have HOA := Lib.hid (HS.own.alloc (.cells #[.int .u64 (y : Int)] 22))
        have HRA := Lib.hid (reads_one wr 22 (.int .u64 (y : Int)))
        have HF : Hid (nval 18446744073709551616 (L ++ [y]) = N * 2 ^ k) := by
          have := HS.eq
          rw [List.take_of_length_le (by have := HL.out; have := HIK.out; omega), HI.out.lb.val, Nat.mul_assoc] at this
          show _ = _
          rw [nval_snoc, HS.len, Nat.mul_comm (18446744073709551616 ^ (q + i)), this, HK.out, Nat.pow_add, Nat.pow_mul, Nat.mul_comm (2 ^ r)]
        go_wp2_with (first
        | (refine wpList_buildSliceTo rfl 39 22 1 _ rfl wr.heap.size rfl (some 47) rfl Tryz.underlying39 #[.int .u64 (y : Int)] (by exact built64 _) ?_)
        | (at_builtin; refine wpList_append_any _ rfl (.tmp 45) (.tmp 47) _ rfl w.heap.size 22 i0 _ 1 8 Tryz.underlying39 hi0 hz0 hz1 hz2 rfl (by omega) _ (q + i) (digs .u64 L) rfl HOA.out _ _ 1 1 [.int .u64 (y : Int)] rfl HRA.out (by simp [Value.oneCell']) (by simp only [maxLen]; omega) (by omega) (by have := HS.bel.size; simp; omega) ?_; intro v2 w2 hown2 hg2 _; rw [digs_snoc] at hown2; have HB2 := Lib.hid (own_next HOA.out HS.bel hg2); obtain ⟨A2, c2, rfl⟩ := own_slice hown2; have HW2 := Lib.hid hown2; clear hown2 hg2 HOA HRA))
        obtain ⟨A3, c3, hv3, hc3, hr3⟩ := own_reads HW2.out
        injection hv3 with hv3 _ hv4
        subst hv3; subst hv4
        have hl3 : (L ++ [y]).length = q + i + 1 := by rw [List.length_append, HS.len]; rfl
        have HT := Lib.hid (isN_trim hr3 hl3.symm hc3 (rng_snoc HS.rng hyb))
        have hct := c_trim A2 c2 (L ++ [y]) w2 w2.heap.size (by rw [hl3]; exact hr3) (by omega) (by omega)
        rw [hl3] at hct
        have HC := Lib.hid hct
        clear hct hr3 hl3
        refine (HC.out).mono ?_; rintro e w' ⟨rfl, rfl⟩
        go_wp2
        go_ret
        exact ⟨A2, c2, _, rfl, by rw [← HF.out]; exact HT.out, HB2.out⟩
end Go.Proofs.YtcohidjaehdbnaaGreatDoor
