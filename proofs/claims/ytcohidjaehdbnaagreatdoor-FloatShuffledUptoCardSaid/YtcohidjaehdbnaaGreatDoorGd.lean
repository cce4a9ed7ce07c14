/- Walks: products of two numbers (float.nat's mul, quernref22's mul). Conditions: as stated. -/
import Derived.Test.YtcohidjaehdbnaaGreatDoorGc
import Derived.Test.YtcohidjaehdbnaaGreatDoorLb
namespace Go.Proofs.YtcohidjaehdbnaaGreatDoor
open Go.RowKit
set_option linter.unusedVariables false
attribute [local go_sem ↓] Go.wp_at_zero Go.wp_at_succ

theorem c_Mul64 (x y : Nat) (hx : x < 18446744073709551616) (hy : y < 18446744073709551616) (w : World) : Calls Tryz.prog 38 #[.int .u64 (x : Int), .int .u64 (y : Int)] w fun e w' => e = .returned (.tuple #[.int .u64 ((x * y / 18446744073709551616 : Nat) : Int), .int .u64 ((x * y % 18446744073709551616 : Nat) : Int)]) ∧ w = w' :=
  (Any.bits_Mul64 lays264 x y hx hy w).mono fun _ _ h => ⟨h.1, h.2.symm⟩
theorem c_Len64 (x : Nat) (hx : x < 18446744073709551616) (w : World) : Calls Tryz.prog 62 #[.int .u64 (x : Int)] w fun e w' => e = .returned (.int .i64 ((Lib.bitLen x : Nat) : Int)) ∧ w = w' :=
  (Any.bits_Len64 lays129 x w (by omega) (by omega)).mono fun _ _ h => ⟨by rw [h.1, Int.toNat_natCast], h.2.symm⟩
theorem c_LZ64 (x : Nat) (hx : x < 18446744073709551616) (w : World) : Calls Tryz.prog 61 #[.int .u64 (x : Int)] w fun e w' => e = .returned (.int .i64 (64 - ((Lib.bitLen x : Nat) : Int))) ∧ w = w' :=
  (Any.bits_LeadingZeros64 lays134 x w (by omega) (by omega)).mono fun _ _ h => ⟨by rw [h.1, Int.toNat_natCast], h.2.symm⟩
/-- One digit of a product, by two words and two carries. -/
theorem mul_digits {a b o c hi lo s1 c1 s2 c2 : Nat} (ha : a < 18446744073709551616) (hb : b < 18446744073709551616) (ho : o < 18446744073709551616) (hc : c < 18446744073709551616)
    (h1 : hi = a * b / 18446744073709551616) (h2 : lo = a * b % 18446744073709551616) (h3 : s1 = (lo + o + 0) % 18446744073709551616) (h4 : c1 = (lo + o + 0) / 18446744073709551616)
    (h5 : s2 = (s1 + c + 0) % 18446744073709551616) (h6 : c2 = (s1 + c + 0) / 18446744073709551616) :
    s2 = (o + a * b + c) % 18446744073709551616 ∧ hi + c1 + c2 = (o + a * b + c) / 18446744073709551616 ∧ hi + c1 < 18446744073709551616 ∧ hi + c1 + c2 < 18446744073709551616 ∧ hi < 18446744073709551616 ∧ lo < 18446744073709551616 ∧ c1 ≤ 1 ∧ c2 ≤ 1 ∧ s1 < 18446744073709551616 ∧ s2 < 18446744073709551616 := by
  have hp : a * b ≤ 18446744073709551615 * 18446744073709551615 := Nat.mul_le_mul (by omega) (by omega)
  generalize a * b = P at *
  omega
theorem getD_zeros (n j : Nat) : (List.replicate n 0).getD j 0 = 0 := by
  rw [List.getD]
  rcases Nat.lt_or_ge j n with hj | hj
  · rw [List.getElem?_replicate_of_lt hj]; rfl
  · rw [List.getElem?_eq_none (by simpa using hj)]; rfl
/-- What holds ahead of a row of a product. -/
structure MulO (B : Nat) (kd : IntKind) (t : TypeId) (w wr : World) (g : Nat) (l m : List Nat) (i : Nat) (L : List Nat) : Prop where
  blk : Blk wr g t (digs kd L).toArray
  len : L.length = l.length + m.length
  rng : ∀ x ∈ L, x < B
  eq : nval B L = nval B (l.take i) * nval B m
  zero : ∀ j, i + m.length ≤ j → L.getD j 0 = 0
  bel : Below w.heap.size w wr
/-- What holds within a row: k digits of it are there, y is carried. -/
structure MulI (B : Nat) (kd : IntKind) (t : TypeId) (w wr : World) (g : Nat) (l m : List Nat) (i k : Nat) (L : List Nat) (y : Nat) : Prop where
  blk : Blk wr g t (digs kd L).toArray
  len : L.length = l.length + m.length
  rng : ∀ x ∈ L, x < B
  eq : nval B L + y * B ^ (i + k) = nval B (l.take i) * nval B m + B ^ i * (l.getD i 0 * nval B (m.take k))
  zero : ∀ j, i + m.length ≤ j → L.getD j 0 = 0
  bel : Below w.heap.size w wr
theorem MulO.start {B : Nat} {kd : IntKind} {t : TypeId} {w wr : World} {g : Nat} {l m L : List Nat} {i : Nat} (h : MulO B kd t w wr g l m i L) : MulI B kd t w wr g l m i 0 L 0 :=
  ⟨h.blk, h.len, h.rng, by rw [h.eq]; simp [nval], h.zero, h.bel⟩
theorem getD_set_ne {L : List Nat} {i j x : Nat} (h : j ≠ i) : (L.set i x).getD j 0 = L.getD j 0 := by
  rw [List.getD, List.getD, List.getElem?_set_ne (Ne.symm h)]
theorem MulI.next {B : Nat} {kd : IntKind} {t : TypeId} {w wr : World} {g : Nat} {l m L : List Nat} {i k y : Nat} (h : MulI B kd t w wr g l m i k L y) (hB : 0 < B) (hi : i < l.length) (hk : k < m.length) (hw : w.heap.size ≤ g)
    {q r : Nat} (hq : q = (L.getD (i + k) 0 + l.getD i 0 * m.getD k 0 + y) % B) (hr : r = (L.getD (i + k) 0 + l.getD i 0 * m.getD k 0 + y) / B) :
    MulI B kd t w (wr.setCell ⟨g, i + k, none⟩ (.int kd (q : Int))) g l m i (k + 1) (L.set (i + k) q) r := by
  subst hq; subst hr
  exact ⟨blk_store h.blk _ _, by rw [List.length_set]; exact h.len, rng_set h.rng (Nat.mod_lt _ hB), mul_next (by rw [h.len]; omega) rfl rfl rfl h.eq,
    fun j hj => by rw [getD_set_ne (by omega)]; exact h.zero j hj, h.bel.setCell hw _⟩
theorem MulI.drewN {B : Nat} {kd : IntKind} {t : TypeId} {w wr : World} {g : Nat} {l m L : List Nat} {i k y : Nat} (h : MulI B kd t w wr g l m i k L y) (nq : Nat) : MulI B kd t w (wr.drewN nq) g l m i k L y :=
  ⟨h.blk.drewN nq, h.len, h.rng, h.eq, h.zero, below_drewN h.bel nq⟩
theorem MulI.done {B : Nat} {kd : IntKind} {t : TypeId} {w wr : World} {g : Nat} {l m L : List Nat} {i y : Nat} (h : MulI B kd t w wr g l m i m.length L y) (hi : i < l.length) (hw : w.heap.size ≤ g) (hy : y < B) :
    MulO B kd t w (wr.setCell ⟨g, i + m.length, none⟩ (.int kd (y : Int))) g l m (i + 1) (L.set (i + m.length) y) := by
  have hz := h.zero (i + m.length) (Nat.le_refl _)
  have hs := nval_set B L (i + m.length) y (by rw [h.len]; omega)
  have he := h.eq
  rw [List.take_length] at he
  refine ⟨blk_store h.blk _ _, by rw [List.length_set]; exact h.len, rng_set h.rng hy, ?_, fun j hj => ?_, h.bel.setCell hw _⟩
  · rw [hz] at hs
    rw [nval_take, Nat.add_mul, ← Nat.mul_assoc] at *
    rw [Nat.mul_comm y] at he
    omega
  · rw [getD_set_ne (by omega)]; exact h.zero j (by omega)
set_option maxRecDepth 100000 in
set_option maxHeartbeats 2000000 in
theorem c_mul (A A' : Option Addr) (c c' : Nat) (l m : List Nat) (N M : Nat) (w : World) (h : IsN w w.heap.size .u64 18446744073709551616 A c l N) (h' : IsN w w.heap.size .u64 18446744073709551616 A' c' m M) (hN : N < nbig) (hM : M < nbig) :
    Calls Tryz.prog 23 #[.slice A l.length c, .slice A' m.length c'] w (NewN .u64 18446744073709551616 (N * M) w) := by
  obtain ⟨i0, hi0, hz0, hz1, hz2⟩ := info_parts u64_info
  have hn := len_big h.lb (by decide) hN
  have hm := len_big h'.lb (by decide) hM
  have HI := Lib.hid h
  have HI' := Lib.hid h'
  clear h h' hN hM
  obtain ⟨n, hL⟩ : ∃ n, l.length = n := ⟨_, rfl⟩
  obtain ⟨n', hL'⟩ : ∃ n', m.length = n' := ⟨_, rfl⟩
  rw [hL] at hn ⊢
  rw [hL'] at hm ⊢
  have HL := Lib.hid hL
  have HL' := Lib.hid hL'
  clear hL hL'
  have hmk : (Instr.makeSlice 39 (.int .i64 ((n : Int) + (n' : Int))) (.int .i64 ((n : Int) + (n' : Int)))).run Tryz.prog w = .ok (.slice (some ⟨w.heap.size, 0, none⟩) (n + n') (n + n')) (w.alloc (.cells (madeCells (Value.cells (.int .u64 0)) ((n + n') * i0.size)) 22)) :=
    run_make_rowN (P := Tryz.prog) 39 22 i0 _ Tryz.underlying39 hi0 hz0 .i64 .i64 (n + n') (n + n') (Nat.le_refl _) (by rw [hz2]; omega) (by omega) w
  have HBK := Lib.hid (blk_made w 22 .u64 (n + n') i0 hz1)
  have HBM : Hid (Below w.heap.size w (w.alloc (.cells (madeCells (Value.cells (.int .u64 0)) ((n + n') * i0.size)) 22))) := (Below.refl w.heap.size w).alloc (Nat.le_refl _) _
  generalize w.alloc (.cells (madeCells (Value.cells (.int .u64 0)) ((n + n') * i0.size)) 22) = wm at *
  go_enter Tryz.func23, Tryz.ntmps23
  go_wp2_with fail
  go_loopw [23] (fun vi wr => ∃ (i : Nat) (L : List Nat), vi = .int .i64 i ∧ i ≤ n ∧ MulO 18446744073709551616 .u64 22 w wr w.heap.size l m i L) (fun vi _ => n - (intOf vi).toNat)
  case atStart => exact ⟨0, _, rfl, Nat.zero_le _, ⟨HBK.out, by rw [List.length_replicate, HL.out, HL'.out], (by intro x hx; rw [(List.mem_replicate.1 hx).2]; decide), by rw [nval_zeros]; simp [nval], fun j _ => getD_zeros _ _, HBM.out⟩⟩
  case round =>
    obtain ⟨i, L, rfl, hi, HO⟩ := hrel
    by_cases hlt : i < n
    · have ha : i < l.length := by have := HL.out; omega
      have HA := Lib.hid ha
      obtain ⟨b1, o1, hA1, _, hb1, hcell1⟩ := HI.out.at_ ha
      subst hA1
      have HC1 := Lib.hid hcell1
      have hc1 : wr.cell? ⟨b1, o1 + i, none⟩ = some (.int .u64 ((l.getD i 0 : Nat) : Int)) := by rw [(bcell HO.bel).1 _ _ hb1, hcell1]
      clear hcell1 ha
      have hd1 := HI.out.dig (by decide) i
      obtain ⟨x1, hx1⟩ : ∃ x1, l.getD i 0 = x1 := ⟨_, rfl⟩
      rw [hx1] at hc1 hd1 HC1
      have HX := Lib.hid hx1
      clear hx1
      go_wp2_with fail
      go_loopw [8, 30] (fun vc vk wr => ∃ (k : Nat) (L : List Nat) (y : Nat), vc = .int .u64 y ∧ vk = .int .i64 k ∧ k ≤ n' ∧ y < 18446744073709551616 ∧ MulI 18446744073709551616 .u64 22 w wr w.heap.size l m i k L y) (fun _ vk _ => n' - (intOf vk).toNat)
      case atStart => exact ⟨0, L, 0, rfl, rfl, Nat.zero_le _, by decide, HO.start⟩
      case round =>
        clear hc1 HO
        obtain ⟨k, L, y, rfl, rfl, hk, hy, HS⟩ := hrel
        by_cases hkt : k < n'
        · have hb : k < m.length := by have := HL'.out; omega
          have HB := Lib.hid hb
          obtain ⟨b2, o2, hA2, _, hb2, hcell2⟩ := HI'.out.at_ hb
          subst hA2
          have hc2 : wr.cell? ⟨b2, o2 + k, none⟩ = some (.int .u64 ((m.getD k 0 : Nat) : Int)) := by rw [(bcell HS.bel).1 _ _ hb2, hcell2]
          clear hcell2 hb
          have hd2 := HI'.out.dig (by decide) k
          have hlL : i + k < L.length := by rw [HS.len]; have := HA.out; have := HB.out; omega
          have hcL := blk_cell HS.blk hlL
          have hfL := HS.blk.frozen (i + k)
          have hd3 : L.getD (i + k) 0 < 18446744073709551616 := by rw [List.getD, List.getElem?_eq_getElem hlL]; exact HS.rng _ (List.getElem_mem hlL)
          clear hlL
          have HE := Lib.hid (fun (q r nq : Nat) => (HS.drewN nq).next (q := q) (r := r) (by decide) HA.out HB.out (Nat.le_refl _))
          rw [HX.out] at HE
          generalize m.getD k 0 = x2 at *
          generalize L.getD (i + k) 0 = x3 at *
          have HM := Lib.hid (mul_digits (a := x1) (b := x2) (o := x3) (c := y) hd1 hd2 hd3 hy rfl rfl rfl rfl rfl rfl)
          obtain ⟨hi, ehi⟩ : ∃ hi, hi = x1 * x2 / 18446744073709551616 := ⟨_, rfl⟩
          obtain ⟨lo, elo⟩ : ∃ lo, lo = x1 * x2 % 18446744073709551616 := ⟨_, rfl⟩
          rw [← ehi, ← elo] at HM
          obtain ⟨s1, es1⟩ : ∃ s1, s1 = (lo + x3 + 0) % 18446744073709551616 := ⟨_, rfl⟩
          obtain ⟨d1, ed1⟩ : ∃ d1, d1 = (lo + x3 + 0) / 18446744073709551616 := ⟨_, rfl⟩
          rw [← es1, ← ed1] at HM
          obtain ⟨s2, es2⟩ : ∃ s2, s2 = (s1 + y + 0) % 18446744073709551616 := ⟨_, rfl⟩
          obtain ⟨d2, ed2⟩ : ∃ d2, d2 = (s1 + y + 0) / 18446744073709551616 := ⟨_, rfl⟩
          rw [← es2, ← ed2] at HM
          obtain ⟨m1, m2, m3, m4, m5, m6, m7, m8, m9, m10⟩ := HM.out
          have HN := Lib.hid (HE.out s2 (hi + d1 + d2) 0 m1 m2)
          have HMul := Lib.hid (c_Mul64 x1 x2 hd1 hd2)
          rw [← ehi, ← elo] at HMul
          have hadd1 : ∀ W, (callFunc 37 #[.int .u64 (lo : Int), .int .u64 (x3 : Int), .int .u64 0]).run Tryz.prog W = .ok (.value (.tuple #[.int .u64 (s1 : Int), .int .u64 (d1 : Int)])) W := fun W => by have := call_add64_0 lo x3 W; rw [← es1, ← ed1] at this; exact this
          have hadd2 : ∀ W, (callFunc 37 #[.int .u64 (s1 : Int), .int .u64 (y : Int), .int .u64 0]).run Tryz.prog W = .ok (.value (.tuple #[.int .u64 (s2 : Int), .int .u64 (d2 : Int)])) W := fun W => by have := call_add64_0 s1 y W; rw [← es2, ← ed2] at this; exact this
          clear m1 m2 HM HE ehi elo es1 ed1 es2 ed2
          have hcar : hi + d1 + d2 < 18446744073709551616 := m4
          go_wp2_with ((go_at_call 38; refine (HMul.out _).mono ?_; rintro e w' ⟨rfl, rfl⟩))
          go_roundw
          case rel => exact ⟨k + 1, _, hi + d1 + d2, by go_num, by go_num, hkt, hcar, HN.out⟩
          case measure => simp [intOf]; omega
        · have HKK : Hid (k = m.length) := by have := HL'.out; show _ = _; omega
          have hkn : n' = k := by omega
          have hlL : i + k < L.length := by rw [HS.len]; have := HA.out; have := HKK.out; omega
          have hcL := blk_cell HS.blk hlL
          have hfL := HS.blk.frozen (i + k)
          have hz3 : L.getD (i + k) 0 = 0 := HS.zero _ (by have := HKK.out; omega)
          rw [hz3] at hcL
          clear hz3 hlL
          have HD := HS
          rw [HKK.out] at HD
          have HN := Lib.hid (HD.done HA.out (Nat.le_refl _) hy)
          rw [← HKK.out] at HN
          clear HD
          subst hkn
          go_wp2
          go_roundw
          case rel => exact ⟨i + 1, _, by go_num, hlt, HN.out⟩
          case measure => simp [intOf]; omega
    · have HIK : Hid (i = n) := by show _ = _; omega
      have HF : Hid (nval 18446744073709551616 L = N * M) := by
        have h1 := HO.eq
        have h2 := HL.out
        have h3 := HIK.out
        rw [List.take_of_length_le (by omega), HI.out.lb.val, HI'.out.lb.val] at h1
        exact h1
      have hr3 := blk_reads HO.blk
      have hln : L.length = n + n' := by rw [HO.len, HL.out, HL'.out]
      have HT := Lib.hid (isN_trim (c := n + n') hr3 rfl (by omega) HO.rng)
      have hct := c_trim (some ⟨w.heap.size, 0, none⟩) (n + n') L wr wr.heap.size hr3 (by omega) (by omega)
      rw [hln] at hct
      have HC := Lib.hid hct
      clear hct hr3 hln
      go_wp2_with ((go_at_call 20; refine (HC.out).mono ?_; rintro e w' ⟨rfl, rfl⟩))
      go_ret
      exact ⟨_, n + n', _, rfl, by rw [← HF.out]; exact HT.out, HO.bel⟩
end Go.Proofs.YtcohidjaehdbnaaGreatDoor
