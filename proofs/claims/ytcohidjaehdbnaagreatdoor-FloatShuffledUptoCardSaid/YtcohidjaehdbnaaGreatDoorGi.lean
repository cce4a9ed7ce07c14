/- Walks: a number by one word; a float's magnitude held against a quotient; the nearest float (float.nat's div; quernref22's against, nearest). Conditions: as stated. -/
import Derived.Test.YtcohidjaehdbnaaGreatDoorGh
import Derived.Test.YtcohidjaehdbnaaGreatDoorFs
import Derived.Test.YtcohidjaehdbnaaGreatDoorNs
namespace Go.Proofs.YtcohidjaehdbnaaGreatDoor
open Go.RowKit
set_option linter.unusedVariables false

/-- What holds ahead of a round of a division: the digits from i on are there, r is left. -/
structure DivN (w wr : World) (g : Nat) (t : TypeId) (l : List Nat) (d i : Nat) (L : List Nat) (r : Nat) : Prop where
  blk : Blk wr g t (digs .u64 L).toArray
  len : L.length = l.length
  rng : ∀ x ∈ L, x < 18446744073709551616
  eq : nval 18446744073709551616 (l.drop i) = nval 18446744073709551616 (L.drop i) * d + r
  rd : r < d
  bel : Below w.heap.size w wr
set_option maxRecDepth 100000 in
set_option maxHeartbeats 1000000 in
theorem c_div (A : Option Addr) (c : Nat) (l : List Nat) (d : Nat) (N : Nat) (w : World) (h : IsN w w.heap.size .u64 18446744073709551616 A c l N) (hN : N < nbig) (hd0 : 0 < d) (hd : d < 4611686018427387904) :
    Calls Tryz.prog 26 #[.slice A l.length c, .int .u64 (d : Int)] w fun e w' => ∃ A2 c2 l2, e = .returned (.tuple #[.slice A2 l2.length c2, .bool ((N % d : Nat) != (0 : Int))]) ∧ IsN w' w'.heap.size .u64 18446744073709551616 A2 c2 l2 (N / d) ∧ Below w.heap.size w w' := by
  obtain ⟨i0, hi0, hz0, hz1, hz2⟩ := info_parts u64_info
  have hl := len_big h.lb (by decide) hN
  have HI := Lib.hid h
  clear h hN
  obtain ⟨n, hL⟩ : ∃ n, l.length = n := ⟨_, rfl⟩
  rw [hL] at hl ⊢
  have HL := Lib.hid hL
  clear hL
  obtain ⟨M, hM⟩ : ∃ M, N % d = M := ⟨_, rfl⟩
  rw [hM]
  have HM := Lib.hid hM
  clear hM
  have hmk := run_make_rowN (P := Tryz.prog) 39 22 i0 _ Tryz.underlying39 hi0 hz0 .i64 .i64 n n (Nat.le_refl _) (by rw [hz2]; omega) (by omega) w
  have HBK := Lib.hid (blk_made w 22 .u64 n i0 hz1)
  have HBM : Hid (Below w.heap.size w (w.alloc (.cells (madeCells (Value.cells (.int .u64 0)) (n * i0.size)) 22))) := (Below.refl w.heap.size w).alloc (Nat.le_refl _) _
  generalize w.alloc (.cells (madeCells (Value.cells (.int .u64 0)) (n * i0.size)) 22) = wm at *
  go_enter Tryz.func26, Tryz.ntmps26
  go_wp2_with fail
  go_loopw [7, 8] (fun vr vi wr => ∃ (i r : Nat) (L : List Nat), vr = .int .u64 r ∧ vi = .int .i64 ((i : Int) - 1) ∧ i ≤ n ∧ r < d ∧ DivN w wr w.heap.size 22 l d i L r) (fun _ vi _ => (intOf vi + 1).toNat)
  case atStart => exact ⟨n, 0, _, rfl, rfl, Nat.le_refl _, hd0, ⟨HBK.out, by rw [List.length_replicate, HL.out], (by intro x hx; rw [(List.mem_replicate.1 hx).2]; decide), by rw [List.drop_of_length_le (by have := HL.out; omega), List.drop_of_length_le (by simp)]; simp [nval], hd0, HBM.out⟩⟩
  case round =>
    obtain ⟨k, r, L, rfl, rfl, hk, hrd, HS⟩ := hrel
    by_cases h0 : 0 < k
    · obtain ⟨i, rfl⟩ : ∃ i, k = i + 1 := ⟨k - 1, by omega⟩
      rw [show (((i + 1 : Nat) : Int) - 1) = (i : Int) from by omega]
      have ha : i < l.length := by have := HL.out; omega
      have hiL : i < L.length := by rw [HS.len]; exact ha
      obtain ⟨b1, o1, hA1, _, hb1, hcell1⟩ := HI.out.at_ ha
      subst hA1
      have hc1 : wr.cell? ⟨b1, o1 + i, none⟩ = some (.int .u64 ((l.getD i 0 : Nat) : Int)) := by rw [(bcell HS.bel).1 _ _ hb1, hcell1]
      have hdg := HI.out.dig (by decide) i
      have HE := Lib.hid (fun (x : Nat) (hx : l.getD i 0 = x) => div_next (B := 18446744073709551616) l hd0 hx ha HS.eq)
      have HLI := Lib.hid hiL
      clear hcell1 ha hiL
      obtain ⟨x, hx⟩ : ∃ x, l.getD i 0 = x := ⟨_, rfl⟩
      have HE1 := Lib.hid (HE.out x hx)
      rw [hx] at hc1 hdg
      clear hx HE
      have HD := Lib.hid (c_Div64 r x d wr hrd hd hdg)
      have hqb : (r * 18446744073709551616 + x) / d < 18446744073709551616 := by
        rw [Nat.div_lt_iff_lt_mul hd0]
        have : (r + 1) * 18446744073709551616 ≤ d * 18446744073709551616 := Nat.mul_le_mul_right _ hrd
        rw [Nat.mul_comm 18446744073709551616]
        omega
      have hrb : (r * 18446744073709551616 + x) % d < d := Nat.mod_lt _ hd0
      obtain ⟨q, hq⟩ : ∃ q, (r * 18446744073709551616 + x) / d = q := ⟨_, rfl⟩
      obtain ⟨r2, hr2⟩ : ∃ r2, (r * 18446744073709551616 + x) % d = r2 := ⟨_, rfl⟩
      rw [hq] at HE1 HD hqb
      rw [hr2] at HE1 HD hrb
      clear hq hr2
      go_wp2_with ((go_at_call 42; refine HD.out.mono ?_; rintro e w' ⟨rfl, nd, rfl⟩; have hcL := blk_cell (HS.blk.drewN nd) HLI.out; have hfL := (HS.blk.drewN nd).frozen i))
      go_roundw
      case rel => exact ⟨i, r2, L.set i q, rfl, rfl, by omega, hrb, ⟨blk_store (HS.blk.drewN _) i q, by rw [List.length_set]; exact HS.len, rng_set HS.rng hqb, by rw [nval_drop_set HLI.out]; exact HE1.out, hrb, (below_drewN HS.bel _).setCell (Nat.le_refl _) _⟩⟩
      case measure => simp [intOf]
    · obtain rfl : k = 0 := by omega
      have hneg : ¬ (0 : Int) ≤ ((0 : Nat) : Int) - 1 := by omega
      have HF : Hid (N = nval 18446744073709551616 L * d + r) := by
        have := HS.eq
        rw [List.drop_zero, List.drop_zero, HI.out.lb.val] at this
        exact this
      have HQ : Hid (nval 18446744073709551616 L = N / d ∧ r = M) := by
        rw [← HM.out]
        show _ ∧ _
        rw [HF.out]
        rw [Nat.mul_comm, Nat.mul_add_div hd0, Nat.div_eq_of_lt hrd, Nat.mul_add_mod, Nat.mod_eq_of_lt hrd]
        exact ⟨rfl, rfl⟩
      have hr3 := blk_reads HS.blk
      have hln : L.length = n := by rw [HS.len, HL.out]
      have HT := Lib.hid (isN_trim (c := n) hr3 rfl (by omega) HS.rng)
      have hct := c_trim (some ⟨w.heap.size, 0, none⟩) n L wr wr.heap.size hr3 (by omega) (by omega)
      rw [hln] at hct
      have HC := Lib.hid hct
      clear hct hr3 hln
      go_wp2_with ((go_at_call 20; refine (HC.out).mono ?_; rintro e w' ⟨rfl, rfl⟩))
      go_ret2
      exact ⟨_, n, _, by rw [← HQ.out.2]; rfl, by rw [← HQ.out.1]; exact HT.out, HS.bel⟩
/-- How great the numbers of a quotient may be. -/
def sexp : Nat := 30000
def fexp : Nat := 5000
def nsml : Nat := 2 ^ sexp
theorem nsml_up {N k a : Nat} (hN : N < nsml) (hk : k ≤ fexp) (ha : a ≤ 18446744073709551616) : a * N * 2 ^ k < nbig := by
  have h1 : a * N ≤ 2 ^ 64 * nsml := Nat.mul_le_mul (by simpa using ha) (Nat.le_of_lt hN)
  have h2 : a * N * 2 ^ k ≤ 2 ^ 64 * nsml * 2 ^ fexp := Nat.mul_le_mul h1 (Nat.pow_le_pow_right (by decide) hk)
  have h3 : 2 ^ 64 * nsml * 2 ^ fexp < nbig := by
    unfold nsml nbig
    rw [← Nat.pow_add, ← Nat.pow_add]
    exact Nat.pow_lt_pow_right (by decide) (by unfold sexp nexp fexp; decide)
  omega
theorem nsml_one : 1 < nsml := Nat.one_lt_two_pow (show sexp ≠ 0 by unfold sexp; decide)
theorem word_big {v : Nat} (hv : v < 18446744073709551616) : v < nbig := by
  have := nsml_up (N := 1) (k := 0) (a := v) nsml_one (Nat.zero_le _) (by omega)
  simpa using this
theorem nsml_big {N : Nat} (hN : N < nsml) : N < nbig := by
  have := nsml_up (k := 0) (a := 1) hN (Nat.zero_le _) (by decide)
  simpa using this
theorem nsml_shl {N k : Nat} (hN : N < nsml) (hk : k ≤ fexp) : N * 2 ^ k < nbig := by
  have := nsml_up (a := 1) hN hk (by decide)
  simpa using this
theorem nsml_mul {N a : Nat} (hN : N < nsml) (ha : a < 18446744073709551616) : a * N < nbig := by
  have := nsml_up (k := 0) (a := a) hN (Nat.zero_le _) (by omega)
  simpa using this
end Go.Proofs.YtcohidjaehdbnaaGreatDoor
