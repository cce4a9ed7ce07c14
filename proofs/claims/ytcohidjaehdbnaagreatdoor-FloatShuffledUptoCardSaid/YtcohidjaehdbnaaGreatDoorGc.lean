/- Walks: differences of two numbers (float.nat's sub, quernref22's sub). Conditions: as stated. -/
import Derived.Test.YtcohidjaehdbnaaGreatDoorGb
namespace Go.Proofs.YtcohidjaehdbnaaGreatDoor
open Go.RowKit
set_option linter.unusedVariables false

theorem set_take {L : List Nat} {i d : Nat} (h : i < L.length) : (L.set i d).take (i + 1) = L.take i ++ [d] := by
  rw [List.take_succ_eq_append_getElem (by simpa using h), List.getElem_set_self, List.take_set, List.set_eq_of_length_le (by simp; omega)]
theorem blk_made (w : World) (t : TypeId) (k : IntKind) (n : Nat) (i0 : TypeInfo) (hz1 : i0.size = 1) : Blk (w.alloc (.cells (madeCells (Value.cells (.int k 0)) (n * i0.size)) t)) w.heap.size t (digs k (List.replicate n 0)).toArray := by
  have h := Blk.new w t (madeCells (Value.cells (.int k 0)) (n * i0.size))
  have e : madeCells (Value.cells (.int k 0)) (n * i0.size) = (digs k (List.replicate n 0)).toArray := by
    rw [hz1, Nat.mul_one, ← digs_zeros]
    have := toList_madeCells_one (Value.int k 0) n
    show madeCells #[Value.int k 0] n = _
    rw [← this]
  rw [e] at h ⊢
  exact h
theorem blk_cell {w : World} {g : Nat} {t : TypeId} {k : IntKind} {L : List Nat} {i : Nat} (h : Blk w g t (digs k L).toArray) (hi : i < L.length) : w.cell? ⟨g, i, none⟩ = some (.int k ((L.getD i 0 : Nat) : Int)) := by
  rw [h.cell i, List.getElem?_toArray, List.getElem?_eq_getElem (by rw [digs_len]; exact hi)]
  have := digs_getD (k := k) hi
  rw [List.getD, List.getElem?_eq_getElem (by rw [digs_len]; exact hi)] at this
  rw [← this]; rfl
theorem blk_store {w : World} {g : Nat} {t : TypeId} {k : IntKind} {L : List Nat} (h : Blk w g t (digs k L).toArray) (i x : Nat) : Blk (w.setCell ⟨g, i, none⟩ (.int k (x : Int))) g t (digs k (L.set i x)).toArray := by
  have := h.set_ i (.int k (x : Int))
  rw [digs_set]
  simpa using this
theorem blk_reads {w : World} {g : Nat} {t : TypeId} {k : IntKind} {L : List Nat} (h : Blk w g t (digs k L).toArray) : Reads w w.heap.size 1 (some ⟨g, 0, none⟩) L.length (digs k L) :=
  ⟨by rw [digs_len, Nat.mul_one], fun _ => ⟨_, rfl, h.lt, fun j u hu => by
    have e : (⟨g, 0, none⟩ : Addr).add j = ⟨g, j, none⟩ := by
      unfold Addr.add
      split
      · rename_i hj; subst hj; rfl
      · simp
    rw [e, h.cell j, List.getElem?_toArray]; exact hu⟩⟩
/-- What holds ahead of a round of a difference in place: i digits are there, y is borrowed. -/
structure SubS (B : Nat) (kd : IntKind) (t : TypeId) (w wr : World) (g : Nat) (l m : List Nat) (i : Nat) (L : List Nat) (y : Nat) : Prop where
  blk : Blk wr g t (digs kd L).toArray
  len : L.length = l.length
  rng : ∀ x ∈ L, x < B
  eq : nval B (l.take i) + y * B ^ i = nval B (L.take i) + nval B (m.take i)
  bel : Below w.heap.size w wr
theorem rng_set {B : Nat} {L : List Nat} {i s : Nat} (h : ∀ x ∈ L, x < B) (hs : s < B) : ∀ x ∈ L.set i s, x < B := by
  intro x hx
  rcases List.mem_or_eq_of_mem_set hx with hx | hx
  · exact h x hx
  · rw [hx]; exact hs
theorem sub_end {B N M S y K : Nat} (h : N + y * K = S + M) (hS : S < K) (hM : M ≤ N) : S = N - M := by
  rcases Nat.eq_zero_or_pos y with rfl | hy
  · omega
  · have : 1 * K ≤ y * K := Nat.mul_le_mul_right K hy
    omega
theorem sub64_eq {x y c : Nat} (hx : x < 18446744073709551616) (hy : y < 18446744073709551616) (hc : c ≤ 1) :
    x + (if x < y + c then 1 else 0) * 18446744073709551616 = (x + 18446744073709551616 - y - c) % 18446744073709551616 + y + c := by
  split <;> omega
set_option maxRecDepth 100000 in
set_option maxHeartbeats 2000000 in
theorem c_sub (A A' : Option Addr) (c c' : Nat) (l m : List Nat) (N M : Nat) (w : World) (h : IsN w w.heap.size .u64 18446744073709551616 A c l N) (h' : IsN w w.heap.size .u64 18446744073709551616 A' c' m M) (hN : N < nbig) (hMN : M ≤ N) :
    Calls Tryz.prog 25 #[.slice A l.length c, .slice A' m.length c'] w (NewN .u64 18446744073709551616 (N - M) w) := by
  obtain ⟨i0, hi0, hz0, hz1, hz2⟩ := info_parts u64_info
  have hn := len_big h.lb (by decide) hN
  have hml : m.length ≤ l.length := by
    rcases Nat.lt_or_ge l.length m.length with hx | hx
    · have := Lb.shorter (by decide) h.lb h'.lb hx; omega
    · exact hx
  have HI := Lib.hid h
  have HI' := Lib.hid h'
  have HMN := Lib.hid hMN
  clear h h' hN hMN
  obtain ⟨n, hL⟩ : ∃ n, l.length = n := ⟨_, rfl⟩
  obtain ⟨n', hL'⟩ : ∃ n', m.length = n' := ⟨_, rfl⟩
  rw [hL] at hn hml ⊢
  rw [hL'] at hml ⊢
  have HL := Lib.hid hL
  have HL' := Lib.hid hL'
  clear hL hL'
  have hmk := run_make_rowN (P := Tryz.prog) 39 22 i0 _ Tryz.underlying39 hi0 hz0 .i64 .i64 n n (Nat.le_refl _) (by rw [hz2]; omega) (by omega) w
  have HBK := Lib.hid (blk_made w 22 .u64 n i0 hz1)
  have HBM : Hid (Below w.heap.size w (w.alloc (.cells (madeCells (Value.cells (.int .u64 0)) (n * i0.size)) 22))) := (Below.refl w.heap.size w).alloc (Nat.le_refl _) _
  generalize w.alloc (.cells (madeCells (Value.cells (.int .u64 0)) (n * i0.size)) 22) = wm at *
  go_enter Tryz.func25, Tryz.ntmps25
  go_wp2_with fail
  go_loopw [6, 14] (fun vc vi wr => ∃ (i : Nat) (L : List Nat) (y : Nat), vc = .int .u64 y ∧ vi = .int .i64 i ∧ i ≤ n ∧ y ≤ 1 ∧ SubS 18446744073709551616 .u64 22 w wr w.heap.size l m i L y) (fun _ vi _ => n - (intOf vi).toNat)
  case atStart => exact ⟨0, _, 0, rfl, rfl, Nat.zero_le _, Nat.zero_le _, ⟨HBK.out, by rw [List.length_replicate, HL.out], (by intro x hx; rw [(List.mem_replicate.1 hx).2]; decide), by simp [nval], HBM.out⟩⟩
  case round =>
    obtain ⟨i, L, y, rfl, rfl, hi, hy, HS⟩ := hrel
    by_cases hlt : i < n
    · have ha : i < l.length := by have := HL.out; omega
      obtain ⟨b1, o1, hA1, _, hb1, hcell1⟩ := HI.out.at_ ha
      subst hA1
      have hc1 : wr.cell? ⟨b1, o1 + i, none⟩ = some (.int .u64 ((l.getD i 0 : Nat) : Int)) := by rw [(bcell HS.bel).1 _ _ hb1, hcell1]
      have hiL : i < L.length := by rw [HS.len]; exact ha
      have hcL := blk_cell HS.blk hiL
      have hfL := HS.blk.frozen i
      have HLI := Lib.hid hiL
      clear hcell1 ha hiL
      rcases Nat.lt_or_ge i m.length with hb | hb
      · obtain ⟨b2, o2, hA2, _, hb2, hcell2⟩ := HI'.out.at_ hb
        subst hA2
        have hc2 : wr.cell? ⟨b2, o2 + i, none⟩ = some (.int .u64 ((m.getD i 0 : Nat) : Int)) := by rw [(bcell HS.bel).1 _ _ hb2, hcell2]
        clear hcell2
        have hbN : i < n' := by have := HL'.out; omega
        clear hb
        have hd1 := HI.out.dig (by decide) i
        have hd2 := HI'.out.dig (by decide) i
        have HE := Lib.hid (fun (d c2 : Nat) (hs : l.getD i 0 + c2 * 18446744073709551616 = d + m.getD i 0 + y) => sub_next (B := 18446744073709551616) (L := L.take i) (a := l) (b := m) (i := i) (by rw [List.length_take]; have := HLI.out; omega) rfl rfl hs HS.eq)
        generalize l.getD i 0 = x1 at *
        generalize m.getD i 0 = x2 at *
        have hsub : ∀ W, (callFunc 41 #[.int .u64 (x1 : Int), .int .u64 (x2 : Int), .int .u64 (y : Int)]).run Tryz.prog W = .ok (.value (.tuple #[.int .u64 (((x1 + 18446744073709551616 - x2 - y) % 18446744073709551616 : Nat) : Int), .int .u64 ((if x1 < x2 + y then 1 else 0 : Nat) : Int)])) W := fun W => call_sub64 (x := x1) (y := x2) hy W
        have HE1 := Lib.hid (HE.out _ _ (sub64_eq (x := x1) (y := x2) (c := y) hd1 hd2 hy))
        have hs1 : (x1 + 18446744073709551616 - x2 - y) % 18446744073709551616 < 18446744073709551616 := Nat.mod_lt _ (by decide)
        have hs2 : (if x1 < x2 + y then 1 else 0 : Nat) ≤ 1 := by split <;> decide
        clear HE
        generalize (x1 + 18446744073709551616 - x2 - y) % 18446744073709551616 = s at *
        generalize (if x1 < x2 + y then 1 else 0 : Nat) = y2 at *
        go_wp2
        go_roundw
        case rel => exact ⟨i + 1, L.set i s, y2, rfl, by go_num, hlt, hs2, ⟨blk_store HS.blk i s, by rw [List.length_set]; exact HS.len, rng_set HS.rng hs1, by rw [set_take HLI.out]; exact HE1.out, HS.bel.setCell (Nat.le_refl _) _⟩⟩
        case measure => simp [intOf]; omega
      · have HY0 := Lib.hid (getD_big hb)
        have hbN : ¬ i < n' := by have := HL'.out; omega
        clear hb
        have hd1 := HI.out.dig (by decide) i
        have hd2 := HI'.out.dig (by decide) i
        have HE := Lib.hid (fun (d c2 : Nat) (hs : l.getD i 0 + c2 * 18446744073709551616 = d + m.getD i 0 + y) => sub_next (B := 18446744073709551616) (L := L.take i) (a := l) (b := m) (i := i) (by rw [List.length_take]; have := HLI.out; omega) rfl rfl hs HS.eq)
        generalize l.getD i 0 = x1 at *
        rw [HY0.out] at hd2 HE
        have hsub : ∀ W, (callFunc 41 #[.int .u64 (x1 : Int), .int .u64 0, .int .u64 (y : Int)]).run Tryz.prog W = .ok (.value (.tuple #[.int .u64 (((x1 + 18446744073709551616 - 0 - y) % 18446744073709551616 : Nat) : Int), .int .u64 ((if x1 < 0 + y then 1 else 0 : Nat) : Int)])) W := fun W => call_sub64 (x := x1) (y := 0) hy W
        have HE1 := Lib.hid (HE.out _ _ (sub64_eq (x := x1) (y := 0) (c := y) hd1 hd2 hy))
        have hs1 : (x1 + 18446744073709551616 - 0 - y) % 18446744073709551616 < 18446744073709551616 := Nat.mod_lt _ (by decide)
        have hs2 : (if x1 < 0 + y then 1 else 0 : Nat) ≤ 1 := by split <;> decide
        clear HE
        generalize (x1 + 18446744073709551616 - 0 - y) % 18446744073709551616 = s at *
        generalize (if x1 < 0 + y then 1 else 0 : Nat) = y2 at *
        go_wp2
        go_roundw
        case rel => exact ⟨i + 1, L.set i s, y2, rfl, by go_num, hlt, hs2, ⟨blk_store HS.blk i s, by rw [List.length_set]; exact HS.len, rng_set HS.rng hs1, by rw [set_take HLI.out]; exact HE1.out, HS.bel.setCell (Nat.le_refl _) _⟩⟩
        case measure => simp [intOf]; omega
    · have HIK : Hid (i = n) := by show _ = _; omega
      have HF : Hid (nval 18446744073709551616 L = N - M) := by
        have h1 := HS.eq
        have h2 := HL.out
        have h3 := HIK.out
        have h4 := HL'.out
        have h5 := HS.len
        rw [List.take_of_length_le (by omega), List.take_of_length_le (by omega), List.take_of_length_le (by omega), HI.out.lb.val, HI'.out.lb.val] at h1
        show _ = _
        refine sub_end (B := 0) h1 ?_ HMN.out
        have h6 := nval_lt HS.rng
        rw [show i = L.length from by omega]
        exact h6
      have hr3 := blk_reads HS.blk
      have hln : L.length = n := by rw [HS.len, HL.out]
      have HT := Lib.hid (isN_trim (c := n) hr3 rfl (by omega) HS.rng)
      have hct := c_trim (some ⟨w.heap.size, 0, none⟩) n L wr wr.heap.size hr3 (by omega) (by omega)
      rw [hln] at hct
      have HC := Lib.hid hct
      clear hct hr3 hln
      go_wp2_with ((go_at_call 20; refine (HC.out).mono ?_; rintro e w' ⟨rfl, rfl⟩))
      go_ret
      exact ⟨_, n, _, rfl, by rw [← HF.out]; exact HT.out, HS.bel⟩
/-- What holds ahead of a round of a difference that is appended to. -/
structure DifS (B : Nat) (kd : IntKind) (t : TypeId) (w wr : World) (l m : List Nat) (i : Nat) (A0 : Option Addr) (c0 : Nat) (L : List Nat) (y : Nat) : Prop where
  own : wr.ownsRow w.heap.size t 1 (.slice A0 i c0) i (digs kd L)
  len : L.length = i
  rng : ∀ x ∈ L, x < B
  eq : nval B (l.take i) + y * B ^ i = nval B L + nval B (m.take i)
  bel : Below w.heap.size w wr
/-- One digit of the document's difference, in words of 64 bits. -/
theorem rsub_digit {x1 x2 y : Nat} (h1 : x1 < 4294967296) (h2 : x2 < 4294967296) (hy : y ≤ 1) : ∃ D1 D2 q y2 : Nat,
    IntKind.u64.wrap ((x1 : Int) - y) = D1 ∧ IntKind.u64.wrap ((D1 : Int) - x2) = D2 ∧ (D2 : Int) % 4294967296 = q ∧ (D2 : Int) / 9223372036854775808 = y2 ∧
    q < 4294967296 ∧ y2 ≤ 1 ∧ x1 + y2 * 4294967296 = q + x2 + y ∧ D1 < 18446744073709551616 ∧ D2 < 18446744073709551616 := by
  have wr : ∀ z : Int, IntKind.u64.wrap z = z % 18446744073709551616 := fun z => rfl
  simp only [wr]
  by_cases c1 : y ≤ x1
  · by_cases c2 : x2 ≤ x1 - y
    · exact ⟨x1 - y, x1 - y - x2, x1 - y - x2, 0, by omega, by omega, by omega, by omega, by omega, by omega, by omega, by omega, by omega⟩
    · exact ⟨x1 - y, x1 - y + 18446744073709551616 - x2, x1 - y + 4294967296 - x2, 1, by omega, by omega, by omega, by omega, by omega, by omega, by omega, by omega, by omega⟩
  · exact ⟨18446744073709551615, 18446744073709551615 - x2, 4294967295 - x2, 1, by omega, by omega, by omega, by omega, by omega, by omega, by omega, by omega, by omega⟩
end Go.Proofs.YtcohidjaehdbnaaGreatDoor
