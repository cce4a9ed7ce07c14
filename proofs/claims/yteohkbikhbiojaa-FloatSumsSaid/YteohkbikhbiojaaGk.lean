/- Walk: the document's exact sum of floats (quernref22.sum). Conditions: at most 2^44 floats. -/
import Derived.Test.YteohkbikhbiojaaGj
import Derived.Test.YteohkbikhbiojaaFz
namespace Go.Proofs.Yteohkbikhbiojaa
open Go.RowKit
set_option linter.unusedVariables false
attribute [local go_sem ↓] Go.wp_at_zero Go.wp_at_succ

/-- How great a finite magnitude may be. -/
def K98 : Nat := 2098
theorem kv_lt {m : Nat} (h : m < 9218868437227405312) : kv m < 2 ^ K98 := by
  rw [kv_psig]
  have h1 : psig m < 2 ^ 53 := by
    have : psig m < 9007199254740992 := by unfold psig; split <;> omega
    simpa using this
  have h2 : kx m ≤ 2045 := by unfold kx; omega
  have h3 : psig m * 2 ^ kx m < 2 ^ 53 * 2 ^ kx m := (Nat.mul_lt_mul_right (Nat.pow_pos (by decide))).2 h1
  rw [← Nat.pow_add] at h3
  exact Nat.lt_of_lt_of_le h3 (Nat.pow_le_pow_right (by decide) (by unfold K98; omega))
/-- A bound on all finite magnitudes, and on the numbers made of them. -/
theorem big_P : ∃ P, (∀ b, ffin b = true → kv (fmag b) ≤ P) ∧ 0 < P ∧ 35184372088832 * P < nsml ∧ 309485009821345068724781056 * (P * P) < nsml := by
  refine ⟨2 ^ K98, fun b h => Nat.le_of_lt (kv_lt (of_decide_eq_true h)), Nat.pow_pos (by decide), ?_, ?_⟩
  · rw [show (35184372088832 : Nat) = 2 ^ 45 from by decide, ← Nat.pow_add]
    exact Nat.pow_lt_pow_right (by decide) (by unfold K98 sexp; decide)
  · rw [show (309485009821345068724781056 : Nat) = 2 ^ 88 from by decide, ← Nat.pow_add, ← Nat.pow_add]
    exact Nat.pow_lt_pow_right (by decide) (by unfold K98 sexp; decide)
theorem posN_le {P : Nat} (hP : ∀ b, ffin b = true → kv (fmag b) ≤ P) : ∀ l : List Nat, posN l ≤ l.length * P
  | [] => Nat.zero_le _
  | b :: l => by
    have ih := posN_le hP l
    have h1 : (if ffin b && !fsgn b then kv (fmag b) else 0) ≤ P := by
      split
      · rename_i h
        have hf : ffin b = true := by revert h; cases ffin b <;> simp
        exact hP b hf
      · exact Nat.zero_le _
    show (if ffin b && !fsgn b then kv (fmag b) else 0) + posN l ≤ (l.length + 1) * P
    rw [Nat.add_mul]; omega
theorem negN_le {P : Nat} (hP : ∀ b, ffin b = true → kv (fmag b) ≤ P) : ∀ l : List Nat, negN l ≤ l.length * P
  | [] => Nat.zero_le _
  | b :: l => by
    have ih := negN_le hP l
    have h1 : (if ffin b && fsgn b then kv (fmag b) else 0) ≤ P := by
      split
      · rename_i h
        have hf : ffin b = true := by revert h; cases ffin b <;> simp
        exact hP b hf
      · exact Nat.zero_le _
    show (if ffin b && fsgn b then kv (fmag b) else 0) + negN l ≤ (l.length + 1) * P
    rw [Nat.add_mul]; omega
theorem tot_sml {l : List Nat} (h : l.length ≤ 17592186044416) : posN l < nsml ∧ negN l < nsml ∧ totN l < nsml := by
  obtain ⟨P, h1, h2, h3, _⟩ := big_P
  have a := posN_le h1 l
  have b := negN_le h1 l
  have c : l.length * P ≤ 17592186044416 * P := Nat.mul_le_mul_right _ h
  unfold totN
  omega
theorem kv_sml {b : Nat} (h : ffin b = true) : kv (fmag b) < nsml := by
  obtain ⟨P, h1, h2, h3, _⟩ := big_P
  have := h1 b h
  omega
/-- The significand and exponent of a magnitude, as shifts need them. -/
theorem c_parts2 (m : Nat) (hm : m < 9223372036854775808) (w : World) : Calls Try.prog 31 #[.int .u64 (m : Int)] w fun e w' => e = .returned (.tuple #[.int .u64 (psig m), .int .i64 (((kx m : Nat) : Int) - 1074)]) ∧ w = w' :=
  (c_parts m hm w).mono fun _ _ h => ⟨by rw [h.1, mman_psig, mexp_kx]; rfl, h.2⟩
theorem psig_lt {m : Nat} : psig m < 9007199254740992 := by unfold psig; split <;> omega
theorem kx_le {m : Nat} (h : m < 9223372036854775808) : kx m ≤ 2047 := by unfold kx; omega
/-- Are all of the first floats -0? -/
def nghts (n : Nat) (l : List Nat) : Bool := decide (0 < n) && l.all fun b => b == 9223372036854775808
theorem nghts_snoc (n : Nat) (l : List Nat) (b : Nat) : nghts n (l ++ [b]) = (nghts n l && (b == 9223372036854775808)) := by
  unfold nghts; rw [List.all_append, Bool.and_assoc]; simp
theorem nghts_all (l : List Nat) : nghts l.length l = allNought l := by
  unfold nghts allNought
  cases l <;> simp
theorem any_snoc (p : Nat → Bool) (l : List Nat) (b : Nat) : (l ++ [b]).any p = (l.any p || p b) := by simp
/-- The cells of a sum. -/
def tcs (A : Option Addr) (n c : Nat) (minus : Bool) (xs : List Nat) (k : Nat) : Array Value := #[.slice A n c, .bool minus, .bool (hasNan xs), .bool (hasPlus xs), .bool (hasLess xs), .bool (nghts k xs)]
/-- What holds ahead of a round of the sum: i floats are in. -/
structure SumR (w wr : World) (xs : List Nat) (n i : Nat) (A : Option Addr) (c : Nat) (l : List Nat) (A' : Option Addr) (c' : Nat) (l' : List Nat) : Prop where
  t2 : Blk wr w.heap.size 35 #[.slice none 0 0, .bool false, .bool false, .bool false, .bool false, .bool false]
  t3 : Blk wr (w.heap.size + 1) 35 (tcs none 0 0 false (xs.take i) n)
  pos : IsN wr wr.heap.size .u32 4294967296 A c l (posN (xs.take i))
  neg : IsN wr wr.heap.size .u32 4294967296 A' c' l' (negN (xs.take i))
  bel : Below w.heap.size w wr
theorem blk_new2 (w : World) (o : Obj) (t : TypeId) (cs : Array Value) : Blk ((w.alloc o).alloc (.cells cs t)) (w.heap.size + 1) t cs := by
  have h := Blk.new (w.alloc o) t cs
  have e : (w.alloc o).heap.size = w.heap.size + 1 := by simp
  rw [e] at h
  exact h
/-- A number's cells do not lie in a block that holds none but other values. -/
theorem IsN.keep {w w' : World} {Bk : Nat} {k : IntKind} {B : Nat} {A : Option Addr} {c : Nat} {l : List Nat} {N : Nat} (h : IsN w Bk k B A c l N) {g : Nat} {t : TypeId} {cs : Array Value} (hg : Blk w g t cs) (hcs : cs.toList.all (fun u => match u with | .int _ _ => false | _ => true) = true)
    (hk : ∀ p : Addr, p.block ≠ g → w'.cell? p = w.cell? p) : IsN w' Bk k B A c l N := by
  refine ⟨h.cap, h.lb, h.rd.1, fun h0 => ?_⟩
  obtain ⟨ad, rfl, hb, hc⟩ := h.rd.2 h0
  refine ⟨ad, rfl, hb, fun j u hu => ?_⟩
  have hj := hc j u hu
  refine (hk _ ?_).trans hj
  intro hbg
  obtain ⟨b1, o1, spot⟩ := ad
  rw [block_of_add] at hbg
  obtain rfl : b1 = g := hbg
  have hlen : j < l.length := by
    rcases Nat.lt_or_ge j l.length with hx | hx
    · exact hx
    · rw [List.getElem?_eq_none (by rw [digs_len]; exact hx)] at hu; cases hu
  obtain ⟨b2, o2, e2, _, _, hcell⟩ := h.at_ hlen
  injection e2 with e2
  injection e2 with e2 e3 e4
  subst e2; subst e3; subst e4
  rw [hg.cell] at hcell
  have hm : Value.int k ((l.getD j 0 : Nat) : Int) ∈ cs.toList := by
    have := List.mem_of_getElem? (l := cs.toList) (i := o1 + j) (by rw [Array.getElem?_toList]; exact hcell)
    exact this
  have := List.all_eq_true.1 hcs _ hm
  simp at this
theorem IsN.keep2 {w w' : World} {Bk : Nat} {k : IntKind} {B : Nat} {A : Option Addr} {c : Nat} {l : List Nat} {N : Nat} (h : IsN w Bk k B A c l N) {g : Nat} {t : TypeId} {cs : Array Value} (hg : Blk w g t cs) (hcs : cs.toList.all (fun u => match u with | .int _ _ => false | _ => true) = true)
    (hk : ∀ p : Addr, p.block ≠ g → p.block < w.heap.size → w'.cell? p = w.cell? p) : IsN w' Bk k B A c l N := by
  refine ⟨h.cap, h.lb, h.rd.1, fun h0 => ?_⟩
  obtain ⟨ad, rfl, hb, hc⟩ := h.rd.2 h0
  refine ⟨ad, rfl, hb, fun j u hu => ?_⟩
  have hj := hc j u hu
  obtain ⟨b1, o1, spot⟩ := ad
  have hlen : j < l.length := by
    rcases Nat.lt_or_ge j l.length with hx | hx
    · exact hx
    · rw [List.getElem?_eq_none (by rw [digs_len]; exact hx)] at hu; cases hu
  obtain ⟨b2, o2, e2, _, hb2, hcell⟩ := h.at_ hlen
  injection e2 with e2
  injection e2 with e2 e3 e4
  subst e2; subst e3; subst e4
  refine (hk _ ?_ (by rw [block_of_add]; exact hb2)).trans hj
  intro hbg
  rw [block_of_add] at hbg
  obtain rfl : b1 = g := hbg
  rw [hg.cell] at hcell
  have hm : Value.int k ((l.getD j 0 : Nat) : Int) ∈ cs.toList := List.mem_of_getElem? (l := cs.toList) (i := o1 + j) (by rw [Array.getElem?_toList]; exact hcell)
  have := List.all_eq_true.1 hcs _ hm
  simp at this
theorem size_setCell (w : World) (p : Addr) (u : Value) : (w.setCell p u).heap.size = w.heap.size := by simp [World.setCell]
theorem IsN.setCell {w : World} {k : IntKind} {B : Nat} {A : Option Addr} {c : Nat} {l : List Nat} {N : Nat} (h : IsN w w.heap.size k B A c l N) {g : Nat} {t : TypeId} {cs : Array Value} (hg : Blk w g t cs) (hcs : cs.toList.all (fun u => match u with | .int _ _ => false | _ => true) = true) (j : Nat) (u : Value) :
    IsN (w.setCell ⟨g, j, none⟩ u) (w.setCell ⟨g, j, none⟩ u).heap.size k B A c l N :=
  (h.keep hg hcs fun p hp => World.cell?_setCell_other w _ p u (fun e => hp (by rw [← e]))).more (Nat.le_of_eq (size_setCell w _ u).symm)
theorem tcs_noint (A : Option Addr) (n c : Nat) (mi : Bool) (xs : List Nat) (k : Nat) : (tcs A n c mi xs k).toList.all (fun u => match u with | .int _ _ => false | _ => true) = true := rfl
theorem tcs_noint2 (A : Option Addr) (n c : Nat) (mi : Bool) (xs : List Nat) (k j : Nat) (v : Bool) (hj : j = 2 ∨ j = 3 ∨ j = 4) : ((tcs A n c mi xs k).setIfInBounds j (.bool v)).toList.all (fun u => match u with | .int _ _ => false | _ => true) = true := by
  rcases hj with rfl | rfl | rfl <;> rfl
theorem tcs_new (A : Option Addr) (n c : Nat) (mi : Bool) (xs : List Nat) (k : Nat) (b : Nat) : tcs A n c mi (xs ++ [b]) k = #[.slice A n c, .bool mi, .bool (hasNan xs || fnan b), .bool (hasPlus xs || (finf b && !fsgn b)), .bool (hasLess xs || (finf b && fsgn b)), .bool (nghts k xs && (b == 9223372036854775808))] := by
  unfold tcs hasNan hasPlus hasLess
  rw [any_snoc, any_snoc, any_snoc, nghts_snoc]
theorem len_take_le (xs : List Nat) (i : Nat) (h : xs.length ≤ 17592186044416) : (xs.take i).length ≤ 17592186044416 := by
  rw [List.length_take]; omega
section
variable {A : Option Addr} {n c : Nat} {mi : Bool} {xs : List Nat} {k b : Nat} {v : Bool}
theorem tcs_nan (hf : fnan b = true) (hi : finf b = false) (hz : (nghts k xs && (b == 9223372036854775808)) = v) : ((tcs A n c mi xs k).setIfInBounds 2 (.bool true)).setIfInBounds 5 (.bool v) = tcs A n c mi (xs ++ [b]) k := by
  rw [tcs_new, hf, hi, hz]; simp [tcs]
theorem tcs_plus (hf : fnan b = false) (hi : finf b = true) (hs : fsgn b = false) (hz : (nghts k xs && (b == 9223372036854775808)) = v) : ((tcs A n c mi xs k).setIfInBounds 3 (.bool true)).setIfInBounds 5 (.bool v) = tcs A n c mi (xs ++ [b]) k := by
  rw [tcs_new, hf, hi, hs, hz]; simp [tcs]
theorem tcs_less (hf : fnan b = false) (hi : finf b = true) (hs : fsgn b = true) (hz : (nghts k xs && (b == 9223372036854775808)) = v) : ((tcs A n c mi xs k).setIfInBounds 4 (.bool true)).setIfInBounds 5 (.bool v) = tcs A n c mi (xs ++ [b]) k := by
  rw [tcs_new, hf, hi, hs, hz]; simp [tcs]
theorem tcs_fin (hf : fnan b = false) (hi : finf b = false) (hz : (nghts k xs && (b == 9223372036854775808)) = v) : (tcs A n c mi xs k).setIfInBounds 5 (.bool v) = tcs A n c mi (xs ++ [b]) k := by
  rw [tcs_new, hf, hi, hz]; simp [tcs]
theorem posN_skip (h : ffin b = false) : posN (xs ++ [b]) = posN xs ∧ negN (xs ++ [b]) = negN xs := by
  rw [posN_app, negN_app, posN_one, negN_one, h]; simp
theorem posN_plus (h : ffin b = true) (hs : fsgn b = false) : posN (xs ++ [b]) = posN xs + kv (fmag b) ∧ negN (xs ++ [b]) = negN xs := by
  rw [posN_app, negN_app, posN_one, negN_one, h, hs]; simp
theorem posN_less (h : ffin b = true) (hs : fsgn b = true) : posN (xs ++ [b]) = posN xs ∧ negN (xs ++ [b]) = negN xs + kv (fmag b) := by
  rw [posN_app, negN_app, posN_one, negN_one, h, hs]; simp
end
set_option maxRecDepth 100000 in
set_option maxHeartbeats 4000000 in
theorem c_rsum (A0 : Option Addr) (n c0 : Nat) (xs : List Nat) (w : World) (h : Reads w w.heap.size 1 A0 n (f64s xs)) (hb : Bit xs) (hn : n ≤ 17592186044416) :
    Calls Try.prog 17 #[.slice A0 n c0] w fun e w' => ∃ A c l, e = .returned (.agg (tcs A l.length c (decide (posN xs < negN xs)) xs n)) ∧ IsN w' w'.heap.size .u32 4294967296 A c l (totN xs) ∧ Below w.heap.size w w' := by
  have HRD := Lib.hid h
  have HXL : Hid (xs.length = n) := Lib.hid (by simpa using h.1)
  have HBT := Lib.hid hb
  have HZN : Hid (decide (0 < n) = nghts n []) := by show _ = _; simp [nghts]
  clear h hb
  go_enter Try.func17, Try.ntmps17
  go_wp2_with fail
  rw [HZN.out]
  go_loopw [4, 5, 6] (fun va vb vi wr => ∃ (i : Nat) (A : Option Addr) (c : Nat) (l : List Nat) (A' : Option Addr) (c' : Nat) (l' : List Nat), va = .slice A l.length c ∧ vb = .slice A' l'.length c' ∧ vi = .int .i64 i ∧ i ≤ n ∧ SumR w wr xs n i A c l A' c' l') (fun _ _ vi _ => n - (intOf vi).toNat)
  case atStart => exact ⟨0, none, 0, [], none, 0, [], rfl, rfl, rfl, Nat.zero_le _, ⟨(Blk.new w _ _).alloc _, blk_new2 w _ _ _, IsN.nil, IsN.nil, ((Below.refl _ _).alloc (Nat.le_refl _) _).alloc (by simp) _⟩⟩
  case round =>
    obtain ⟨i, A, c, l, A', c', l', rfl, rfl, rfl, hi, HS⟩ := hrel
    have hgs := HS.t3.lt
    have hgs2 := HS.bel.size
    by_cases hlt : i < n
    · obtain ⟨bb, off, rfl, hbB, hbw, hcells⟩ := HRD.out.form (by omega)
      have hc1 : wr.cell? ⟨bb, off + i, none⟩ = some (.float .f64 (xs.getD i 0)) := by
        rw [(bcell HS.bel).1 _ _ hbw, hcells i hlt, f64_get (by rw [HXL.out]; exact hlt)]
      have hbb := HBT.out.get i
      have HT := Lib.hid (take_one xs (i := i) (by rw [HXL.out]; exact hlt))
      clear hcells
      generalize xs.getD i 0 = b at *
      have HBI := Lib.hid (c_rbits b hbb)
      have hmb : b % 9223372036854775808 < 9223372036854775808 := Nat.mod_lt _ (by decide)
      obtain ⟨m, hm⟩ : ∃ m, b % 9223372036854775808 = m := ⟨_, rfl⟩
      rw [hm] at HBI hmb
      have HM := Lib.hid hm
      clear hm
      have k0 := HS.t3.cell 0
      have k1 := HS.t3.cell 1
      have k2 : wr.cell? ⟨w.heap.size + 1, 2, none⟩ = some (.bool (hasNan (xs.take i))) := by rw [HS.t3.cell 2]; rfl
      have k3 : wr.cell? ⟨w.heap.size + 1, 3, none⟩ = some (.bool (hasPlus (xs.take i))) := by rw [HS.t3.cell 3]; rfl
      have k4 : wr.cell? ⟨w.heap.size + 1, 4, none⟩ = some (.bool (hasLess (xs.take i))) := by rw [HS.t3.cell 4]; rfl
      have k5 : wr.cell? ⟨w.heap.size + 1, 5, none⟩ = some (.bool (nghts n (xs.take i))) := by rw [HS.t3.cell 5]; rfl
      have f2 := HS.t3.frozen 2
      have f3 := HS.t3.frozen 3
      have f4 := HS.t3.frozen 4
      have f5 := HS.t3.frozen 5
      clear k0 k1
      obtain ⟨e5, he5⟩ : ∃ e5, (b == 9223372036854775808) = e5 := ⟨_, rfl⟩
      have hb5 : ((b : Int) == 9223372036854775808) = e5 := by rw [← he5, Bool.eq_iff_iff, beq_iff_eq, beq_iff_eq]; omega
      have HE5 := Lib.hid he5
      obtain ⟨z, hz⟩ : ∃ z, nghts n (xs.take i) = z := ⟨_, rfl⟩
      rw [hz] at k5
      have HZ := Lib.hid hz
      clear he5 hz
      rcases fcases b with ⟨hfn, hff, hfi⟩ | ⟨hfn, hff, hfi⟩ | ⟨hfn, hff, hfi⟩
      · have HFN := Lib.hid hfn
        have HFF := Lib.hid hff
        have HFI := Lib.hid hfi
        clear hfn hff hfi
        cases z with
        | false =>
          have HZV : Hid ((nghts n (xs.take i) && (b == 9223372036854775808)) = false) := by show _ = _; rw [HZ.out, HE5.out]; rfl
          go_wp2_with fail
          refine (HBI.out _).mono ?_; rintro e1 w1 ⟨rfl, rfl⟩
          go_wp2_with fail
          refine (c_Is_yes HFN.out _).mono ?_; rintro e1 w1 ⟨rfl, rfl⟩
          go_wp2
          go_roundw
          case rel => exact ⟨i + 1, A, c, l, A', c', l', rfl, rfl, by go_num, hlt, ⟨(HS.t2.far (by simp) _).far (by simp) _, by rw [HT.out, ← tcs_nan HFN.out HFI.out HZV.out]; exact (HS.t3.set_ 2 _).set_ 5 _, by rw [HT.out, (posN_skip HFF.out).1]; exact (HS.pos.setCell HS.t3 (tcs_noint _ _ _ _ _ _) _ _).setCell (HS.t3.set_ 2 _) (tcs_noint2 _ _ _ _ _ _ _ true (by decide)) _ _, by rw [HT.out, (posN_skip HFF.out).2]; exact (HS.neg.setCell HS.t3 (tcs_noint _ _ _ _ _ _) _ _).setCell (HS.t3.set_ 2 _) (tcs_noint2 _ _ _ _ _ _ _ true (by decide)) _ _, (HS.bel.setCell (by simp) _).setCell (by simp) _⟩⟩
          case measure => simp [intOf]; omega
        | true =>
          have HZV : Hid ((nghts n (xs.take i) && (b == 9223372036854775808)) = e5) := by show _ = _; rw [HZ.out, HE5.out]; rfl
          go_wp2_with fail
          refine (HBI.out _).mono ?_; rintro e1 w1 ⟨rfl, rfl⟩
          go_wp2_with fail
          refine (c_Is_yes HFN.out _).mono ?_; rintro e1 w1 ⟨rfl, rfl⟩
          go_wp2
          go_roundw
          case rel => exact ⟨i + 1, A, c, l, A', c', l', rfl, rfl, by go_num, hlt, ⟨(HS.t2.far (by simp) _).far (by simp) _, by rw [HT.out, ← tcs_nan HFN.out HFI.out HZV.out]; exact (HS.t3.set_ 2 _).set_ 5 _, by rw [HT.out, (posN_skip HFF.out).1]; exact (HS.pos.setCell HS.t3 (tcs_noint _ _ _ _ _ _) _ _).setCell (HS.t3.set_ 2 _) (tcs_noint2 _ _ _ _ _ _ _ true (by decide)) _ _, by rw [HT.out, (posN_skip HFF.out).2]; exact (HS.neg.setCell HS.t3 (tcs_noint _ _ _ _ _ _) _ _).setCell (HS.t3.set_ 2 _) (tcs_noint2 _ _ _ _ _ _ _ true (by decide)) _ _, (HS.bel.setCell (by simp) _).setCell (by simp) _⟩⟩
          case measure => simp [intOf]; omega
      · have HFN := Lib.hid hfn
        have HFF := Lib.hid hff
        have HFI := Lib.hid hfi
        clear hfn hff hfi
        rcases hfs : fsgn b with _ | _
        · have HFS := Lib.hid hfs
          clear hfs
          have hm1 : ((m : Int) == 9218868437227405312) = true := by have h := of_decide_eq_true HFI.out; have := HM.out; unfold fmag at h; simp; omega
          have hm2 : ((b : Int) == (m : Int)) = true := by have := HM.out; have h2 := HFS.out; unfold fsgn at h2; simp at h2; simp; omega
          cases z with
          | false =>
            have HZV : Hid ((nghts n (xs.take i) && (b == 9223372036854775808)) = false) := by show _ = _; rw [HZ.out, HE5.out]; rfl
            go_wp2_with fail
            refine (HBI.out _).mono ?_; rintro e1 w1 ⟨rfl, rfl⟩
            go_wp2_with fail
            refine (c_Is_no HFN.out _).mono ?_; rintro e1 w1 ⟨rfl, rfl⟩
            go_wp2
            go_roundw
            case rel => exact ⟨i + 1, A, c, l, A', c', l', rfl, rfl, by go_num, hlt, ⟨(HS.t2.far (by simp) _).far (by simp) _, by rw [HT.out, ← tcs_plus HFN.out HFI.out HFS.out HZV.out]; exact (HS.t3.set_ 3 _).set_ 5 _, by rw [HT.out, (posN_skip HFF.out).1]; exact (HS.pos.setCell HS.t3 (tcs_noint _ _ _ _ _ _) _ _).setCell (HS.t3.set_ 3 _) (tcs_noint2 _ _ _ _ _ _ _ true (by decide)) _ _, by rw [HT.out, (posN_skip HFF.out).2]; exact (HS.neg.setCell HS.t3 (tcs_noint _ _ _ _ _ _) _ _).setCell (HS.t3.set_ 3 _) (tcs_noint2 _ _ _ _ _ _ _ true (by decide)) _ _, (HS.bel.setCell (by simp) _).setCell (by simp) _⟩⟩
            case measure => simp [intOf]; omega
          | true =>
            have HZV : Hid ((nghts n (xs.take i) && (b == 9223372036854775808)) = e5) := by show _ = _; rw [HZ.out, HE5.out]; rfl
            go_wp2_with fail
            refine (HBI.out _).mono ?_; rintro e1 w1 ⟨rfl, rfl⟩
            go_wp2_with fail
            refine (c_Is_no HFN.out _).mono ?_; rintro e1 w1 ⟨rfl, rfl⟩
            go_wp2
            go_roundw
            case rel => exact ⟨i + 1, A, c, l, A', c', l', rfl, rfl, by go_num, hlt, ⟨(HS.t2.far (by simp) _).far (by simp) _, by rw [HT.out, ← tcs_plus HFN.out HFI.out HFS.out HZV.out]; exact (HS.t3.set_ 3 _).set_ 5 _, by rw [HT.out, (posN_skip HFF.out).1]; exact (HS.pos.setCell HS.t3 (tcs_noint _ _ _ _ _ _) _ _).setCell (HS.t3.set_ 3 _) (tcs_noint2 _ _ _ _ _ _ _ true (by decide)) _ _, by rw [HT.out, (posN_skip HFF.out).2]; exact (HS.neg.setCell HS.t3 (tcs_noint _ _ _ _ _ _) _ _).setCell (HS.t3.set_ 3 _) (tcs_noint2 _ _ _ _ _ _ _ true (by decide)) _ _, (HS.bel.setCell (by simp) _).setCell (by simp) _⟩⟩
            case measure => simp [intOf]; omega
        · have HFS := Lib.hid hfs
          clear hfs
          have hm1 : ((m : Int) == 9218868437227405312) = true := by have h := of_decide_eq_true HFI.out; have := HM.out; unfold fmag at h; simp; omega
          have hm2 : ((b : Int) == (m : Int)) = false := by have := HM.out; have h2 := HFS.out; unfold fsgn at h2; simp at h2; simp; omega
          cases z with
          | false =>
            have HZV : Hid ((nghts n (xs.take i) && (b == 9223372036854775808)) = false) := by show _ = _; rw [HZ.out, HE5.out]; rfl
            go_wp2_with fail
            refine (HBI.out _).mono ?_; rintro e1 w1 ⟨rfl, rfl⟩
            go_wp2_with fail
            refine (c_Is_no HFN.out _).mono ?_; rintro e1 w1 ⟨rfl, rfl⟩
            go_wp2
            go_roundw
            case rel => exact ⟨i + 1, A, c, l, A', c', l', rfl, rfl, by go_num, hlt, ⟨(HS.t2.far (by simp) _).far (by simp) _, by rw [HT.out, ← tcs_less HFN.out HFI.out HFS.out HZV.out]; exact (HS.t3.set_ 4 _).set_ 5 _, by rw [HT.out, (posN_skip HFF.out).1]; exact (HS.pos.setCell HS.t3 (tcs_noint _ _ _ _ _ _) _ _).setCell (HS.t3.set_ 4 _) (tcs_noint2 _ _ _ _ _ _ _ true (by decide)) _ _, by rw [HT.out, (posN_skip HFF.out).2]; exact (HS.neg.setCell HS.t3 (tcs_noint _ _ _ _ _ _) _ _).setCell (HS.t3.set_ 4 _) (tcs_noint2 _ _ _ _ _ _ _ true (by decide)) _ _, (HS.bel.setCell (by simp) _).setCell (by simp) _⟩⟩
            case measure => simp [intOf]; omega
          | true =>
            have HZV : Hid ((nghts n (xs.take i) && (b == 9223372036854775808)) = e5) := by show _ = _; rw [HZ.out, HE5.out]; rfl
            go_wp2_with fail
            refine (HBI.out _).mono ?_; rintro e1 w1 ⟨rfl, rfl⟩
            go_wp2_with fail
            refine (c_Is_no HFN.out _).mono ?_; rintro e1 w1 ⟨rfl, rfl⟩
            go_wp2
            go_roundw
            case rel => exact ⟨i + 1, A, c, l, A', c', l', rfl, rfl, by go_num, hlt, ⟨(HS.t2.far (by simp) _).far (by simp) _, by rw [HT.out, ← tcs_less HFN.out HFI.out HFS.out HZV.out]; exact (HS.t3.set_ 4 _).set_ 5 _, by rw [HT.out, (posN_skip HFF.out).1]; exact (HS.pos.setCell HS.t3 (tcs_noint _ _ _ _ _ _) _ _).setCell (HS.t3.set_ 4 _) (tcs_noint2 _ _ _ _ _ _ _ true (by decide)) _ _, by rw [HT.out, (posN_skip HFF.out).2]; exact (HS.neg.setCell HS.t3 (tcs_noint _ _ _ _ _ _) _ _).setCell (HS.t3.set_ 4 _) (tcs_noint2 _ _ _ _ _ _ _ true (by decide)) _ _, (HS.bel.setCell (by simp) _).setCell (by simp) _⟩⟩
            case measure => simp [intOf]; omega
      · have HFN := Lib.hid hfn
        have HFF := Lib.hid hff
        have HFI := Lib.hid hfi
        clear hfn hff hfi
        rcases hfs : fsgn b with _ | _
        · have HFS := Lib.hid hfs
          clear hfs
          have hm1 : ((m : Int) == 9218868437227405312) = false := by have h := of_decide_eq_false HFI.out; have := HM.out; unfold fmag at h; simp; omega
          have hm2 : ((b : Int) == (m : Int)) = true := by have := HM.out; have h2 := HFS.out; unfold fsgn at h2; simp at h2; simp; omega
          have HPT := Lib.hid (c_parts2 m hmb)
          have HPS : Hid (psig m < 18446744073709551616) := by have := psig_lt (m := m); show _ < _; omega
          have hkx : kx m ≤ 1000000 := by have := kx_le hmb; omega
          have HKM : Hid (fmag b = m) := HM.out
          have HSM : Hid (posN (xs.take i) < nbig ∧ kv m < nbig) := by have h1 := tot_sml (len_take_le xs i (by rw [HXL.out]; exact hn)); have h2 := kv_sml HFF.out; rw [HKM.out] at h2; exact ⟨nsml_big h1.1, nsml_big h2⟩
          cases z with
          | false =>
            have HZV : Hid ((nghts n (xs.take i) && (b == 9223372036854775808)) = false) := by show _ = _; rw [HZ.out, HE5.out]; rfl
            go_wp2_with fail
            refine (HBI.out _).mono ?_; rintro e1 w1 ⟨rfl, rfl⟩
            go_wp2_with fail
            refine (c_Is_no HFN.out _).mono ?_; rintro e1 w1 ⟨rfl, rfl⟩
            go_wp2_with fail
            refine (HPT.out _).mono ?_; rintro e1 w1 ⟨rfl, rfl⟩
            go_wp2_with fail
            refine (c_from (psig m) HPS.out _).mono ?_; rintro e1 w1 ⟨A1, c1, l1, rfl, h1, hb1⟩
            have HB1 := Lib.hid hb1
            have H1 := Lib.hid h1
            clear h1 hb1
            go_wp2_with fail
            refine (c_up A1 c1 l1 (kx m) (psig m) _ H1.out (word_big HPS.out) hkx).mono ?_; rintro e2 w2 ⟨A2, c2, l2, rfl, h2, hb2⟩
            have HB2 := Lib.hid (below_step HB1.out hb2)
            have H2 := Lib.hid h2
            have H3 := Lib.hid (HS.pos.below (below_step HB1.out hb2))
            clear h2 hb2 H1 HB1
            rw [← kv_psig] at H2
            go_wp2_with fail
            refine (c_radd _ _ _ _ _ _ _ _ _ H3.out H2.out HSM.out.1 HSM.out.2).mono ?_; rintro e3 w3 ⟨A3, c3, l3, rfl, h3, hb3⟩
            have HB3 := Lib.hid (below_step HB2.out hb3)
            have H4 := Lib.hid h3
            have H5 := Lib.hid (HS.neg.below (below_step HB2.out hb3))
            have HT3 := Lib.hid (HS.t3.below (below_step HB2.out hb3) hgs)
            have HT2 := Lib.hid (HS.t2.below (below_step HB2.out hb3) HS.t2.lt)
            have HBW := Lib.hid (below_step HS.bel (below_step HB2.out hb3))
            have k5 : w3.cell? ⟨w.heap.size + 1, 5, none⟩ = some (.bool false) := by rw [HT3.out.cell 5, ← HZ.out]; rfl
            have f5 := HT3.out.frozen 5
            clear h3 hb3 H2 H3 HB2 HB3
            go_wp2
            go_roundw
            case rel => exact ⟨i + 1, A3, c3, l3, A', c', l', rfl, rfl, by go_num, hlt, ⟨HT2.out.far (by simp) _, by rw [HT.out, ← tcs_fin HFN.out HFI.out HZV.out]; exact HT3.out.set_ 5 _, by rw [HT.out, (posN_plus HFF.out HFS.out).1, HKM.out]; exact H4.out.setCell HT3.out (tcs_noint _ _ _ _ _ _) _ _, by rw [HT.out, (posN_plus HFF.out HFS.out).2]; exact H5.out.setCell HT3.out (tcs_noint _ _ _ _ _ _) _ _, HBW.out.setCell (by simp) _⟩⟩
            case measure => simp [intOf]; omega
          | true =>
            have HZV : Hid ((nghts n (xs.take i) && (b == 9223372036854775808)) = e5) := by show _ = _; rw [HZ.out, HE5.out]; rfl
            go_wp2_with fail
            refine (HBI.out _).mono ?_; rintro e1 w1 ⟨rfl, rfl⟩
            go_wp2_with fail
            refine (c_Is_no HFN.out _).mono ?_; rintro e1 w1 ⟨rfl, rfl⟩
            go_wp2_with fail
            refine (HPT.out _).mono ?_; rintro e1 w1 ⟨rfl, rfl⟩
            go_wp2_with fail
            refine (c_from (psig m) HPS.out _).mono ?_; rintro e1 w1 ⟨A1, c1, l1, rfl, h1, hb1⟩
            have HB1 := Lib.hid hb1
            have H1 := Lib.hid h1
            clear h1 hb1
            go_wp2_with fail
            refine (c_up A1 c1 l1 (kx m) (psig m) _ H1.out (word_big HPS.out) hkx).mono ?_; rintro e2 w2 ⟨A2, c2, l2, rfl, h2, hb2⟩
            have HB2 := Lib.hid (below_step HB1.out hb2)
            have H2 := Lib.hid h2
            have H3 := Lib.hid (HS.pos.below (below_step HB1.out hb2))
            clear h2 hb2 H1 HB1
            rw [← kv_psig] at H2
            go_wp2_with fail
            refine (c_radd _ _ _ _ _ _ _ _ _ H3.out H2.out HSM.out.1 HSM.out.2).mono ?_; rintro e3 w3 ⟨A3, c3, l3, rfl, h3, hb3⟩
            have HB3 := Lib.hid (below_step HB2.out hb3)
            have H4 := Lib.hid h3
            have H5 := Lib.hid (HS.neg.below (below_step HB2.out hb3))
            have HT3 := Lib.hid (HS.t3.below (below_step HB2.out hb3) hgs)
            have HT2 := Lib.hid (HS.t2.below (below_step HB2.out hb3) HS.t2.lt)
            have HBW := Lib.hid (below_step HS.bel (below_step HB2.out hb3))
            have k5 : w3.cell? ⟨w.heap.size + 1, 5, none⟩ = some (.bool true) := by rw [HT3.out.cell 5, ← HZ.out]; rfl
            have f5 := HT3.out.frozen 5
            clear h3 hb3 H2 H3 HB2 HB3
            go_wp2
            go_roundw
            case rel => exact ⟨i + 1, A3, c3, l3, A', c', l', rfl, rfl, by go_num, hlt, ⟨HT2.out.far (by simp) _, by rw [HT.out, ← tcs_fin HFN.out HFI.out HZV.out]; exact HT3.out.set_ 5 _, by rw [HT.out, (posN_plus HFF.out HFS.out).1, HKM.out]; exact H4.out.setCell HT3.out (tcs_noint _ _ _ _ _ _) _ _, by rw [HT.out, (posN_plus HFF.out HFS.out).2]; exact H5.out.setCell HT3.out (tcs_noint _ _ _ _ _ _) _ _, HBW.out.setCell (by simp) _⟩⟩
            case measure => simp [intOf]; omega
        · have HFS := Lib.hid hfs
          clear hfs
          have hm1 : ((m : Int) == 9218868437227405312) = false := by have h := of_decide_eq_false HFI.out; have := HM.out; unfold fmag at h; simp; omega
          have hm2 : ((b : Int) == (m : Int)) = false := by have := HM.out; have h2 := HFS.out; unfold fsgn at h2; simp at h2; simp; omega
          have HPT := Lib.hid (c_parts2 m hmb)
          have HPS : Hid (psig m < 18446744073709551616) := by have := psig_lt (m := m); show _ < _; omega
          have hkx : kx m ≤ 1000000 := by have := kx_le hmb; omega
          have HKM : Hid (fmag b = m) := HM.out
          have HSM : Hid (negN (xs.take i) < nbig ∧ kv m < nbig) := by have h1 := tot_sml (len_take_le xs i (by rw [HXL.out]; exact hn)); have h2 := kv_sml HFF.out; rw [HKM.out] at h2; exact ⟨nsml_big h1.2.1, nsml_big h2⟩
          cases z with
          | false =>
            have HZV : Hid ((nghts n (xs.take i) && (b == 9223372036854775808)) = false) := by show _ = _; rw [HZ.out, HE5.out]; rfl
            go_wp2_with fail
            refine (HBI.out _).mono ?_; rintro e1 w1 ⟨rfl, rfl⟩
            go_wp2_with fail
            refine (c_Is_no HFN.out _).mono ?_; rintro e1 w1 ⟨rfl, rfl⟩
            go_wp2_with fail
            refine (HPT.out _).mono ?_; rintro e1 w1 ⟨rfl, rfl⟩
            go_wp2_with fail
            refine (c_from (psig m) HPS.out _).mono ?_; rintro e1 w1 ⟨A1, c1, l1, rfl, h1, hb1⟩
            have HB1 := Lib.hid hb1
            have H1 := Lib.hid h1
            clear h1 hb1
            go_wp2_with fail
            refine (c_up A1 c1 l1 (kx m) (psig m) _ H1.out (word_big HPS.out) hkx).mono ?_; rintro e2 w2 ⟨A2, c2, l2, rfl, h2, hb2⟩
            have HB2 := Lib.hid (below_step HB1.out hb2)
            have H2 := Lib.hid h2
            have H3 := Lib.hid (HS.neg.below (below_step HB1.out hb2))
            clear h2 hb2 H1 HB1
            rw [← kv_psig] at H2
            go_wp2_with fail
            refine (c_radd _ _ _ _ _ _ _ _ _ H3.out H2.out HSM.out.1 HSM.out.2).mono ?_; rintro e3 w3 ⟨A3, c3, l3, rfl, h3, hb3⟩
            have HB3 := Lib.hid (below_step HB2.out hb3)
            have H4 := Lib.hid h3
            have H5 := Lib.hid (HS.pos.below (below_step HB2.out hb3))
            have HT3 := Lib.hid (HS.t3.below (below_step HB2.out hb3) hgs)
            have HT2 := Lib.hid (HS.t2.below (below_step HB2.out hb3) HS.t2.lt)
            have HBW := Lib.hid (below_step HS.bel (below_step HB2.out hb3))
            have k5 : w3.cell? ⟨w.heap.size + 1, 5, none⟩ = some (.bool false) := by rw [HT3.out.cell 5, ← HZ.out]; rfl
            have f5 := HT3.out.frozen 5
            clear h3 hb3 H2 H3 HB2 HB3
            go_wp2
            go_roundw
            case rel => exact ⟨i + 1, A, c, l, A3, c3, l3, rfl, rfl, by go_num, hlt, ⟨HT2.out.far (by simp) _, by rw [HT.out, ← tcs_fin HFN.out HFI.out HZV.out]; exact HT3.out.set_ 5 _, by rw [HT.out, (posN_less HFF.out HFS.out).1]; exact H5.out.setCell HT3.out (tcs_noint _ _ _ _ _ _) _ _, by rw [HT.out, (posN_less HFF.out HFS.out).2, HKM.out]; exact H4.out.setCell HT3.out (tcs_noint _ _ _ _ _ _) _ _, HBW.out.setCell (by simp) _⟩⟩
            case measure => simp [intOf]; omega
          | true =>
            have HZV : Hid ((nghts n (xs.take i) && (b == 9223372036854775808)) = e5) := by show _ = _; rw [HZ.out, HE5.out]; rfl
            go_wp2_with fail
            refine (HBI.out _).mono ?_; rintro e1 w1 ⟨rfl, rfl⟩
            go_wp2_with fail
            refine (c_Is_no HFN.out _).mono ?_; rintro e1 w1 ⟨rfl, rfl⟩
            go_wp2_with fail
            refine (HPT.out _).mono ?_; rintro e1 w1 ⟨rfl, rfl⟩
            go_wp2_with fail
            refine (c_from (psig m) HPS.out _).mono ?_; rintro e1 w1 ⟨A1, c1, l1, rfl, h1, hb1⟩
            have HB1 := Lib.hid hb1
            have H1 := Lib.hid h1
            clear h1 hb1
            go_wp2_with fail
            refine (c_up A1 c1 l1 (kx m) (psig m) _ H1.out (word_big HPS.out) hkx).mono ?_; rintro e2 w2 ⟨A2, c2, l2, rfl, h2, hb2⟩
            have HB2 := Lib.hid (below_step HB1.out hb2)
            have H2 := Lib.hid h2
            have H3 := Lib.hid (HS.neg.below (below_step HB1.out hb2))
            clear h2 hb2 H1 HB1
            rw [← kv_psig] at H2
            go_wp2_with fail
            refine (c_radd _ _ _ _ _ _ _ _ _ H3.out H2.out HSM.out.1 HSM.out.2).mono ?_; rintro e3 w3 ⟨A3, c3, l3, rfl, h3, hb3⟩
            have HB3 := Lib.hid (below_step HB2.out hb3)
            have H4 := Lib.hid h3
            have H5 := Lib.hid (HS.pos.below (below_step HB2.out hb3))
            have HT3 := Lib.hid (HS.t3.below (below_step HB2.out hb3) hgs)
            have HT2 := Lib.hid (HS.t2.below (below_step HB2.out hb3) HS.t2.lt)
            have HBW := Lib.hid (below_step HS.bel (below_step HB2.out hb3))
            have k5 : w3.cell? ⟨w.heap.size + 1, 5, none⟩ = some (.bool true) := by rw [HT3.out.cell 5, ← HZ.out]; rfl
            have f5 := HT3.out.frozen 5
            clear h3 hb3 H2 H3 HB2 HB3
            go_wp2
            go_roundw
            case rel => exact ⟨i + 1, A, c, l, A3, c3, l3, rfl, rfl, by go_num, hlt, ⟨HT2.out.far (by simp) _, by rw [HT.out, ← tcs_fin HFN.out HFI.out HZV.out]; exact HT3.out.set_ 5 _, by rw [HT.out, (posN_less HFF.out HFS.out).1]; exact H5.out.setCell HT3.out (tcs_noint _ _ _ _ _ _) _ _, by rw [HT.out, (posN_less HFF.out HFS.out).2, HKM.out]; exact H4.out.setCell HT3.out (tcs_noint _ _ _ _ _ _) _ _, HBW.out.setCell (by simp) _⟩⟩
            case measure => simp [intOf]; omega
    · have HIK : Hid (xs.take i = xs) := by
        have := HXL.out
        show _ = _
        rw [List.take_of_length_le (by omega)]
      have HP := Lib.hid HS.pos
      have HG := Lib.hid HS.neg
      have HT3 := Lib.hid HS.t3
      have HT2 := Lib.hid HS.t2
      have HB := Lib.hid HS.bel
      rw [HIK.out] at HP HG HT3
      have HSM := Lib.hid (tot_sml (l := xs) (by have := HXL.out; omega))
      clear HS HIK
      have hl1 := len_big HP.out.lb (by decide) (nsml_big HSM.out.1)
      have hl2 := len_big HG.out.lb (by decide) (nsml_big HSM.out.2.1)
      have HC := Lib.hid (c_rcmp A A' c c' l l' _ _ wr _ HP.out HG.out (by omega) (by omega))
      rcases Nat.lt_or_ge (posN xs) (negN xs) with hpn | hpn
      · have hcm : ¬ (0 : Int) ≤ icmp (posN xs) (negN xs) := by rw [icmp_lt hpn]; decide
        have HD : Hid (decide (posN xs < negN xs) = true) := decide_eq_true hpn
        have HTN : Hid (totN xs = negN xs - posN xs) := totN_lt hpn
        have HLE : Hid (posN xs ≤ negN xs) := by show _ ≤ _; omega
        clear hpn
        go_wp2_with fail
        refine HC.out.mono ?_; rintro e1 w1 ⟨rfl, hb1⟩
        have HB1 := Lib.hid hb1
        have H1 := Lib.hid (HP.out.below hb1)
        have H2 := Lib.hid (HG.out.below hb1)
        clear hb1
        generalize icmp (posN xs) (negN xs) = R at *
        go_wp2_with fail
        refine (c_rsub _ _ _ _ _ _ _ _ _ H2.out H1.out (nsml_big HSM.out.2.1) HLE.out).mono ?_; rintro e2 w2 ⟨A2, c2, l2, rfl, h2, hb2⟩
        have HB2 := Lib.hid (below_step HB1.out hb2)
        have H3 := Lib.hid h2
        have HT3w := Lib.hid (HT3.out.below HB2.out HT3.out.lt)
        have HT2w := Lib.hid (HT2.out.below HB2.out HT2.out.lt)
        have HBW := Lib.hid (below_step HB.out HB2.out)
        have hg3 := HT2w.out.lt
        clear h2 hb2 H1 H2 HB1 HB2 HC HP HG HT3 HT2
        have k0 : w2.cell? ⟨w.heap.size + 1, 0, none⟩ = some (.slice none 0 0) := by rw [HT3w.out.cell 0]; rfl
        have k1 : w2.cell? ⟨w.heap.size + 1, 1, none⟩ = some (.bool false) := by rw [HT3w.out.cell 1]; rfl
        have f0 := HT3w.out.frozen 0
        have f1 := HT3w.out.frozen 1
        have HL : Hid (Blk ((w2.setCell ⟨w.heap.size + 1, 0, none⟩ (.slice A2 l2.length c2)).setCell ⟨w.heap.size + 1, 1, none⟩ (.bool true)) (w.heap.size + 1) 35 (tcs A2 l2.length c2 true xs n)) := (HT3w.out.set_ 0 _).set_ 1 _
        have HL2 : Hid (Blk ((w2.setCell ⟨w.heap.size + 1, 0, none⟩ (.slice A2 l2.length c2)).setCell ⟨w.heap.size + 1, 1, none⟩ (.bool true)) w.heap.size 35 #[.slice none 0 0, .bool false, .bool false, .bool false, .bool false, .bool false]) := (HT2w.out.far (by simp) _).far (by simp) _
        have HN := Lib.hid ((H3.out.setCell HT3w.out (tcs_noint _ _ _ _ _ _) 0 (.slice A2 l2.length c2)).setCell (HT3w.out.set_ 0 _) rfl 1 (.bool true))
        have HBX : Hid (Below w.heap.size w ((w2.setCell ⟨w.heap.size + 1, 0, none⟩ (.slice A2 l2.length c2)).setCell ⟨w.heap.size + 1, 1, none⟩ (.bool true))) := (HBW.out.setCell (by simp) _).setCell (by simp) _
        have HSZ : Hid (((w2.setCell ⟨w.heap.size + 1, 0, none⟩ (.slice A2 l2.length c2)).setCell ⟨w.heap.size + 1, 1, none⟩ (.bool true)).heap.size = w2.heap.size) := by show _ = _; simp [World.setCell]
        clear HT3w HT2w HBW
        go_wp2_with (first | (refine wpList_load_row rfl 35 (.tmp 3) rfl (w.heap.size + 1) rfl 35 _ (0, 0) _ HL.out Try.underlying35 rfl (by kernel_rfl) ?_) | (refine wpList_storeB rfl 35 (.tmp 2) (.tmp 99) rfl rfl w.heap.size _ rfl rfl HL2.out (by kernel_rfl) rfl rfl ?_; intro w7 hB7 hg7 hz7))
        refine bodyPost_ret (v := .agg (tcs A2 l2.length c2 true xs n)) (results_cellB (p := 2) rfl _ hB7 _ rfl Try.underlying35 rfl (by kernel_rfl)) rfl ⟨A2, c2, l2, by rw [HD.out], ?_, ?_⟩
        · rw [HTN.out]
          exact (HN.out.keep2 HL2.out rfl (fun p hp hlt => World.cell?_of_block (hg7.block p.block hlt (fun e => hp (by injection e))))).more (Nat.le_of_eq hz7.symm)
        · exact HBX.out.grown hg7 (by rw [HSZ.out]; omega) (fun k hk => by injection hk with hk; omega)
      · have hcm : (0 : Int) ≤ icmp (posN xs) (negN xs) := by
          rcases Nat.lt_or_ge (negN xs) (posN xs) with h | h
          · rw [icmp_gt h]; decide
          · rw [icmp_eq (by omega)]; decide
        have HD : Hid (decide (posN xs < negN xs) = false) := decide_eq_false (by omega)
        have HTN : Hid (totN xs = posN xs - negN xs) := totN_ge hpn
        have HLE : Hid (negN xs ≤ posN xs) := by show _ ≤ _; omega
        clear hpn
        go_wp2_with fail
        refine HC.out.mono ?_; rintro e1 w1 ⟨rfl, hb1⟩
        have HB1 := Lib.hid hb1
        have H1 := Lib.hid (HP.out.below hb1)
        have H2 := Lib.hid (HG.out.below hb1)
        clear hb1
        generalize icmp (posN xs) (negN xs) = R at *
        go_wp2_with fail
        refine (c_rsub _ _ _ _ _ _ _ _ _ H1.out H2.out (nsml_big HSM.out.1) HLE.out).mono ?_; rintro e2 w2 ⟨A2, c2, l2, rfl, h2, hb2⟩
        have HB2 := Lib.hid (below_step HB1.out hb2)
        have H3 := Lib.hid h2
        have HT3w := Lib.hid (HT3.out.below HB2.out HT3.out.lt)
        have HT2w := Lib.hid (HT2.out.below HB2.out HT2.out.lt)
        have HBW := Lib.hid (below_step HB.out HB2.out)
        have hg3 := HT2w.out.lt
        clear h2 hb2 H1 H2 HB1 HB2 HC HP HG HT3 HT2
        have k0 : w2.cell? ⟨w.heap.size + 1, 0, none⟩ = some (.slice none 0 0) := by rw [HT3w.out.cell 0]; rfl
        have k1 : w2.cell? ⟨w.heap.size + 1, 1, none⟩ = some (.bool false) := by rw [HT3w.out.cell 1]; rfl
        have f0 := HT3w.out.frozen 0
        have f1 := HT3w.out.frozen 1
        have HL : Hid (Blk (w2.setCell ⟨w.heap.size + 1, 0, none⟩ (.slice A2 l2.length c2)) (w.heap.size + 1) 35 (tcs A2 l2.length c2 false xs n)) := HT3w.out.set_ 0 _
        have HL2 : Hid (Blk (w2.setCell ⟨w.heap.size + 1, 0, none⟩ (.slice A2 l2.length c2)) w.heap.size 35 #[.slice none 0 0, .bool false, .bool false, .bool false, .bool false, .bool false]) := HT2w.out.far (by simp) _
        have HN := Lib.hid (H3.out.setCell HT3w.out (tcs_noint _ _ _ _ _ _) 0 (.slice A2 l2.length c2))
        have HBX : Hid (Below w.heap.size w (w2.setCell ⟨w.heap.size + 1, 0, none⟩ (.slice A2 l2.length c2))) := HBW.out.setCell (by simp) _
        have HSZ : Hid ((w2.setCell ⟨w.heap.size + 1, 0, none⟩ (.slice A2 l2.length c2)).heap.size = w2.heap.size) := by show _ = _; simp [World.setCell]
        clear HT3w HT2w HBW
        go_wp2_with (first | (refine wpList_load_row rfl 35 (.tmp 3) rfl (w.heap.size + 1) rfl 35 _ (0, 0) _ HL.out Try.underlying35 rfl (by kernel_rfl) ?_) | (refine wpList_storeB rfl 35 (.tmp 2) (.tmp 99) rfl rfl w.heap.size _ rfl rfl HL2.out (by kernel_rfl) rfl rfl ?_; intro w7 hB7 hg7 hz7))
        refine bodyPost_ret (v := .agg (tcs A2 l2.length c2 false xs n)) (results_cellB (p := 2) rfl _ hB7 _ rfl Try.underlying35 rfl (by kernel_rfl)) rfl ⟨A2, c2, l2, by rw [HD.out], ?_, ?_⟩
        · rw [HTN.out]
          exact (HN.out.keep2 HL2.out rfl (fun p hp hlt => World.cell?_of_block (hg7.block p.block hlt (fun e => hp (by injection e))))).more (Nat.le_of_eq hz7.symm)
        · exact HBX.out.grown hg7 (by rw [HSZ.out]; omega) (fun k hk => by injection hk with hk; omega)
end Go.Proofs.Yteohkbikhbiojaa
