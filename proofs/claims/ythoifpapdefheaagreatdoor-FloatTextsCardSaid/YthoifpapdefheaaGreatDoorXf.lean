/- Plain law: the document's shortest digits of a rung are what shortFloat's arithmetic answers, noughts cut off (no program). Conditions: a rung above nought, below infinity's. -/
import Derived.Test.YthoifpapdefheaaGreatDoorXe
namespace Go.Proofs.YthoifpapdefheaaGreatDoor
set_option linter.unusedVariables false

theorem div_congr {X Y X' Y' : Nat} (hY : 0 < Y) (hY' : 0 < Y') (e : X * Y' = X' * Y) : X / Y = X' / Y' := by
  rw [← Nat.mul_div_mul_right X Y hY', e, Nat.mul_comm Y Y', Nat.mul_div_mul_right X' Y' hY]
section
variable {m n i : Nat} {x p : Int} (hx : (n : Int) - 1 - x = p - i)
include hx
theorem upN_eq : upN m x n = mman m * (2 ^ kx m * tenN (p - i).toNat) := by unfold upN; rw [hx, kv_man, Nat.mul_assoc]
theorem dnN_eq : dnN x n = T74 * tenN (i - p).toNat := by unfold dnN; rw [hx, Int.neg_sub]
theorem flN_eq : flN m x n = flG (4 * mman m * w4N (mexp m) p) (d4N (mexp m) p) i := by
  unfold flN flG
  rw [upN_eq hx, dnN_eq hx]
  have e := two_grids m p i
  refine div_congr (Nat.mul_pos T74_pos (tenN_pos _)) (Nat.mul_pos (tenN_pos _) (d4N_pos _ _)) ?_
  rw [Nat.mul_assoc, e]
  generalize T74 = t
  ac_rfl
theorem mdN_eq : midN m x n = mdG (4 * mman m * w4N (mexp m) p) (d4N (mexp m) p) i := by
  unfold midN mdG
  rw [flN_eq hx, upN_eq hx, dnN_eq hx]
  have e := two_grids m p i
  obtain ⟨c1, c2, c3⟩ := carry (Nat.mul_pos (tenN_pos i) (d4N_pos (mexp m) p)) (Nat.mul_pos (show 0 < 4 by decide) (Nat.mul_pos T74_pos (tenN_pos (i - p).toNat))) e (8 * mman m) (2 * flG (4 * mman m * w4N (mexp m) p) (d4N (mexp m) p) i + 1) 0
  generalize flG (4 * mman m * w4N (mexp m) p) (d4N (mexp m) p) i = f at *
  generalize T74 * tenN (i - p).toNat = T at *
  generalize 2 ^ kx m * tenN (p - i).toNat = A at *
  generalize tenN i * d4N (mexp m) p = G at *
  simp only [Nat.zero_mul, Nat.add_zero] at c1 c2 c3
  have a1 : (2 * f + 1) * (4 * T) = 4 * ((2 * f + 1) * T) := by ac_rfl
  have a2 : 8 * mman m * A = 4 * (2 * (mman m * A)) := by rw [show 8 = 4 * 2 from rfl]; ac_rfl
  have a3 : 8 * mman m * w4N (mexp m) p = 2 * (4 * mman m * w4N (mexp m) p) := by rw [show 8 = 2 * 4 from rfl]; ac_rfl
  rw [a1, a2, a3] at c2 c3
  have q1 : (2 * f + 1) * T < 2 * (mman m * A) ↔ (2 * f + 1) * G < 2 * (4 * mman m * w4N (mexp m) p) := by rw [← c3]; omega
  have q2 : (2 * f + 1) * T = 2 * (mman m * A) ↔ (2 * f + 1) * G = 2 * (4 * mman m * w4N (mexp m) p) := by
    constructor
    · intro h; exact (c2.1 (by omega)).symm
    · intro h; have := c2.2 h.symm; omega
  rw [decide_eq_decide.2 q1, decide_eq_decide.2 q2]
end
theorem nearB_iff {X D m : Nat} (hD : 0 < D) (h0 : 0 < m) : nearB X D = m ↔ Near X D m := by
  constructor
  · intro h
    unfold nearB at h
    split at h
    · rename_i hx
      rw [← h]
      exact hx.choose_spec
    · omega
  · exact nearB_eq hD
theorem near_iff {X t m : Nat} (h0 : 0 < m) (h1 : m < 9218868437227405312) : Near X t m ↔ ((kv (m - 1) + kv m) * t < 2 * X ∨ ((kv (m - 1) + kv m) * t = 2 * X ∧ m % 2 = 0)) ∧ (2 * X < (kv m + kv (m + 1)) * t ∨ (2 * X = (kv m + kv (m + 1)) * t ∧ m % 2 = 0)) := by
  constructor
  · intro hn
    exact ⟨hn.low.resolve_left (fun e => by rw [e] at h0; exact Nat.lt_irrefl 0 h0), hn.high.resolve_left (fun e => by rw [e] at h1; exact Nat.lt_irrefl _ h1)⟩
  · intro ⟨q1, q2⟩
    exact ⟨Nat.le_of_lt h1, .inr q1, .inr q2⟩
theorem near_ends {L U X Y A w δ M : Nat} {E : Prop} (m1 : 2 * L + δ * A = 4 * M * A) (m2 : 2 * U = 4 * M * A + 2 * A)
    (l1 : 4 * M * A < 4 * X + δ * A ↔ 4 * M * w < Y + δ * w) (l2 : 4 * M * A = 4 * X + δ * A ↔ 4 * M * w = Y + δ * w)
    (u2 : 4 * M * A + 2 * A = 4 * X ↔ 4 * M * w + 2 * w = Y) (u3 : 4 * X < 4 * M * A + 2 * A ↔ Y < 4 * M * w + 2 * w) :
    ((L < 2 * X ∨ (L = 2 * X ∧ E)) ∧ (2 * X < U ∨ (2 * X = U ∧ E))) ↔ ((4 * M * w < Y + δ * w ∨ (4 * M * w = Y + δ * w ∧ E)) ∧ (Y < 4 * M * w + 2 * w ∨ (Y = 4 * M * w + 2 * w ∧ E))) := by
  have a1 : L < 2 * X ↔ 4 * M * w < Y + δ * w := by rw [← l1]; omega
  have a2 : L = 2 * X ↔ 4 * M * w = Y + δ * w := by rw [← l2]; omega
  have a3 : 2 * X < U ↔ Y < 4 * M * w + 2 * w := by rw [← u3]; omega
  have a4 : 2 * X = U ↔ Y = 4 * M * w + 2 * w := by
    constructor
    · intro h; exact (u2.1 (by omega)).symm
    · intro h; have := u2.2 h.symm; omega
  rw [a1, a2, a3, a4]
theorem ends_mul {m t : Nat} (h0 : 0 < m) : 2 * ((kv (m - 1) + kv m) * t) + dlM m * (2 ^ kx m * t) = 4 * mman m * (2 ^ kx m * t) ∧ 2 * ((kv m + kv (m + 1)) * t) = 4 * mman m * (2 ^ kx m * t) + 2 * (2 ^ kx m * t) := by
  obtain ⟨k1, k2⟩ := dlM_kv h0
  generalize kv (m - 1) + kv m = L at *
  generalize kv m + kv (m + 1) = U at *
  generalize 2 ^ kx m = a at *
  generalize mman m = M at *
  generalize dlM m = δ at *
  have m1 : (2 * L + δ * a) * t = 4 * (M * a) * t := by rw [k1]
  have m2 : 2 * U * t = (4 * (M * a) + 2 * a) * t := by rw [k2]
  rw [Nat.add_mul] at m1 m2
  refine ⟨?_, ?_⟩
  · rw [← Nat.mul_assoc, ← Nat.mul_assoc, m1]; ac_rfl
  · rw [← Nat.mul_assoc, m2]; congr 1 <;> ac_rfl
theorem rdN_mid {m d i ti tj D w T : Nat} {E : Prop} (h0 : 0 < m) (e : 2 ^ kx m * ti * (tenN i * D) = w * (4 * (T * tj))) (hG : 0 < tenN i * D) (hT : 0 < T) (hj : 0 < tj) :
    (((kv (m - 1) + kv m) * ti < 2 * (d * tj * T) ∨ ((kv (m - 1) + kv m) * ti = 2 * (d * tj * T) ∧ E)) ∧ (2 * (d * tj * T) < (kv m + kv (m + 1)) * ti ∨ (2 * (d * tj * T) = (kv m + kv (m + 1)) * ti ∧ E))) ↔
      ((4 * mman m * w < d * tenN i * D + dlM m * w ∨ (4 * mman m * w = d * tenN i * D + dlM m * w ∧ E)) ∧ (d * tenN i * D < 4 * mman m * w + 2 * w ∨ (d * tenN i * D = 4 * mman m * w + 2 * w ∧ E))) := by
  have hB : 0 < 4 * (T * tj) := Nat.mul_pos (by decide) (Nat.mul_pos hT hj)
  have eX : d * (4 * (T * tj)) = 4 * (d * tj * T) := by ac_rfl
  obtain ⟨m1, m2⟩ := ends_mul (t := ti) h0
  obtain ⟨l1, l2, l3⟩ := carry hG hB e (4 * mman m) d (dlM m)
  obtain ⟨u1, u2, u3⟩ := carry hG hB e (4 * mman m + 2) d 0
  have eG : d * (tenN i * D) = d * tenN i * D := (Nat.mul_assoc _ _ _).symm
  rw [eG, eX] at l1 l2 u2 u3
  simp only [Nat.zero_mul, Nat.add_zero] at u2 u3
  rw [Nat.add_mul, Nat.add_mul] at u2 u3
  exact near_ends m1 m2 l1 l2 u2 u3
theorem rdN_iff {m a b : Nat} {p : Int} (h0 : 0 < m) (h1 : m < 9218868437227405312) (h : Ivl (mman m) (dlM m) (w4N (mexp m) p) (d4N (mexp m) p) a b (m % 2 = 0)) (d i : Nat) :
    rdN d (i - p) = m ↔ a ≤ d * tenN i ∧ d * tenN i ≤ b := by
  unfold rdN
  rw [nearB_iff (tenN_pos _) h0, Int.neg_sub, h.lo, h.hi, near_iff h0 h1]
  have e := two_grids m p i
  have hG := Nat.mul_pos (tenN_pos i) (d4N_pos (mexp m) p)
  have hT := T74_pos
  generalize T74 = T at e hT ⊢
  exact rdN_mid h0 e hG hT (tenN_pos _)
theorem isX_of {m J : Nat} {p : Int} (hJ1 : tenN J * d4N (mexp m) p ≤ 4 * mman m * w4N (mexp m) p) (hJ2 : 4 * mman m * w4N (mexp m) p < tenN (J + 1) * d4N (mexp m) p) : IsX (kv m) T74 (J - p) := by
  have one : ∀ i : Nat, geT (kv m) T74 ((i : Int) - p) ↔ ¬ 4 * mman m * w4N (mexp m) p < tenN i * d4N (mexp m) p := fun i => by
    unfold geT
    rw [Int.neg_sub, kv_man, Nat.mul_assoc (mman m)]
    obtain ⟨c1, _, _⟩ := carry (Nat.mul_pos (tenN_pos i) (d4N_pos (mexp m) p)) (Nat.mul_pos (show 0 < 4 by decide) (Nat.mul_pos T74_pos (tenN_pos (i - p).toNat))) (two_grids m p i) (4 * mman m) 1 0
    simp only [Nat.zero_mul, Nat.add_zero, Nat.one_mul] at c1
    rw [Nat.mul_assoc 4 (mman m) (2 ^ kx m * _)] at c1
    rw [← c1]
    omega
  refine ⟨(one J).2 (by omega), fun hg => ?_⟩
  rw [show (J : Int) - p + 1 = ((J + 1 : Nat) : Int) - p from by omega] at hg
  exact (one (J + 1)).1 hg hJ2
/-- The document stops at the first number of digits that serves. -/
theorem shGo_first {m N : Nat} {x : Int} (hN : N ≤ 17) (hs : blwN m x N = true ∨ abvN m x N = true) : ∀ f n : Nat, n + f = 18 → n ≤ N → (∀ l, n ≤ l → l < N → ¬ (blwN m x l = true ∨ abvN m x l = true)) → shGo m x f n = (stripD (candN m x N), x + lenD (candN m x N) - N)
  | 0, n, hf, hn, _ => by omega
  | f + 1, n, hf, hn, hl => by
    rcases Nat.lt_or_ge n N with hlt | hge
    · have h1 := hl n (Nat.le_refl _) hlt
      have hb : blwN m x n = false := by cases q : blwN m x n; · rfl
                                         · exact (h1 (.inl q)).elim
      have ha : abvN m x n = false := by cases q : abvN m x n; · rfl
                                         · exact (h1 (.inr q)).elim
      rw [shGo_go hb ha]
      exact shGo_first hN hs f (n + 1) (by omega) hlt (fun l l1 l2 => hl l (by omega) l2)
    · obtain rfl : n = N := by omega
      rw [shGo_stop hs]
theorem stripD_ten {d : Nat} (h : 0 < d) : ∀ i, stripD (d * tenN i) = stripD d
  | 0 => by rw [tenN_zero, Nat.mul_one]
  | i + 1 => by
    rw [tenN_succ, ← Nat.mul_assoc, stripD_go (Nat.mul_pos (Nat.mul_pos h (tenN_pos i)) (by decide)) (Nat.mul_mod_left _ _), Nat.mul_div_cancel _ (by decide)]
    exact stripD_ten h i
theorem lenD_ten {d : Nat} (h : 0 < d) : ∀ i, lenD (d * tenN i) = lenD d + i
  | 0 => by rw [tenN_zero, Nat.mul_one]; rfl
  | i + 1 => by
    have hp := Nat.mul_pos h (tenN_pos i)
    rw [tenN_succ, ← Nat.mul_assoc, lenD_big (by omega), Nat.mul_div_cancel _ (by decide), lenD_ten h i]
    omega
theorem dM_eq {m z : Nat} (h1 : m < 9218868437227405312) (h0 : 0 < m) (hz : 11 ≤ z) (hz2 : z ≤ 63) (hM : mman m * 2 ^ z < 18446744073709551616) :
    prD (4 * mman m * w4N (mexp m) (pM m)) (d4N (mexp m) (pM m)) (aM m z) (bM m z) = (dM m z, if aM m z ≤ bM m z / 10 * 10 then 1 else 0) := by
  have hx : mman m * 2 ^ z = 4 * mman m * 2 ^ (z - 2) := by
    rw [show z = z - 2 + 2 from by omega, Nat.pow_add, Nat.add_sub_cancel]
    rw [show (2 : Nat) ^ 2 = 4 from rfl]
    ac_rfl
  have hM1 := mman_one h0
  have hu := (uAt_eq (m := m) (z := z) (c := 4 * mman m) h1 hz hz2 (by omega) (by rw [← hx]; exact hM)).1
  rw [← hx] at hu
  have hr := ur_round (A := 4 * mman m * w4N (mexp m) (pM m)) (d4N_pos (mexp m) (pM m))
  rw [← hu] at hr
  unfold prD dM
  rw [hr]
  split <;> rfl
/-- The law. -/
theorem short_law {m z : Nat} (h0 : 0 < m) (h1 : m < 9218868437227405312) (hz : 11 ≤ z) (hz2 : z ≤ 63) (hM : mman m * 2 ^ z < 18446744073709551616) :
    shortM m = (stripD (dM m z), lenD (dM m z) + eM m z - 1) ∧ 0 < dM m z := by
  have hI := ivlM h0 h1 hz hz2 hM
  have hk := kOkM h1
  have hpr := dM_eq h1 h0 hz hz2 hM
  have he : eM m z = ((if aM m z ≤ bM m z / 10 * 10 then 1 else 0 : Nat) : Int) - pM m := by unfold eM; split <;> omega
  obtain ⟨q, hq⟩ : ∃ q : Nat, (if aM m z ≤ bM m z / 10 * 10 then 1 else 0) = q := ⟨_, rfl⟩
  rw [hq] at hpr he
  generalize dM m z = d at *
  generalize aM m z = a at *
  generalize bM m z = b at *
  have hV1 : d4N (mexp m) (pM m) ≤ 4 * mman m * w4N (mexp m) (pM m) := by
    have := hI.M1
    have := hI.wide
    have : (2 + dlM m) * w4N (mexp m) (pM m) ≤ 4 * mman m * w4N (mexp m) (pM m) := Nat.mul_le_mul_right _ (by have := hI.d2; omega)
    omega
  have hV2 : 4 * mman m * w4N (mexp m) (pM m) < 100000000000000000 * d4N (mexp m) (pM m) := by
    have s := hI.slim
    have hl := mman_lt (m := m) (by omega)
    rcases dlM_12 m with e | e
    · rw [e] at s
      have hm : mman m = 4503599627370496 := by
        unfold dlM at e
        unfold mman
        split at e
        · split <;> omega
        · omega
      rw [hm]
      omega
    · rw [e] at s
      have : 4 * mman m * w4N (mexp m) (pM m) ≤ 4 * 9007199254740992 * w4N (mexp m) (pM m) := Nat.mul_le_mul_right _ (by omega)
      omega
  obtain ⟨J, _, hJ, hJ1, hJ2⟩ := last_stop (P := fun j => tenN j * d4N (mexp m) (pM m) ≤ 4 * mman m * w4N (mexp m) (pM m)) (J := 16) (i := 0) (by omega) (by rw [tenN_zero, Nat.one_mul]; exact hV1)
  have hJ3 : 4 * mman m * w4N (mexp m) (pM m) < tenN (J + 1) * d4N (mexp m) (pM m) := by
    rcases Nat.lt_or_ge J 16 with l | l
    · have := hJ2 (J + 1) (by omega) (by omega)
      omega
    · obtain rfl : J = 16 := by omega
      exact hV2
  have hX := isX_of hJ1 hJ3
  obtain ⟨i, i1, i2, i3, i4⟩ := prD_law hI hJ1 hJ3
  rw [hpr] at i4
  have hxM : xM m = (J : Int) - pM m := xOf_eq hX
  -- what serves on a grid
  have hbl : ∀ l n : Nat, n + l = J + 1 → blwN m (xM m) n = blG (4 * mman m * w4N (mexp m) (pM m)) (d4N (mexp m) (pM m)) a b l ∧ abvN m (xM m) n = abG (4 * mman m * w4N (mexp m) (pM m)) (d4N (mexp m) (pM m)) a b l ∧ midN m (xM m) n = mdG (4 * mman m * w4N (mexp m) (pM m)) (d4N (mexp m) (pM m)) l ∧ flN m (xM m) n = flG (4 * mman m * w4N (mexp m) (pM m)) (d4N (mexp m) (pM m)) l := by
    intro l n hn
    have hx : (n : Int) - 1 - xM m = pM m - l := by rw [hxM]; omega
    have hx2 : xM m - n + 1 = (l : Int) - pM m := by omega
    have f1 := flN_eq (m := m) hx
    refine ⟨?_, ?_, mdN_eq hx, f1⟩
    · unfold blwN blG
      rw [f1, hx2, decide_eq_decide.2 (rdN_iff h0 h1 hI _ l), Bool.decide_and]
    · unfold abvN abG
      rw [f1, hx2, decide_eq_decide.2 (rdN_iff h0 h1 hI _ l), Bool.decide_and]
  obtain ⟨b1, b2, b3, b4⟩ := hbl i (J + 1 - i) (by omega)
  have hcd : candN m (xM m) (J + 1 - i) = cdG (4 * mman m * w4N (mexp m) (pM m)) (d4N (mexp m) (pM m)) a b i := by
    unfold candN cdG
    rw [b1, b2, b3, b4]
  have hsh := shGo_first (m := m) (x := xM m) (N := J + 1 - i) (by omega) (by rw [b1, b2]; exact i2) 17 1 rfl (by omega) (fun l l1 l2 => by
    obtain ⟨c1, c2, _, _⟩ := hbl (J + 1 - l) l (by omega)
    rw [c1, c2]
    exact i3 _ (by omega) (by omega))
  rw [hcd] at hsh
  have hin := cdG_in i2
  have ha1 := hI.a1
  have hc0 : 0 < cdG (4 * mman m * w4N (mexp m) (pM m)) (d4N (mexp m) (pM m)) a b i := by
    rcases Nat.eq_zero_or_pos (cdG (4 * mman m * w4N (mexp m) (pM m)) (d4N (mexp m) (pM m)) a b i) with e | e
    · rw [e, Nat.zero_mul] at hin; omega
    · exact e
  generalize cdG (4 * mman m * w4N (mexp m) (pM m)) (d4N (mexp m) (pM m)) a b i = c at *
  have hd0 : 0 < d := by
    rcases Nat.eq_zero_or_pos d with e | e
    · subst e
      have := Nat.mul_pos hc0 (tenN_pos i)
      simp only at i4
      omega
    · exact e
  refine ⟨?_, hd0⟩
  unfold shortM
  rw [hsh]
  have e1 : stripD c = stripD d := by rw [← stripD_ten hc0 i, i4, stripD_ten hd0 q]
  have e2 : lenD c + i = lenD d + q := by rw [← lenD_ten hc0 i, i4, lenD_ten hd0 q]
  rw [e1, he, hxM]
  congr 1
  omega
end Go.Proofs.YthoifpapdefheaaGreatDoor
