/- Plain law: the order of values is an order of any three; it is 0 just where the bytes are the same. Conditions: fields as the kinds say; bulk below 2^32. -/
import Derived.Test.YtacnoedhpamdmaaGreatDoorOc
namespace Go.Proofs.YtacnoedhpamdmaaGreatDoor
open Go.RowKit
set_option linter.unusedVariables false

/-- What an order says of three. -/
def T3 (p q r : Int) : Prop := (p ≤ 0 → q ≤ 0 → r ≤ 0) ∧ (p ≤ 0 → q ≤ 0 → p < 0 ∨ q < 0 → r < 0) ∧ (0 ≤ p → 0 ≤ q → 0 ≤ r) ∧ (0 ≤ p → 0 ≤ q → 0 < p ∨ 0 < q → 0 < r)
theorem T3.thn {p q r p' q' r' : Int} (h : T3 p q r) (k : p = 0 → q = 0 → T3 p' q' r') : T3 (thn p p') (thn q q') (thn r r') := by
  unfold T3 at *
  by_cases hp : p = 0
  · by_cases hq : q = 0
    · have hr : r = 0 := by omega
      subst hp hq hr
      rw [thn_zero, thn_zero, thn_zero]
      exact k rfl rfl
    · have hr : r ≠ 0 := by omega
      subst hp
      rw [thn_zero, thn_ne hq, thn_ne hr]
      omega
  · by_cases hq : q = 0
    · have hr : r ≠ 0 := by omega
      subst hq
      rw [thn_zero, thn_ne hp, thn_ne hr]
      omega
    · by_cases hr : r = 0
      · subst hr
        rw [thn_zero, thn_ne hp, thn_ne hq]
        omega
      · rw [thn_ne hp, thn_ne hq, thn_ne hr]
        omega
theorem icmp_T3 (a b c : Int) : T3 (icmp a b) (icmp b c) (icmp a c) := by
  unfold T3 icmp
  by_cases h1 : a < b <;> by_cases h2 : b < a <;> by_cases h3 : b < c <;> by_cases h4 : c < b <;> by_cases h5 : a < c <;> by_cases h6 : c < a <;> simp only [h1, h2, h3, h4, h5, h6, if_true, if_false] <;> omega
theorem icmp_neg (a b : Int) : icmp b a = - icmp a b := by
  unfold icmp
  by_cases h1 : a < b <;> by_cases h2 : b < a <;> simp only [h1, h2, if_true, if_false] <;> omega
theorem thn_neg (p p' : Int) : thn (-p) (-p') = - thn p p' := by
  unfold thn
  by_cases h : p = 0
  · subst h; rw [if_pos (by omega), if_pos rfl]
  · rw [if_neg (by omega), if_neg h]
def One3 (p : Int) : Prop := p = -1 ∨ p = 0 ∨ p = 1
theorem One3.thn {p p' : Int} (h : One3 p) (k : One3 p') : One3 (thn p p') := by
  unfold Go.Proofs.YtacnoedhpamdmaaGreatDoor.thn
  split
  · exact k
  · exact h
theorem icmp_one (a b : Int) : One3 (icmp a b) := by
  unfold icmp One3
  split
  · exact .inl rfl
  · split
    · exact .inr (.inr rfl)
    · exact .inr (.inl rfl)
theorem cb_cons (a b : UInt8) (x y : List UInt8) : Lib.compareBytes (a :: x) (b :: y) = thn (icmp a.toNat b.toNat) (Lib.compareBytes x y) := by
  rw [Lib.compareBytes]
  unfold thn icmp
  have e1 : (a < b) = ((a.toNat : Int) < (b.toNat : Int)) := by rw [UInt8.lt_iff_toNat_lt]; exact propext (by omega)
  have e2 : (b < a) = ((b.toNat : Int) < (a.toNat : Int)) := by rw [UInt8.lt_iff_toNat_lt]; exact propext (by omega)
  simp only [e1, e2]
  by_cases h1 : (a.toNat : Int) < b.toNat
  · simp only [h1, if_true]; rfl
  · by_cases h2 : (b.toNat : Int) < a.toNat
    · simp only [h1, h2, if_true, if_false]; rfl
    · simp only [h1, h2, if_false]; rfl
theorem cb_T3 : ∀ x y z : List UInt8, T3 (Lib.compareBytes x y) (Lib.compareBytes y z) (Lib.compareBytes x z)
  | [], [], [] => by unfold T3 Lib.compareBytes; omega
  | [], [], _ :: _ => by unfold T3 Lib.compareBytes; omega
  | [], _ :: _, [] => by unfold T3 Lib.compareBytes; omega
  | [], b :: y, c :: z => by
    have h1 : Lib.compareBytes [] (b :: y) = -1 := rfl
    have h2 : Lib.compareBytes [] (c :: z) = -1 := rfl
    rw [h1, h2]; unfold T3; omega
  | _ :: _, [], [] => by unfold T3 Lib.compareBytes; omega
  | a :: x, [], c :: z => by
    have h1 : Lib.compareBytes (a :: x) [] = 1 := rfl
    have h2 : Lib.compareBytes [] (c :: z) = -1 := rfl
    rw [h1, h2]; unfold T3; omega
  | a :: x, b :: y, [] => by
    have h1 : Lib.compareBytes (a :: x) [] = 1 := rfl
    have h2 : Lib.compareBytes (b :: y) [] = 1 := rfl
    rw [h1, h2]; unfold T3; omega
  | a :: x, b :: y, c :: z => by
    rw [cb_cons, cb_cons, cb_cons]
    exact (icmp_T3 _ _ _).thn fun _ _ => cb_T3 x y z
theorem cb_neg : ∀ x y : List UInt8, Lib.compareBytes y x = - Lib.compareBytes x y
  | [], [] => rfl
  | [], _ :: _ => rfl
  | _ :: _, [] => rfl
  | a :: x, b :: y => by rw [cb_cons, cb_cons, icmp_neg, cb_neg x y, thn_neg]
theorem cb_one : ∀ x y : List UInt8, One3 (Lib.compareBytes x y)
  | [], [] => .inr (.inl rfl)
  | [], _ :: _ => .inl rfl
  | _ :: _, [] => .inr (.inr rfl)
  | a :: x, b :: y => by rw [cb_cons]; exact (icmp_one _ _).thn (cb_one x y)
theorem cb_zero : ∀ x y : List UInt8, Lib.compareBytes x y = 0 → x = y
  | [], [] => fun _ => rfl
  | [], _ :: _ => fun h => by simp [Lib.compareBytes] at h
  | _ :: _, [] => fun h => by simp [Lib.compareBytes] at h
  | a :: x, b :: y => fun h => by
    rw [cb_cons] at h
    by_cases h0 : icmp a.toNat b.toNat = 0
    · rw [h0, thn_zero] at h
      have h1 := icmp_zero h0
      rw [cb_zero x y h, show a = b from UInt8.toNat_inj.1 (by omega)]
    · rw [thn_ne h0] at h
      exact absurd h h0
theorem scmp_zero {s t : ByteArray} (h : scmp s t = 0) : s = t := by
  have := cb_zero _ _ h
  cases s; cases t
  simp only at this
  rw [Array.toList_inj.1 this]
theorem scmp_self (s : ByteArray) : scmp s s = 0 := cb_self _
theorem scmp_T3 (a b c : ByteArray) : T3 (scmp a b) (scmp b c) (scmp a c) := cb_T3 _ _ _
theorem fcmp_eq (a b : Nat) : fcmp a b = icmp (fkey a) (fkey b) := by
  unfold fcmp icmp
  have e1 : (fkey a < fkey b) = ((fkey a : Int) < (fkey b : Int)) := propext (by omega)
  have e2 : (fkey b < fkey a) = ((fkey b : Int) < (fkey a : Int)) := propext (by omega)
  simp only [e1, e2]
theorem T3.zero : T3 0 0 0 := by unfold T3; omega
theorem ordL_T3 : ∀ (its : List Val), (∀ v ∈ its, ∀ b c, T3 (ord v b) (ord b c) (ord v c)) → ∀ (m : Bool) (n n' n'' : List ByteArray) (l' l'' : List Val), T3 (ordL m n its n' l') (ordL m n' l' n'' l'') (ordL m n its n'' l'') := by
  intro its
  induction its with
  | nil =>
    intro _ m n n' n'' l' l''
    cases l' with
    | nil =>
      cases l'' with
      | nil => simp only [ordL]; unfold T3; omega
      | cons c l'' => simp only [ordL]; unfold T3; omega
    | cons b l' =>
      cases l'' with
      | nil => simp only [ordL]; unfold T3; omega
      | cons c l'' => rw [ordL, ordL]; unfold T3; omega
  | cons a its il =>
    intro ih m n n' n'' l' l''
    cases l' with
    | nil =>
      cases l'' with
      | nil => simp only [ordL]; unfold T3; omega
      | cons c l'' => rw [ordL, ordL]; unfold T3; omega
    | cons b l' =>
      cases l'' with
      | nil => rw [ordL.eq_3, ordL.eq_3]; unfold T3; omega
      | cons c l'' =>
        rw [ordL, ordL, ordL]
        refine T3.thn ?_ fun _ _ => T3.thn (ih a List.mem_cons_self b c) fun _ _ => il (fun v hv => ih v (List.mem_cons_of_mem _ hv)) m _ _ _ _ _
        cases m
        · exact T3.zero
        · exact scmp_T3 _ _ _
theorem ord_T3 : ∀ a b c : Val, T3 (ord a b) (ord b c) (ord a c) := by
  refine Val.ind fun a ih b c => ?_
  rw [ord_eq, ord_eq, ord_eq]
  refine (icmp_T3 _ _ _).thn fun hab _ => (icmp_T3 _ _ _).thn fun _ _ => ?_
  rw [fcmp_eq, fcmp_eq, fcmp_eq]
  refine (icmp_T3 _ _ _).thn fun _ _ => (scmp_T3 _ _ _).thn fun _ _ => ?_
  rw [← icmp_zero hab]
  exact ordL_T3 _ ih _ _ _ _ _ _
theorem ord_neg : ∀ a b : Val, ord b a = - ord a b := by
  refine Val.ind fun a ih b => ?_
  rw [ord_eq, ord_eq]
  have key : ∀ (l : List Val), (∀ v ∈ l, ∀ b, ord b v = - ord v b) → ∀ (m : Bool) (n n' : List ByteArray) (l' : List Val), ordL m n' l' n l = - ordL m n l n' l' := by
    intro l
    induction l with
    | nil =>
      intro _ m n n' l'
      cases l' with
      | nil => simp only [ordL]; rfl
      | cons b l' => simp only [ordL]; rfl
    | cons v l il =>
      intro ih m n n' l'
      cases l' with
      | nil => simp only [ordL]
      | cons b l' =>
        rw [ordL, ordL, ih v List.mem_cons_self b, il (fun v hv => ih v (List.mem_cons_of_mem _ hv)), show (bif m then scmp (n'.headD ⟨#[]⟩) (n.headD ⟨#[]⟩) else 0) = -(bif m then scmp (n.headD ⟨#[]⟩) (n'.headD ⟨#[]⟩) else 0) by cases m; exact rfl; exact cb_neg _ _, thn_neg, thn_neg]
  rw [icmp_neg a.k b.k, icmp_neg a.i b.i, fcmp_eq, fcmp_eq, icmp_neg (fkey a.f : Int), show scmp b.t a.t = - scmp a.t b.t from cb_neg _ _]
  by_cases hk : icmp a.k b.k = 0
  · rw [← icmp_zero hk, key a.its (fun v hv b => ih v hv b), thn_neg, thn_neg, thn_neg, thn_neg]
  · rw [thn_ne hk, thn_ne (by omega)]
theorem ord_one : ∀ a b : Val, One3 (ord a b) := by
  refine Val.ind fun a ih b => ?_
  rw [ord_eq]
  have key : ∀ (l : List Val), (∀ v ∈ l, ∀ b, One3 (ord v b)) → ∀ (m : Bool) (n n' : List ByteArray) (l' : List Val), One3 (ordL m n l n' l') := by
    intro l
    induction l with
    | nil =>
      intro _ m n n' l'
      cases l' with
      | nil => simp only [ordL]; exact .inr (.inl rfl)
      | cons b l' => simp only [ordL]; exact .inl rfl
    | cons v l il =>
      intro ih m n n' l'
      cases l' with
      | nil => simp only [ordL]; exact .inr (.inr rfl)
      | cons b l' =>
        rw [ordL]
        refine One3.thn ?_ ((ih v List.mem_cons_self b).thn (il (fun v hv => ih v (List.mem_cons_of_mem _ hv)) _ _ _ _))
        cases m
        · exact .inr (.inl rfl)
        · exact cb_one _ _
  rw [fcmp_eq]
  exact (icmp_one _ _).thn ((icmp_one _ _).thn ((icmp_one _ _).thn ((cb_one _ _).thn (key _ ih _ _ _ _))))
theorem ord_self (a : Val) : ord a a = 0 := by have := ord_neg a a; omega
theorem fkey_inj' {a b : Nat} (ha : a < 18446744073709551616) (hb : b < 18446744073709551616) (h : fkey a = fkey b) : fone a = fone b := by
  rcases h1 : fnan a with _ | _ <;> rcases h2 : fnan b with _ | _
  · have k1 := fnan_no h1
    have k2 := fnan_no h2
    unfold fkey at h
    rw [h1, h2] at h
    rw [fone_no h1, fone_no h2]
    simp only [Bool.false_eq_true, if_false] at h
    split at h <;> split at h <;> omega
  · have k1 := fnan_no h1
    unfold fkey at h
    rw [h1, h2] at h
    simp only [Bool.false_eq_true, if_false, if_true] at h
    split at h <;> omega
  · have k2 := fnan_no h2
    unfold fkey at h
    rw [h1, h2] at h
    simp only [Bool.false_eq_true, if_false, if_true] at h
    split at h <;> omega
  · rw [fone_yes h1, fone_yes h2]
theorem fkey_of_fone {a b : Nat} (h : fone a = fone b) : fkey a = fkey b := by
  have e : ∀ x, fkey (fone x) = fkey x := fun x => by
    unfold fone
    cases h1 : fnan x with
    | false => rw [if_neg (by decide)]
    | true => rw [if_pos rfl]; unfold fkey; rw [h1, if_pos rfl, if_pos (by decide)]
  rw [← e a, h, e]
/-- What the fields of a value that may be are like. -/
structure Leaf (k i : Int) (f : Nat) (t : ByteArray) (n : Nat) : Prop where
  i1 : k = 1 → i = 0 ∨ i = 1
  i0 : k ≠ 1 → k ≠ 2 → i = 0
  ir : -9223372036854775808 ≤ i ∧ i < 9223372036854775808
  f0 : k ≠ 3 → fone f = 0
  fr : f < 18446744073709551616
  t0 : k ≠ 4 → k ≠ 5 → k ≠ 8 → t.size = 0
  tr : t.size < 4294967296
  n0 : k ≠ 6 → k ≠ 7 → n = 0
  nr : n < 4294967296
theorem leaf_of {v : Val} (h : okV v) (hw : wfV v) (hb : bnd v ≤ 1048576) : Leaf v.k v.i v.f v.t v.its.length := by
  have hf := okV_self h
  unfold flds at hf
  simp only [Bool.and_eq_true, decide_eq_true_eq] at hf
  obtain ⟨⟨⟨⟨⟨⟨h1, h2⟩, h3⟩, h4⟩, h5⟩, h6⟩, h7⟩ := hf
  simp only [Bool.or_eq_true, Bool.and_eq_true, beq_iff_eq] at h2 h3 h4 h6
  have hl := bnd_len v
  obtain ⟨w1, w2, w3⟩ := wfV_own hw
  have w2 : -9223372036854775808 ≤ v.i ∧ v.i < 9223372036854775808 := by
    simp [Lit.wf, IntKind.min, IntKind.max, IntKind.bits, IntKind.signed] at w2
    omega
  refine ⟨fun e => ?_, fun e1 e2 => ?_, ?_, fun e => ?_, wfV_f hw, fun e1 e2 e3 => ?_, by omega, fun e1 e2 => ?_, by omega⟩
  · rw [e] at h3; omega
  · omega
  · exact w2
  · rcases h2 with h2 | h2
    · exact absurd h2 e
    · exact h2
  · omega
  · omega
theorem u64N_inj {i j : Int} (hi : -9223372036854775808 ≤ i ∧ i < 9223372036854775808) (hj : -9223372036854775808 ≤ j ∧ j < 9223372036854775808) (h : u64N i = u64N j) : i = j := by
  unfold u64N at h; omega
theorem u64N_lt (i : Int) : u64N i < 256 ^ 8 := by
  unfold u64N
  rw [show (256 : Nat) ^ 8 = 18446744073709551616 from by decide +kernel]
  omega
theorem leaf_split {k i i' : Int} {f f' : Nat} {t t' : ByteArray} {n n' : Nat} {r r' : List Int} (h : Leaf k i f t n) (h' : Leaf k i' f' t' n') (e : leafB k i f t n ++ r = leafB k i' f' t' n' ++ r') : i = i' ∧ fone f = fone f' ∧ t = t' ∧ n = n' ∧ r = r' := by
  have hz : ∀ s : ByteArray, s.size = 0 → s = ⟨#[]⟩ := fun s hs => by
    cases s with | mk d => rw [Array.eq_empty_of_size_eq_zero (show d.size = 0 from hs)]
  have hfr : ∀ x : Nat, x < 18446744073709551616 → fone x < 256 ^ 8 := fun x hx => by
    rw [show (256 : Nat) ^ 8 = 18446744073709551616 from by decide +kernel]
    unfold fone
    split <;> omega
  unfold leafB at e
  by_cases k1 : k = 1
  · rw [if_pos k1, if_pos k1] at e
    injection e with e1 e2
    have a := h.i1 k1
    have a' := h'.i1 k1
    refine ⟨?_, by rw [h.f0 (by omega), h'.f0 (by omega)], by rw [hz t (h.t0 (by omega) (by omega) (by omega)), hz t' (h'.t0 (by omega) (by omega) (by omega))], by rw [h.n0 (by omega) (by omega), h'.n0 (by omega) (by omega)], e2⟩
    rcases a with rfl | rfl <;> rcases a' with rfl | rfl <;> simp at e1 <;> rfl
  rw [if_neg k1, if_neg k1] at e
  by_cases k2 : k = 2
  · rw [if_pos k2, if_pos k2] at e
    obtain ⟨e1, e2⟩ := List.append_inj e (by rw [leB_len, leB_len])
    exact ⟨u64N_inj h.ir h'.ir (leB_inj 8 _ _ (u64N_lt _) (u64N_lt _) e1), by rw [h.f0 (by omega), h'.f0 (by omega)], by rw [hz t (h.t0 (by omega) (by omega) (by omega)), hz t' (h'.t0 (by omega) (by omega) (by omega))], by rw [h.n0 (by omega) (by omega), h'.n0 (by omega) (by omega)], e2⟩
  rw [if_neg k2, if_neg k2] at e
  have hi : i = i' := by rw [h.i0 k1 k2, h'.i0 k1 k2]
  by_cases k3 : k = 3
  · rw [if_pos k3, if_pos k3] at e
    obtain ⟨e1, e2⟩ := List.append_inj e (by rw [leB_len, leB_len])
    exact ⟨hi, leB_inj 8 _ _ (hfr _ h.fr) (hfr _ h'.fr) e1, by rw [hz t (h.t0 (by omega) (by omega) (by omega)), hz t' (h'.t0 (by omega) (by omega) (by omega))], by rw [h.n0 (by omega) (by omega), h'.n0 (by omega) (by omega)], e2⟩
  rw [if_neg k3, if_neg k3] at e
  have hf : fone f = fone f' := by rw [h.f0 k3, h'.f0 k3]
  by_cases k4 : k = 4 ∨ k = 5 ∨ k = 8
  · rw [if_pos k4, if_pos k4, List.append_assoc, List.append_assoc] at e
    obtain ⟨e1, e2⟩ := List.append_inj e (by rw [leB_len, leB_len])
    have hs := leB_inj 4 _ _ (by have := h.tr; omega) (by have := h'.tr; omega) e1
    obtain ⟨e3, e4⟩ := List.append_inj e2 (by rw [txB_len, txB_len, hs])
    exact ⟨hi, hf, txB_inj e3, by rw [h.n0 (by omega) (by omega), h'.n0 (by omega) (by omega)], e4⟩
  rw [if_neg k4, if_neg k4] at e
  have ht : t = t' := by rw [hz t (h.t0 (by omega) (by omega) (by omega)), hz t' (h'.t0 (by omega) (by omega) (by omega))]
  by_cases k6 : k = 6 ∨ k = 7
  · rw [if_pos k6, if_pos k6] at e
    obtain ⟨e1, e2⟩ := List.append_inj e (by rw [leB_len, leB_len])
    exact ⟨hi, hf, ht, leB_inj 4 _ _ (by have := h.nr; omega) (by have := h'.nr; omega) e1, e2⟩
  · rw [if_neg k6, if_neg k6] at e
    exact ⟨hi, hf, ht, by rw [h.n0 (by omega) (by omega), h'.n0 (by omega) (by omega)], by simpa using e⟩
theorem nmB_split {s s' : ByteArray} {r r' : List Int} (hs : s.size < 4294967296) (hs' : s'.size < 4294967296) (e : nmB true s ++ r = nmB true s' ++ r') : s = s' ∧ r = r' := by
  simp only [nmB, cond_true, List.append_assoc] at e
  obtain ⟨e1, e2⟩ := List.append_inj e (by rw [leB_len, leB_len])
  have hz := leB_inj 4 _ _ (by omega) (by omega) e1
  obtain ⟨e3, e4⟩ := List.append_inj e2 (by rw [txB_len, txB_len, hz])
  exact ⟨txB_inj e3, e4⟩
/-- A value that may be, with bounds. -/
structure Fit (v : Val) : Prop where
  ok : okV v
  wf : wfV v
  bd : bnd v ≤ 1048576
theorem Fit.item {v w : Val} (h : Fit v) (hw : w ∈ v.its) : Fit w := ⟨okV_item h.ok hw, wfV_item h.wf hw, by have := bnd_item hw; have := h.bd; omega⟩
theorem name_size {v : Val} (h : Fit v) {s : ByteArray} (hs : s ∈ v.nms) : s.size < 4294967296 := by
  have h1 := sum_mem hs
  have h2 := bnd_eq v
  have h3 := h.bd
  omega
theorem head_size {l : List ByteArray} (h : ∀ s ∈ l, s.size < 4294967296) : (l.headD ⟨#[]⟩).size < 4294967296 := by
  cases l with
  | nil => decide
  | cons a l => exact h a List.mem_cons_self
/-- Bytes tell what follows, and values that are 0 to one another. -/
theorem byt_split : ∀ a b : Val, Fit a → Fit b → ∀ r r' : List Int, byt a ++ r = byt b ++ r' → ord a b = 0 ∧ r = r' := by
  refine Val.ind fun a ih b ha hb r r' e => ?_
  rw [byt_eq, byt_eq, List.cons_append, List.cons_append, List.append_assoc, List.append_assoc] at e
  injection e with ek e
  have la := leaf_of ha.ok ha.wf ha.bd
  have lb := leaf_of hb.ok hb.wf hb.bd
  rw [← ek] at e lb
  obtain ⟨e1, e2, e3, e4, e5⟩ := leaf_split la lb e
  have key : ∀ (l l' : List Val), (∀ v ∈ l, v ∈ a.its) → (∀ v ∈ l', v ∈ b.its) → l.length = l'.length → ∀ (n n' : List ByteArray), (∀ s ∈ n, s.size < 4294967296) → (∀ s ∈ n', s.size < 4294967296) → ∀ r r', bytL (a.k == 7) l n ++ r = bytL (a.k == 7) l' n' ++ r' → ordL (a.k == 7) n l n' l' = 0 ∧ r = r' := by
    intro l
    induction l with
    | nil =>
      intro l' _ _ hl n n' _ _ r r' e
      cases l' with
      | nil => rw [bytL, bytL] at e; exact ⟨by rw [ordL], e⟩
      | cons b l' => simp at hl
    | cons v l il =>
      intro l' hv hv' hl n n' hn hn' r r' e
      cases l' with
      | nil => simp at hl
      | cons u l' =>
        rw [bytL, bytL, List.append_assoc, List.append_assoc, List.append_assoc, List.append_assoc] at e
        rw [ordL]
        have hm := hv v List.mem_cons_self
        have hm' := hv' u List.mem_cons_self
        have rest : ∀ e : byt v ++ (bytL (a.k == 7) l n.tail ++ r) = byt u ++ (bytL (a.k == 7) l' n'.tail ++ r'), thn (ord v u) (ordL (a.k == 7) n.tail l n'.tail l') = 0 ∧ r = r' := fun e => by
          obtain ⟨h1, h2⟩ := ih v hm u (ha.item hm) (hb.item hm') _ _ e
          rw [h1, thn_zero]
          exact il l' (fun x hx => hv x (List.mem_cons_of_mem _ hx)) (fun x hx => hv' x (List.mem_cons_of_mem _ hx)) (by simpa using hl) _ _ (fun s hs => hn s (List.mem_of_mem_tail hs)) (fun s hs => hn' s (List.mem_of_mem_tail hs)) _ _ h2
        by_cases h7 : (a.k == 7) = true
        · rw [h7] at e rest ⊢
          obtain ⟨h1, h2⟩ := nmB_split (head_size hn) (head_size hn') e
          rw [h1, cond_true, scmp_self, thn_zero]
          exact rest h2
        · have h7' : (a.k == 7) = false := by simpa using h7
          rw [h7'] at e rest ⊢
          rw [cond_false, thn_zero]
          exact rest e
  obtain ⟨h1, h2⟩ := key a.its b.its (fun _ h => h) (fun _ h => h) e4 a.nms b.nms (fun s hs => name_size ha hs) (fun s hs => name_size hb hs) _ _ e5
  rw [ord_eq, ← ek, icmp_self, e1, icmp_self, fcmp_eq, fkey_of_fone e2, icmp_self, e3, scmp_self, thn_zero, thn_zero, thn_zero, thn_zero]
  exact ⟨h1, h2⟩
theorem byt_of_ord : ∀ a b : Val, Fit a → Fit b → ord a b = 0 → byt a = byt b := by
  refine Val.ind fun a ih b ha hb e => ?_
  have z : ∀ {p q : Int}, thn p q = 0 → p = 0 ∧ q = 0 := fun {p q} h => by
    by_cases hp : p = 0
    · rw [hp, thn_zero] at h; exact ⟨hp, h⟩
    · rw [thn_ne hp] at h; exact absurd h hp
  rw [ord_eq] at e
  obtain ⟨ek, e⟩ := z e
  obtain ⟨ei, e⟩ := z e
  obtain ⟨ef, e⟩ := z e
  obtain ⟨et, e⟩ := z e
  have ek := icmp_zero ek
  have ei := icmp_zero ei
  rw [fcmp_eq] at ef
  have ef := fkey_inj' (wfV_f ha.wf) (wfV_f hb.wf) (by have := icmp_zero ef; omega)
  have et := scmp_zero et
  have key : ∀ (l l' : List Val), (∀ v ∈ l, v ∈ a.its) → (∀ v ∈ l', v ∈ b.its) → ∀ (n n' : List ByteArray), ordL (a.k == 7) n l n' l' = 0 → l.length = l'.length ∧ bytL (a.k == 7) l n = bytL (a.k == 7) l' n' := by
    intro l
    induction l with
    | nil =>
      intro l' _ _ n n' e
      cases l' with
      | nil => exact ⟨rfl, by rw [bytL, bytL]⟩
      | cons b l' => rw [ordL] at e; omega
    | cons v l il =>
      intro l' hv hv' n n' e
      cases l' with
      | nil => rw [ordL] at e; omega
      | cons u l' =>
        rw [ordL] at e
        obtain ⟨e1, e⟩ := z e
        obtain ⟨e2, e⟩ := z e
        obtain ⟨h1, h2⟩ := il l' (fun x hx => hv x (List.mem_cons_of_mem _ hx)) (fun x hx => hv' x (List.mem_cons_of_mem _ hx)) _ _ e
        have hm := hv v List.mem_cons_self
        have hm' := hv' u List.mem_cons_self
        refine ⟨by simp [h1], ?_⟩
        rw [bytL, bytL, h2, ih v hm u (ha.item hm) (hb.item hm') e2]
        congr 1
        cases h7 : (a.k == 7) with
        | false => rfl
        | true => rw [h7, cond_true] at e1; rw [scmp_zero e1]
  obtain ⟨h1, h2⟩ := key a.its b.its (fun _ h => h) (fun _ h => h) _ _ e
  rw [byt_eq, byt_eq, h2, h1, ek, ei, et, ← ek]
  congr 2
  unfold leafB
  rw [ef]
theorem ord_zero_iff {a b : Val} (ha : Fit a) (hb : Fit b) : ord a b = 0 ↔ byt a = byt b :=
  ⟨byt_of_ord a b ha hb, fun h => (byt_split a b ha hb [] [] (by rw [h])).1⟩
end Go.Proofs.YtacnoedhpamdmaaGreatDoor
