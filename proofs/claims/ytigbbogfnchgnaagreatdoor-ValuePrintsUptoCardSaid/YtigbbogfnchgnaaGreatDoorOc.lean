/- Plain words: the bytes of a value, lowest first; how many they are; what is added to a row of the call's own. Conditions: none. -/
import Derived.Test.YtigbbogfnchgnaaGreatDoorOa
import Derived.Lib.AppendStr
namespace Go.Proofs.YtigbbogfnchgnaaGreatDoor
open Go.RowKit
set_option linter.unusedVariables false

/-- Bytes as cells. -/
abbrev u8s (xs : List Int) : List Value := xs.map (Value.int .u8)
theorem u8s_one (xs : List Int) : ∀ u ∈ u8s xs, u.oneCell' = true := by intro u hu; obtain ⟨z, _, rfl⟩ := List.mem_map.1 hu; rfl
theorem getD_u8s {xs : List Int} {k : Nat} (h : k < xs.length) : (u8s xs).getD k undef = .int .u8 (xs.getD k 0) := by
  simp [List.getD, List.getElem?_eq_getElem h]
/-- Are these bytes? -/
def Bts (xs : List Int) : Prop := ∀ z ∈ xs, 0 ≤ z ∧ z < 256
theorem Bts.app {xs ys : List Int} (h : Bts xs) (k : Bts ys) : Bts (xs ++ ys) := fun z hz => (List.mem_append.1 hz).elim (h z) (k z)
theorem Bts.nil : Bts [] := fun z hz => absurd hz (by simp)
/-- A number's n lowest bytes, the lowest first. -/
def leB : Nat → Nat → List Int
  | 0, _ => []
  | n + 1, x => ((x % 256 : Nat) : Int) :: leB n (x / 256)
theorem leB_len : ∀ n x, (leB n x).length = n
  | 0, _ => rfl
  | n + 1, x => by rw [leB, List.length_cons, leB_len n]
theorem leB_bts : ∀ n x, Bts (leB n x)
  | 0, _ => Bts.nil
  | n + 1, x => by
    rw [leB]
    intro z hz
    rcases List.mem_cons.1 hz with rfl | hz
    · omega
    · exact leB_bts n _ z hz
theorem leB_inj : ∀ n x y, x < 256 ^ n → y < 256 ^ n → leB n x = leB n y → x = y
  | 0, x, y, hx, hy, _ => by simp at hx hy; omega
  | n + 1, x, y, hx, hy, h => by
    rw [leB, leB] at h
    injection h with h0 h1
    rw [Nat.pow_succ] at hx hy
    have := leB_inj n (x / 256) (y / 256) (by omega) (by omega) h1
    omega
theorem leB_get : ∀ (n x i : Nat), i < n → (leB n x).getD i 0 = ((x / 256 ^ i % 256 : Nat) : Int)
  | 0, _, _, h => by omega
  | n + 1, x, 0, _ => by simp [leB]
  | n + 1, x, i + 1, h => by
    rw [leB, List.getD_cons_succ, leB_get n _ _ (by omega), Nat.div_div_eq_div_mul, Nat.pow_succ, Nat.mul_comm]
/-- A text's bytes. -/
def txB (t : ByteArray) : List Int := t.data.toList.map fun b => (b.toNat : Int)
theorem txB_len (t : ByteArray) : (txB t).length = t.size := by simp [txB]
theorem txB_bts (t : ByteArray) : Bts (txB t) := by
  intro z hz
  obtain ⟨b, _, rfl⟩ := List.mem_map.1 hz
  have := b.toNat_lt
  omega
theorem txB_inj {s t : ByteArray} (h : txB s = txB t) : s = t := by
  unfold txB at h
  have h1 : s.data.toList = t.data.toList := by
    generalize s.data.toList = x at *
    generalize t.data.toList = y at *
    induction x generalizing y with
    | nil => cases y with
      | nil => rfl
      | cons b y => simp at h
    | cons a x ih => cases y with
      | nil => simp at h
      | cons b y =>
        rw [List.map_cons, List.map_cons] at h
        injection h with h1 h2
        rw [ih y h2, show a = b from UInt8.toNat_inj.1 (by omega)]
  cases s; cases t
  simp only at h1
  rw [Array.toList_inj.1 h1]
/-- A signed number's 64 bits. -/
def u64N (i : Int) : Nat := (i % 18446744073709551616).toNat
/-- What stands behind the kind, ahead of the items. -/
def leafB (k i : Int) (f : Nat) (t : ByteArray) (n : Nat) : List Int :=
  if k = 1 then [if i = 1 then 1 else 0] else if k = 2 then leB 8 (u64N i) else if k = 3 then leB 8 (fone f) else if k = 4 ∨ k = 5 ∨ k = 8 then leB 4 t.size ++ txB t else if k = 6 ∨ k = 7 then leB 4 n else []
/-- A name ahead of its item. -/
def nmB (m : Bool) (s : ByteArray) : List Int := bif m then leB 4 s.size ++ txB s else []
mutual
/-- A value's bytes. -/
def byt : Val → List Int
  | .mk k i f t its nms => k :: (leafB k i f t its.length ++ bytL (k == 7) its nms)
def bytL : Bool → List Val → List ByteArray → List Int
  | _, [], _ => []
  | m, v :: l, nms => nmB m (nms.headD ⟨#[]⟩) ++ (byt v ++ bytL m l nms.tail)
end
theorem byt_eq (v : Val) : byt v = v.k :: (leafB v.k v.i v.f v.t v.its.length ++ bytL (v.k == 7) v.its v.nms) := by cases v; rw [byt]; rfl
theorem bytL_step {m : Bool} {n : List ByteArray} {l : List Val} {i : Nat} (h : i < l.length) :
    bytL m (l.drop i) (n.drop i) = nmB m (n.getD i ⟨#[]⟩) ++ (byt l[i] ++ bytL m (l.drop (i + 1)) (n.drop (i + 1))) := by
  rw [List.drop_eq_getElem_cons h, bytL]
  have e : (n.drop i).headD ⟨#[]⟩ = n.getD i ⟨#[]⟩ := by rw [List.headD_eq_head?_getD, List.head?_drop, List.getD_eq_getElem?_getD]
  rw [e, List.tail_drop]
theorem nmB_len (m : Bool) (s : ByteArray) : (nmB m s).length = if m then 4 + s.size else 0 := by
  cases m
  · rfl
  · show (leB 4 s.size ++ txB s).length = _
    rw [List.length_append, leB_len, txB_len]; rfl
theorem leafB_len {k i : Int} {f : Nat} {t : ByteArray} {n : Nat} : (leafB k i f t n).length + 1 = leafN (.mk k i f t [] []) := by
  unfold leafB leafN Val.k Val.t
  simp only
  by_cases h1 : k = 1
  · rw [if_pos h1, if_pos h1]; rfl
  rw [if_neg h1, if_neg h1]
  by_cases h2 : k = 2
  · rw [if_pos h2, if_pos (.inl h2), leB_len]
  rw [if_neg h2]
  by_cases h3 : k = 3
  · rw [if_pos h3, if_pos (.inr h3), leB_len]
  rw [if_neg h3, if_neg (show ¬ (k = 2 ∨ k = 3) by omega)]
  by_cases h4 : k = 4 ∨ k = 5 ∨ k = 8
  · rw [if_pos h4, if_pos h4, List.length_append, leB_len, txB_len]; omega
  rw [if_neg h4, if_neg h4]
  by_cases h6 : k = 6 ∨ k = 7
  · rw [if_pos h6, if_pos h6, leB_len]
  · rw [if_neg h6, if_neg h6]; rfl
/-- As many bytes as it weighs. -/
theorem byt_len : ∀ v : Val, (byt v).length = wt v := by
  refine Val.ind fun v ih => ?_
  rw [byt_eq, wt_eq]
  have key : ∀ (l : List Val) (ns : List ByteArray), (∀ w ∈ l, w ∈ v.its) → (bytL (v.k == 7) l ns).length = wtL (v.k = 7) l ns := by
    intro l
    induction l with
    | nil => intro ns _; rw [bytL, wtL]; rfl
    | cons w l il =>
      intro ns hw
      rw [bytL, wtL, List.length_append, List.length_append, nmB_len, ih w (hw w List.mem_cons_self), il ns.tail (fun x hx => hw x (List.mem_cons_of_mem _ hx))]
      by_cases h7 : v.k = 7
      · simp [h7]; omega
      · simp [h7]
  rw [List.length_cons, List.length_append, key v.its v.nms (fun _ h => h)]
  have := @leafB_len v.k v.i v.f v.t v.its.length
  omega
theorem leafB_bts (k i : Int) (f : Nat) (t : ByteArray) (n : Nat) : Bts (leafB k i f t n) := by
  unfold leafB
  split
  · intro z hz
    rw [List.mem_singleton] at hz
    subst hz
    split <;> omega
  · split
    · exact leB_bts _ _
    · split
      · exact leB_bts _ _
      · split
        · exact (leB_bts _ _).app (txB_bts _)
        · split
          · exact leB_bts _ _
          · exact Bts.nil
theorem nmB_bts (m : Bool) (s : ByteArray) : Bts (nmB m s) := by
  cases m
  · exact Bts.nil
  · exact (leB_bts _ _).app (txB_bts _)
theorem okV_k {v : Val} (h : okV v) : 0 ≤ v.k ∧ v.k ≤ 8 := by
  have := okV_self h
  unfold flds at this
  simp only [Bool.and_eq_true, decide_eq_true_eq] at this
  exact this.1.1.1.1.1.1
theorem byt_bts : ∀ v : Val, okV v → Bts (byt v) := by
  refine Val.ind fun v ih hok => ?_
  rw [byt_eq]
  have key : ∀ (l : List Val) (ns : List ByteArray), (∀ w ∈ l, w ∈ v.its) → Bts (bytL (v.k == 7) l ns) := by
    intro l
    induction l with
    | nil => intro ns _; rw [bytL]; exact Bts.nil
    | cons w l il =>
      intro ns hw
      rw [bytL]
      have hm := hw w List.mem_cons_self
      exact (nmB_bts _ _).app ((ih w hm (okV_item hok hm)).app (il ns.tail (fun x hx => hw x (List.mem_cons_of_mem _ hx))))
  intro z hz
  rcases List.mem_cons.1 hz with rfl | hz
  · have := okV_k hok; omega
  · exact ((leafB_bts _ _ _ _ _).app (key v.its v.nms (fun _ h => h))) z hz
theorem u8_info8 : (Tryz.prog.info? 5).map (fun i => (i.zero, i.size, i.bytes)) = some (some (.int .u8 0), 1, 1) := by kernel_rfl
/-- As it was, but for byte rows from base on, and what is new. -/
structure Kept8 (w w' : World) (base : Nat) : Prop where
  os : w'.os = w.os
  tape : w'.tape = w.tape
  output : w'.output = w.output
  size : w.heap.size ≤ w'.heap.size
  block : ∀ i, i < w.heap.size → (∀ cs p, w.heap[i]? = some (.cells cs 5 p) → i < base) → w'.heap[i]? = w.heap[i]?
theorem Kept8.refl (w : World) (base : Nat) : Kept8 w w base := ⟨rfl, rfl, rfl, Nat.le_refl _, fun _ _ _ => rfl⟩
theorem Kept8.trans {a b c : World} {base : Nat} (h : Kept8 a b base) (k : Kept8 b c base) : Kept8 a c base :=
  ⟨k.os.trans h.os, k.tape.trans h.tape, k.output.trans h.output, Nat.le_trans h.size k.size, fun i hi hc => by
    have e := h.block i hi hc
    exact (k.block i (Nat.lt_of_lt_of_le hi h.size) (fun cs p hp => hc cs p (e ▸ hp))).trans e⟩
theorem Kept8.of_below {a b : World} {base : Nat} (h : Below a.heap.size a b) : Kept8 a b base := ⟨h.os, h.tape, h.output, h.size, fun i hi _ => h.block i hi⟩
theorem Kept8.of_grown {a b : World} {base n : Nat} {v : Value} {xs : List Value} (ho : a.ownsRow base 5 1 v n xs) (h : a.grownBy b v.ownBlock) : Kept8 a b base :=
  ⟨h.os, h.tape, h.output, h.size, fun i hi hc => h.block i hi (by
    intro e
    rcases ho.2 with ⟨rfl, _⟩ | ⟨g, cap, cur, rfl, hb, hg, _⟩
    · cases e
    · have : i = g := by simpa [Value.ownBlock] using e
      subst this
      exact absurd (hc _ _ hg) (by omega))⟩
theorem Kept8.below {a b : World} {base B : Nat} (h : Kept8 a b base) (hB : B ≤ base) (hs : B ≤ a.heap.size) : Below B a b := ⟨h.os, h.tape, h.output, h.size, fun i hi => h.block i (by omega) fun _ _ _ => by omega⟩
theorem Kept8.box {a b : World} {base g : Nat} {cs : List Value} (h : Kept8 a b base) (hx : Box a g cs) : Box b g cs :=
  ⟨(h.block g hx.lt (fun cs' p hp => by
    have hk := hx.blk
    unfold Blk at hk
    rw [hk] at hp
    injection hp with hp
    injection hp with _ ht _
    exact absurd ht (by decide))).trans hx.blk, Nat.lt_of_lt_of_le hx.lt h.size⟩
/-- A row of the call's own with news behind it. -/
structure Adds (w w' : World) (base : Nat) (v' : Value) (xs news : List Int) : Prop where
  own : w'.ownsRow base 5 1 v' (xs ++ news).length (u8s (xs ++ news))
  kp : Kept8 w w' base
theorem Adds.trans {a b c : World} {base : Nat} {v2 v3 : Value} {xs n1 n2 : List Int} (h : Adds a b base v2 xs n1) (k : Adds b c base v3 (xs ++ n1) n2) : Adds a c base v3 xs (n1 ++ n2) :=
  ⟨by rw [← List.append_assoc]; exact k.own, h.kp.trans k.kp⟩
theorem Adds.step {a b c : World} {base : Nat} {v2 : Value} {xs n1 : List Int} (h : Adds a b base v2 xs n1) (k : Below b.heap.size b c) : Adds a c base v2 xs n1 :=
  ⟨own_below h.own k, h.kp.trans (.of_below k)⟩
theorem Adds.ahead {a b c : World} {base : Nat} {v2 : Value} {xs n1 : List Int} (k : Below a.heap.size a b) (h : Adds b c base v2 xs n1) : Adds a c base v2 xs n1 :=
  ⟨h.own, (Kept8.of_below k).trans h.kp⟩
theorem Adds.of {a b : World} {base n m : Nat} {v1 v2 : Value} {xs n1 : List Int} (h1 : a.ownsRow base 5 1 v1 n (u8s xs)) (hm : n1.length = m) (ho : b.ownsRow base 5 1 v2 (n + m) (u8s xs ++ u8s n1)) (hg : a.grownBy b v1.ownBlock) : Adds a b base v2 xs n1 := by
  have hl : xs.length = n := by simpa using h1.1
  subst hl hm
  exact ⟨by rw [List.length_append, show u8s (xs ++ n1) = u8s xs ++ u8s n1 from List.map_append]; exact ho, .of_grown h1 hg⟩
theorem Adds.refl {a : World} {base : Nat} {v : Value} {xs : List Int} (h : a.ownsRow base 5 1 v xs.length (u8s xs)) : Adds a a base v xs [] := ⟨by rw [List.append_nil]; exact h, .refl a _⟩
/-- New bytes of the call's own. -/
def OwnB (w : World) (xs : List Int) (e : Ending) (w' : World) : Prop := ∃ v, e = .returned v ∧ w'.ownsRow w.heap.size 5 1 v xs.length (u8s xs) ∧ Below w.heap.size w w'
theorem strCells_u8 (s : ByteArray) : Lib.strCells s = u8s (txB s) := by unfold Lib.strCells txB u8s; rw [List.map_map]; rfl
end Go.Proofs.YtigbbogfnchgnaaGreatDoor
