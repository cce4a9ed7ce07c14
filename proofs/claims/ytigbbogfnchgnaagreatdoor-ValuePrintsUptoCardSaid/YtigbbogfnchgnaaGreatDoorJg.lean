/- Plain words of a printed value; walks: an int in decimal, a value's text behind others (quernref23.Digits, told). Conditions: the value as it reads below base; fields as the kinds say; bulk at most 1048576. -/
import Derived.Test.YtigbbogfnchgnaaGreatDoorJf
import Derived.Test.YtigbbogfnchgnaaGreatDoorIz
import Derived.Lib.ItoaNum
import Derived.Lib.AtoiErrMem
namespace Go.Proofs.YtigbbogfnchgnaaGreatDoor
open Go.RowKit
set_option linter.unusedVariables false
set_option linter.unusedSimpArgs false
attribute [local go_sem ↓] Go.wp_at_zero Go.wp_at_succ

theorem dg_ten {u : Nat} (h : 10 ≤ u) : Go.Lib.decDigits u = Go.Lib.decDigits (u / 10) ++ [UInt8.ofNat (48 + u % 10)] := by rw [Go.Lib.decDigits, dif_neg (by omega)]
theorem dg_one {u : Nat} (h : u < 10) : Go.Lib.decDigits u = [UInt8.ofNat (48 + u)] := by rw [Go.Lib.decDigits, dif_pos h]
theorem dg_len : ∀ (k u : Nat), u < 10 ^ (k + 1) → (Go.Lib.decDigits u).length ≤ k + 1
  | 0, u, h => by rw [dg_one (by simpa using h)]; simp
  | k + 1, u, h => by
    by_cases h10 : 10 ≤ u
    · rw [dg_ten h10, List.length_append]
      have := dg_len k (u / 10) (by rw [Nat.pow_succ] at h; omega)
      simp only [List.length_cons, List.length_nil]
      omega
    · rw [dg_one (by omega)]; simp
theorem dg_len20 {u : Nat} (h : u < 18446744073709551616) : (Go.Lib.decDigits u).length ≤ 20 := dg_len 19 u (by omega)
/-- Bytes as a string. -/
abbrev bst (l : List UInt8) : Value := .string ⟨l.toArray⟩
theorem bst_add (a b : List UInt8) : Value.string ((⟨a.toArray⟩ : ByteArray) ++ ⟨b.toArray⟩) = bst (a ++ b) := by rw [ByteArray.mk_append_mk]
theorem bst3 (a b c : List UInt8) : Value.string ((⟨a.toArray⟩ : ByteArray) ++ ((⟨b.toArray⟩ : ByteArray) ++ ⟨c.toArray⟩)) = bst (a ++ (b ++ c)) := by rw [ByteArray.mk_append_mk, ByteArray.mk_append_mk]
theorem built_u8 (y : Int) : Tryz.prog.builtSlice 5 1 [(0, .int .u8 y)] = some #[.int .u8 y] := by kernel_rfl
theorem conv_u8 (w : World) (y : Int) (k : Nat) (hk : k < 256) (hy : y = k) : (convert 36 9 (.slice (some ⟨w.heap.size, 0, none⟩) 1 1)).run Tryz.prog (w.alloc (.cells #[.int .u8 y] 5)) = .ok (bst [UInt8.ofNat k]) (w.alloc (.cells #[.int .u8 y] 5)) := by
  subst hy
  exact run_convert_bytes_back _ 36 9 5 ⟨w.heap.size, 0, none⟩ 1 [UInt8.ofNat k] Tryz.underlying36 Tryz.underlying5 Tryz.underlying9 (fun j hj => by
    obtain rfl : j = 0 := by simpa using hj
    have : ((⟨w.heap.size, 0, none⟩ : Addr).add 0) = ⟨w.heap.size, 0, none⟩ := by simp [Addr.add]
    rw [this, (Blk.new w 5 #[.int .u8 k]).cell 0]
    simp [Nat.mod_eq_of_lt hk])
set_option maxRecDepth 100000 in
set_option maxHeartbeats 1000000 in
theorem c_Digits (z : Int) (h1 : -9223372036854775808 ≤ z) (h2 : z < 9223372036854775808) (w : World) : Calls Tryz.prog 32 #[.int .i64 z] w fun e w' => e = .returned (bst (Lib.itoa z)) ∧ Below w.heap.size w w' := by
  by_cases hz : z < 0
  · have hw : IntKind.u64.wrap z = z + 18446744073709551616 := by rw [IntKind.wrap_u64]; omega
    obtain ⟨U, hU⟩ : ∃ U : Nat, z.natAbs = U := ⟨_, rfl⟩
    have hw2 : IntKind.u64.wrap (-(z + 18446744073709551616)) = (U : Int) := by rw [IntKind.wrap_u64]; omega
    have HIT : Hid (Lib.itoa z = 45 :: Lib.decDigits U) := by
      show _ = _
      unfold Lib.itoa
      rw [if_pos hz, hU]
    have hu0 : U < 18446744073709551616 := by omega
    clear hU
    go_enter Tryz.func32, Tryz.ntmps32
    go_wp2_with fail
    clear hw hw2 hz h1 h2
    go_loopw [3, 5] (fun va vs wr => ∃ (u : Nat) (l : List UInt8), va = .int .u64 u ∧ vs = bst l ∧ u < 18446744073709551616 ∧ Hid (Lib.decDigits U = Lib.decDigits u ++ l) ∧ Hid (Below w.heap.size w wr)) (fun va _ _ => (intOf va).toNat)
    case atStart => exact ⟨U, [], rfl, rfl, hu0, by show _ = _; simp, Below.refl _ _⟩
    case round =>
      obtain ⟨u, l, rfl, rfl, hu, HD, HB⟩ := hrel
      have hll : l.length ≤ 20 := by
        have h1 := dg_len20 hu0
        rw [HD.out, List.length_append] at h1
        omega
      have hcv := conv_u8 wr (48 + (u : Int) % 10) (48 + u % 10) (by omega) (by omega)
      have HB1 : Hid (Below w.heap.size w (wr.alloc (.cells #[.int .u8 (48 + (u : Int) % 10)] 5))) := HB.out.alloc HB.out.size _
      by_cases h10 : 10 ≤ u
      · have hnz : ((u : Int) / 10 == 0) = false := by simp; omega
        have HD1 : Hid (Lib.decDigits U = Lib.decDigits (u / 10) ++ ([UInt8.ofNat (48 + u % 10)] ++ l)) := by
          show _ = _
          rw [HD.out, dg_ten h10, List.append_assoc]
        generalize UInt8.ofNat (48 + u % 10) = ch at *
        generalize hw1 : wr.alloc (.cells #[.int .u8 (48 + (u : Int) % 10)] 5) = w1 at *
        go_wp2_with (refine wpList_buildSliceTo rfl 36 5 1 _ rfl wr.heap.size rfl (some 16) rfl Tryz.underlying36 #[.int .u8 (48 + (u : Int) % 10)] (by exact built_u8 _) ?_; rw [hw1])
        go_roundw
        case rel => exact ⟨u / 10, [ch] ++ l, by go_num, bst_add [ch] l, by omega, HD1.out, HB1.out⟩
        case measure => simp [intOf]; omega
      · have hnz : ((u : Int) / 10 == 0) = true := by simp; omega
        have HD1 : Hid (Lib.decDigits U = [UInt8.ofNat (48 + u % 10)] ++ l) := by
          show _ = _
          rw [HD.out, dg_one (by omega), Nat.mod_eq_of_lt (by omega)]
        generalize UInt8.ofNat (48 + u % 10) = ch at *
        generalize hw1 : wr.alloc (.cells #[.int .u8 (48 + (u : Int) % 10)] 5) = w1 at *
        go_wp2_with (refine wpList_buildSliceTo rfl 36 5 1 _ rfl wr.heap.size rfl (some 16) rfl Tryz.underlying36 #[.int .u8 (48 + (u : Int) % 10)] (by exact built_u8 _) ?_; rw [hw1])
        go_ret
        exact ⟨by rw [HIT.out, HD1.out]; exact congrArg Ending.returned (bst3 [45] [ch] l), HB1.out⟩
  · obtain ⟨U, hU⟩ : ∃ U : Nat, z.toNat = U := ⟨_, rfl⟩
    have hw : IntKind.u64.wrap z = (U : Int) := by rw [IntKind.wrap_u64]; omega
    have HIT : Hid (Lib.itoa z = Lib.decDigits U) := by
      show _ = _
      unfold Lib.itoa
      rw [if_neg hz, hU]
    have hu0 : U < 18446744073709551616 := by omega
    clear hU
    go_enter Tryz.func32, Tryz.ntmps32
    go_wp2_with fail
    clear hw hz h1 h2
    go_loopw [3, 5] (fun va vs wr => ∃ (u : Nat) (l : List UInt8), va = .int .u64 u ∧ vs = bst l ∧ u < 18446744073709551616 ∧ Hid (Lib.decDigits U = Lib.decDigits u ++ l) ∧ Hid (Below w.heap.size w wr)) (fun va _ _ => (intOf va).toNat)
    case atStart => exact ⟨U, [], rfl, rfl, hu0, by show _ = _; simp, Below.refl _ _⟩
    case round =>
      obtain ⟨u, l, rfl, rfl, hu, HD, HB⟩ := hrel
      have hll : l.length ≤ 20 := by
        have h1 := dg_len20 hu0
        rw [HD.out, List.length_append] at h1
        omega
      have hcv := conv_u8 wr (48 + (u : Int) % 10) (48 + u % 10) (by omega) (by omega)
      have HB1 : Hid (Below w.heap.size w (wr.alloc (.cells #[.int .u8 (48 + (u : Int) % 10)] 5))) := HB.out.alloc HB.out.size _
      by_cases h10 : 10 ≤ u
      · have hnz : ((u : Int) / 10 == 0) = false := by simp; omega
        have HD1 : Hid (Lib.decDigits U = Lib.decDigits (u / 10) ++ ([UInt8.ofNat (48 + u % 10)] ++ l)) := by
          show _ = _
          rw [HD.out, dg_ten h10, List.append_assoc]
        generalize UInt8.ofNat (48 + u % 10) = ch at *
        generalize hw1 : wr.alloc (.cells #[.int .u8 (48 + (u : Int) % 10)] 5) = w1 at *
        go_wp2_with (refine wpList_buildSliceTo rfl 36 5 1 _ rfl wr.heap.size rfl (some 16) rfl Tryz.underlying36 #[.int .u8 (48 + (u : Int) % 10)] (by exact built_u8 _) ?_; rw [hw1])
        go_roundw
        case rel => exact ⟨u / 10, [ch] ++ l, by go_num, bst_add [ch] l, by omega, HD1.out, HB1.out⟩
        case measure => simp [intOf]; omega
      · have hnz : ((u : Int) / 10 == 0) = true := by simp; omega
        have HD1 : Hid (Lib.decDigits U = [UInt8.ofNat (48 + u % 10)] ++ l) := by
          show _ = _
          rw [HD.out, dg_one (by omega), Nat.mod_eq_of_lt (by omega)]
        generalize UInt8.ofNat (48 + u % 10) = ch at *
        generalize hw1 : wr.alloc (.cells #[.int .u8 (48 + (u : Int) % 10)] 5) = w1 at *
        go_wp2_with (refine wpList_buildSliceTo rfl 36 5 1 _ rfl wr.heap.size rfl (some 16) rfl Tryz.underlying36 #[.int .u8 (48 + (u : Int) % 10)] (by exact built_u8 _) ?_; rw [hw1])
        go_ret
        exact ⟨by rw [HIT.out, HD1.out]; exact congrArg Ending.returned (bst3 [] [ch] l), HB1.out⟩
/-- Letters as numbers. -/
def bI (l : List UInt8) : List Int := l.map fun b => ((b.toNat : Nat) : Int)
theorem bI_len (l : List UInt8) : (bI l).length = l.length := by simp [bI]
theorem bI_bts (l : List UInt8) : Bts (bI l) := by
  intro z hz
  obtain ⟨b, _, rfl⟩ := List.mem_map.1 hz
  have := b.toNat_lt
  omega
theorem txB_bI (l : List UInt8) : txB ⟨l.toArray⟩ = bI l := rfl
theorem exists_X {N D : Nat} (h0 : geT N D (-330)) : ∀ n : Nat, ¬ geT N D (-330 + (n : Int)) → ∃ x : Int, IsX N D x ∧ -330 ≤ x ∧ x < -330 + (n : Int)
  | 0, h => absurd h0 (by simpa using h)
  | n + 1, h => by
    by_cases hg : geT N D (-330 + (n : Int))
    · exact ⟨_, ⟨hg, by rw [show -330 + (n : Int) + 1 = -330 + ((n + 1 : Nat) : Int) from by omega]; exact h⟩, by omega, by omega⟩
    · obtain ⟨x, h1, h2, h3⟩ := exists_X h0 n hg
      exact ⟨x, h1, h2, by omega⟩
theorem shortM_rng {m : Nat} (h0 : 0 < m) (h1 : m < 9218868437227405312) : (shortM m).1 ≤ 100000000000000000 ∧ -400 ≤ (shortM m).2 ∧ (shortM m).2 ≤ 800 := by
  obtain ⟨g1, g2⟩ := geT_kv h0 h1
  obtain ⟨x, hx, h2, h3⟩ := exists_X g1 1024 g2
  unfold shortM xM
  rw [xOf_eq hx]
  exact shGo_rng hx h2 (by omega) 17 1 (by decide) (by decide)
theorem txtF_len (b : Nat) : (txtF b).length ≤ 101 := by
  unfold txtF
  by_cases h1 : 9218868437227405312 < b % 9223372036854775808
  · rw [if_pos h1]; decide
  · rw [if_neg h1, List.length_append]
    have hs : (if b < 9223372036854775808 then ([] : List UInt8) else [45]).length ≤ 1 := by split <;> simp
    generalize (if b < 9223372036854775808 then ([] : List UInt8) else [45]) = g at *
    by_cases h2 : b % 9223372036854775808 = 9218868437227405312
    · rw [if_pos h2]; simp only [List.length_cons, List.length_nil]; omega
    · rw [if_neg h2]
      by_cases h3 : b % 9223372036854775808 = 0
      · rw [if_pos h3]; simp only [List.length_cons, List.length_nil]; omega
      · rw [if_neg h3]
        obtain ⟨k1, k2, k3⟩ := shortM_rng (m := b % 9223372036854775808) (by omega) (by omega)
        have := numT_len (d := (shortM (b % 9223372036854775808)).1) (x := (shortM (b % 9223372036854775808)).2) (by omega) k2 k3
        omega
mutual
/-- A value's text. -/
noncomputable def tld : Val → List Int
  | .mk k i f t its nms =>
    if k = 0 then [110, 117, 108, 108] else if k = 1 then (if i = 1 then [116, 114, 117, 101] else [102, 97, 108, 115, 101]) else if k = 2 then bI (Lib.itoa i)
    else if k = 3 then [64] ++ bI (txtF f) else if k = 4 then quo t else if k = 5 then [35] ++ hxs (txB t) else if k = 8 then [126] ++ hxs (txB t)
    else ([if k = 7 then 123 else 91] ++ tldL (k == 7) true its nms) ++ [if k = 7 then 125 else 93]
noncomputable def tldL : Bool → Bool → List Val → List ByteArray → List Int
  | _, _, [], _ => []
  | m, o, v :: l, nms => (bif o then [] else [44, 32]) ++ ((bif m then quo (nms.headD ⟨#[]⟩) ++ [58, 32] else []) ++ (tld v ++ tldL m false l nms.tail))
end
noncomputable def tldK (k i : Int) (f : Nat) (t : ByteArray) (its : List Val) (nms : List ByteArray) : List Int :=
  if k = 0 then [110, 117, 108, 108] else if k = 1 then (if i = 1 then [116, 114, 117, 101] else [102, 97, 108, 115, 101]) else if k = 2 then bI (Lib.itoa i)
    else if k = 3 then [64] ++ bI (txtF f) else if k = 4 then quo t else if k = 5 then [35] ++ hxs (txB t) else if k = 8 then [126] ++ hxs (txB t)
    else ([if k = 7 then 123 else 91] ++ tldL (k == 7) true its nms) ++ [if k = 7 then 125 else 93]
theorem tld_eq (v : Val) : tld v = tldK v.k v.i v.f v.t v.its v.nms := by cases v; rw [tld]; rfl
theorem tldL_step {m : Bool} {n : List ByteArray} {l : List Val} {i : Nat} (h : i < l.length) :
    tldL m (i == 0) (l.drop i) (n.drop i) = (bif i == 0 then [] else [44, 32]) ++ ((bif m then quo (n.getD i ⟨#[]⟩) ++ [58, 32] else []) ++ (tld l[i] ++ tldL m (i + 1 == 0) (l.drop (i + 1)) (n.drop (i + 1)))) := by
  rw [List.drop_eq_getElem_cons h, tldL]
  have e : (n.drop i).headD ⟨#[]⟩ = n.getD i ⟨#[]⟩ := by rw [List.headD_eq_head?_getD, List.head?_drop, List.getD_eq_getElem?_getD]
  rw [e, List.tail_drop]
  rfl
/-- How long it may be. -/
theorem tld_len : ∀ v : Val, wfV v → okV v → (tld v).length + 4 ≤ 120 * bnd v := by
  refine Val.ind fun v ih hw hok => ?_
  rw [tld_eq, bnd_eq]
  have hgd := good_of hok
  unfold tldK
  split
  · simp only [List.length_cons, List.length_nil]; omega
  split
  · split <;> simp only [List.length_cons, List.length_nil] <;> omega
  split
  · rw [bI_len]
    have hi := (wfV_own hw)
    have : (Lib.itoa v.i).length ≤ 21 := by
      have h1 : (Lib.itoa v.i).length ≤ 1 + (Lib.decDigits v.i.natAbs).length := by
        unfold Lib.itoa
        split
        · simp only [List.length_cons]; omega
        · rename_i hn
          rw [show v.i.toNat = v.i.natAbs from by omega]; omega
      have h2 := dg_len20 (u := v.i.natAbs) (by have w2 := hi.2.1; simp [Lit.wf, IntKind.min, IntKind.max, IntKind.bits, IntKind.signed] at w2; omega)
      omega
    omega
  split
  · have := txtF_len v.f
    rw [List.length_append, bI_len]
    simp only [List.length_cons, List.length_nil]
    omega
  split
  · have := quo_len v.t; omega
  split
  · rw [List.length_append, hxs_len, txB_len]
    simp only [List.length_cons, List.length_nil]
    omega
  split
  · rw [List.length_append, hxs_len, txB_len]
    simp only [List.length_cons, List.length_nil]
    omega
  · rw [List.length_append, List.length_append]
    have key : ∀ (l : List Val) (ns : List ByteArray) (o : Bool), (∀ w ∈ l, w ∈ v.its) → ((v.k == 7) = true → l.length ≤ ns.length) → (tldL (v.k == 7) o l ns).length ≤ 120 * bndL l + 120 * (ns.map fun s => 1 + s.size).sum := by
      intro l
      induction l with
      | nil => intro ns o _ _; rw [tldL]; simp
      | cons w l il =>
        intro ns o hm hl
        have hwm := hm w List.mem_cons_self
        have h1 := ih w hwm (wfV_item hw hwm) (okV_item hok hwm)
        rw [tldL, bndL]
        have ho : (bif o then ([] : List Int) else [44, 32]).length ≤ 2 := by cases o <;> simp
        simp only [List.length_append]
        cases hk : (v.k == 7)
        · have h2 := il ns.tail false (fun x hx => hm x (List.mem_cons_of_mem _ hx)) (fun h => by rw [hk] at h; cases h)
          rw [hk] at h2
          have h3 : (ns.tail.map fun s => 1 + s.size).sum ≤ (ns.map fun s => 1 + s.size).sum := by cases ns <;> simp
          simp only [cond_false, List.length_nil]
          omega
        · have h7 := hl hk
          rw [hk] at il
          cases ns with
          | nil => simp at h7
          | cons s ns =>
            have h2 := il ns false (fun x hx => hm x (List.mem_cons_of_mem _ hx)) (fun _ => by simpa using h7)
            have h3 := quo_len s
            simp only [cond_true, List.headD_cons, List.tail_cons, List.length_append, List.length_cons, List.length_nil, List.map_cons, List.sum_cons]
            omega
    have := key v.its v.nms true (fun _ h => h) (fun h => by have := hgd.nm (by simpa using h); omega)
    simp only [List.length_cons, List.length_nil]
    omega
theorem reads_bytesJ (w : World) (s : ByteArray) : Reads (Lib.bytesWorld w 5 s) (w.heap.size + 1) 1 (some ⟨w.heap.size, 0, none⟩) s.size (u8s (txB s)) := by
  refine ⟨by rw [Nat.mul_one, List.length_map, txB_len], fun _ => ⟨_, rfl, Nat.lt_succ_self _, fun j u hu => ?_⟩⟩
  have hj : j < s.size := by
    have := (List.getElem?_eq_some_iff.1 hu).1
    rw [List.length_map, txB_len] at this; exact this
  rw [Addr.add_lit, Nat.zero_add, Lib.bytesWorld_cell w 5 s j hj]
  have hj2 : j < s.data.toList.length := by rw [Array.length_toList]; exact hj
  unfold u8s txB at hu
  rw [List.map_map, List.getElem?_map, List.getElem?_eq_getElem hj2] at hu
  simp only [Option.map_some, Function.comp] at hu
  rw [← hu]
  simp [List.getD, List.getElem?_eq_getElem hj2]
set_option maxRecDepth 100000 in
set_option maxHeartbeats 8000000 in
theorem c_told : ∀ (v : Val) (cs : List Value) (w : World) (base : Nat) (A0 : Option Addr) (n0 c0 : Nat) (xs : List Int), RdV w base v cs → wfV v → bnd v ≤ 1048576 → okV v → base ≤ w.heap.size → w.ownsRow base 5 1 (.slice A0 n0 c0) n0 (u8s xs) → n0 + (tld v).length ≤ 1099511627776 →
    Calls Tryz.prog 12 #[.slice A0 n0 c0, .agg cs.toArray] w (AddsE w base xs (tld v)) := by
  refine Val.ind fun v ih cs w base A0 n0 c0 xs hrd hwf hbd hok hbase hown hlen => ?_
  have hgd := good_of hok
  have h : RV w v cs := ⟨hrd.more' hbase, hwf, hbd⟩
  have HR := Lib.hid h.row
  obtain ⟨i0, hi0, hz0, hz1, hz2⟩ := info_parts u8_info8
  have hilen : v.its.length < 1048577 := by have := (bnd_len v).1; omega
  have hnlen : v.nms.length < 1048577 := by have := (bnd_len v).2.1; omega
  have htl : v.t.size < 1048577 := by have := (bnd_len v).2.2; omega
  have HB : Hid (Below w.heap.size w (w.alloc (.cells cs.toArray 26))) := (Below.refl w.heap.size w).alloc (Nat.le_refl _) _
  have HX0 := Lib.hid (Box.new w cs)
  have HO0 := Lib.hid (own_below hown HB.out)
  have HLO := Lib.hid hbase
  obtain ⟨A, A', c, c', hvc, hnm, hop⟩ := hrd.open_
  have HNM := Lib.hid hnm
  have HOP := Lib.hid hop
  have HIH : Hid (∀ (i : Nat) (hi : i < v.its.length) (cs : List Value) (w : World) (A0 : Option Addr) (n0 c0 : Nat) (xs : List Int), RdV w base v.its[i] cs → base ≤ w.heap.size → w.ownsRow base 5 1 (.slice A0 n0 c0) n0 (u8s xs) → n0 + (tld v.its[i]).length ≤ 1099511627776 →
    Calls Tryz.prog 12 #[.slice A0 n0 c0, .agg cs.toArray] w (AddsE w base xs (tld v.its[i]))) := fun i hi cs w A0 n0 c0 xs hr hb ho hl =>
    ih _ (List.getElem_mem hi) cs w base A0 n0 c0 xs hr (wfV_item hwf (List.getElem_mem hi)) (by have := bnd_item (List.getElem_mem hi); omega) (okV_item hok (List.getElem_mem hi)) hb ho hl
  have HNS : Hid (∀ s ∈ v.nms, s.size < 1048576) := fun s hs => by have h1 := sum_mem hs; have h2 := bnd_eq v; omega
  have HRD : Hid (∀ W, Below base w W → RdV W base v cs) := fun W hb => hrd.below hb
  have HRV : Hid (∀ W, Below base w W → RV W v cs) := fun W hb => ⟨(hrd.below hb).more' (Nat.le_trans hbase hb.size), hwf, hbd⟩
  have K1 : Hid (cs.toArray[1]? = some (.int .i64 v.i)) := by show _ = _; rw [hvc]; rfl
  have K2 : Hid (cs.toArray[2]? = some (.float .f64 v.f)) := by show _ = _; rw [hvc]; rfl
  have K3 : Hid (cs.toArray[3]? = some (.string v.t)) := by show _ = _; rw [hvc]; rfl
  have HI1 : Hid (v.k = 1 → v.i = 0 ∨ v.i = 1) := (leaf_of hok hwf hbd).i1
  have HIR : Hid (-9223372036854775808 ≤ v.i ∧ v.i < 9223372036854775808) := (leaf_of hok hwf hbd).ir
  have K0 : Hid (cs.toArray[0]? = some (.int .i64 v.k)) := by show _ = _; rw [hvc]; rfl
  have K4 : Hid (cs.toArray[4]? = some (.slice A v.its.length c)) := by show _ = _; rw [hvc]; rfl
  have K5 : Hid (cs.toArray[5]? = some (.slice A' v.nms.length c')) := by show _ = _; rw [hvc]; rfl
  have HGN : Hid (v.k = 7 → v.nms.length = v.its.length) := hgd.nm
  have HBY : Hid (tld v = tldK v.k v.i v.f v.t v.its v.nms) := tld_eq v
  have HLE : Hid (v.k ≠ 6 → v.k ≠ 7 → v.its = []) := fun h6 h7 => List.eq_nil_of_length_eq_zero (hgd.leaf h6 h7)
  have HFL : v.f < 18446744073709551616 := wfV_f hwf
  have HII := Lib.hid (wfV_own hwf)
  have HKK := hgd.k
  generalize tld v = BY at *
  clear hop ih h hvc hnm hok hgd hrd hwf hown hbase
  generalize v.its = its at *
  generalize v.nms = nms at *
  generalize v.k = k at *
  generalize v.i = iv at *
  generalize v.f = fv at *
  generalize v.t = t at *
  generalize bnd v = BD at *
  rcases HKK with hk | hk | hk | hk | hk | hk | hk | hk | hk
  · subst hk
    have HBY2 : Hid (BY = [110, 117, 108, 108]) := by show _ = _; rw [HBY.out]; unfold tldK;  rw [if_pos rfl]
    have HI1' := Lib.hid HI1.out
    clear HIH HOP HNM HGN HNS HRD HLE HBY HRV
    have hln : n0 + BY.length ≤ 1099511627776 := hlen
    go_enter Tryz.func12, Tryz.ntmps12
    go_upto_region 1 with fail
    generalize w.alloc (.cells cs.toArray 26) = w0 at *
    have HS0 : Hid (base ≤ w0.heap.size) := Nat.le_trans HLO.out HB.out.size
    have k0 : w0.cell? ⟨w.heap.size, 0, none⟩ = some (.int .i64 0) := (HX0.out.blk.cell 0).trans K0.out
    have k1 : w0.cell? ⟨w.heap.size, 1, none⟩ = some (.int .i64 iv) := (HX0.out.blk.cell 1).trans K1.out
    have k2 : w0.cell? ⟨w.heap.size, 2, none⟩ = some (.float .f64 fv) := (HX0.out.blk.cell 2).trans K2.out
    have k3 : w0.cell? ⟨w.heap.size, 3, none⟩ = some (.string t) := (HX0.out.blk.cell 3).trans K3.out
    have HZ4 : Hid ((⟨#[110, 117, 108, 108]⟩ : ByteArray).size = 4) := rfl
    have HTX : Hid (txB ⟨#[110, 117, 108, 108]⟩ = [110, 117, 108, 108]) := rfl
    have hln2 : BY.length = 4 := by rw [HBY2.out]; rfl
    go_wp2_with (at_builtin; refine Lib.wpList_append_own_string _ rfl (.tmp 11) (.const (.string ⟨#[110, 117, 108, 108]⟩)) 36 9 rfl base 5 i0 Tryz.underlying36 Tryz.underlying9 hi0 hz0 hz1 hz2 (.slice A0 n0 c0) (n0) _ rfl HO0.out ⟨#[110, 117, 108, 108]⟩ rfl (by simp only [maxLen]; have := HZ4.out; omega) (by have := HZ4.out; omega) HS0.out ?_; intro v1 w1 ho1 hg1 _; have AD1 := Lib.hid (Adds.ofS HO0.out ho1 hg1); have hg1s := hg1.size; clear ho1)
    go_ret
    exact ⟨_, rfl, by rw [HBY2.out, ← HTX.out]; exact Adds.ahead HB.out AD1.out⟩
  · subst hk
    have HBY2 : Hid (BY = if iv = 1 then [116, 114, 117, 101] else [102, 97, 108, 115, 101]) := by show _ = _; rw [HBY.out]; unfold tldK; rw [if_neg (by decide)]; rw [if_pos rfl]
    have HI1' := Lib.hid HI1.out
    clear HIH HOP HNM HGN HNS HRD HLE HBY HRV
    rcases HI1.out rfl with hiv | hiv
    · have HBY3 : Hid (BY = [102, 97, 108, 115, 101]) := by show _ = _; rw [HBY2.out, if_neg (by omega)]
      subst hiv
      have hln : n0 + BY.length ≤ 1099511627776 := hlen
      go_enter Tryz.func12, Tryz.ntmps12
      go_upto_region 1 with fail
      generalize w.alloc (.cells cs.toArray 26) = w0 at *
      have HS0 : Hid (base ≤ w0.heap.size) := Nat.le_trans HLO.out HB.out.size
      have k0 : w0.cell? ⟨w.heap.size, 0, none⟩ = some (.int .i64 1) := (HX0.out.blk.cell 0).trans K0.out
      have k1 : w0.cell? ⟨w.heap.size, 1, none⟩ = some (.int .i64 0) := (HX0.out.blk.cell 1).trans K1.out
      have k2 : w0.cell? ⟨w.heap.size, 2, none⟩ = some (.float .f64 fv) := (HX0.out.blk.cell 2).trans K2.out
      have k3 : w0.cell? ⟨w.heap.size, 3, none⟩ = some (.string t) := (HX0.out.blk.cell 3).trans K3.out
      have HZ4 : Hid ((⟨#[102, 97, 108, 115, 101]⟩ : ByteArray).size = 5) := rfl
      have HTX : Hid (txB ⟨#[102, 97, 108, 115, 101]⟩ = [102, 97, 108, 115, 101]) := rfl
      have hln2 : BY.length = 5 := by rw [HBY3.out]; rfl
      go_wp2_with (at_builtin; refine Lib.wpList_append_own_string _ rfl (.tmp 20) (.const (.string ⟨#[102, 97, 108, 115, 101]⟩)) 36 9 rfl base 5 i0 Tryz.underlying36 Tryz.underlying9 hi0 hz0 hz1 hz2 (.slice A0 n0 c0) (n0) _ rfl HO0.out ⟨#[102, 97, 108, 115, 101]⟩ rfl (by simp only [maxLen]; have := HZ4.out; omega) (by have := HZ4.out; omega) HS0.out ?_; intro v1 w1 ho1 hg1 _; have AD1 := Lib.hid (Adds.ofS HO0.out ho1 hg1); have hg1s := hg1.size; clear ho1)
      go_ret
      exact ⟨_, rfl, by rw [HBY3.out, ← HTX.out]; exact Adds.ahead HB.out AD1.out⟩
    · have HBY3 : Hid (BY = [116, 114, 117, 101]) := by show _ = _; rw [HBY2.out, if_pos hiv]
      subst hiv
      have hln : n0 + BY.length ≤ 1099511627776 := hlen
      go_enter Tryz.func12, Tryz.ntmps12
      go_upto_region 1 with fail
      generalize w.alloc (.cells cs.toArray 26) = w0 at *
      have HS0 : Hid (base ≤ w0.heap.size) := Nat.le_trans HLO.out HB.out.size
      have k0 : w0.cell? ⟨w.heap.size, 0, none⟩ = some (.int .i64 1) := (HX0.out.blk.cell 0).trans K0.out
      have k1 : w0.cell? ⟨w.heap.size, 1, none⟩ = some (.int .i64 1) := (HX0.out.blk.cell 1).trans K1.out
      have k2 : w0.cell? ⟨w.heap.size, 2, none⟩ = some (.float .f64 fv) := (HX0.out.blk.cell 2).trans K2.out
      have k3 : w0.cell? ⟨w.heap.size, 3, none⟩ = some (.string t) := (HX0.out.blk.cell 3).trans K3.out
      have HZ4 : Hid ((⟨#[116, 114, 117, 101]⟩ : ByteArray).size = 4) := rfl
      have HTX : Hid (txB ⟨#[116, 114, 117, 101]⟩ = [116, 114, 117, 101]) := rfl
      have hln2 : BY.length = 4 := by rw [HBY3.out]; rfl
      go_wp2_with (at_builtin; refine Lib.wpList_append_own_string _ rfl (.tmp 18) (.const (.string ⟨#[116, 114, 117, 101]⟩)) 36 9 rfl base 5 i0 Tryz.underlying36 Tryz.underlying9 hi0 hz0 hz1 hz2 (.slice A0 n0 c0) (n0) _ rfl HO0.out ⟨#[116, 114, 117, 101]⟩ rfl (by simp only [maxLen]; have := HZ4.out; omega) (by have := HZ4.out; omega) HS0.out ?_; intro v1 w1 ho1 hg1 _; have AD1 := Lib.hid (Adds.ofS HO0.out ho1 hg1); have hg1s := hg1.size; clear ho1)
      go_ret
      exact ⟨_, rfl, by rw [HBY3.out, ← HTX.out]; exact Adds.ahead HB.out AD1.out⟩
  · subst hk
    have HBY2 : Hid (BY = bI (Lib.itoa iv)) := by show _ = _; rw [HBY.out]; unfold tldK; rw [if_neg (by decide)]; rw [if_neg (by decide)]; rw [if_pos rfl]
    have HI1' := Lib.hid HI1.out
    clear HIH HOP HNM HGN HNS HRD HLE HBY HRV
    have hln : n0 + BY.length ≤ 1099511627776 := hlen
    go_enter Tryz.func12, Tryz.ntmps12
    go_upto_region 1 with fail
    generalize w.alloc (.cells cs.toArray 26) = w0 at *
    have HS0 : Hid (base ≤ w0.heap.size) := Nat.le_trans HLO.out HB.out.size
    have k0 : w0.cell? ⟨w.heap.size, 0, none⟩ = some (.int .i64 2) := (HX0.out.blk.cell 0).trans K0.out
    have k1 : w0.cell? ⟨w.heap.size, 1, none⟩ = some (.int .i64 iv) := (HX0.out.blk.cell 1).trans K1.out
    have k2 : w0.cell? ⟨w.heap.size, 2, none⟩ = some (.float .f64 fv) := (HX0.out.blk.cell 2).trans K2.out
    have k3 : w0.cell? ⟨w.heap.size, 3, none⟩ = some (.string t) := (HX0.out.blk.cell 3).trans K3.out
    have hir := HIR.out
    have HCN := Lib.hid (fun W => c_Digits iv hir.1 hir.2 W)
    have HLI : Hid ((bI (Lib.itoa iv)).length = BY.length) := by show _ = _; rw [HBY2.out]
    go_wp2_with fail
    refine (HCN.out _).mono ?_; rintro e w2 ⟨rfl, hb2⟩
    have HO2 := Lib.hid (own_below HO0.out hb2)
    have HS2 : Hid (base ≤ w2.heap.size) := Nat.le_trans HS0.out hb2.size
    have HB2 := Lib.hid (HB.out.trans (hb2.mono HB.out.size))
    obtain ⟨S, hS⟩ : ∃ S : ByteArray, (⟨(Lib.itoa iv).toArray⟩ : ByteArray) = S := ⟨_, rfl⟩
    have HTX : Hid (txB S = bI (Lib.itoa iv)) := by show _ = _; rw [← hS]; rfl
    have hsz : S.size = BY.length := by rw [← txB_len, HTX.out, HLI.out]
    have HSZ := Lib.hid hsz
    simp only [bst, hS]
    clear hS hsz hb2 hir HCN k0 k1 k2 k3
    go_wp2_with (at_builtin; refine Lib.wpList_append_own_string _ rfl (.tmp 24) (.tmp 27) 36 9 rfl base 5 i0 Tryz.underlying36 Tryz.underlying9 hi0 hz0 hz1 hz2 (.slice A0 n0 c0) (n0) _ rfl HO2.out S rfl (by simp only [maxLen]; have := HSZ.out; omega) (by have := HSZ.out; omega) HS2.out ?_; intro v1 w1 ho1 hg1 _; have AD1 := Lib.hid (Adds.ofS HO2.out ho1 hg1); have hg1s := hg1.size; clear ho1)
    go_ret
    exact ⟨_, rfl, by rw [HBY2.out, ← HTX.out]; exact Adds.ahead HB2.out AD1.out⟩
  · subst hk
    have HBY2 : Hid (BY = [64] ++ bI (txtF fv)) := by show _ = _; rw [HBY.out]; unfold tldK; rw [if_neg (by decide)]; rw [if_neg (by decide)]; rw [if_neg (by decide)]; rw [if_pos rfl]
    have HI1' := Lib.hid HI1.out
    clear HIH HOP HNM HGN HNS HRD HLE HBY HRV
    have hln : n0 + BY.length ≤ 1099511627776 := hlen
    go_enter Tryz.func12, Tryz.ntmps12
    go_upto_region 1 with fail
    generalize w.alloc (.cells cs.toArray 26) = w0 at *
    have HS0 : Hid (base ≤ w0.heap.size) := Nat.le_trans HLO.out HB.out.size
    have k0 : w0.cell? ⟨w.heap.size, 0, none⟩ = some (.int .i64 3) := (HX0.out.blk.cell 0).trans K0.out
    have k1 : w0.cell? ⟨w.heap.size, 1, none⟩ = some (.int .i64 iv) := (HX0.out.blk.cell 1).trans K1.out
    have k2 : w0.cell? ⟨w.heap.size, 2, none⟩ = some (.float .f64 fv) := (HX0.out.blk.cell 2).trans K2.out
    have k3 : w0.cell? ⟨w.heap.size, 3, none⟩ = some (.string t) := (HX0.out.blk.cell 3).trans K3.out
    have hl3 : (bI (txtF fv)).length + 1 = BY.length := by rw [HBY2.out]; simp
    have HL3 := Lib.hid hl3
    clear hl3
    have HR1 := Lib.hid (jl1 w0 64)
    have HBA : Hid (Below w0.heap.size w0 (w0.alloc (.cells #[.int .u8 64] 5))) := (Below.refl _ _).alloc (Nat.le_refl _) _
    have HOA := Lib.hid (own_below HO0.out HBA.out)
    have HBS : Hid (base ≤ (w0.alloc (.cells #[.int .u8 64] 5)).heap.size) := Nat.le_trans HS0.out HBA.out.size
    go_upto_region 12 with (first
      | (refine wpList_buildSliceTo rfl 36 5 1 _ rfl w0.heap.size rfl (some 32) rfl Tryz.underlying36 #[.int .u8 64] (by exact jb1 _) ?_)
      | (at_builtin; refine wpList_append_any _ rfl (.tmp 31) (.tmp 32) 36 rfl base 5 i0 _ 1 1 Tryz.underlying36 hi0 hz0 hz1 hz2 rfl (by omega) (.slice A0 n0 c0) n0 (u8s xs) rfl HOA.out _ (some ⟨w0.heap.size, 0, none⟩) 1 1 [.int .u8 64] rfl HR1.out (by simp [Value.oneCell']) (by simp only [maxLen]; omega) (by omega) HBS.out ?_; intro v1 w1 hown1 hg1 _; have AD1 := Lib.hid (Adds.ahead HBA.out (Adds.of (n1 := [64]) HOA.out rfl hown1 hg1)); clear hown1 hg1))
    have HX1 := Lib.hid (AD1.out.kp.box HX0.out)
    have HS1 : Hid (base ≤ w1.heap.size) := Nat.le_trans HS0.out AD1.out.kp.size
    have HO1 : Hid (w1.ownsRow base 5 1 v1 (n0 + 1) (u8s (xs ++ [64]))) := by
      have := AD1.out.own
      rw [List.length_append, List.length_singleton, show xs.length = n0 by simpa using HO0.out.1] at this
      exact this
    clear k0 k1 k2 k3 HR1 HBA HOA HBS HX0
    have k2 : w1.cell? ⟨w.heap.size, 2, none⟩ = some (.float .f64 fv) := (HX1.out.blk.cell 2).trans K2.out
    go_wp2_with fail
    refine (c_rText fv HFL w1).mono ?_; rintro e w2 ⟨rfl, hb2⟩
    have HO2 := Lib.hid (own_below HO1.out hb2)
    have HS2 : Hid (base ≤ w2.heap.size) := Nat.le_trans HS1.out hb2.size
    have AD2 := Lib.hid (AD1.out.step hb2)
    obtain ⟨S, hS⟩ : ∃ S : ByteArray, (⟨(txtF fv).toArray⟩ : ByteArray) = S := ⟨_, rfl⟩
    have HTX : Hid (txB S = bI (txtF fv)) := by show _ = _; rw [← hS]; rfl
    have HSZ : Hid (S.size + 1 = BY.length) := by show _ = _; rw [← txB_len, HTX.out, HL3.out]
    simp only [btx, hS]
    clear hS
    clear hb2 k2
    go_wp2_with (at_builtin; refine Lib.wpList_append_own_string _ rfl (.tmp 34) (.tmp 37) 36 9 rfl base 5 i0 Tryz.underlying36 Tryz.underlying9 hi0 hz0 hz1 hz2 v1 (n0 + 1) _ rfl HO2.out S rfl (by simp only [maxLen]; have := HSZ.out; omega) (by have := HSZ.out; omega) HS2.out ?_; intro v3 w3 ho1 hg1 _; have AD3 := Lib.hid (Adds.ofS HO2.out ho1 hg1); have hg1s := hg1.size; clear ho1)
    go_ret
    exact ⟨_, rfl, by rw [HBY2.out, ← HTX.out]; exact Adds.ahead HB.out (Adds.trans AD2.out AD3.out)⟩
  · subst hk
    have HBY2 : Hid (BY = quo t) := by show _ = _; rw [HBY.out]; unfold tldK; rw [if_neg (by decide)]; rw [if_neg (by decide)]; rw [if_neg (by decide)]; rw [if_neg (by decide)]; rw [if_pos rfl]
    have HI1' := Lib.hid HI1.out
    clear HIH HOP HNM HGN HNS HRD HLE HBY HRV
    have hln : n0 + BY.length ≤ 1099511627776 := hlen
    go_enter Tryz.func12, Tryz.ntmps12
    go_upto_region 1 with fail
    generalize w.alloc (.cells cs.toArray 26) = w0 at *
    have HS0 : Hid (base ≤ w0.heap.size) := Nat.le_trans HLO.out HB.out.size
    have k0 : w0.cell? ⟨w.heap.size, 0, none⟩ = some (.int .i64 4) := (HX0.out.blk.cell 0).trans K0.out
    have k1 : w0.cell? ⟨w.heap.size, 1, none⟩ = some (.int .i64 iv) := (HX0.out.blk.cell 1).trans K1.out
    have k2 : w0.cell? ⟨w.heap.size, 2, none⟩ = some (.float .f64 fv) := (HX0.out.blk.cell 2).trans K2.out
    have k3 : w0.cell? ⟨w.heap.size, 3, none⟩ = some (.string t) := (HX0.out.blk.cell 3).trans K3.out
    have HLI : Hid ((quo t).length = BY.length) := by show _ = _; rw [HBY2.out]
    go_wp2_with fail
    refine (c_Quote t (by omega) _).mono ?_; rintro e w2 ⟨rfl, hb2⟩
    have HO2 := Lib.hid (own_below HO0.out hb2)
    have HS2 : Hid (base ≤ w2.heap.size) := Nat.le_trans HS0.out hb2.size
    have HB2 := Lib.hid (HB.out.trans (hb2.mono HB.out.size))
    obtain ⟨S, hS⟩ : ∃ S : ByteArray, strOfNums (quo t) = S := ⟨_, rfl⟩
    have HTX : Hid (txB S = quo t) := by show _ = _; rw [← hS]; exact txB_nm (quo_bts t)
    have hsz : S.size = BY.length := by rw [← txB_len, HTX.out, HLI.out]
    have HSZ := Lib.hid hsz
    simp only [nmT, hS]
    clear hS hsz hb2 k0 k1 k2 k3
    go_wp2_with (at_builtin; refine Lib.wpList_append_own_string _ rfl (.tmp 41) (.tmp 44) 36 9 rfl base 5 i0 Tryz.underlying36 Tryz.underlying9 hi0 hz0 hz1 hz2 (.slice A0 n0 c0) (n0) _ rfl HO2.out S rfl (by simp only [maxLen]; have := HSZ.out; omega) (by have := HSZ.out; omega) HS2.out ?_; intro v1 w1 ho1 hg1 _; have AD1 := Lib.hid (Adds.ofS HO2.out ho1 hg1); have hg1s := hg1.size; clear ho1)
    go_ret
    exact ⟨_, rfl, by rw [HBY2.out, ← HTX.out]; exact Adds.ahead HB2.out AD1.out⟩
  · subst hk
    have HBY2 : Hid (BY = [35] ++ hxs (txB t)) := by show _ = _; rw [HBY.out]; unfold tldK; rw [if_neg (by decide)]; rw [if_neg (by decide)]; rw [if_neg (by decide)]; rw [if_neg (by decide)]; rw [if_neg (by decide)]; rw [if_pos rfl]
    have HI1' := Lib.hid HI1.out
    clear HIH HOP HNM HGN HNS HRD HLE HBY HRV
    have hln : n0 + BY.length ≤ 1099511627776 := hlen
    go_enter Tryz.func12, Tryz.ntmps12
    go_upto_region 1 with fail
    generalize w.alloc (.cells cs.toArray 26) = w0 at *
    have HS0 : Hid (base ≤ w0.heap.size) := Nat.le_trans HLO.out HB.out.size
    have k0 : w0.cell? ⟨w.heap.size, 0, none⟩ = some (.int .i64 5) := (HX0.out.blk.cell 0).trans K0.out
    have k1 : w0.cell? ⟨w.heap.size, 1, none⟩ = some (.int .i64 iv) := (HX0.out.blk.cell 1).trans K1.out
    have k2 : w0.cell? ⟨w.heap.size, 2, none⟩ = some (.float .f64 fv) := (HX0.out.blk.cell 2).trans K2.out
    have k3 : w0.cell? ⟨w.heap.size, 3, none⟩ = some (.string t) := (HX0.out.blk.cell 3).trans K3.out
    have hl3 : (hxs (txB t)).length + 1 = BY.length := by rw [HBY2.out]; simp
    have HL3 := Lib.hid hl3
    clear hl3
    have HR1 := Lib.hid (jl1 w0 35)
    have HBA : Hid (Below w0.heap.size w0 (w0.alloc (.cells #[.int .u8 35] 5))) := (Below.refl _ _).alloc (Nat.le_refl _) _
    have HOA := Lib.hid (own_below HO0.out HBA.out)
    have HBS : Hid (base ≤ (w0.alloc (.cells #[.int .u8 35] 5)).heap.size) := Nat.le_trans HS0.out HBA.out.size
    go_upto_region 17 with (first
      | (refine wpList_buildSliceTo rfl 36 5 1 _ rfl w0.heap.size rfl (some 49) rfl Tryz.underlying36 #[.int .u8 35] (by exact jb1 _) ?_)
      | (at_builtin; refine wpList_append_any _ rfl (.tmp 48) (.tmp 49) 36 rfl base 5 i0 _ 1 1 Tryz.underlying36 hi0 hz0 hz1 hz2 rfl (by omega) (.slice A0 n0 c0) n0 (u8s xs) rfl HOA.out _ (some ⟨w0.heap.size, 0, none⟩) 1 1 [.int .u8 35] rfl HR1.out (by simp [Value.oneCell']) (by simp only [maxLen]; omega) (by omega) HBS.out ?_; intro v1 w1 hown1 hg1 _; have AD1 := Lib.hid (Adds.ahead HBA.out (Adds.of (n1 := [35]) HOA.out rfl hown1 hg1)); clear hown1 hg1))
    have HX1 := Lib.hid (AD1.out.kp.box HX0.out)
    have HS1 : Hid (base ≤ w1.heap.size) := Nat.le_trans HS0.out AD1.out.kp.size
    have HO1 : Hid (w1.ownsRow base 5 1 v1 (n0 + 1) (u8s (xs ++ [35]))) := by
      have := AD1.out.own
      rw [List.length_append, List.length_singleton, show xs.length = n0 by simpa using HO0.out.1] at this
      exact this
    clear k0 k1 k2 k3 HR1 HBA HOA HBS HX0
    have k3 : w1.cell? ⟨w.heap.size, 3, none⟩ = some (.string t) := (HX1.out.blk.cell 3).trans K3.out
    have hcb := fun W => Lib.run_convert_string_bytes (P := Tryz.prog) W 9 36 5 t Tryz.underlying9 Tryz.underlying36 Tryz.underlying5
    have HRB : Hid (Reads (Lib.bytesWorld w1 5 t) (Lib.bytesWorld w1 5 t).heap.size 1 (some ⟨w1.heap.size, 0, none⟩) t.size (u8s (txB t))) := by
      have hz := (Lib.bytesWorld_size w1 5 t)
      exact (reads_bytesJ w1 t).more (by rw [hz]; exact Nat.le_refl _)
    have hbb : Below w1.heap.size w1 (Lib.bytesWorld w1 5 t) := Lib.bytesWorld_below w1 _ t
    have HBB := Lib.hid hbb
    clear hbb
    go_wp2_with fail
    generalize Lib.bytesWorld w1 5 t = wb at *
    refine (c_rhex1 _ t.size _ (txB t) wb HRB.out (by omega) (txB_bts t)).mono ?_; rintro e w2 ⟨rfl, hb2⟩
    have hb2 := below_step HBB.out hb2
    have HO2 := Lib.hid (own_below HO1.out hb2)
    have HS2 : Hid (base ≤ w2.heap.size) := Nat.le_trans HS1.out hb2.size
    have AD2 := Lib.hid (AD1.out.step hb2)
    obtain ⟨S, hS⟩ : ∃ S : ByteArray, strOfNums (hxs (txB t)) = S := ⟨_, rfl⟩
    have HTX : Hid (txB S = hxs (txB t)) := by show _ = _; rw [← hS]; exact txB_nm (hxs_range (txB_bts t))
    have HSZ : Hid (S.size + 1 = BY.length) := by show _ = _; rw [← txB_len, HTX.out, HL3.out]
    simp only [nmT, hS]
    clear hS
    clear hb2 k3 hcb HRB
    go_wp2_with (at_builtin; refine Lib.wpList_append_own_string _ rfl (.tmp 51) (.tmp 55) 36 9 rfl base 5 i0 Tryz.underlying36 Tryz.underlying9 hi0 hz0 hz1 hz2 v1 (n0 + 1) _ rfl HO2.out S rfl (by simp only [maxLen]; have := HSZ.out; omega) (by have := HSZ.out; omega) HS2.out ?_; intro v3 w3 ho1 hg1 _; have AD3 := Lib.hid (Adds.ofS HO2.out ho1 hg1); have hg1s := hg1.size; clear ho1)
    go_ret
    exact ⟨_, rfl, by rw [HBY2.out, ← HTX.out]; exact Adds.ahead HB.out (Adds.trans AD2.out AD3.out)⟩
  · subst hk
    have HBY2 : Hid (BY = [126] ++ hxs (txB t)) := by show _ = _; rw [HBY.out]; unfold tldK; rw [if_neg (by decide)]; rw [if_neg (by decide)]; rw [if_neg (by decide)]; rw [if_neg (by decide)]; rw [if_neg (by decide)]; rw [if_neg (by decide)]; rw [if_pos rfl]
    have HI1' := Lib.hid HI1.out
    clear HIH HOP HNM HGN HNS HRD HLE HBY HRV
    have hln : n0 + BY.length ≤ 1099511627776 := hlen
    go_enter Tryz.func12, Tryz.ntmps12
    go_upto_region 1 with fail
    generalize w.alloc (.cells cs.toArray 26) = w0 at *
    have HS0 : Hid (base ≤ w0.heap.size) := Nat.le_trans HLO.out HB.out.size
    have k0 : w0.cell? ⟨w.heap.size, 0, none⟩ = some (.int .i64 8) := (HX0.out.blk.cell 0).trans K0.out
    have k1 : w0.cell? ⟨w.heap.size, 1, none⟩ = some (.int .i64 iv) := (HX0.out.blk.cell 1).trans K1.out
    have k2 : w0.cell? ⟨w.heap.size, 2, none⟩ = some (.float .f64 fv) := (HX0.out.blk.cell 2).trans K2.out
    have k3 : w0.cell? ⟨w.heap.size, 3, none⟩ = some (.string t) := (HX0.out.blk.cell 3).trans K3.out
    have hl3 : (hxs (txB t)).length + 1 = BY.length := by rw [HBY2.out]; simp
    have HL3 := Lib.hid hl3
    clear hl3
    have HR1 := Lib.hid (jl1 w0 126)
    have HBA : Hid (Below w0.heap.size w0 (w0.alloc (.cells #[.int .u8 126] 5))) := (Below.refl _ _).alloc (Nat.le_refl _) _
    have HOA := Lib.hid (own_below HO0.out HBA.out)
    have HBS : Hid (base ≤ (w0.alloc (.cells #[.int .u8 126] 5)).heap.size) := Nat.le_trans HS0.out HBA.out.size
    go_upto_region 20 with (first
      | (refine wpList_buildSliceTo rfl 36 5 1 _ rfl w0.heap.size rfl (some 60) rfl Tryz.underlying36 #[.int .u8 126] (by exact jb1 _) ?_)
      | (at_builtin; refine wpList_append_any _ rfl (.tmp 59) (.tmp 60) 36 rfl base 5 i0 _ 1 1 Tryz.underlying36 hi0 hz0 hz1 hz2 rfl (by omega) (.slice A0 n0 c0) n0 (u8s xs) rfl HOA.out _ (some ⟨w0.heap.size, 0, none⟩) 1 1 [.int .u8 126] rfl HR1.out (by simp [Value.oneCell']) (by simp only [maxLen]; omega) (by omega) HBS.out ?_; intro v1 w1 hown1 hg1 _; have AD1 := Lib.hid (Adds.ahead HBA.out (Adds.of (n1 := [126]) HOA.out rfl hown1 hg1)); clear hown1 hg1))
    have HX1 := Lib.hid (AD1.out.kp.box HX0.out)
    have HS1 : Hid (base ≤ w1.heap.size) := Nat.le_trans HS0.out AD1.out.kp.size
    have HO1 : Hid (w1.ownsRow base 5 1 v1 (n0 + 1) (u8s (xs ++ [126]))) := by
      have := AD1.out.own
      rw [List.length_append, List.length_singleton, show xs.length = n0 by simpa using HO0.out.1] at this
      exact this
    clear k0 k1 k2 k3 HR1 HBA HOA HBS HX0
    have k3 : w1.cell? ⟨w.heap.size, 3, none⟩ = some (.string t) := (HX1.out.blk.cell 3).trans K3.out
    have hcb := fun W => Lib.run_convert_string_bytes (P := Tryz.prog) W 9 36 5 t Tryz.underlying9 Tryz.underlying36 Tryz.underlying5
    have HRB : Hid (Reads (Lib.bytesWorld w1 5 t) (Lib.bytesWorld w1 5 t).heap.size 1 (some ⟨w1.heap.size, 0, none⟩) t.size (u8s (txB t))) := by
      have hz := (Lib.bytesWorld_size w1 5 t)
      exact (reads_bytesJ w1 t).more (by rw [hz]; exact Nat.le_refl _)
    have hbb : Below w1.heap.size w1 (Lib.bytesWorld w1 5 t) := Lib.bytesWorld_below w1 _ t
    have HBB := Lib.hid hbb
    clear hbb
    go_wp2_with fail
    generalize Lib.bytesWorld w1 5 t = wb at *
    refine (c_rhex1 _ t.size _ (txB t) wb HRB.out (by omega) (txB_bts t)).mono ?_; rintro e w2 ⟨rfl, hb2⟩
    have hb2 := below_step HBB.out hb2
    have HO2 := Lib.hid (own_below HO1.out hb2)
    have HS2 : Hid (base ≤ w2.heap.size) := Nat.le_trans HS1.out hb2.size
    have AD2 := Lib.hid (AD1.out.step hb2)
    obtain ⟨S, hS⟩ : ∃ S : ByteArray, strOfNums (hxs (txB t)) = S := ⟨_, rfl⟩
    have HTX : Hid (txB S = hxs (txB t)) := by show _ = _; rw [← hS]; exact txB_nm (hxs_range (txB_bts t))
    have HSZ : Hid (S.size + 1 = BY.length) := by show _ = _; rw [← txB_len, HTX.out, HL3.out]
    simp only [nmT, hS]
    clear hS
    clear hb2 k3 hcb HRB
    go_wp2_with (at_builtin; refine Lib.wpList_append_own_string _ rfl (.tmp 62) (.tmp 66) 36 9 rfl base 5 i0 Tryz.underlying36 Tryz.underlying9 hi0 hz0 hz1 hz2 v1 (n0 + 1) _ rfl HO2.out S rfl (by simp only [maxLen]; have := HSZ.out; omega) (by have := HSZ.out; omega) HS2.out ?_; intro v3 w3 ho1 hg1 _; have AD3 := Lib.hid (Adds.ofS HO2.out ho1 hg1); have hg1s := hg1.size; clear ho1)
    go_ret
    exact ⟨_, rfl, by rw [HBY2.out, ← HTX.out]; exact Adds.ahead HB.out (Adds.trans AD2.out AD3.out)⟩
  · subst hk
    have HBY2 : Hid (BY = ([91] ++ tldL false true its nms) ++ [93]) := by show _ = _; rw [HBY.out]; unfold tldK; rw [if_neg (by decide)]; rw [if_neg (by decide)]; rw [if_neg (by decide)]; rw [if_neg (by decide)]; rw [if_neg (by decide)]; rw [if_neg (by decide)]; rw [if_neg (by decide)]; rfl
    clear HLE HBY HRD
    have hln : n0 + BY.length ≤ 1099511627776 := hlen
    go_enter Tryz.func12, Tryz.ntmps12
    go_upto_region 1 with fail
    generalize w.alloc (.cells cs.toArray 26) = w0 at *
    have HS0 : Hid (base ≤ w0.heap.size) := Nat.le_trans HLO.out HB.out.size
    have k0 : w0.cell? ⟨w.heap.size, 0, none⟩ = some (.int .i64 6) := (HX0.out.blk.cell 0).trans K0.out
    have k1 : w0.cell? ⟨w.heap.size, 1, none⟩ = some (.int .i64 iv) := (HX0.out.blk.cell 1).trans K1.out
    have k2 : w0.cell? ⟨w.heap.size, 2, none⟩ = some (.float .f64 fv) := (HX0.out.blk.cell 2).trans K2.out
    have k3 : w0.cell? ⟨w.heap.size, 3, none⟩ = some (.string t) := (HX0.out.blk.cell 3).trans K3.out
    go_upto_region 24 with fail
    obtain ⟨mk, hmk⟩ : ∃ mk : ByteArray, (⟨#[91, 93]⟩ : ByteArray) = mk := ⟨_, rfl⟩
    have hmz : mk.size = 2 := by rw [← hmk]; rfl
    have hm0 : ∀ h : 0 < mk.size, (mk[0]'h).toNat = 91 := by subst hmk; intro h; rfl
    have hm1 : ∀ h : 1 < mk.size, (mk[1]'h).toNat = 93 := by subst hmk; intro h; rfl
    rw [hmk]
    have HMZ := Lib.hid hmz
    have HM1 := Lib.hid hm1
    clear hmk
    have HR1 := Lib.hid (jl1 w0 91)
    have HBA : Hid (Below w0.heap.size w0 (w0.alloc (.cells #[.int .u8 91] 5))) := (Below.refl _ _).alloc (Nat.le_refl _) _
    have HOA := Lib.hid (own_below HO0.out HBA.out)
    have HBS : Hid (base ≤ (w0.alloc (.cells #[.int .u8 91] 5)).heap.size) := Nat.le_trans HS0.out HBA.out.size
    go_upto_region 25 with (first
      | (refine wpList_buildSliceTo rfl 36 5 1 _ rfl w0.heap.size rfl (some 74) rfl Tryz.underlying36 #[.int .u8 91] (by exact jb1 _) ?_)
      | (at_builtin; refine wpList_append_any _ rfl (.tmp 71) (.tmp 74) 36 rfl base 5 i0 _ 1 1 Tryz.underlying36 hi0 hz0 hz1 hz2 rfl (by omega) (.slice A0 n0 c0) n0 (u8s xs) rfl HOA.out _ (some ⟨w0.heap.size, 0, none⟩) 1 1 [.int .u8 91] rfl HR1.out (by simp [Value.oneCell']) (by simp only [maxLen]; omega) (by omega) HBS.out ?_; intro v1 w1 hown1 hg1 _; have AD1 := Lib.hid (Adds.ahead HBA.out (Adds.of (n1 := [91]) HOA.out rfl hown1 hg1)); clear hown1 hg1))
    have HX1 := Lib.hid (AD1.out.kp.box HX0.out)
    have HS1 : Hid (base ≤ w1.heap.size) := Nat.le_trans HS0.out AD1.out.kp.size
    have HO1 : Hid (w1.ownsRow base 5 1 v1 (n0 + 1) (u8s (xs ++ [91]))) := by
      have := AD1.out.own
      rw [List.length_append, List.length_singleton, show xs.length = n0 by simpa using HO0.out.1] at this
      exact this
    clear k0 k1 k2 k3 HR1 HBA HOA HBS HX0
    obtain ⟨Ab0, cb0, hvb0⟩ := own_slice HO1.out
    subst hvb0
    clear hm0 hm1 hmz
    have HNB0 : Hid ((xs ++ [91]).length = n0 + 1) := by
      have h3 : xs.length = n0 := by simpa using HO0.out.1
      show _ = _
      rw [List.length_append, h3]; rfl
    have HF0 : Hid (BY = ([91] ++ tldL false ((0 : Nat) == 0) (its.drop 0) (nms.drop 0)) ++ [93]) := HBY2.out
    clear HO1 HS1
    go_wp2_with fail
    go_loopw [0, 6] (fun vb vi wr => ∃ (i : Nat) (ys : List Int) (nb : Nat) (Ab : Option Addr) (cb : Nat), vb = .slice Ab nb cb ∧ Hid ((xs ++ ys).length = nb) ∧ vi = .int .i64 i ∧ i ≤ its.length ∧ Hid (BY = (ys ++ tldL false (i == 0) (its.drop i) (nms.drop i)) ++ [93]) ∧ Hid (Adds w0 wr base (.slice Ab nb cb) xs ys) ∧ Hid (Box wr w.heap.size cs)) (fun _ vi _ => its.length - (intOf vi).toNat)
    case atStart => exact ⟨0, [91], n0 + 1, Ab0, cb0, rfl, HNB0, rfl, Nat.zero_le _, HF0, AD1, HX1⟩
    case round =>
      obtain ⟨i, ys, nb, Ab, cb, rfl, HNB, rfl, hi, HF, HAr, HXr⟩ := hrel
      clear HBY2 HF0 AD1 HX1 HNB0
      have HBb : Hid (Below base w wr) := (HB.out.mono HLO.out).trans (HAr.out.kp.below (Nat.le_refl _) (Nat.le_trans HLO.out HB.out.size))
      have HSr : Hid (base ≤ wr.heap.size) := Nat.le_trans HLO.out HBb.out.size
      have HOr : Hid (wr.ownsRow base 5 1 (.slice Ab nb cb) nb (u8s (xs ++ ys))) := by have := HAr.out.own; rw [HNB.out] at this; exact this
      have k0 : wr.cell? ⟨w.heap.size, 0, none⟩ = some (.int .i64 6) := (HXr.out.blk.cell 0).trans K0.out
      have k4 : wr.cell? ⟨w.heap.size, 4, none⟩ = some (.slice A its.length c) := (HXr.out.blk.cell 4).trans K4.out
      by_cases hlt : i < its.length
      · obtain ⟨b, off, hA, hbl, hbl2, hr⟩ := HOP.out (by omega)
        subst hA
        obtain ⟨cs', hrv, hcell0⟩ := hr i hlt
        have hcell : ∀ W, Below base w W → ∀ q u, cs'[q]? = some u → W.cell? ⟨b, off + i * 6 + q, none⟩ = some u := fun W hW q u hq => (hW.cell (p := ⟨b, off + i * 6 + q, none⟩) hbl).trans (by rw [Nat.add_assoc]; exact hcell0 q u hq)
        obtain ⟨h6, hone⟩ : cs'.length = 6 ∧ cs'.toArray.toList.all (·.oneCell') = true := by
          obtain ⟨_, _, _, _, e, _⟩ := hrv.open_
          subst e
          exact ⟨rfl, rfl⟩
        have HRV0 := Lib.hid hrv
        have HCEL := Lib.hid hcell
        have HST := Lib.hid (tldL_step (m := false) (n := nms) hlt)
        have HCALL := Lib.hid (HIH.out i hlt)
        clear hr hrv hcell hcell0 HIH
        obtain ⟨BI, hbi⟩ : ∃ BI, tld its[i] = BI := ⟨_, rfl⟩
        rw [hbi] at HCALL HST
        clear hbi
        have h3 : xs.length = n0 := by simpa using HO0.out.1
        have HX3 := Lib.hid h3
        clear h3
        by_cases hi00 : i = 0
        · have hib : (i == 0) = true := by simp [hi00]
          have hip : ¬ (0 : Int) < (i : Int) := by omega
          have HF7 : Hid (BY = ((ys ++ BI) ++ tldL false (i + 1 == 0) (its.drop (i + 1)) (nms.drop (i + 1))) ++ [93]) := by
            show _ = _
            rw [HF.out, HST.out]
            simp [hib, List.append_assoc]
          clear hib hi00
          have HLL : Hid (nb + BI.length ≤ 1099511627776) := by
            have h1 := congrArg List.length HF7.out
            rw [List.length_append, List.length_append, List.length_append] at h1
            have h4 : (xs ++ (ys)).length = nb := HNB.out
            rw [List.length_append] at h4
            have h3 := HX3.out
            show _ ≤ _
            first | omega | (rw [List.length_append]; omega)
          clear HST HF
          have HBx : Hid (Below base w wr) := (HB.out.mono HLO.out).trans (HAr.out.kp.below (Nat.le_refl _) (Nat.le_trans HLO.out HB.out.size))
          have HCELr := Lib.hid (HCEL.out wr HBx.out)
          have HRD4 := Lib.hid (RdV.below HRV0.out HBx.out)
          have k4 : wr.cell? ⟨w.heap.size, 4, none⟩ = some (.slice (some ⟨b, off, none⟩) its.length c) := (HXr.out.blk.cell 4).trans K4.out
          go_wp2_with (refine wpList_load_at rfl 26 (.tmp 104) rfl b (off + i * 6) rfl cs' _ HCELr.out Tryz.underlying26 rfl (by rw [h6]; exact v_info) ?_)
          refine (HCALL.out cs' wr Ab nb cb _ HRD4.out HSr.out HOr.out HLL.out).mono ?_; rintro e w7 ⟨v7, rfl, had7⟩
          have HA7 := Lib.hid (HAr.out.trans had7)
          have HX7 := Lib.hid (had7.kp.box HXr.out)
          obtain ⟨Ab7, cb7, hv7⟩ := own_slice HA7.out.own
          obtain ⟨nb7, hnb7⟩ : ∃ n, (xs ++ (ys ++ BI)).length = n := ⟨_, rfl⟩
          rw [hnb7] at hv7
          subst hv7
          have HNB7 := Lib.hid hnb7
          clear hnb7 had7 HCALL HLL HRD4 HCELr k4
          go_wp2_with fail
          go_roundw
          case rel => exact ⟨i + 1, _, nb7, Ab7, cb7, rfl, HNB7, by go_num, hlt, HF7, HA7, HX7⟩
          case measure => simp [intOf]; omega
        · have hib : (i == 0) = false := by simpa using hi00
          have hip : (0 : Int) < (i : Int) := by omega
          have HF7 : Hid (BY = (((ys ++ [44, 32]) ++ BI) ++ tldL false (i + 1 == 0) (its.drop (i + 1)) (nms.drop (i + 1))) ++ [93]) := by
            show _ = _
            rw [HF.out, HST.out]
            simp [hib, List.append_assoc]
          clear hib hi00
          have HLL : Hid (nb + 2 + BI.length ≤ 1099511627776) := by
            have h1 := congrArg List.length HF7.out
            rw [List.length_append, List.length_append, List.length_append] at h1
            have h4 : (xs ++ (ys ++ [44, 32])).length = nb + 2 := by have := HNB.out; rw [← List.append_assoc, List.length_append, this]; rfl
            rw [List.length_append] at h4
            have h3 := HX3.out
            show _ ≤ _
            first | omega | (rw [List.length_append]; omega)
          have hnb2 : nb + 2 ≤ 1099511627776 := by have := HLL.out; omega
          clear HST HF
          have HZ2 : Hid ((⟨#[44, 32]⟩ : ByteArray).size = 2) := rfl
          have HT2 : Hid (txB ⟨#[44, 32]⟩ = [44, 32]) := rfl
          go_upto_region 30 with (at_builtin; refine Lib.wpList_append_own_string _ rfl (.tmp 85) (.const (.string ⟨#[44, 32]⟩)) 36 9 rfl base 5 i0 Tryz.underlying36 Tryz.underlying9 hi0 hz0 hz1 hz2 (.slice Ab nb cb) (nb) _ rfl HOr.out ⟨#[44, 32]⟩ rfl (by simp only [maxLen]; have := HZ2.out; omega) (by have := HZ2.out; omega) HSr.out ?_; intro v2 w2 ho1 hg1 _; have AD2s := Lib.hid (Adds.ofS HOr.out ho1 hg1); have hg1s := hg1.size; clear ho1; have HX2s := Lib.hid ((Kept8.of_grown HOr.out hg1).box HXr.out); have HS2 : Hid (base ≤ w2.heap.size) := Nat.le_trans HSr.out hg1s; clear hg1 hg1s)
          have AD2 : Hid (Adds w0 w2 base v2 xs (ys ++ [44, 32])) := HAr.out.trans (HT2.out ▸ AD2s.out)
          clear AD2s k0 k4
          obtain ⟨Ab2, cb2, hv2⟩ := own_slice AD2.out.own
          have HN2 : Hid ((xs ++ (ys ++ [44, 32])).length = nb + 2) := by have := HNB.out; show _ = _; rw [← List.append_assoc, List.length_append, this]; rfl
          rw [HN2.out] at hv2
          subst hv2
          have HO2 : Hid (w2.ownsRow base 5 1 (.slice Ab2 (nb + 2) cb2) (nb + 2) (u8s (xs ++ (ys ++ [44, 32])))) := by have := AD2.out.own; rw [HN2.out] at this; exact this
          have k0 : w2.cell? ⟨w.heap.size, 0, none⟩ = some (.int .i64 6) := (HX2s.out.blk.cell 0).trans K0.out
          have HBx : Hid (Below base w w2) := (HB.out.mono HLO.out).trans (AD2.out.kp.below (Nat.le_refl _) (Nat.le_trans HLO.out HB.out.size))
          have HCELr := Lib.hid (HCEL.out w2 HBx.out)
          have HRD4 := Lib.hid (RdV.below HRV0.out HBx.out)
          have k4 : w2.cell? ⟨w.heap.size, 4, none⟩ = some (.slice (some ⟨b, off, none⟩) its.length c) := (HX2s.out.blk.cell 4).trans K4.out
          go_wp2_with (refine wpList_load_at rfl 26 (.tmp 104) rfl b (off + i * 6) rfl cs' _ HCELr.out Tryz.underlying26 rfl (by rw [h6]; exact v_info) ?_)
          refine (HCALL.out cs' w2 Ab2 (nb + 2) cb2 _ HRD4.out HS2.out HO2.out HLL.out).mono ?_; rintro e w7 ⟨v7, rfl, had7⟩
          have HA7 := Lib.hid (AD2.out.trans had7)
          have HX7 := Lib.hid (had7.kp.box HX2s.out)
          obtain ⟨Ab7, cb7, hv7⟩ := own_slice HA7.out.own
          obtain ⟨nb7, hnb7⟩ : ∃ n, (xs ++ ((ys ++ [44, 32]) ++ BI)).length = n := ⟨_, rfl⟩
          rw [hnb7] at hv7
          subst hv7
          have HNB7 := Lib.hid hnb7
          clear hnb7 had7 HCALL HLL HRD4 HCELr k4
          go_wp2_with fail
          go_roundw
          case rel => exact ⟨i + 1, _, nb7, Ab7, cb7, rfl, HNB7, by go_num, hlt, HF7, HA7, HX7⟩
          case measure => simp [intOf]; omega
      · have HE2 : Hid (BY = ys ++ [93]) := by
          have := HF.out
          rw [List.drop_eq_nil_of_le (show its.length ≤ i by omega), tldL, List.append_nil] at this
          exact this
        have hii : i = its.length := by omega
        subst hii
        have hnbl : nb + 1 ≤ 1099511627776 := by
          have h1 := congrArg List.length HE2.out
          rw [List.length_append] at h1
          have h4 := HNB.out
          rw [List.length_append] at h4
          have h3 : xs.length = n0 := by simpa using HO0.out.1
          simp only [List.length_cons, List.length_nil] at h1
          omega
        have hmz := HMZ.out
        have hm1 := HM1.out
        have HR1 := Lib.hid (jl1 wr 93)
        have HBA : Hid (Below wr.heap.size wr (wr.alloc (.cells #[.int .u8 93] 5))) := (Below.refl _ _).alloc (Nat.le_refl _) _
        have HOA := Lib.hid (own_below HOr.out HBA.out)
        have HBS : Hid (base ≤ (wr.alloc (.cells #[.int .u8 93] 5)).heap.size) := Nat.le_trans HSr.out HBA.out.size
        go_wp2_with (first
          | (refine wpList_buildSliceTo rfl 36 5 1 _ rfl wr.heap.size rfl (some 110) rfl Tryz.underlying36 #[.int .u8 93] (by exact jb1 _) ?_)
          | (at_builtin; refine wpList_append_any _ rfl (.tmp 107) (.tmp 110) 36 rfl base 5 i0 _ 1 1 Tryz.underlying36 hi0 hz0 hz1 hz2 rfl (by omega) (.slice Ab nb cb) nb (u8s (xs ++ ys)) rfl HOA.out _ (some ⟨wr.heap.size, 0, none⟩) 1 1 [.int .u8 93] rfl HR1.out (by simp [Value.oneCell']) (by simp only [maxLen]; omega) (by omega) HBS.out ?_; intro v2 w2 hown2 hg2 _; have AD2 := Lib.hid (Adds.trans HAr.out (Adds.ahead HBA.out (Adds.of (n1 := [93]) HOA.out rfl hown2 hg2))); clear hown2 hg2))
        go_ret
        exact ⟨_, rfl, by rw [HE2.out]; exact Adds.ahead HB.out AD2.out⟩
  · subst hk
    have HBY2 : Hid (BY = ([123] ++ tldL true true its nms) ++ [125]) := by show _ = _; rw [HBY.out]; unfold tldK; rw [if_neg (by decide)]; rw [if_neg (by decide)]; rw [if_neg (by decide)]; rw [if_neg (by decide)]; rw [if_neg (by decide)]; rw [if_neg (by decide)]; rw [if_neg (by decide)]; rfl
    clear HLE HBY HRD
    have hln : n0 + BY.length ≤ 1099511627776 := hlen
    go_enter Tryz.func12, Tryz.ntmps12
    go_upto_region 1 with fail
    generalize w.alloc (.cells cs.toArray 26) = w0 at *
    have HS0 : Hid (base ≤ w0.heap.size) := Nat.le_trans HLO.out HB.out.size
    have k0 : w0.cell? ⟨w.heap.size, 0, none⟩ = some (.int .i64 7) := (HX0.out.blk.cell 0).trans K0.out
    have k1 : w0.cell? ⟨w.heap.size, 1, none⟩ = some (.int .i64 iv) := (HX0.out.blk.cell 1).trans K1.out
    have k2 : w0.cell? ⟨w.heap.size, 2, none⟩ = some (.float .f64 fv) := (HX0.out.blk.cell 2).trans K2.out
    have k3 : w0.cell? ⟨w.heap.size, 3, none⟩ = some (.string t) := (HX0.out.blk.cell 3).trans K3.out
    go_upto_region 24 with fail
    obtain ⟨mk, hmk⟩ : ∃ mk : ByteArray, (⟨#[123, 125]⟩ : ByteArray) = mk := ⟨_, rfl⟩
    have hmz : mk.size = 2 := by rw [← hmk]; rfl
    have hm0 : ∀ h : 0 < mk.size, (mk[0]'h).toNat = 123 := by subst hmk; intro h; rfl
    have hm1 : ∀ h : 1 < mk.size, (mk[1]'h).toNat = 125 := by subst hmk; intro h; rfl
    rw [hmk]
    have HMZ := Lib.hid hmz
    have HM1 := Lib.hid hm1
    clear hmk
    have HR1 := Lib.hid (jl1 w0 123)
    have HBA : Hid (Below w0.heap.size w0 (w0.alloc (.cells #[.int .u8 123] 5))) := (Below.refl _ _).alloc (Nat.le_refl _) _
    have HOA := Lib.hid (own_below HO0.out HBA.out)
    have HBS : Hid (base ≤ (w0.alloc (.cells #[.int .u8 123] 5)).heap.size) := Nat.le_trans HS0.out HBA.out.size
    go_upto_region 25 with (first
      | (refine wpList_buildSliceTo rfl 36 5 1 _ rfl w0.heap.size rfl (some 74) rfl Tryz.underlying36 #[.int .u8 123] (by exact jb1 _) ?_)
      | (at_builtin; refine wpList_append_any _ rfl (.tmp 71) (.tmp 74) 36 rfl base 5 i0 _ 1 1 Tryz.underlying36 hi0 hz0 hz1 hz2 rfl (by omega) (.slice A0 n0 c0) n0 (u8s xs) rfl HOA.out _ (some ⟨w0.heap.size, 0, none⟩) 1 1 [.int .u8 123] rfl HR1.out (by simp [Value.oneCell']) (by simp only [maxLen]; omega) (by omega) HBS.out ?_; intro v1 w1 hown1 hg1 _; have AD1 := Lib.hid (Adds.ahead HBA.out (Adds.of (n1 := [123]) HOA.out rfl hown1 hg1)); clear hown1 hg1))
    have HX1 := Lib.hid (AD1.out.kp.box HX0.out)
    have HS1 : Hid (base ≤ w1.heap.size) := Nat.le_trans HS0.out AD1.out.kp.size
    have HO1 : Hid (w1.ownsRow base 5 1 v1 (n0 + 1) (u8s (xs ++ [123]))) := by
      have := AD1.out.own
      rw [List.length_append, List.length_singleton, show xs.length = n0 by simpa using HO0.out.1] at this
      exact this
    clear k0 k1 k2 k3 HR1 HBA HOA HBS HX0
    obtain ⟨Ab0, cb0, hvb0⟩ := own_slice HO1.out
    subst hvb0
    clear hm0 hm1 hmz
    have HNB0 : Hid ((xs ++ [123]).length = n0 + 1) := by
      have h3 : xs.length = n0 := by simpa using HO0.out.1
      show _ = _
      rw [List.length_append, h3]; rfl
    have HF0 : Hid (BY = ([123] ++ tldL true ((0 : Nat) == 0) (its.drop 0) (nms.drop 0)) ++ [125]) := HBY2.out
    clear HO1 HS1
    go_wp2_with fail
    go_loopw [0, 6] (fun vb vi wr => ∃ (i : Nat) (ys : List Int) (nb : Nat) (Ab : Option Addr) (cb : Nat), vb = .slice Ab nb cb ∧ Hid ((xs ++ ys).length = nb) ∧ vi = .int .i64 i ∧ i ≤ its.length ∧ Hid (BY = (ys ++ tldL true (i == 0) (its.drop i) (nms.drop i)) ++ [125]) ∧ Hid (Adds w0 wr base (.slice Ab nb cb) xs ys) ∧ Hid (Box wr w.heap.size cs)) (fun _ vi _ => its.length - (intOf vi).toNat)
    case atStart => exact ⟨0, [123], n0 + 1, Ab0, cb0, rfl, HNB0, rfl, Nat.zero_le _, HF0, AD1, HX1⟩
    case round =>
      obtain ⟨i, ys, nb, Ab, cb, rfl, HNB, rfl, hi, HF, HAr, HXr⟩ := hrel
      clear HBY2 HF0 AD1 HX1 HNB0
      have HBb : Hid (Below base w wr) := (HB.out.mono HLO.out).trans (HAr.out.kp.below (Nat.le_refl _) (Nat.le_trans HLO.out HB.out.size))
      have HSr : Hid (base ≤ wr.heap.size) := Nat.le_trans HLO.out HBb.out.size
      have HOr : Hid (wr.ownsRow base 5 1 (.slice Ab nb cb) nb (u8s (xs ++ ys))) := by have := HAr.out.own; rw [HNB.out] at this; exact this
      have k0 : wr.cell? ⟨w.heap.size, 0, none⟩ = some (.int .i64 7) := (HXr.out.blk.cell 0).trans K0.out
      have k4 : wr.cell? ⟨w.heap.size, 4, none⟩ = some (.slice A its.length c) := (HXr.out.blk.cell 4).trans K4.out
      by_cases hlt : i < its.length
      · obtain ⟨b, off, hA, hbl, hbl2, hr⟩ := HOP.out (by omega)
        subst hA
        obtain ⟨cs', hrv, hcell0⟩ := hr i hlt
        have hcell : ∀ W, Below base w W → ∀ q u, cs'[q]? = some u → W.cell? ⟨b, off + i * 6 + q, none⟩ = some u := fun W hW q u hq => (hW.cell (p := ⟨b, off + i * 6 + q, none⟩) hbl).trans (by rw [Nat.add_assoc]; exact hcell0 q u hq)
        obtain ⟨h6, hone⟩ : cs'.length = 6 ∧ cs'.toArray.toList.all (·.oneCell') = true := by
          obtain ⟨_, _, _, _, e, _⟩ := hrv.open_
          subst e
          exact ⟨rfl, rfl⟩
        have HRV0 := Lib.hid hrv
        have HCEL := Lib.hid hcell
        have HST := Lib.hid (tldL_step (m := true) (n := nms) hlt)
        have HCALL := Lib.hid (HIH.out i hlt)
        clear hr hrv hcell hcell0 HIH
        obtain ⟨BI, hbi⟩ : ∃ BI, tld its[i] = BI := ⟨_, rfl⟩
        rw [hbi] at HCALL HST
        clear hbi
        have h3 : xs.length = n0 := by simpa using HO0.out.1
        have HX3 := Lib.hid h3
        clear h3
        have hnl : nms.length = its.length := by first | exact HGN.out rfl | exact HGN.out trivial
        obtain ⟨bn, offn, hAn, hbn1, hbn2, hcelln⟩ := HNM.out.form (by omega)
        subst hAn
        have kn0 := hcelln i (by omega)
        rw [show (strs nms).getD i undef = .string (nms.getD i ⟨#[]⟩) by simp [List.getD, List.getElem?_eq_getElem (show i < nms.length by omega)]] at kn0
        have hns : (nms.getD i ⟨#[]⟩).size < 1048576 := HNS.out _ (by rw [List.getD_eq_getElem?_getD, List.getElem?_eq_getElem (show i < nms.length by omega)]; exact List.getElem_mem _)
        have dn : (i : Int) < (nms.length : Int) := by omega
        clear hcelln
        generalize nms.getD i ⟨#[]⟩ = nmi at *
        have HKN : Hid (∀ W, Below base w W → W.cell? ⟨bn, offn + i, none⟩ = some (.string nmi)) := fun W hW => (hW.cell (p := ⟨bn, offn + i, none⟩) hbn1).trans kn0
        clear kn0
        by_cases hi00 : i = 0
        · have hib : (i == 0) = true := by simp [hi00]
          have hip : ¬ (0 : Int) < (i : Int) := by omega
          have HF7 : Hid (BY = ((((ys ++ quo nmi) ++ [58, 32]) ++ BI) ++ tldL true (i + 1 == 0) (its.drop (i + 1)) (nms.drop (i + 1))) ++ [125]) := by
            show _ = _
            rw [HF.out, HST.out]
            simp [hib, List.append_assoc]
          clear hib hi00
          have HLQ : Hid ((xs ++ ys).length + (quo nmi).length + 2 ≤ 1099511627776) := by
            have h1 := congrArg List.length HF7.out
            simp only [List.length_append, List.length_cons, List.length_nil] at h1
            have h3 := HX3.out
            show _ ≤ _
            simp only [List.length_append, List.length_cons, List.length_nil]
            omega
          have HLL : Hid ((xs ++ ((ys ++ quo nmi) ++ [58, 32])).length + BI.length ≤ 1099511627776) := by
            have h1 := congrArg List.length HF7.out
            rw [List.length_append, List.length_append, List.length_append] at h1
            have h4 : (xs ++ (((ys ++ quo nmi) ++ [58, 32]))).length = (xs ++ ((ys ++ quo nmi) ++ [58, 32])).length := rfl
            rw [List.length_append] at h4
            have h3 := HX3.out
            show _ ≤ _
            first | omega | (rw [List.length_append]; omega)
          have hnbq := HNB.out
          have HLQ2 : Hid (nb + (quo nmi).length + 2 ≤ 1099511627776) := by have := HLQ.out; rw [hnbq] at this; exact this
          clear HST HF hnbq
          have HBn : Hid (Below base w wr) := (HB.out.mono HLO.out).trans (HAr.out.kp.below (Nat.le_refl _) (Nat.le_trans HLO.out HB.out.size))
          have k5 : wr.cell? ⟨w.heap.size, 5, none⟩ = some (.slice (some ⟨bn, offn, none⟩) nms.length c') := (HXr.out.blk.cell 5).trans K5.out
          have kn := HKN.out wr HBn.out
          go_wp2_with fail
          refine (c_Quote nmi (by omega) _).mono ?_; rintro e w3 ⟨rfl, hb3⟩
          have HO3 := Lib.hid (own_below HOr.out hb3)
          have HX3b := Lib.hid (HXr.out.step hb3)
          have AD3 := Lib.hid (HAr.out.step hb3)
          have HS3 : Hid (base ≤ w3.heap.size) := Nat.le_trans HSr.out hb3.size
          obtain ⟨S, hS⟩ : ∃ S : ByteArray, strOfNums (quo nmi) = S := ⟨_, rfl⟩
          have HTQ : Hid (txB S = quo nmi) := by show _ = _; rw [← hS]; exact txB_nm (quo_bts nmi)
          have HSQ : Hid (S.size = (quo nmi).length) := by show _ = _; rw [← txB_len, HTQ.out]
          simp only [nmT, hS]
          clear hS hb3 k5 kn k0
          go_upto_region 32 with (at_builtin; refine Lib.wpList_append_own_string _ rfl (.tmp 90) (.tmp 96) 36 9 rfl base 5 i0 Tryz.underlying36 Tryz.underlying9 hi0 hz0 hz1 hz2 (.slice Ab nb cb) (nb) _ rfl HO3.out S rfl (by simp only [maxLen]; have := HSQ.out; have := HLQ2.out; omega) (by have := HSQ.out; have := HLQ2.out; omega) HS3.out ?_; intro v4 w4 ho1 hg1 _; have AD4s := Lib.hid (Adds.ofS HO3.out ho1 hg1); have hg1s := hg1.size; clear ho1; have HX4 := Lib.hid ((Kept8.of_grown HO3.out hg1).box HX3b.out); have HS4 : Hid (base ≤ w4.heap.size) := Nat.le_trans HS3.out hg1s; clear hg1 hg1s)
          have AD4 : Hid (Adds w0 w4 base v4 xs (ys ++ quo nmi)) := AD3.out.trans (HTQ.out ▸ AD4s.out)
          clear AD4s HO3 HX3b AD3 HS3
          have HN4 : Hid ((xs ++ (ys ++ quo nmi)).length = nb + (quo nmi).length) := by have := HNB.out; show _ = _; rw [← List.append_assoc, List.length_append, this]
          have HO4 : Hid (w4.ownsRow base 5 1 v4 (nb + (quo nmi).length) (u8s (xs ++ (ys ++ quo nmi)))) := by have := AD4.out.own; rw [HN4.out] at this; exact this
          have HZ5 : Hid ((⟨#[58, 32]⟩ : ByteArray).size = 2) := rfl
          have HT5 : Hid (txB ⟨#[58, 32]⟩ = [58, 32]) := rfl
          go_upto_region 33 with (at_builtin; refine Lib.wpList_append_own_string _ rfl (.tmp 98) (.const (.string ⟨#[58, 32]⟩)) 36 9 rfl base 5 i0 Tryz.underlying36 Tryz.underlying9 hi0 hz0 hz1 hz2 v4 (nb + (quo nmi).length) _ rfl HO4.out ⟨#[58, 32]⟩ rfl (by simp only [maxLen]; have := HZ5.out; have := HLQ2.out; omega) (by have := HZ5.out; have := HLQ2.out; omega) HS4.out ?_; intro v5 w5 ho1 hg1 _; have AD5s := Lib.hid (Adds.ofS HO4.out ho1 hg1); have hg1s := hg1.size; clear ho1; have HX5 := Lib.hid ((Kept8.of_grown HO4.out hg1).box HX4.out); have HS5 : Hid (base ≤ w5.heap.size) := Nat.le_trans HS4.out hg1s; clear hg1 hg1s)
          have AD5 : Hid (Adds w0 w5 base v5 xs ((ys ++ quo nmi) ++ [58, 32])) := AD4.out.trans (HT5.out ▸ AD5s.out)
          clear AD5s AD4 HO4 HX4 HS4
          obtain ⟨Ab5, cb5, hv5⟩ := own_slice AD5.out.own
          obtain ⟨nb5, hnb5⟩ : ∃ n, (xs ++ ((ys ++ quo nmi) ++ [58, 32])).length = n := ⟨_, rfl⟩
          rw [hnb5] at hv5
          subst hv5
          have HN5 := Lib.hid hnb5
          clear hnb5
          have HO5 : Hid (w5.ownsRow base 5 1 (.slice Ab5 nb5 cb5) nb5 (u8s (xs ++ ((ys ++ quo nmi) ++ [58, 32])))) := by have := AD5.out.own; rw [HN5.out] at this; exact this
          rw [HN5.out] at HLL
          clear k4
          have HBx : Hid (Below base w w5) := (HB.out.mono HLO.out).trans (AD5.out.kp.below (Nat.le_refl _) (Nat.le_trans HLO.out HB.out.size))
          have HCELr := Lib.hid (HCEL.out w5 HBx.out)
          have HRD4 := Lib.hid (RdV.below HRV0.out HBx.out)
          have k4 : w5.cell? ⟨w.heap.size, 4, none⟩ = some (.slice (some ⟨b, off, none⟩) its.length c) := (HX5.out.blk.cell 4).trans K4.out
          go_wp2_with (refine wpList_load_at rfl 26 (.tmp 104) rfl b (off + i * 6) rfl cs' _ HCELr.out Tryz.underlying26 rfl (by rw [h6]; exact v_info) ?_)
          refine (HCALL.out cs' w5 Ab5 nb5 cb5 _ HRD4.out HS5.out HO5.out HLL.out).mono ?_; rintro e w7 ⟨v7, rfl, had7⟩
          have HA7 := Lib.hid (AD5.out.trans had7)
          have HX7 := Lib.hid (had7.kp.box HX5.out)
          obtain ⟨Ab7, cb7, hv7⟩ := own_slice HA7.out.own
          obtain ⟨nb7, hnb7⟩ : ∃ n, (xs ++ (((ys ++ quo nmi) ++ [58, 32]) ++ BI)).length = n := ⟨_, rfl⟩
          rw [hnb7] at hv7
          subst hv7
          have HNB7 := Lib.hid hnb7
          clear hnb7 had7 HCALL HLL HRD4 HCELr k4
          go_wp2_with fail
          go_roundw
          case rel => exact ⟨i + 1, _, nb7, Ab7, cb7, rfl, HNB7, by go_num, hlt, HF7, HA7, HX7⟩
          case measure => simp [intOf]; omega
        · have hib : (i == 0) = false := by simpa using hi00
          have hip : (0 : Int) < (i : Int) := by omega
          have HF7 : Hid (BY = (((((ys ++ [44, 32]) ++ quo nmi) ++ [58, 32]) ++ BI) ++ tldL true (i + 1 == 0) (its.drop (i + 1)) (nms.drop (i + 1))) ++ [125]) := by
            show _ = _
            rw [HF.out, HST.out]
            simp [hib, List.append_assoc]
          clear hib hi00
          have HLQ : Hid ((xs ++ (ys ++ [44, 32])).length + (quo nmi).length + 2 ≤ 1099511627776) := by
            have h1 := congrArg List.length HF7.out
            simp only [List.length_append, List.length_cons, List.length_nil] at h1
            have h3 := HX3.out
            show _ ≤ _
            simp only [List.length_append, List.length_cons, List.length_nil]
            omega
          have HLL : Hid ((xs ++ (((ys ++ [44, 32]) ++ quo nmi) ++ [58, 32])).length + BI.length ≤ 1099511627776) := by
            have h1 := congrArg List.length HF7.out
            rw [List.length_append, List.length_append, List.length_append] at h1
            have h4 : (xs ++ ((((ys ++ [44, 32]) ++ quo nmi) ++ [58, 32]))).length = (xs ++ (((ys ++ [44, 32]) ++ quo nmi) ++ [58, 32])).length := rfl
            rw [List.length_append] at h4
            have h3 := HX3.out
            show _ ≤ _
            first | omega | (rw [List.length_append]; omega)
          have HLQ2 : Hid (nb + 2 + (quo nmi).length + 2 ≤ 1099511627776) := by have := HLQ.out; have h4 := HNB.out; rw [← List.append_assoc, List.length_append, h4] at this; exact this
          have hnb2 : nb + 2 ≤ 1099511627776 := by have := HLQ2.out; omega
          clear HST HF
          have HZ2 : Hid ((⟨#[44, 32]⟩ : ByteArray).size = 2) := rfl
          have HT2 : Hid (txB ⟨#[44, 32]⟩ = [44, 32]) := rfl
          go_upto_region 30 with (at_builtin; refine Lib.wpList_append_own_string _ rfl (.tmp 85) (.const (.string ⟨#[44, 32]⟩)) 36 9 rfl base 5 i0 Tryz.underlying36 Tryz.underlying9 hi0 hz0 hz1 hz2 (.slice Ab nb cb) (nb) _ rfl HOr.out ⟨#[44, 32]⟩ rfl (by simp only [maxLen]; have := HZ2.out; omega) (by have := HZ2.out; omega) HSr.out ?_; intro v2 w2 ho1 hg1 _; have AD2s := Lib.hid (Adds.ofS HOr.out ho1 hg1); have hg1s := hg1.size; clear ho1; have HX2s := Lib.hid ((Kept8.of_grown HOr.out hg1).box HXr.out); have HS2 : Hid (base ≤ w2.heap.size) := Nat.le_trans HSr.out hg1s; clear hg1 hg1s)
          have AD2 : Hid (Adds w0 w2 base v2 xs (ys ++ [44, 32])) := HAr.out.trans (HT2.out ▸ AD2s.out)
          clear AD2s k0 k4
          obtain ⟨Ab2, cb2, hv2⟩ := own_slice AD2.out.own
          have HN2 : Hid ((xs ++ (ys ++ [44, 32])).length = nb + 2) := by have := HNB.out; show _ = _; rw [← List.append_assoc, List.length_append, this]; rfl
          rw [HN2.out] at hv2
          subst hv2
          have HO2 : Hid (w2.ownsRow base 5 1 (.slice Ab2 (nb + 2) cb2) (nb + 2) (u8s (xs ++ (ys ++ [44, 32])))) := by have := AD2.out.own; rw [HN2.out] at this; exact this
          have k0 : w2.cell? ⟨w.heap.size, 0, none⟩ = some (.int .i64 7) := (HX2s.out.blk.cell 0).trans K0.out
          have HBn : Hid (Below base w w2) := (HB.out.mono HLO.out).trans (AD2.out.kp.below (Nat.le_refl _) (Nat.le_trans HLO.out HB.out.size))
          have k5 : w2.cell? ⟨w.heap.size, 5, none⟩ = some (.slice (some ⟨bn, offn, none⟩) nms.length c') := (HX2s.out.blk.cell 5).trans K5.out
          have kn := HKN.out w2 HBn.out
          go_wp2_with fail
          refine (c_Quote nmi (by omega) _).mono ?_; rintro e w3 ⟨rfl, hb3⟩
          have HO3 := Lib.hid (own_below HO2.out hb3)
          have HX3b := Lib.hid (HX2s.out.step hb3)
          have AD3 := Lib.hid (AD2.out.step hb3)
          have HS3 : Hid (base ≤ w3.heap.size) := Nat.le_trans HS2.out hb3.size
          obtain ⟨S, hS⟩ : ∃ S : ByteArray, strOfNums (quo nmi) = S := ⟨_, rfl⟩
          have HTQ : Hid (txB S = quo nmi) := by show _ = _; rw [← hS]; exact txB_nm (quo_bts nmi)
          have HSQ : Hid (S.size = (quo nmi).length) := by show _ = _; rw [← txB_len, HTQ.out]
          simp only [nmT, hS]
          clear hS hb3 k5 kn k0
          go_upto_region 32 with (at_builtin; refine Lib.wpList_append_own_string _ rfl (.tmp 90) (.tmp 96) 36 9 rfl base 5 i0 Tryz.underlying36 Tryz.underlying9 hi0 hz0 hz1 hz2 (.slice Ab2 (nb + 2) cb2) (nb + 2) _ rfl HO3.out S rfl (by simp only [maxLen]; have := HSQ.out; have := HLQ2.out; omega) (by have := HSQ.out; have := HLQ2.out; omega) HS3.out ?_; intro v4 w4 ho1 hg1 _; have AD4s := Lib.hid (Adds.ofS HO3.out ho1 hg1); have hg1s := hg1.size; clear ho1; have HX4 := Lib.hid ((Kept8.of_grown HO3.out hg1).box HX3b.out); have HS4 : Hid (base ≤ w4.heap.size) := Nat.le_trans HS3.out hg1s; clear hg1 hg1s)
          have AD4 : Hid (Adds w0 w4 base v4 xs ((ys ++ [44, 32]) ++ quo nmi)) := AD3.out.trans (HTQ.out ▸ AD4s.out)
          clear AD4s HO3 HX3b AD3 HS3
          have HN4 : Hid ((xs ++ ((ys ++ [44, 32]) ++ quo nmi)).length = nb + 2 + (quo nmi).length) := by have := HN2.out; show _ = _; rw [← List.append_assoc, List.length_append, this]
          have HO4 : Hid (w4.ownsRow base 5 1 v4 (nb + 2 + (quo nmi).length) (u8s (xs ++ ((ys ++ [44, 32]) ++ quo nmi)))) := by have := AD4.out.own; rw [HN4.out] at this; exact this
          have HZ5 : Hid ((⟨#[58, 32]⟩ : ByteArray).size = 2) := rfl
          have HT5 : Hid (txB ⟨#[58, 32]⟩ = [58, 32]) := rfl
          go_upto_region 33 with (at_builtin; refine Lib.wpList_append_own_string _ rfl (.tmp 98) (.const (.string ⟨#[58, 32]⟩)) 36 9 rfl base 5 i0 Tryz.underlying36 Tryz.underlying9 hi0 hz0 hz1 hz2 v4 (nb + 2 + (quo nmi).length) _ rfl HO4.out ⟨#[58, 32]⟩ rfl (by simp only [maxLen]; have := HZ5.out; have := HLQ2.out; omega) (by have := HZ5.out; have := HLQ2.out; omega) HS4.out ?_; intro v5 w5 ho1 hg1 _; have AD5s := Lib.hid (Adds.ofS HO4.out ho1 hg1); have hg1s := hg1.size; clear ho1; have HX5 := Lib.hid ((Kept8.of_grown HO4.out hg1).box HX4.out); have HS5 : Hid (base ≤ w5.heap.size) := Nat.le_trans HS4.out hg1s; clear hg1 hg1s)
          have AD5 : Hid (Adds w0 w5 base v5 xs (((ys ++ [44, 32]) ++ quo nmi) ++ [58, 32])) := AD4.out.trans (HT5.out ▸ AD5s.out)
          clear AD5s AD4 HO4 HX4 HS4
          obtain ⟨Ab5, cb5, hv5⟩ := own_slice AD5.out.own
          obtain ⟨nb5, hnb5⟩ : ∃ n, (xs ++ (((ys ++ [44, 32]) ++ quo nmi) ++ [58, 32])).length = n := ⟨_, rfl⟩
          rw [hnb5] at hv5
          subst hv5
          have HN5 := Lib.hid hnb5
          clear hnb5
          have HO5 : Hid (w5.ownsRow base 5 1 (.slice Ab5 nb5 cb5) nb5 (u8s (xs ++ (((ys ++ [44, 32]) ++ quo nmi) ++ [58, 32])))) := by have := AD5.out.own; rw [HN5.out] at this; exact this
          rw [HN5.out] at HLL
          have HBx : Hid (Below base w w5) := (HB.out.mono HLO.out).trans (AD5.out.kp.below (Nat.le_refl _) (Nat.le_trans HLO.out HB.out.size))
          have HCELr := Lib.hid (HCEL.out w5 HBx.out)
          have HRD4 := Lib.hid (RdV.below HRV0.out HBx.out)
          have k4 : w5.cell? ⟨w.heap.size, 4, none⟩ = some (.slice (some ⟨b, off, none⟩) its.length c) := (HX5.out.blk.cell 4).trans K4.out
          go_wp2_with (refine wpList_load_at rfl 26 (.tmp 104) rfl b (off + i * 6) rfl cs' _ HCELr.out Tryz.underlying26 rfl (by rw [h6]; exact v_info) ?_)
          refine (HCALL.out cs' w5 Ab5 nb5 cb5 _ HRD4.out HS5.out HO5.out HLL.out).mono ?_; rintro e w7 ⟨v7, rfl, had7⟩
          have HA7 := Lib.hid (AD5.out.trans had7)
          have HX7 := Lib.hid (had7.kp.box HX5.out)
          obtain ⟨Ab7, cb7, hv7⟩ := own_slice HA7.out.own
          obtain ⟨nb7, hnb7⟩ : ∃ n, (xs ++ ((((ys ++ [44, 32]) ++ quo nmi) ++ [58, 32]) ++ BI)).length = n := ⟨_, rfl⟩
          rw [hnb7] at hv7
          subst hv7
          have HNB7 := Lib.hid hnb7
          clear hnb7 had7 HCALL HLL HRD4 HCELr k4
          go_wp2_with fail
          go_roundw
          case rel => exact ⟨i + 1, _, nb7, Ab7, cb7, rfl, HNB7, by go_num, hlt, HF7, HA7, HX7⟩
          case measure => simp [intOf]; omega
      · have HE2 : Hid (BY = ys ++ [125]) := by
          have := HF.out
          rw [List.drop_eq_nil_of_le (show its.length ≤ i by omega), tldL, List.append_nil] at this
          exact this
        have hii : i = its.length := by omega
        subst hii
        have hnbl : nb + 1 ≤ 1099511627776 := by
          have h1 := congrArg List.length HE2.out
          rw [List.length_append] at h1
          have h4 := HNB.out
          rw [List.length_append] at h4
          have h3 : xs.length = n0 := by simpa using HO0.out.1
          simp only [List.length_cons, List.length_nil] at h1
          omega
        have hmz := HMZ.out
        have hm1 := HM1.out
        have HR1 := Lib.hid (jl1 wr 125)
        have HBA : Hid (Below wr.heap.size wr (wr.alloc (.cells #[.int .u8 125] 5))) := (Below.refl _ _).alloc (Nat.le_refl _) _
        have HOA := Lib.hid (own_below HOr.out HBA.out)
        have HBS : Hid (base ≤ (wr.alloc (.cells #[.int .u8 125] 5)).heap.size) := Nat.le_trans HSr.out HBA.out.size
        go_wp2_with (first
          | (refine wpList_buildSliceTo rfl 36 5 1 _ rfl wr.heap.size rfl (some 110) rfl Tryz.underlying36 #[.int .u8 125] (by exact jb1 _) ?_)
          | (at_builtin; refine wpList_append_any _ rfl (.tmp 107) (.tmp 110) 36 rfl base 5 i0 _ 1 1 Tryz.underlying36 hi0 hz0 hz1 hz2 rfl (by omega) (.slice Ab nb cb) nb (u8s (xs ++ ys)) rfl HOA.out _ (some ⟨wr.heap.size, 0, none⟩) 1 1 [.int .u8 125] rfl HR1.out (by simp [Value.oneCell']) (by simp only [maxLen]; omega) (by omega) HBS.out ?_; intro v2 w2 hown2 hg2 _; have AD2 := Lib.hid (Adds.trans HAr.out (Adds.ahead HBA.out (Adds.of (n1 := [125]) HOA.out rfl hown2 hg2))); clear hown2 hg2))
        go_ret
        exact ⟨_, rfl, by rw [HE2.out]; exact Adds.ahead HB.out AD2.out⟩
end Go.Proofs.YtigbbogfnchgnaaGreatDoor
