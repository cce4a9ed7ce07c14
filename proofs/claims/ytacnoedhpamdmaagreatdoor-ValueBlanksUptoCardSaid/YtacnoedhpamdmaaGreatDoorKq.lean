/- Walks: the law's gaps (quernlaw23.gap) and an int in decimal (quernref23.Digits). Conditions: as stated. -/
import Derived.Test.YtacnoedhpamdmaaGreatDoorKj
import Derived.Test.YtacnoedhpamdmaaGreatDoorKb
import Derived.Test.YtacnoedhpamdmaaGreatDoorMem2
import Derived.Laws.IdiomStrings
import Derived.Great.Walk
import Derived.Lib.Hide
import Derived.WalkKit
import Derived.IntWalk
import Derived.Deep.DrawnRows
namespace Go.Proofs.YtacnoedhpamdmaaGreatDoor
open Go.RowKit
set_option linter.unusedVariables false
set_option linter.unusedSimpArgs false
attribute [local go_sem ↓] Go.wp_at_zero Go.wp_at_succ

/-- Bytes as a string. -/
abbrev bst (l : List UInt8) : Value := .string ⟨l.toArray⟩
theorem bst_add (a b : List UInt8) : Value.string ((⟨a.toArray⟩ : ByteArray) ++ ⟨b.toArray⟩) = bst (a ++ b) := by rw [ByteArray.mk_append_mk]
theorem bst3 (a b c : List UInt8) : Value.string ((⟨a.toArray⟩ : ByteArray) ++ ((⟨b.toArray⟩ : ByteArray) ++ ⟨c.toArray⟩)) = bst (a ++ (b ++ c)) := by rw [ByteArray.mk_append_mk, ByteArray.mk_append_mk]
theorem built_u8 (y : Int) : Tryz.prog.builtSlice 5 1 [(0, .int .u8 y)] = some #[.int .u8 y] := by kernel_rfl
theorem conv_u8 (w : World) (y : Int) (k : Nat) (hk : k < 256) (hy : y = k) : (convert 23 9 (.slice (some ⟨w.heap.size, 0, none⟩) 1 1)).run Tryz.prog (w.alloc (.cells #[.int .u8 y] 5)) = .ok (bst [UInt8.ofNat k]) (w.alloc (.cells #[.int .u8 y] 5)) := by
  subst hy
  exact run_convert_bytes_back _ 23 9 5 ⟨w.heap.size, 0, none⟩ 1 [UInt8.ofNat k] Tryz.underlying23 Tryz.underlying5 Tryz.underlying9 (fun j hj => by
    obtain rfl : j = 0 := by simpa using hj
    have : ((⟨w.heap.size, 0, none⟩ : Addr).add 0) = ⟨w.heap.size, 0, none⟩ := by simp [Addr.add]
    rw [this, (Blk.new w 5 #[.int .u8 k]).cell 0]
    simp [Nat.mod_eq_of_lt hk])
set_option maxRecDepth 100000 in
set_option maxHeartbeats 1000000 in
theorem c_Digits (z : Int) (h1 : -9223372036854775808 ≤ z) (h2 : z < 9223372036854775808) (w : World) : Calls Tryz.prog 12 #[.int .i64 z] w fun e w' => e = .returned (bst (Lib.itoa z)) ∧ Below w.heap.size w w' := by
  by_cases hz : z < 0
  · have hw : IntKind.u64.wrap z = z + 18446744073709551616 := by rw [IntKind.wrap_u64]; omega
    obtain ⟨U, hU⟩ : ∃ U : Nat, z.natAbs = U := ⟨_, rfl⟩
    have hw2 : IntKind.u64.wrap (-(z + 18446744073709551616)) = (U : Int) := by rw [IntKind.wrap_u64]; omega
    have HIT : Hid (Lib.itoa z = 45 :: Lib.decDigits U) := by
      show _ = _
      unfold Lib.itoa
      rw [if_pos hz, hU]
    have hu0 : U < 18446744073709551616 := by omega
    clear hU
    go_enter Tryz.func12, Tryz.ntmps12
    go_wp2_with fail
    clear hw hw2 hz h1 h2
    go_loopw [3, 5] (fun va vs wr => ∃ (u : Nat) (l : List UInt8), va = .int .u64 u ∧ vs = bst l ∧ u < 18446744073709551616 ∧ Hid (Lib.decDigits U = Lib.decDigits u ++ l) ∧ Hid (Below w.heap.size w wr)) (fun va _ _ => (intOf va).toNat)
    case atStart => exact ⟨U, [], rfl, rfl, hu0, by show _ = _; simp, Below.refl _ _⟩
    case round =>
      obtain ⟨u, l, rfl, rfl, hu, HD, HB⟩ := hrel
      have hll : l.length ≤ 20 := by
        have h1 := dg_len20 hu0
        rw [HD.out, List.length_append] at h1
        omega
      have hcv := conv_u8 wr (48 + (u : Int) % 10) (48 + u % 10) (by omega) (by omega)
      have HB1 : Hid (Below w.heap.size w (wr.alloc (.cells #[.int .u8 (48 + (u : Int) % 10)] 5))) := HB.out.alloc HB.out.size _
      by_cases h10 : 10 ≤ u
      · have hnz : ((u : Int) / 10 == 0) = false := by simp; omega
        have HD1 : Hid (Lib.decDigits U = Lib.decDigits (u / 10) ++ ([UInt8.ofNat (48 + u % 10)] ++ l)) := by
          show _ = _
          rw [HD.out, dg_ten h10, List.append_assoc]
        generalize UInt8.ofNat (48 + u % 10) = ch at *
        generalize hw1 : wr.alloc (.cells #[.int .u8 (48 + (u : Int) % 10)] 5) = w1 at *
        go_wp2_with (refine wpList_buildSliceTo rfl 23 5 1 _ rfl wr.heap.size rfl (some 16) rfl Tryz.underlying23 #[.int .u8 (48 + (u : Int) % 10)] (by exact built_u8 _) ?_; rw [hw1])
        go_roundw
        case rel => exact ⟨u / 10, [ch] ++ l, by go_num, bst_add [ch] l, by omega, HD1.out, HB1.out⟩
        case measure => simp [intOf]; omega
      · have hnz : ((u : Int) / 10 == 0) = true := by simp; omega
        have HD1 : Hid (Lib.decDigits U = [UInt8.ofNat (48 + u % 10)] ++ l) := by
          show _ = _
          rw [HD.out, dg_one (by omega), Nat.mod_eq_of_lt (by omega)]
        generalize UInt8.ofNat (48 + u % 10) = ch at *
        generalize hw1 : wr.alloc (.cells #[.int .u8 (48 + (u : Int) % 10)] 5) = w1 at *
        go_wp2_with (refine wpList_buildSliceTo rfl 23 5 1 _ rfl wr.heap.size rfl (some 16) rfl Tryz.underlying23 #[.int .u8 (48 + (u : Int) % 10)] (by exact built_u8 _) ?_; rw [hw1])
        go_ret
        exact ⟨by rw [HIT.out, HD1.out]; exact congrArg Ending.returned (bst3 [45] [ch] l), HB1.out⟩
  · obtain ⟨U, hU⟩ : ∃ U : Nat, z.toNat = U := ⟨_, rfl⟩
    have hw : IntKind.u64.wrap z = (U : Int) := by rw [IntKind.wrap_u64]; omega
    have HIT : Hid (Lib.itoa z = Lib.decDigits U) := by
      show _ = _
      unfold Lib.itoa
      rw [if_neg hz, hU]
    have hu0 : U < 18446744073709551616 := by omega
    clear hU
    go_enter Tryz.func12, Tryz.ntmps12
    go_wp2_with fail
    clear hw hz h1 h2
    go_loopw [3, 5] (fun va vs wr => ∃ (u : Nat) (l : List UInt8), va = .int .u64 u ∧ vs = bst l ∧ u < 18446744073709551616 ∧ Hid (Lib.decDigits U = Lib.decDigits u ++ l) ∧ Hid (Below w.heap.size w wr)) (fun va _ _ => (intOf va).toNat)
    case atStart => exact ⟨U, [], rfl, rfl, hu0, by show _ = _; simp, Below.refl _ _⟩
    case round =>
      obtain ⟨u, l, rfl, rfl, hu, HD, HB⟩ := hrel
      have hll : l.length ≤ 20 := by
        have h1 := dg_len20 hu0
        rw [HD.out, List.length_append] at h1
        omega
      have hcv := conv_u8 wr (48 + (u : Int) % 10) (48 + u % 10) (by omega) (by omega)
      have HB1 : Hid (Below w.heap.size w (wr.alloc (.cells #[.int .u8 (48 + (u : Int) % 10)] 5))) := HB.out.alloc HB.out.size _
      by_cases h10 : 10 ≤ u
      · have hnz : ((u : Int) / 10 == 0) = false := by simp; omega
        have HD1 : Hid (Lib.decDigits U = Lib.decDigits (u / 10) ++ ([UInt8.ofNat (48 + u % 10)] ++ l)) := by
          show _ = _
          rw [HD.out, dg_ten h10, List.append_assoc]
        generalize UInt8.ofNat (48 + u % 10) = ch at *
        generalize hw1 : wr.alloc (.cells #[.int .u8 (48 + (u : Int) % 10)] 5) = w1 at *
        go_wp2_with (refine wpList_buildSliceTo rfl 23 5 1 _ rfl wr.heap.size rfl (some 16) rfl Tryz.underlying23 #[.int .u8 (48 + (u : Int) % 10)] (by exact built_u8 _) ?_; rw [hw1])
        go_roundw
        case rel => exact ⟨u / 10, [ch] ++ l, by go_num, bst_add [ch] l, by omega, HD1.out, HB1.out⟩
        case measure => simp [intOf]; omega
      · have hnz : ((u : Int) / 10 == 0) = true := by simp; omega
        have HD1 : Hid (Lib.decDigits U = [UInt8.ofNat (48 + u % 10)] ++ l) := by
          show _ = _
          rw [HD.out, dg_one (by omega), Nat.mod_eq_of_lt (by omega)]
        generalize UInt8.ofNat (48 + u % 10) = ch at *
        generalize hw1 : wr.alloc (.cells #[.int .u8 (48 + (u : Int) % 10)] 5) = w1 at *
        go_wp2_with (refine wpList_buildSliceTo rfl 23 5 1 _ rfl wr.heap.size rfl (some 16) rfl Tryz.underlying23 #[.int .u8 (48 + (u : Int) % 10)] (by exact built_u8 _) ?_; rw [hw1])
        go_ret
        exact ⟨by rw [HIT.out, HD1.out]; exact congrArg Ending.returned (bst3 [] [ch] l), HB1.out⟩
theorem slc_mark : ∀ k : Nat, 1 ≤ k → k ≤ 4 → Value.string ((⟨#[32, 9, 10, 13]⟩ : ByteArray).extract (k - 1) k) = bst [mark k] := by
  intro k h1 h4
  obtain rfl | rfl | rfl | rfl : k = 1 ∨ k = 2 ∨ k = 3 ∨ k = 4 := by omega
  all_goals rfl
set_option maxRecDepth 100000 in
set_option maxHeartbeats 1000000 in
theorem c_gap (A : Option Addr) (n c : Nat) (l : List Int) (a : Nat) (w : World) (hr : Reads w w.heap.size 1 A n (l.map (Value.int .u8))) (hb : ∀ z ∈ l, 0 ≤ z ∧ z < 256) (hn : n ≤ 1099511627776) (ha : a ≤ 1099511627776) :
    Calls Tryz.prog 11 #[.slice A n c, .int .i64 (a : Int)] w fun e w' => e = .returned (bst (gapA l a)) ∧ w' = w := by
  have hl : l.length = n := by simpa using hr.1
  by_cases h0 : n = 0
  · subst h0
    have HG : Hid (gapA l a = []) := by
      show _ = _
      unfold gapA
      rw [if_pos (List.eq_nil_of_length_eq_zero hl)]
    clear hr hb hl
    go_enter Tryz.func11, Tryz.ntmps11
    go_wp2_with fail
    go_ret
    exact ⟨by rw [HG.out]; rfl, rfl⟩
  obtain ⟨b, off, hA, hb1, hb2, hcell⟩ := hr.form (by omega)
  subst hA
  have hlt : a % n < n := Nat.mod_lt _ (by omega)
  obtain ⟨m, hm⟩ : ∃ m : Nat, l.getD (a % n) 0 = (m : Int) := by
    have := hb (l[a % n]'(by omega)) (List.getElem_mem _)
    refine ⟨(l.getD (a % n) 0).toNat, ?_⟩
    simp only [List.getD, List.getElem?_eq_getElem (show a % n < l.length by omega), Option.getD_some]
    omega
  have hm2 : m < 256 := by
    have := hb (l[a % n]'(by omega)) (List.getElem_mem _)
    simp only [List.getD, List.getElem?_eq_getElem (show a % n < l.length by omega), Option.getD_some] at hm
    omega
  have HG : Hid (gapA l a = gapN m) := by
    show _ = _
    unfold gapA
    rw [if_neg (by intro e; rw [e] at hl; simp at hl; omega), hl, hm]
    rfl
  have kc := hcell (a % n) hlt
  rw [show (l.map (Value.int .u8)).getD (a % n) undef = .int .u8 (m : Int) by
    rw [← hm]
    simp [List.getD, List.getElem?_eq_getElem (show a % n < l.length by omega)]] at kc
  have hz : ((n : Int) == 0) = false := by simp; omega
  obtain ⟨i, hi⟩ : ∃ i : Nat, a % n = i := ⟨_, rfl⟩
  have hrem : (a : Int).tmod (n : Int) = (i : Int) := by rw [Int.tmod_eq_emod_of_nonneg (by omega), ← hi]; norm_cast
  rw [hi] at kc hlt
  have HM := Lib.hid hm2
  clear hr hb hcell hm hl hi hm2
  go_enter Tryz.func11, Tryz.ntmps11
  go_wp2_with fail
  go_loopw [6, 7] (fun vm vs wr => ∃ (q : Nat) (acc : List UInt8), vm = .int .i64 (q : Int) ∧ vs = bst acc ∧ wr = w ∧ Hid (gapN m = acc ++ gapN q) ∧ q < 256) (fun vm _ _ => (intOf vm).toNat)
  case atStart =>
    have hm2 := HM.out
    have hwm : wrap64 (m : Int) = (m : Int) := IntWalk.wrap64_in _ (by omega)
    exact ⟨m, [], by rw [hwm], rfl, rfl, by show _ = _; simp, hm2⟩
  case round =>
    obtain ⟨q, acc, rfl, rfl, rfl, HA, hq⟩ := hrel
    have hll : acc.length ≤ 4 := by
      have h1 := gapN_len 4 m (by have := HM.out; omega)
      rw [HA.out, List.length_append] at h1
      omega
    by_cases hq0 : q = 0
    · subst hq0
      go_wp2_with fail
      go_ret
      exact ⟨by rw [HG.out, HA.out, gapN_zero, List.append_nil]; rfl, rfl⟩
    have hqp : (0 : Int) < (q : Int) := by omega
    have hqp2 : 0 < q := by omega
    have hst := gapN_step hq0
    by_cases hk : q % 5 = 0
    · have hm5 : (q : Int) % 5 = 0 := by omega
      have HA2 : Hid (gapN m = acc ++ gapN (q / 5)) := by
        show _ = _
        rw [HA.out, hst, if_pos hk, List.nil_append]
      clear hst HA
      go_wp2_with fail
      go_roundw
      case rel => exact ⟨q / 5, acc, by go_num, rfl, trivial, HA2, by omega⟩
      case measure => simp [intOf]; omega
    · obtain ⟨k, hk2⟩ : ∃ k, q % 5 = k := ⟨_, rfl⟩
      have HA2 : Hid (gapN m = (acc ++ [mark k]) ++ gapN (q / 5)) := by
        show _ = _
        rw [HA.out, hst, if_neg hk, hk2, List.append_assoc]
      have hk4 : k = 1 ∨ k = 2 ∨ k = 3 ∨ k = 4 := by omega
      clear hst HA
      rcases hk4 with rfl | rfl | rfl | rfl
      · have hm5 : (q : Int) % 5 = 1 := by omega
        go_wp2_with fail
        go_roundw
        case rel => exact ⟨q / 5, acc ++ [mark 1], by go_num, (by rw [← bst_add]; rfl), trivial, HA2, by omega⟩
        case measure => simp [intOf]; omega
      · have hm5 : (q : Int) % 5 = 2 := by omega
        go_wp2_with fail
        go_roundw
        case rel => exact ⟨q / 5, acc ++ [mark 2], by go_num, (by rw [← bst_add]; rfl), trivial, HA2, by omega⟩
        case measure => simp [intOf]; omega
      · have hm5 : (q : Int) % 5 = 3 := by omega
        go_wp2_with fail
        go_roundw
        case rel => exact ⟨q / 5, acc ++ [mark 3], by go_num, (by rw [← bst_add]; rfl), trivial, HA2, by omega⟩
        case measure => simp [intOf]; omega
      · have hm5 : (q : Int) % 5 = 4 := by omega
        go_wp2_with fail
        go_roundw
        case rel => exact ⟨q / 5, acc ++ [mark 4], by go_num, (by rw [← bst_add]; rfl), trivial, HA2, by omega⟩
        case measure => simp [intOf]; omega
end Go.Proofs.YtacnoedhpamdmaaGreatDoor
