/- Walks: noughts on top cut off, and two numbers held against one another (float.nat's trim and cmp, quernref22's trim and cmp). Conditions: as stated. -/
import Derived.Test.YtcohidjaehdbnaaGreatDoorNc
import Derived.Test.YtcohidjaehdbnaaGreatDoorRows
import Derived.WalkKit
import Derived.WalkSpells
import Derived.WalkLawsBesides
import Derived.Lib.Hide
import Derived.Handy
import Derived.BigQuiet
import Derived.Great.Walk
import Derived.IntWalk
import Derived.Deep.DrawnRows
import Derived.Deep.RegionHeld3
import Derived.Laws.Externs
import Derived.Deep.QuietTactic
namespace Go.Proofs.YtcohidjaehdbnaaGreatDoor
open Go.RowKit
set_option linter.unusedVariables false

theorem kp_walk {l : List Nat} {n k : Nat} (h : kpN l n = kpN l k) (hk : 0 < k) : (l.getD (k - 1) 0 = 0 → kpN l n = kpN l (k - 1)) ∧ (l.getD (k - 1) 0 ≠ 0 → kpN l n = k) := by
  obtain ⟨j, rfl⟩ : ∃ j, k = j + 1 := ⟨k - 1, by omega⟩
  rw [Nat.add_sub_cancel]
  exact ⟨fun h0 => by rw [h, kpN_go h0], fun h0 => by rw [h, kpN_stop h0]⟩
set_option maxHeartbeats 400000 in
theorem c_trim (A : Option Addr) (c : Nat) (l : List Nat) (w : World) (Bk : Nat) (hr : Reads w Bk 1 A l.length (digs .u64 l)) (hc : l.length ≤ c) (hn : l.length ≤ 140737488351232) :
    Calls Tryz.prog 20 #[.slice A l.length c] w fun e w' => e = .returned (.slice A (trimN l).length c) ∧ w = w' := by
  have HF := Lib.hid (trimN_len l)
  have HR := Lib.hid hr
  generalize hL : l.length = n at *
  have HL := Lib.hid hL
  clear hL hr
  go_enter Tryz.func20, Tryz.ntmps20
  go_wp2
  go_loop [0] (fun v => ∃ k : Nat, k ≤ n ∧ v = .slice A k c ∧ Hid (kpN l n = kpN l k)) (fun v => match v with | .slice _ k _ => k | _ => 0)
  case atStart => exact ⟨n, Nat.le_refl _, rfl, rfl⟩
  case round =>
    obtain ⟨k, hk, rfl, HK⟩ := hrel
    by_cases h0 : 0 < k
    · obtain ⟨b, off, rfl, hbB, hbw, hcells⟩ := HR.out.form (by omega)
      have hcell := hcells (k - 1) (by omega)
      rw [digs_getD (by have := HL.out; omega)] at hcell
      have HW := Lib.hid (kp_walk HK.out h0)
      clear hcells
      have hkc : k ≤ c := by omega
      generalize hz : l.getD (k - 1) 0 = z at *
      by_cases h1 : z = 0
      · have hz' : ((z : Int) == 0) = true := by simp [h1]
        have HZ : Hid (kpN l n = kpN l (k - 1)) := HW.out.1 h1
        clear h1 hz HW
        go_wp2
        go_round
        case rel => exact ⟨k - 1, by omega, by first | rfl | (congr 1; omega), HZ⟩
        case measure => show k - 1 < k; omega
      · have hz' : ((z : Int) == 0) = false := by simp [h1]
        have HZ : Hid (kpN l n = k) := HW.out.2 h1
        clear h1 hz HW
        go_wp2
        go_ret
        exact ⟨by rw [HF.out, HZ.out]; rfl, rfl⟩
    · have HZ : Hid (kpN l n = k) := by
        show kpN l n = k
        rw [HK.out]
        obtain rfl : k = 0 := by omega
        rfl
      go_wp2
      go_ret
      exact ⟨by rw [HF.out, HZ.out]; rfl, rfl⟩
/-- -1, 0, 1: below, the same, above. -/
def icmp (a b : Nat) : Int := if a < b then -1 else if b < a then 1 else 0
theorem icmp_lt {a b : Nat} (h : a < b) : icmp a b = -1 := if_pos h
theorem icmp_gt {a b : Nat} (h : b < a) : icmp a b = 1 := by unfold icmp; rw [if_neg (by omega), if_pos h]
theorem icmp_eq {a b : Nat} (h : a = b) : icmp a b = 0 := by unfold icmp; rw [if_neg (by omega), if_neg (by omega)]
set_option maxHeartbeats 800000 in
theorem c_cmp (A A' : Option Addr) (c c' : Nat) (l m : List Nat) (N M : Nat) (w : World) (Bk : Nat) (h : IsN w Bk .u64 18446744073709551616 A c l N) (h' : IsN w Bk .u64 18446744073709551616 A' c' m M) (hn : l.length ≤ 140737488351232) (hn' : m.length ≤ 140737488351232) :
    Calls Tryz.prog 40 #[.slice A l.length c, .slice A' m.length c'] w fun e w' => ∃ z : Int, e = .returned (.int .i64 z) ∧ (0 ≤ z ↔ M ≤ N) ∧ Below w.heap.size w w' := by
  have hr := h.rd
  have hr' := h'.rd
  have HB := Lib.hid h.lb
  have HB' := Lib.hid h'.lb
  by_cases hnn : l.length = m.length
  · have HLL := Lib.hid hnn
    obtain ⟨n, hL⟩ : ∃ n, l.length = n := ⟨_, rfl⟩
    have HL := Lib.hid hL
    rw [← hnn, hL] at hr' ⊢
    rw [hL] at hr hn
    have HR := Lib.hid hr
    have HR' := Lib.hid hr'
    clear h h' hnn hL hn' hr hr'
    go_enter Tryz.func40, Tryz.ntmps40
    go_wp2
    go_loopw [5] (fun i wr => ∃ k d : Nat, k ≤ n ∧ i = .int .i64 ((k : Int) - 1) ∧ Hid (l.drop k = m.drop k) ∧ wr = w.drewN d) (fun i _ => (intOf i + 1).toNat)
    case atStart => exact ⟨n, 0, Nat.le_refl _, rfl, by show _ = _; rw [List.drop_of_length_le (by have := HL.out; omega), List.drop_of_length_le (by have := HL.out; have := HLL.out; omega)], rfl⟩
    case round =>
      obtain ⟨k, d, hk, rfl, HT, rfl⟩ := hrel
      by_cases h0 : 0 < k
      · obtain ⟨j, rfl⟩ : ∃ j, k = j + 1 := ⟨k - 1, by omega⟩
        rw [show (((j + 1 : Nat) : Int) - 1) = (j : Int) from by omega]
        obtain ⟨b, off, rfl, hbB, hbw, hcells⟩ := HR.out.form (by omega)
        obtain ⟨b', off', rfl, hbB', hbw', hcells'⟩ := HR'.out.form (by omega)
        have hcell := hcells j (by omega)
        have hcell' := hcells' j (by omega)
        rw [digs_getD (by have := HL.out; omega)] at hcell
        rw [digs_getD (by have := HL.out; have := HLL.out; omega)] at hcell'
        clear hcells hcells'
        have HG : Hid (l.getD j 0 < m.getD j 0 → N < M) := fun hx => by
          rw [← HB.out.val, ← HB'.out.val]
          exact nval_cmp HLL.out HB.out.rng HB'.out.rng HT.out (by have := HL.out; omega) hx
        have HG' : Hid (m.getD j 0 < l.getD j 0 → M < N) := fun hx => by
          rw [← HB.out.val, ← HB'.out.val]
          exact nval_cmp HLL.out.symm HB'.out.rng HB.out.rng HT.out.symm (by have := HL.out; have := HLL.out; omega) hx
        have HE : Hid (l.getD j 0 = m.getD j 0 → l.drop j = m.drop j) := fun hx => drop_eq_step HLL.out (by have := HL.out; omega) HT.out hx
        generalize l.getD j 0 = x at *
        generalize m.getD j 0 = y at *
        rcases Nat.lt_trichotomy x y with hxy | hxy | hxy
        · have HO : Hid (N < M) := HG.out hxy
          clear HG HG' HE HT
          go_wp2
          go_quiet (fail)
          go_wp2
          go_ret
          exact ⟨-1, rfl, by have := HO.out; omega, below_drewN (below_drewN (Below.refl _ _) _) _⟩
        · have HO : Hid (l.drop j = m.drop j) := HE.out hxy
          have n1 : ¬ (x : Int) < (y : Int) := by omega
          have n2 : ¬ (y : Int) < (x : Int) := by omega
          clear HG HG' HE HT hxy
          go_wp2
          go_quiet (fail)
          go_wp2
          go_quiet (fail)
          go_wp2
          go_roundw
          case rel => exact ⟨j, _, by omega, rfl, HO, rfl⟩
          case measure => simp [intOf]
        · have HO : Hid (M < N) := HG'.out hxy
          have n1 : ¬ (x : Int) < (y : Int) := by omega
          clear HG HG' HE HT
          go_wp2
          go_quiet (fail)
          go_wp2
          go_quiet (fail)
          go_wp2
          go_ret
          exact ⟨1, rfl, by have := HO.out; omega, below_drewN (below_drewN (below_drewN (Below.refl _ _) _) _) _⟩
      · obtain rfl : k = 0 := by omega
        have HO : Hid (N = M) := by
          have := HT.out
          simp only [List.drop_zero] at this
          show N = M
          rw [← HB.out.val, ← HB'.out.val, this]
        clear HT
        have hneg : ¬ (0 : Int) ≤ ((0 : Nat) : Int) - 1 := by omega
        go_wp2
        go_ret
        exact ⟨0, rfl, by have := HO.out; omega, below_drewN (Below.refl _ _) _⟩
  · have hne : ((l.length : Int) != (m.length : Int)) = true := by simp; omega
    have HO : Hid (0 ≤ (l.length : Int) - (m.length : Int) ↔ M ≤ N) := by
      show _ ↔ _
      rcases Nat.lt_or_ge l.length m.length with hx | hx
      · have := Lb.shorter (by decide) HB.out HB'.out hx
        omega
      · have := Lb.shorter (by decide) HB'.out HB.out (by omega)
        omega
    clear h h' hnn hr hr'
    generalize l.length = n at *
    generalize m.length = n' at *
    go_enter Tryz.func40, Tryz.ntmps40
    go_wp2
    go_ret
    exact ⟨(n : Int) - n', rfl, HO.out, Below.refl _ _⟩
end Go.Proofs.YtcohidjaehdbnaaGreatDoor
