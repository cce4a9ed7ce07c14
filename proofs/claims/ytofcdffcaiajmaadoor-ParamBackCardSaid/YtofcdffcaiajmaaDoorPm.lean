/- Walks: bytes without the noughts at their end, bytes held against bytes (param.trimmed, quernref02.trimmed, quernref02.alike, quernlaw02.same). Conditions: as stated. -/
import Derived.Test.YtofcdffcaiajmaaDoorMem
import Derived.Test.YtofcdffcaiajmaaDoorRows
import Derived.WalkKit
import Derived.WalkSpells
import Derived.WalkLawsBesides
import Derived.Lib.Hide
import Derived.Handy
import Derived.BigQuiet
import Derived.Deep.QuietTactic
namespace Go.Proofs.YtofcdffcaiajmaaDoor
open Go.RowKit

/-- Bytes as cells. -/
abbrev u8s (xs : List Int) : List Value := xs.map (Value.int .u8)
theorem u8s_one (xs : List Int) : ∀ u ∈ u8s xs, u.oneCell' = true := by intro u hu; obtain ⟨z, _, rfl⟩ := List.mem_map.1 hu; rfl
theorem u8_info : (Tryd.prog.info? 5).map (fun i => (i.zero, i.size, i.bytes)) = some (some (.int .u8 0), 1, 1) := by kernel_rfl
/-- How many are left without the noughts at the end. -/
def keep (xs : List Int) : Nat → Nat
  | 0 => 0
  | n + 1 => if xs.getD n 0 = 0 then keep xs n else n + 1
theorem keep_le (xs : List Int) : ∀ n, keep xs n ≤ n
  | 0 => Nat.le_refl _
  | n + 1 => by unfold keep; split; exact Nat.le_succ_of_le (keep_le xs n); exact Nat.le_refl _
/-- New bytes of the call's own. -/
def OwnBytes (w : World) (xs : List Int) (e : Ending) (w' : World) : Prop :=
  ∃ v, e = .returned v ∧ w'.ownsRow w.heap.size 5 1 v xs.length (u8s xs) ∧ Below w.heap.size w w'
theorem Reads.pre {w : World} {B n k : Nat} {A : Option Addr} {xs : List Int} (h : Reads w B 1 A n (u8s xs)) (hk : k ≤ n) : Reads w B 1 A k (u8s (xs.take k)) := by
  have hl : xs.length = n := by simpa using h.1
  refine ⟨by simp; omega, fun h0 => ?_⟩
  obtain ⟨ad, rfl, hb, hc⟩ := h.2 (by omega)
  refine ⟨ad, rfl, hb, fun j u hu => hc j u ?_⟩
  rw [show u8s (xs.take k) = (u8s xs).take k from List.map_take, List.getElem?_take] at hu
  split at hu
  · exact hu
  · cases hu
theorem own_take {w w1 : World} {xs : List Int} {k n : Nat} {v : Value} (hk : k ≤ n) (hl : xs.length = n) (hK : keep xs n = k) (ho : w1.ownsRow w.heap.size 5 1 v (0 + k) ([] ++ u8s (xs.take k))) (hb : Below w.heap.size w w1) : OwnBytes w (xs.take (keep xs n)) (.returned v) w1 := by
  rw [hK]
  refine ⟨v, rfl, ?_, hb⟩
  rw [show (xs.take k).length = k from by simp; omega]
  simpa using ho
set_option maxHeartbeats 400000 in
theorem c_trimmed (A : Option Addr) (n c : Nat) (xs : List Int) (w : World) (hr : Reads w w.heap.size 1 A n (u8s xs)) (hc : n ≤ c) (hn : n ≤ 140737488351232) :
    Calls Tryd.prog 28 #[.slice A n c] w (OwnBytes w (xs.take (keep xs n))) := by
  obtain ⟨i0, hi0, hz0, hz1, hz2⟩ := info_parts u8_info
  have hl : xs.length = n := by simpa using hr.1
  have Hl := Lib.hid hl
  clear hl
  go_enter Tryd.func28, Tryd.ntmps28
  go_wp2
  go_loop [3] (fun v => ∃ k : Nat, k ≤ n ∧ v = .int .i64 k ∧ Hid (keep xs n = keep xs k)) (fun v => (intOf v).toNat)
  case atStart => exact ⟨n, Nat.le_refl _, rfl, rfl⟩
  case round =>
    obtain ⟨k, hk, rfl, HK⟩ := hrel
    by_cases h0 : 0 < k
    · obtain ⟨b, off, rfl, hbB, hbw, hcells⟩ := hr.form (by omega)
      have hcell := hcells (k - 1) (by omega)
      have hx : (u8s xs).getD (k - 1) undef = .int .u8 (xs.getD (k - 1) 0) := by
        have := Hl.out
        simp [List.getD, List.getElem?_eq_getElem (show k - 1 < xs.length by omega)]
      rw [hx] at hcell
      have HX : Hid (keep xs k = if xs.getD (k - 1) 0 = 0 then keep xs (k - 1) else k) := by
        show keep xs k = _
        obtain ⟨j, rfl⟩ : ∃ j, k = j + 1 := ⟨k - 1, by omega⟩
        rfl
      clear hcells hx
      generalize xs.getD (k - 1) 0 = z at *
      by_cases hz : z = 0
      · have hz' : (z == 0) = true := by simp [hz]
        have Hz := Lib.hid hz
        clear hz
        go_wp2
        go_round
        case rel => exact ⟨k - 1, by omega, by go_num, by show keep xs n = _; rw [HK.out, HX.out, if_pos Hz.out]⟩
        case measure => simp [intOf]; omega
      · have hz' : (z == 0) = false := by simp [hz]
        have Hz := Lib.hid hz
        clear hz
        have hrk := hr.pre hk
        have HF : Hid (keep xs n = k) := by show keep xs n = k; rw [HK.out, HX.out, if_neg Hz.out]
        clear HX
        go_wp2_with (at_builtin; refine wpList_append_any _ rfl (.const (Value.slice none 0 0)) (.tmp 20) _ rfl w.heap.size 5 i0 _ 1 1 Tryd.underlying24 hi0 hz0 hz1 hz2 rfl (by omega) (.slice none 0 0) 0 [] rfl ⟨by simp, .inl ⟨rfl, rfl⟩⟩ w.heap.size _ k c (u8s (xs.take k)) rfl hrk (u8s_one _) (by simp only [maxLen]; omega) (by omega) (Nat.le_refl _) ?_; intro v1 w1 hown1 hg1 hat1)
        go_ret
        exact own_take hk Hl.out HF.out hown1 ((Below.refl _ _).grown hg1 (Nat.le_refl _) (by simp [Value.ownBlock]))
    · have hrk := hr.pre hk
      have HF : Hid (keep xs n = k) := by
        show keep xs n = k
        rw [HK.out]
        obtain rfl : k = 0 := by omega
        rfl
      go_wp2_with (at_builtin; refine wpList_append_any _ rfl (.const (Value.slice none 0 0)) (.tmp 20) _ rfl w.heap.size 5 i0 _ 1 1 Tryd.underlying24 hi0 hz0 hz1 hz2 rfl (by omega) (.slice none 0 0) 0 [] rfl ⟨by simp, .inl ⟨rfl, rfl⟩⟩ w.heap.size _ k c (u8s (xs.take k)) rfl hrk (u8s_one _) (by simp only [maxLen]; omega) (by omega) (Nat.le_refl _) ?_; intro v1 w1 hown1 hg1 hat1)
      go_ret
      exact own_take hk Hl.out HF.out hown1 ((Below.refl _ _).grown hg1 (Nat.le_refl _) (by simp [Value.ownBlock]))
theorem getD_u8s {xs : List Int} {k : Nat} (h : k < xs.length) : (u8s xs).getD k undef = .int .u8 (xs.getD k 0) := by
  simp [List.getD, List.getElem?_eq_getElem h]
theorem take_next {xs ys : List Int} {k : Nat} (h : k < xs.length) (h' : k < ys.length) (ht : xs.take k = ys.take k) (he : xs.getD k 0 = ys.getD k 0) : xs.take (k + 1) = ys.take (k + 1) := by
  have e1 : xs.getD k 0 = xs[k] := by simp [List.getD, List.getElem?_eq_getElem h]
  have e2 : ys.getD k 0 = ys[k] := by simp [List.getD, List.getElem?_eq_getElem h']
  rw [List.take_succ_eq_append_getElem h, List.take_succ_eq_append_getElem h', ht, ← e1, ← e2, he]
theorem ne_of_getD {xs ys : List Int} {k : Nat} (he : xs.getD k 0 ≠ ys.getD k 0) : xs ≠ ys := fun h => he (by rw [h])
set_option maxHeartbeats 400000 in
theorem c_ralike (A A' : Option Addr) (n c n' c' : Nat) (xs ys : List Int) (w : World) (B : Nat) (hr : Reads w B 1 A n (u8s xs)) (hr' : Reads w B 1 A' n' (u8s ys)) (hn : n ≤ 140737488351232) :
    Calls Tryd.prog 34 #[.slice A n c, .slice A' n' c'] w fun e w' => e = .returned (.bool (decide (xs = ys))) ∧ Below w.heap.size w w' := by
  have hl : xs.length = n := by simpa using hr.1
  have hl' : ys.length = n' := by simpa using hr'.1
  by_cases hnn : n = n'
  · subst hnn
    have Hl := Lib.hid hl
    have Hl' := Lib.hid hl'
    clear hl hl'
    go_enter Tryd.func34, Tryd.ntmps34
    go_wp2
    go_loopw [5] (fun i wr => ∃ k d : Nat, k ≤ n ∧ i = .int .i64 k ∧ Hid (xs.take k = ys.take k) ∧ wr = w.drewN d) (fun i _ => n - (intOf i).toNat)
    case atStart => exact ⟨0, 0, Nat.zero_le _, rfl, rfl, rfl⟩
    case round =>
      obtain ⟨k, d, hk, rfl, HT, rfl⟩ := hrel
      by_cases hlt : k < n
      · obtain ⟨b, off, rfl, hbB, hbw, hcells⟩ := hr.form (by omega)
        obtain ⟨b', off', rfl, hbB', hbw', hcells'⟩ := hr'.form (by omega)
        have hcell := hcells k hlt
        have hcell' := hcells' k hlt
        rw [getD_u8s (by rw [Hl.out]; exact hlt)] at hcell
        rw [getD_u8s (by rw [Hl'.out]; exact hlt)] at hcell'
        clear hcells hcells'
        have HN : Hid (xs.getD k 0 = ys.getD k 0 → xs.take (k + 1) = ys.take (k + 1)) := fun he => take_next (by rw [Hl.out]; exact hlt) (by rw [Hl'.out]; exact hlt) HT.out he
        have HD : Hid (xs.getD k 0 ≠ ys.getD k 0 → xs ≠ ys) := ne_of_getD
        generalize xs.getD k 0 = z at *
        generalize ys.getD k 0 = z' at *
        by_cases hz : z = z'
        · have hz' : (z != z') = false := by simp [hz]
          have HZ : Hid (xs.take (k + 1) = ys.take (k + 1)) := HN.out hz
          clear hz HN HD
          go_wp2
          go_quiet (fail)
          go_wp2
          go_roundw
          case rel => exact ⟨k + 1, _, by omega, by go_num, HZ, rfl⟩
          case measure => simp [intOf]; omega
        · have hz' : (z != z') = true := by simp [hz]
          have HZ : Hid (xs ≠ ys) := HD.out hz
          clear hz HN HD
          go_wp2
          go_quiet (fail)
          go_wp2
          go_ret
          exact ⟨by rw [decide_eq_false HZ.out]; rfl, below_drewN (below_drewN (Below.refl _ _) _) _⟩
      · have HZ : Hid (xs = ys) := by
          have hx : xs.take k = xs := List.take_of_length_le (by rw [Hl.out]; omega)
          have hy : ys.take k = ys := List.take_of_length_le (by rw [Hl'.out]; omega)
          show xs = ys
          rw [← hx, ← hy]
          exact HT.out
        go_wp2
        go_ret
        exact ⟨by rw [decide_eq_true HZ.out]; rfl, below_drewN (Below.refl _ _) _⟩
  · have HZ : Hid (xs ≠ ys) := by
      show xs ≠ ys
      rintro rfl
      exact hnn (by omega)
    have hne : ((n : Int) != (n' : Int)) = true := by simp; omega
    clear hnn hl hl'
    go_enter Tryd.func34, Tryd.ntmps34
    go_wp2
    go_ret
    exact ⟨by rw [decide_eq_false HZ.out]; rfl, Below.refl _ _⟩
end Go.Proofs.YtofcdffcaiajmaaDoor
