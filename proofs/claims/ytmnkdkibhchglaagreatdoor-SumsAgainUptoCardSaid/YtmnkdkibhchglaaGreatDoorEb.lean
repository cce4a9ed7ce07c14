/- Words for bytes and walks of the reference: is it a file's name, a text with its escapes (quernref26.File, escaped, Escape). Conditions: lengths within the reach. -/
import Derived.Test.YtmnkdkibhchglaaGreatDoorEa
import Derived.Test.YtmnkdkibhchglaaGreatDoorBs
import Derived.Test.YtmnkdkibhchglaaGreatDoorPm
import Derived.Test.YtmnkdkibhchglaaGreatDoorMem2
import Derived.Laws.IdiomStrings
import Derived.Great.Walk
import Derived.IntWalk
import Derived.Deep.DrawnRows
import Derived.Deep.RegionHeld3
namespace Go.Proofs.YtmnkdkibhchglaaGreatDoor
open Go.RowKit
set_option linter.unusedVariables false
attribute [local go_sem ↓] Go.wp_at_zero Go.wp_at_succ

/-- Bytes as cells. -/
abbrev bys (l : List UInt8) : List Value := l.map fun c => .int .u8 (c.toNat : Int)
theorem bys_one (l : List UInt8) : ∀ u ∈ bys l, u.oneCell' = true := by intro u hu; obtain ⟨z, _, rfl⟩ := List.mem_map.1 hu; rfl
theorem conv_nilb (w : World) : (convert 31 9 (.slice none 0 0)).run Tryz.prog w = .ok (.string ⟨#[]⟩) w := by kernel_rfl
theorem conv_bys {w : World} {base m : Nat} {v : Value} {l : List UInt8} (h : w.ownsRow base 5 1 v m (bys l)) : (convert 31 9 v).run Tryz.prog w = .ok (bstr l) w := by
  have hl : l.length = m := by simpa using h.1
  rcases h.2 with ⟨rfl, rfl⟩ | ⟨g, cap, cur, rfl, _⟩
  · obtain rfl := List.eq_nil_of_length_eq_zero hl
    exact conv_nilb w
  · have := run_convert_bytes_back (P := Tryz.prog) w 31 9 5 ⟨g, 0, none⟩ cap l Tryz.underlying31 Tryz.underlying5 Tryz.underlying9 (fun j hj => by
      rw [h.cells rfl j (.int .u8 (l[j].toNat : Int)) (by simp [bys, List.getElem?_eq_getElem hj])])
    rw [hl] at this
    exact this
theorem built1 (y : Int) : Tryz.prog.builtSlice 5 1 [(0, .int .u8 y)] = some #[.int .u8 y] := by kernel_rfl
theorem built2 (x y : Int) : Tryz.prog.builtSlice 5 2 [(0, .int .u8 x), (1, .int .u8 y)] = some #[.int .u8 x, .int .u8 y] := by kernel_rfl
theorem str_self (s : ByteArray) : (⟨s.data.toList.toArray⟩ : ByteArray) = s := by simp
theorem fileB_eq (s : ByteArray) : fileB s.data.toList = (decide (1 ≤ s.size) && decide (s.size ≤ 4096) && !(s.data.toList.contains 0)) := rfl
set_option maxHeartbeats 400000 in
theorem c_File (s : ByteArray) (hs : s.size ≤ 140737488351232) (w : World) : Calls Tryz.prog 55 #[.string s] w fun e w' => e = .returned (.bool (fileB s.data.toList)) ∧ w = w' := by
  by_cases h1 : s.size < 1
  · have hf : fileB s.data.toList = false := by rw [fileB_eq, decide_eq_false (by omega)]; rfl
    rw [hf]
    have t1 : decide ((s.size : Int) < 1) = true := by simpa using by omega
    clear hf
    go_enter Tryz.func55, Tryz.ntmps55
    go_wp2
    go_ret
    exact ⟨rfl, rfl⟩
  · by_cases h2 : 4096 < s.size
    · have hf : fileB s.data.toList = false := by rw [fileB_eq, decide_eq_false (show ¬ s.size ≤ 4096 by omega)]; simp
      rw [hf]
      have t1 : ¬ (s.size : Int) < 1 := by omega
      have t2 : (4096 : Int) < (s.size : Int) := by omega
      clear hf
      go_enter Tryz.func55, Tryz.ntmps55
      go_wp2
      go_ret
      exact ⟨rfl, rfl⟩
    · have HF : Hid (fileB s.data.toList = !(s.data.toList.contains 0)) := by show _ = _; rw [fileB_eq, decide_eq_true (by omega), decide_eq_true (by omega)]; rfl
      have t1 : ¬ (s.size : Int) < 1 := by omega
      have t2 : ¬ (4096 : Int) < (s.size : Int) := by omega
      go_enter Tryz.func55, Tryz.ntmps55
      go_wp2
      go_loop [3] (fun i => ∃ k : Nat, k ≤ s.size ∧ i = .int .i64 k ∧ Hid ((pre s k).contains 0 = false)) (fun i => s.size - (intOf i).toNat)
      case atStart => exact ⟨0, Nat.zero_le _, rfl, rfl⟩
      case round =>
        obtain ⟨k, hk, rfl, HK⟩ := hrel
        by_cases hlt : k < s.size
        · have HN : Hid (pre s (k + 1) = pre s k ++ [s[k]]) := pre_snoc s k hlt
          by_cases hz : s[k] = 0
          · have hz' : ((s[k].toNat : Int) == 0) = true := by rw [hz]; rfl
            have HB : Hid (fileB s.data.toList = false) := by
              show _ = _
              rw [HF.out, Bool.not_eq_false', List.contains_iff_mem, ← hz]
              exact List.getElem_mem (l := s.data.toList) (by simpa using hlt)
            clear hz
            go_wp2
            go_ret
            exact ⟨by rw [HB.out]; rfl, rfl⟩
          · have hz' : ((s[k].toNat : Int) == 0) = false := by
              have : s[k].toNat ≠ 0 := fun h => hz (UInt8.toNat_inj.1 h)
              simpa using this
            have HM : Hid ((pre s (k + 1)).contains 0 = false) := by
              show _ = _
              rw [HN.out]
              have := HK.out
              simp only [List.contains_eq_mem, List.mem_append, List.mem_singleton, decide_eq_false_iff_not] at this ⊢
              rintro (h | h)
              · exact this h
              · exact hz h.symm
            clear hz
            go_wp2
            go_round
            case rel => exact ⟨k + 1, by omega, by go_num, HM.out⟩
            case measure => simp [intOf]; omega
        · have HB : Hid (fileB s.data.toList = true) := by
            have := HK.out
            rw [pre_all s (by omega)] at this
            show _ = _
            rw [HF.out, this]; rfl
          go_wp2
          go_ret
          exact ⟨by rw [HB.out]; rfl, rfl⟩
/-- Bytes of the call's own, as a row. -/
def OwnB (W w : World) (A : Option Addr) (c : Nat) (l : List UInt8) : Prop := w.ownsRow W.heap.size 5 1 (.slice A l.length c) l.length (bys l) ∧ Below W.heap.size W w
theorem ownB_nil (W : World) : OwnB W W none 0 [] := ⟨World.ownsRow_nil _ _ _ _, Below.refl _ _⟩
/-- What an append of new bytes leaves. -/
theorem ownB_app {W w1 w2 : World} {A : Option Addr} {c : Nat} {l m : List UInt8} {v : Value} (hb : Below W.heap.size W w1) (h : w1.ownsRow W.heap.size 5 1 (.slice A l.length c) l.length (bys l)) (hown : w2.ownsRow W.heap.size 5 1 v (l.length + m.length) (bys l ++ bys m)) (hg : w1.grownBy w2 (Value.slice A l.length c).ownBlock) :
    ∃ A' c', v = .slice A' (l ++ m).length c' ∧ OwnB W w2 A' c' (l ++ m) := by
  have e : bys l ++ bys m = bys (l ++ m) := by simp [bys]
  rw [e, ← List.length_append] at hown
  obtain ⟨A', c', rfl⟩ := own_slice hown
  exact ⟨A', c', rfl, hown, below_own hb h hg⟩
theorem reads_lit1 (w : World) (x : Int) : Reads (w.alloc (.cells #[.int .u8 x] 5)) (w.alloc (.cells #[.int .u8 x] 5)).heap.size 1 (some ⟨w.heap.size, 0, none⟩) 1 [.int .u8 x] :=
  Reads.of_own (World.ownsRow_lit (e := 5) (size := 1) (base := 0) w #[.int .u8 x] 1 (Nat.zero_le _) (by decide) rfl)
theorem reads_lit2 (w : World) (x y : Int) : Reads (w.alloc (.cells #[.int .u8 x, .int .u8 y] 5)) (w.alloc (.cells #[.int .u8 x, .int .u8 y] 5)).heap.size 1 (some ⟨w.heap.size, 0, none⟩) 2 [.int .u8 x, .int .u8 y] :=
  Reads.of_own (World.ownsRow_lit (e := 5) (size := 1) (base := 0) w #[.int .u8 x, .int .u8 y] 2 (Nat.zero_le _) (by decide) rfl)
theorem fileB_le {s : ByteArray} (h : fileB s.data.toList = true) : s.size ≤ 4096 := by
  rw [fileB_eq] at h
  simp only [Bool.and_eq_true, decide_eq_true_eq] at h
  exact h.1.2
/-- Has a text escapes? -/
def escD (s : ByteArray) : Bool := !(esc s.data.toList == s.toList)
/-- The answer of Escape. -/
def escN (s : ByteArray) : List UInt8 := if fileB s.data.toList then esc s.data.toList else []
def escO (s : ByteArray) : Bool := fileB s.data.toList && escD s
def escE (s : ByteArray) : Int := if fileB s.data.toList then 0 else 1
end Go.Proofs.YtmnkdkibhchglaaGreatDoor
