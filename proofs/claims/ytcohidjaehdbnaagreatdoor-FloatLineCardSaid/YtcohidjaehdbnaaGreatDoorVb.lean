/- Walk: one digit, '1' with the exponent -1, as text (strconv: fmtEFG in the form 'e'). Conditions: the digit's byte reads; the text begins empty. -/
import Derived.Test.YtcohidjaehdbnaaGreatDoorVa
import Derived.Test.YtcohidjaehdbnaaGreatDoorMem2
import Derived.Deep.DrawnRows
namespace Go.Proofs.YtcohidjaehdbnaaGreatDoor
open Go.RowKit
set_option linter.unusedVariables false
attribute [local go_sem ↓] Go.wp_at_zero Go.wp_at_succ

def bys (l : List UInt8) : List Value := l.map fun x => .int .u8 (x.toNat : Int)
/-- Bytes of the call's own, as a row. -/
def OwnB (W w : World) (A : Option Addr) (c : Nat) (l : List UInt8) : Prop := w.ownsRow W.heap.size 5 1 (.slice A l.length c) l.length (bys l) ∧ Below W.heap.size W w
/-- What an append of new bytes leaves. -/
theorem ownB_app {W w1 w2 : World} {A : Option Addr} {c : Nat} {l m : List UInt8} {v : Value} (hb : Below W.heap.size W w1) (h : w1.ownsRow W.heap.size 5 1 (.slice A l.length c) l.length (bys l)) (hown : w2.ownsRow W.heap.size 5 1 v (l.length + m.length) (bys l ++ bys m)) (hg : w1.grownBy w2 (Value.slice A l.length c).ownBlock) :
    ∃ A' c', v = .slice A' (l ++ m).length c' ∧ OwnB W w2 A' c' (l ++ m) := by
  have e : bys l ++ bys m = bys (l ++ m) := by simp [bys]
  rw [e, ← List.length_append] at hown
  obtain ⟨A', c', rfl⟩ := own_slice hown
  exact ⟨A', c', rfl, hown, below_own hb h hg⟩
theorem reads_lit1 (w : World) (x : Int) : Reads (w.alloc (.cells #[.int .u8 x] 5)) (w.alloc (.cells #[.int .u8 x] 5)).heap.size 1 (some ⟨w.heap.size, 0, none⟩) 1 [.int .u8 x] :=
  Reads.of_own (World.ownsRow_lit (e := 5) (size := 1) (base := 0) w #[.int .u8 x] 1 (Nat.zero_le _) (by decide) rfl)
theorem reads_lit2 (w : World) (x y : Int) : Reads (w.alloc (.cells #[.int .u8 x, .int .u8 y] 5)) (w.alloc (.cells #[.int .u8 x, .int .u8 y] 5)).heap.size 1 (some ⟨w.heap.size, 0, none⟩) 2 [.int .u8 x, .int .u8 y] :=
  Reads.of_own (World.ownsRow_lit (e := 5) (size := 1) (base := 0) w #[.int .u8 x, .int .u8 y] 2 (Nat.zero_le _) (by decide) rfl)
theorem u8_info : (Tryz.prog.info? 5).map (fun i => (i.zero, i.size, i.bytes)) = some (some (.int .u8 0), 1, 1) := by kernel_rfl
theorem built1 (y : Int) : Tryz.prog.builtSlice 5 1 [(0, .int .u8 y)] = some #[.int .u8 y] := by kernel_rfl
theorem built2 (x y : Int) : Tryz.prog.builtSlice 5 2 [(0, .int .u8 x), (1, .int .u8 y)] = some #[.int .u8 x, .int .u8 y] := by kernel_rfl
set_option maxRecDepth 100000 in
set_option maxHeartbeats 1000000 in
theorem c_fmtE (W w : World) (A : Option Addr) (c g : Nat) (ho : OwnB W w A c []) (k0 : w.cell? ⟨g, 0, none⟩ = some (.int .u8 49)) :
    Calls Tryz.prog 90 #[.slice A 0 c, .bool false, .slice (some ⟨g, 0, none⟩) 32 32, .int .i64 0, .int .i64 1, .int .i64 0, .int .u8 101, .bool true] w fun e w' => ∃ A' c', e = .returned (.slice A' 5 c') ∧ OwnB W w' A' c' [49, 101, 45, 48, 49] := by
  obtain ⟨i0, hi0, hz0, hz1, hz2⟩ := info_parts u8_info
  have HO0 := Lib.hid ho
  clear ho
  go_enter Tryz.func90, Tryz.ntmps90
  go_wp2_with (first
    | (at_builtin; have HO1A : Hid ((w.alloc (.cells #[.int .u8 49] 5)).ownsRow W.heap.size 5 1 (.slice A ([] : List UInt8).length c) ([] : List UInt8).length (bys ([] : List UInt8))) := HO0.out.1.alloc _; have HB1 : Hid (Below W.heap.size W (w.alloc (.cells #[.int .u8 49] 5))) := HO0.out.2.alloc HO0.out.2.size _; have HR1 := Lib.hid (reads_lit1 w 49); refine wpList_append_any _ rfl (.tmp 87) (.tmp 89) 75 rfl W.heap.size 5 i0 _ 1 1 Tryz.underlying75 hi0 hz0 hz1 hz2 rfl (by omega) (.slice A ([] : List UInt8).length c) ([] : List UInt8).length (bys ([] : List UInt8)) rfl HO1A.out _ (some ⟨w.heap.size, 0, none⟩) 1 1 [.int .u8 49] rfl HR1.out (by simp [Value.oneCell']) (by simp [maxLen]) (by simp) HB1.out.size ?_; intro v2 w1 hown2 hg2 _; obtain ⟨A1, c1, rfl, ho2⟩ := ownB_app (m := [49]) HB1.out HO1A.out hown2 hg2; have HO1 := Lib.hid ho2; clear ho2 hown2 hg2)
    | (at_builtin; have HO2A : Hid ((w1.alloc (.cells #[.int .u8 101] 5)).ownsRow W.heap.size 5 1 (.slice A1 ([49] : List UInt8).length c1) ([49] : List UInt8).length (bys ([49] : List UInt8))) := HO1.out.1.alloc _; have HB2 : Hid (Below W.heap.size W (w1.alloc (.cells #[.int .u8 101] 5))) := HO1.out.2.alloc HO1.out.2.size _; have HR2 := Lib.hid (reads_lit1 w1 101); refine wpList_append_any _ rfl (.tmp 120) (.tmp 122) 75 rfl W.heap.size 5 i0 _ 1 1 Tryz.underlying75 hi0 hz0 hz1 hz2 rfl (by omega) (.slice A1 ([49] : List UInt8).length c1) ([49] : List UInt8).length (bys ([49] : List UInt8)) rfl HO2A.out _ (some ⟨w1.heap.size, 0, none⟩) 1 1 [.int .u8 101] rfl HR2.out (by simp [Value.oneCell']) (by simp [maxLen]) (by simp) HB2.out.size ?_; intro v2 w2 hown2 hg2 _; obtain ⟨A2, c2, rfl, ho2⟩ := ownB_app (m := [101]) HB2.out HO2A.out hown2 hg2; have HO2 := Lib.hid ho2; clear ho2 hown2 hg2)
    | (at_builtin; have HO3A : Hid ((w2.alloc (.cells #[.int .u8 45] 5)).ownsRow W.heap.size 5 1 (.slice A2 ([49, 101] : List UInt8).length c2) ([49, 101] : List UInt8).length (bys ([49, 101] : List UInt8))) := HO2.out.1.alloc _; have HB3 : Hid (Below W.heap.size W (w2.alloc (.cells #[.int .u8 45] 5))) := HO2.out.2.alloc HO2.out.2.size _; have HR3 := Lib.hid (reads_lit1 w2 45); refine wpList_append_any _ rfl (.tmp 132) (.tmp 134) 75 rfl W.heap.size 5 i0 _ 1 1 Tryz.underlying75 hi0 hz0 hz1 hz2 rfl (by omega) (.slice A2 ([49, 101] : List UInt8).length c2) ([49, 101] : List UInt8).length (bys ([49, 101] : List UInt8)) rfl HO3A.out _ (some ⟨w2.heap.size, 0, none⟩) 1 1 [.int .u8 45] rfl HR3.out (by simp [Value.oneCell']) (by simp [maxLen]) (by simp) HB3.out.size ?_; intro v2 w3 hown2 hg2 _; obtain ⟨A3, c3, rfl, ho2⟩ := ownB_app (m := [45]) HB3.out HO3A.out hown2 hg2; have HO3 := Lib.hid ho2; clear ho2 hown2 hg2)
    | (at_builtin; have HO4A : Hid ((w3.alloc (.cells #[.int .u8 48, .int .u8 49] 5)).ownsRow W.heap.size 5 1 (.slice A3 ([49, 101, 45] : List UInt8).length c3) ([49, 101, 45] : List UInt8).length (bys ([49, 101, 45] : List UInt8))) := HO3.out.1.alloc _; have HB4 : Hid (Below W.heap.size W (w3.alloc (.cells #[.int .u8 48, .int .u8 49] 5))) := HO3.out.2.alloc HO3.out.2.size _; have HR4 := Lib.hid (reads_lit2 w3 48 49); refine wpList_append_any _ rfl (.tmp 155) (.tmp 159) 75 rfl W.heap.size 5 i0 _ 1 1 Tryz.underlying75 hi0 hz0 hz1 hz2 rfl (by omega) (.slice A3 ([49, 101, 45] : List UInt8).length c3) ([49, 101, 45] : List UInt8).length (bys ([49, 101, 45] : List UInt8)) rfl HO4A.out _ (some ⟨w3.heap.size, 0, none⟩) 2 2 [.int .u8 48, .int .u8 49] rfl HR4.out (by simp [Value.oneCell']) (by simp [maxLen]) (by simp) HB4.out.size ?_; intro v2 w4 hown2 hg2 _; obtain ⟨A4, c4, rfl, ho2⟩ := ownB_app (m := [48, 49]) HB4.out HO4A.out hown2 hg2; have HO4 := Lib.hid ho2; clear ho2 hown2 hg2))
  go_ret
  exact ⟨_, _, rfl, HO4.out⟩
end Go.Proofs.YtcohidjaehdbnaaGreatDoor
