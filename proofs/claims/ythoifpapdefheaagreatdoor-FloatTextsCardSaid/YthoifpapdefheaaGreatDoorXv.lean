/- Words for bytes of the call's own, new blocks of noughts, rows that a print lays, and bytes turned into a string. Conditions: none. -/
import Derived.Test.YthoifpapdefheaaGreatDoorProg
import Derived.KernelRfl
import Derived.Great.Walk
import Derived.Test.YthoifpapdefheaaGreatDoorMem2
import Derived.Lib.ItoaMem
import Derived.Lib.AppendIntMem
import Derived.Deep.DrawnRows
namespace Go.Proofs.YthoifpapdefheaaGreatDoor
open Go.RowKit Go.Sort
set_option linter.unusedVariables false

def zrs32 : Array Value := Array.replicate 32 (Value.int .u8 0)
theorem below_row (w : World) (g : Nat) (dk : Array UInt8) (k : Nat) : RowKit.Below g w ((putRow (fun (b : UInt8) => Value.int .u8 (b.toNat : Int)) w g 0 dk).drewN k) :=
  ⟨rfl, rfl, rfl, by simp [World.drewN], fun i hi => by
    show (putRow _ w g 0 dk).heap[i]? = w.heap[i]?
    unfold putRow mapBlock
    rw [Array.getElem?_modify, if_neg (by omega)]⟩
def bys (l : List UInt8) : List Value := l.map fun x => .int .u8 (x.toNat : Int)
/-- Bytes of the call's own, as a row. -/
def OwnB (W w : World) (A : Option Addr) (c : Nat) (l : List UInt8) : Prop := w.ownsRow W.heap.size 5 1 (.slice A l.length c) l.length (bys l) ∧ Below W.heap.size W w
/-- What an append of new bytes leaves. -/
theorem ownB_app {W w1 w2 : World} {A : Option Addr} {c : Nat} {l m : List UInt8} {v : Value} (hb : Below W.heap.size W w1) (h : w1.ownsRow W.heap.size 5 1 (.slice A l.length c) l.length (bys l)) (hown : w2.ownsRow W.heap.size 5 1 v (l.length + m.length) (bys l ++ bys m)) (hg : w1.grownBy w2 (Value.slice A l.length c).ownBlock) :
    ∃ A' c', v = .slice A' (l ++ m).length c' ∧ OwnB W w2 A' c' (l ++ m) := by
  have e : bys l ++ bys m = bys (l ++ m) := by simp [bys]
  rw [e, ← List.length_append] at hown
  obtain ⟨A', c', rfl⟩ := own_slice hown
  exact ⟨A', c', rfl, hown, below_own hb h hg⟩
theorem reads_lit1 (w : World) (x : Int) : Reads (w.alloc (.cells #[.int .u8 x] 5)) (w.alloc (.cells #[.int .u8 x] 5)).heap.size 1 (some ⟨w.heap.size, 0, none⟩) 1 [.int .u8 x] :=
  Reads.of_own (World.ownsRow_lit (e := 5) (size := 1) (base := 0) w #[.int .u8 x] 1 (Nat.zero_le _) (by decide) rfl)
theorem reads_lit2 (w : World) (x y : Int) : Reads (w.alloc (.cells #[.int .u8 x, .int .u8 y] 5)) (w.alloc (.cells #[.int .u8 x, .int .u8 y] 5)).heap.size 1 (some ⟨w.heap.size, 0, none⟩) 2 [.int .u8 x, .int .u8 y] :=
  Reads.of_own (World.ownsRow_lit (e := 5) (size := 1) (base := 0) w #[.int .u8 x, .int .u8 y] 2 (Nat.zero_le _) (by decide) rfl)
theorem u8_info : (Tryz.prog.info? 5).map (fun i => (i.zero, i.size, i.bytes)) = some (some (.int .u8 0), 1, 1) := by kernel_rfl
theorem builtB1 (y : Int) : Tryz.prog.builtSlice 5 1 [(0, .int .u8 y)] = some #[.int .u8 y] := by kernel_rfl
theorem builtB2 (x y : Int) : Tryz.prog.builtSlice 5 2 [(0, .int .u8 x), (1, .int .u8 y)] = some #[.int .u8 x, .int .u8 y] := by kernel_rfl
theorem call_bits64 (b : Nat) (w : World) : (callFunc 65 #[.float .f64 b]).run Tryz.prog w = .ok (.value (.int .u64 (b : Int))) w := by kernel_rfl
/-- Bytes as a string. -/
abbrev bstr (l : List UInt8) : Value := .string ⟨l.toArray⟩
theorem conv_nilb (w : World) : (convert 49 9 (.slice none 0 0)).run Tryz.prog w = .ok (.string ⟨#[]⟩) w := by kernel_rfl
theorem conv_bys {w : World} {base m : Nat} {v : Value} {l : List UInt8} (h : w.ownsRow base 5 1 v m (bys l)) : (convert 49 9 v).run Tryz.prog w = .ok (bstr l) w := by
  have hl : l.length = m := by simpa [bys] using h.1
  rcases h.2 with ⟨rfl, rfl⟩ | ⟨g, cap, cur, rfl, _⟩
  · obtain rfl := List.eq_nil_of_length_eq_zero hl
    exact conv_nilb w
  · have := run_convert_bytes_back (P := Tryz.prog) w 49 9 5 ⟨g, 0, none⟩ cap l Tryz.underlying49 Tryz.underlying5 Tryz.underlying9 (fun j hj => by
      rw [h.cells rfl j (.int .u8 (l[j].toNat : Int)) (by simp [bys, List.getElem?_eq_getElem hj])])
    rw [hl] at this
    exact this
end Go.Proofs.YthoifpapdefheaaGreatDoor
