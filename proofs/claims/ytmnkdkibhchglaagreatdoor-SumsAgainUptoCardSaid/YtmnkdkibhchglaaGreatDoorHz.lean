/- Walks: bytes as small digits (quernref01.Hex), said of bytes. Conditions: as stated. -/
import Derived.Test.YtmnkdkibhchglaaGreatDoorHx
import Derived.Test.YtmnkdkibhchglaaGreatDoorEb
namespace Go.Proofs.YtmnkdkibhchglaaGreatDoor
open Go.RowKit
set_option linter.unusedVariables false
attribute [local go_sem ↓] Go.wp_at_zero Go.wp_at_succ

/-- Bytes as small digits. -/
def hx (l : List UInt8) : List UInt8 := (hxs (l.map fun c => (c.toNat : Int))).map fun z => UInt8.ofNat z.toNat
theorem bys_u8s (l : List UInt8) : u8s (l.map fun c => (c.toNat : Int)) = bys l := by simp [bys]
theorem hx_len (l : List UInt8) : (hx l).length = 2 * l.length := by unfold hx; rw [List.length_map, hxs_len, List.length_map]
theorem nat_u8 (l : List UInt8) : ∀ z ∈ l.map fun c => (c.toNat : Int), 0 ≤ z ∧ z < 256 := by
  intro z hz
  obtain ⟨c, _, rfl⟩ := List.mem_map.1 hz
  have := c.toNat_lt
  omega
theorem c_HexB (A : Option Addr) (n c : Nat) (l : List UInt8) (w : World) (hr : Reads w w.heap.size 1 A n (bys l)) (hn : n ≤ 1048576) :
    Calls Tryz.prog 35 #[.slice A n c] w fun e w' => e = .returned (bstr (hx l)) ∧ Below w.heap.size w w' :=
  c_Hex A n c _ w (by rw [bys_u8s]; exact hr) hn (nat_u8 l)
end Go.Proofs.YtmnkdkibhchglaaGreatDoor
