/- Walks: an entry with bytes of its own (quernlaw26.own); both lines of an entry (quernlaw26.SumsLines). Conditions: lengths within the reach; the library's table of tens as laid. -/
import Derived.Test.YtmnkdkibhchglaaGreatDoorSg
import Derived.Test.YtmnkdkibhchglaaGreatDoorLaw
namespace Go.Proofs.YtmnkdkibhchglaaGreatDoor
open Go.RowKit
set_option linter.unusedVariables false
attribute [local go_sem ↓] Go.wp_at_zero Go.wp_at_succ

/-- An entry's own cells before it is laid. -/
abbrev smZ : Array Value := #[.int .i64 0, .string ⟨#[]⟩, .slice none 0 0, .bool false]
theorem bytes_of : ∀ xs : List Int, (∀ z ∈ xs, (Lit.int .u8 z).wf = true) → ∃ l : List UInt8, xs.map (Value.int .u8) = bys l
  | [], _ => ⟨[], rfl⟩
  | z :: zs, h => by
    obtain ⟨l, hl⟩ := bytes_of zs fun y hy => h y (List.mem_cons_of_mem _ hy)
    have hz := h z List.mem_cons_self
    have hz2 : 0 ≤ z ∧ z < 256 := by
      simp [Lit.wf] at hz
      have e1 : IntKind.u8.min = 0 := by decide
      have e2 : IntKind.u8.max = 255 := by decide
      omega
    refine ⟨UInt8.ofNat z.toNat :: l, ?_⟩
    rw [List.map_cons, hl]
    have : z = ((UInt8.ofNat z.toNat).toNat : Int) := by simp; omega
    show _ :: _ = Value.int .u8 ((UInt8.ofNat z.toNat).toNat : Int) :: bys l
    rw [← this]
end Go.Proofs.YtmnkdkibhchglaaGreatDoor
