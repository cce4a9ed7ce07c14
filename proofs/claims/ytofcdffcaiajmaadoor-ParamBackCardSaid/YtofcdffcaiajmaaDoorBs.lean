/- A word: bytes as a string. Conditions: none. -/
import Derived.WalkKit
namespace Go.Proofs.YtofcdffcaiajmaaDoor
/-- Bytes as a string. -/
abbrev bstr (l : List UInt8) : Value := .string ⟨l.toArray⟩
end Go.Proofs.YtofcdffcaiajmaaDoor
