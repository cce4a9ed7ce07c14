/-
  No cell of these rows narrows 'for every input' (looked for: loops, veiled, ifaces, maps, wideKeys, modest, calm, conditions, laid).
  DERIVED. THE GIVEN ROWS OF THIS SEAT. 5 by the template 'for every input the law returns true; each argument reads behind the call as it read before'; 0 by the template 'total and deterministic' (their statements: YtpgdiiplnnaegaaTotals.lean).
  GIVEN WITH THE SEED: the statements are not yours to turn. If you find one false, say at which input.
  Laid BY PROGRAM, IN A SANDBOX (cutbox-rows.mjs): the forced cells as the released guide's own fill.sh prints them over the translation 8cef52d3c3909cf6… (all of the seat's roots in one cut). By AI agents, Wed Nov 11 2026. No macro, syntax, notation, axiom, sorry.
-/
import Derived.Test.YtpgdiiplnnaegaaChecked
import GoSem.Claim
import GoSem.ClaimJoined
import GoSem.ClaimMapViews
import Derived.JoinedTies
import Derived.KernelRfl
namespace Go.Proofs.Ytpgdiiplnnaegaa
/- THE CELL 'sum', in the pinned program and in every row, IS THE sha256 OF THE DUMP (.gsa) THAT YtpgdiiplnnaegaaProg.lean LOADS. Nothing in Lean hashes anything: it is a label: what it is worth is what the hold of that sum in a sandbox is worth. -/
noncomputable def Try.pinned : Pinned := { name := "ytpgdiiplnnaegaa", sum := "8cef52d3c3909cf6f0286f102b3e30bb156cc2db484b5112e7411deb80bab575", checked := Try.checked }
namespace Rows
def none {H : Type} : Left H := { results := [], args := [] }

/-- 'quernlaw22.FloatOrders': WHATEVER THE INPUT: true; the input reads as it did. -/
def floatOrdersSpec : ChangeSpec := { name := "floatOrders", fn := fun _ => fun
  | [d1, d2] => { results := [.lit (.bool true)], args := [d1, d2] }
  | _ => none }
def floatOrdersRow : OpenClaim := { program := "ytpgdiiplnnaegaa", sum := "8cef52d3c3909cf6f0286f102b3e30bb156cc2db484b5112e7411deb80bab575", func := "quern/quernlaw22.FloatOrders", spec := "floatOrders", inPlace := ["math.Float64frombits", "math.Float64bits"], apart := false }
def FloatOrdersSaid : Prop := floatOrdersRow.holds Try.pinned (OpenSpec.ofChange floatOrdersSpec)

/-- ITS FALSE NEIGHBOUR: 'it returns false'. Refute it at one input. -/
def floatOrdersWrong : ChangeSpec := { name := "floatOrders", fn := fun _ => fun
  | [d1, d2] => { results := [.lit (.bool false)], args := [d1, d2] }
  | _ => none }
def FloatOrdersWrongFalsely : Prop := floatOrdersRow.holds Try.pinned (OpenSpec.ofChange floatOrdersWrong)

/-- 'quernlaw22.FloatBits': WHATEVER THE INPUT: true; the input reads as it did. -/
def floatBitsSpec : ChangeSpec := { name := "floatBits", fn := fun _ => fun
  | [d1, d2] => { results := [.lit (.bool true)], args := [d1, d2] }
  | _ => none }
def floatBitsRow : OpenClaim := { program := "ytpgdiiplnnaegaa", sum := "8cef52d3c3909cf6f0286f102b3e30bb156cc2db484b5112e7411deb80bab575", func := "quern/quernlaw22.FloatBits", spec := "floatBits", inPlace := ["math.Float64frombits", "math.Float64bits"], apart := false }
def FloatBitsSaid : Prop := floatBitsRow.holds Try.pinned (OpenSpec.ofChange floatBitsSpec)

/-- ITS FALSE NEIGHBOUR: 'it returns false'. Refute it at one input. -/
def floatBitsWrong : ChangeSpec := { name := "floatBits", fn := fun _ => fun
  | [d1, d2] => { results := [.lit (.bool false)], args := [d1, d2] }
  | _ => none }
def FloatBitsWrongFalsely : Prop := floatBitsRow.holds Try.pinned (OpenSpec.ofChange floatBitsWrong)

/-- 'quernlaw22.FloatSorts': WHATEVER THE INPUT: true; the input reads as it did. -/
def floatSortsSpec : ChangeSpec := { name := "floatSorts", fn := fun _ => fun
  | [d] => { results := [.lit (.bool true)], args := [d] }
  | _ => none }
def floatSortsRow : OpenClaim := { program := "ytpgdiiplnnaegaa", sum := "8cef52d3c3909cf6f0286f102b3e30bb156cc2db484b5112e7411deb80bab575", func := "quern/quernlaw22.FloatSorts", spec := "floatSorts", inPlace := ["math.Float64bits", "math.Float64frombits"], unfollowed := true, recurses := true, apart := false }
def FloatSortsSaid : Prop := floatSortsRow.holds Try.pinned (OpenSpec.ofChange floatSortsSpec)

/-- ITS FALSE NEIGHBOUR: 'it returns false'. Refute it at one input. -/
def floatSortsWrong : ChangeSpec := { name := "floatSorts", fn := fun _ => fun
  | [d] => { results := [.lit (.bool false)], args := [d] }
  | _ => none }
def FloatSortsWrongFalsely : Prop := floatSortsRow.holds Try.pinned (OpenSpec.ofChange floatSortsWrong)

/-- 'quernlaw22.FloatParts': WHATEVER THE INPUT: true; the input reads as it did. -/
def floatPartsSpec : ChangeSpec := { name := "floatParts", fn := fun _ => fun
  | [d1, d2, d3] => { results := [.lit (.bool true)], args := [d1, d2, d3] }
  | _ => none }
def floatPartsRow : OpenClaim := { program := "ytpgdiiplnnaegaa", sum := "8cef52d3c3909cf6f0286f102b3e30bb156cc2db484b5112e7411deb80bab575", func := "quern/quernlaw22.FloatParts", spec := "floatParts", inPlace := ["math.Float64bits", "math.Float64frombits"], unfollowed := true, recurses := true, apart := false }
def FloatPartsSaid : Prop := floatPartsRow.holds Try.pinned (OpenSpec.ofChange floatPartsSpec)

/-- ITS FALSE NEIGHBOUR: 'it returns false'. Refute it at one input. -/
def floatPartsWrong : ChangeSpec := { name := "floatParts", fn := fun _ => fun
  | [d1, d2, d3] => { results := [.lit (.bool false)], args := [d1, d2, d3] }
  | _ => none }
def FloatPartsWrongFalsely : Prop := floatPartsRow.holds Try.pinned (OpenSpec.ofChange floatPartsWrong)

/-- 'quernlaw22.FloatSums': WHATEVER THE INPUT: true; the input reads as it did. -/
def floatSumsSpec : ChangeSpec := { name := "floatSums", fn := fun _ => fun
  | [d] => { results := [.lit (.bool true)], args := [d] }
  | _ => none }
def floatSumsRow : OpenClaim := { program := "ytpgdiiplnnaegaa", sum := "8cef52d3c3909cf6f0286f102b3e30bb156cc2db484b5112e7411deb80bab575", func := "quern/quernlaw22.FloatSums", spec := "floatSums", inPlace := ["math.Float64bits", "math.Float64frombits", "math/bits.Add64", "math/bits.Sub64"], unfollowed := true, recurses := true, named := ["math/bits.divideError", "math/bits.overflowError"], apart := false }
def FloatSumsSaid : Prop := floatSumsRow.holds Try.pinned (OpenSpec.ofChange floatSumsSpec)

/-- ITS FALSE NEIGHBOUR: 'it returns false'. Refute it at one input. -/
def floatSumsWrong : ChangeSpec := { name := "floatSums", fn := fun _ => fun
  | [d] => { results := [.lit (.bool false)], args := [d] }
  | _ => none }
def FloatSumsWrongFalsely : Prop := floatSumsRow.holds Try.pinned (OpenSpec.ofChange floatSumsWrong)

/- THE SECOND FORM. 'bulk': how many values and letters a reading holds, each counted each time it is reached (what is shared counts as often as it is met; a slice's spare places count too). A statement '..UptoSaid' is the law's where the arguments, and the package variables that the reading takes, are together of bulk at most 1048576: NARROWER than '..Said'. Prove '..Said' where nothing that the law and all that it calls make is longer than what came in: it says more and counts as full. Else prove '..UptoSaid'. A law counts once. -/
mutual
def uptoBulk {H : Type} : DataW H → Nat
  | .lit (.string bytes) => bytes.length + 1
  | .lit _ => 1
  | .nil => 1
  | .ptr d => uptoBulk d + 1
  | .slice elems spare => uptoBulkAll elems + uptoBulkAll spare + 1
  | .agg parts => uptoBulkAll parts + 1
  | .iface _ d => uptoBulk d + 1
  | .map entries => uptoBulkEntries entries + 1
  | .held _ => 1
def uptoBulkAll {H : Type} : List (DataW H) → Nat
  | [] => 0
  | d :: r => uptoBulk d + uptoBulkAll r
def uptoBulkEntries {H : Type} : List (Lit × DataW H) → Nat
  | [] => 0
  | x :: r => uptoBulkEntry x + uptoBulkEntries r
def uptoBulkEntry {H : Type} : Lit × DataW H → Nat
  | (.string bytes, d) => bytes.length + uptoBulk d + 1
  | (_, d) => uptoBulk d + 1
 end
def uptoSmall : (H : Type) → List (DataW H) → Bool := fun _ ds => decide (uptoBulkAll ds ≤ 1048576)
def OpenSpec.upto (s : _root_.Go.ChangeSpec) : _root_.Go.OpenSpec := { _root_.Go.OpenSpec.ofChange s with cond := some uptoSmall }

/-- 'quernlaw22.FloatOrders', WHERE WHAT IT READS IS OF BULK AT MOST 1048576: true; the input reads as it did. -/
def floatOrdersUptoRow : OpenClaim := { program := "ytpgdiiplnnaegaa", sum := "8cef52d3c3909cf6f0286f102b3e30bb156cc2db484b5112e7411deb80bab575", func := "quern/quernlaw22.FloatOrders", spec := "floatOrders", inPlace := ["math.Float64frombits", "math.Float64bits"], apart := false, narrowed := true }
def FloatOrdersUptoSaid : Prop := floatOrdersUptoRow.holds Try.pinned (OpenSpec.upto floatOrdersSpec)

/-- 'quernlaw22.FloatBits', WHERE WHAT IT READS IS OF BULK AT MOST 1048576: true; the input reads as it did. -/
def floatBitsUptoRow : OpenClaim := { program := "ytpgdiiplnnaegaa", sum := "8cef52d3c3909cf6f0286f102b3e30bb156cc2db484b5112e7411deb80bab575", func := "quern/quernlaw22.FloatBits", spec := "floatBits", inPlace := ["math.Float64frombits", "math.Float64bits"], apart := false, narrowed := true }
def FloatBitsUptoSaid : Prop := floatBitsUptoRow.holds Try.pinned (OpenSpec.upto floatBitsSpec)

/-- 'quernlaw22.FloatSorts', WHERE WHAT IT READS IS OF BULK AT MOST 1048576: true; the input reads as it did. -/
def floatSortsUptoRow : OpenClaim := { program := "ytpgdiiplnnaegaa", sum := "8cef52d3c3909cf6f0286f102b3e30bb156cc2db484b5112e7411deb80bab575", func := "quern/quernlaw22.FloatSorts", spec := "floatSorts", inPlace := ["math.Float64bits", "math.Float64frombits"], unfollowed := true, recurses := true, apart := false, narrowed := true }
def FloatSortsUptoSaid : Prop := floatSortsUptoRow.holds Try.pinned (OpenSpec.upto floatSortsSpec)

/-- 'quernlaw22.FloatParts', WHERE WHAT IT READS IS OF BULK AT MOST 1048576: true; the input reads as it did. -/
def floatPartsUptoRow : OpenClaim := { program := "ytpgdiiplnnaegaa", sum := "8cef52d3c3909cf6f0286f102b3e30bb156cc2db484b5112e7411deb80bab575", func := "quern/quernlaw22.FloatParts", spec := "floatParts", inPlace := ["math.Float64bits", "math.Float64frombits"], unfollowed := true, recurses := true, apart := false, narrowed := true }
def FloatPartsUptoSaid : Prop := floatPartsUptoRow.holds Try.pinned (OpenSpec.upto floatPartsSpec)

/-- 'quernlaw22.FloatSums', WHERE WHAT IT READS IS OF BULK AT MOST 1048576: true; the input reads as it did. -/
def floatSumsUptoRow : OpenClaim := { program := "ytpgdiiplnnaegaa", sum := "8cef52d3c3909cf6f0286f102b3e30bb156cc2db484b5112e7411deb80bab575", func := "quern/quernlaw22.FloatSums", spec := "floatSums", inPlace := ["math.Float64bits", "math.Float64frombits", "math/bits.Add64", "math/bits.Sub64"], unfollowed := true, recurses := true, named := ["math/bits.divideError", "math/bits.overflowError"], apart := false, narrowed := true }
def FloatSumsUptoSaid : Prop := floatSumsUptoRow.holds Try.pinned (OpenSpec.upto floatSumsSpec)

end Rows
end Go.Proofs.Ytpgdiiplnnaegaa
