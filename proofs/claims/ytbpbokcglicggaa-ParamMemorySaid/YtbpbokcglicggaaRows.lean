/-
  No cell of these rows narrows 'for every input' (looked for: loops, veiled, ifaces, maps, wideKeys, modest, calm, conditions, laid).
  DERIVED. THE GIVEN ROWS OF THIS SEAT. 9 by the template 'for every input the law returns true; each argument reads behind the call as it read before'; 0 by the template 'total and deterministic' (their statements: YtbpbokcglicggaaTotals.lean).
  GIVEN WITH THE SEED: the statements are not yours to turn. If you find one false, say at which input.
  Laid BY PROGRAM, IN A SANDBOX (cutbox-rows.mjs): the forced cells as the released guide's own fill.sh prints them over the translation 259cfe401d903ce4… (all of the seat's roots in one cut). By AI agents, Wed Nov 11 2026. No macro, syntax, notation, axiom, sorry.
-/
import Derived.Test.YtbpbokcglicggaaChecked
import GoSem.Claim
import GoSem.ClaimJoined
import GoSem.ClaimMapViews
import Derived.JoinedTies
import Derived.KernelRfl
namespace Go.Proofs.Ytbpbokcglicggaa
/- THE CELL 'sum', in the pinned program and in every row, IS THE sha256 OF THE DUMP (.gsa) THAT YtbpbokcglicggaaProg.lean LOADS. Nothing in Lean hashes anything: it is a label: what it is worth is what the hold of that sum in a sandbox is worth. -/
noncomputable def Try.pinned : Pinned := { name := "ytbpbokcglicggaa", sum := "259cfe401d903ce4cbd6e5959b27988e884e5c850cf8580a6e42b3d163489ba0", checked := Try.checked }
namespace Rows
def none {H : Type} : Left H := { results := [], args := [] }

/-- 'quernlaw02.ParamSizes': WHATEVER THE INPUT: true; the input reads as it did. -/
def paramSizesSpec : ChangeSpec := { name := "paramSizes", fn := fun _ => fun
  | [d1, d2, d3] => { results := [.lit (.bool true)], args := [d1, d2, d3] }
  | _ => none }
def paramSizesRow : OpenClaim := { program := "ytbpbokcglicggaa", sum := "259cfe401d903ce4cbd6e5959b27988e884e5c850cf8580a6e42b3d163489ba0", func := "quern/quernlaw02.ParamSizes", spec := "paramSizes", apart := false }
def ParamSizesSaid : Prop := paramSizesRow.holds Try.pinned (OpenSpec.ofChange paramSizesSpec)

/-- ITS FALSE NEIGHBOUR: 'it returns false'. Refute it at one input. -/
def paramSizesWrong : ChangeSpec := { name := "paramSizes", fn := fun _ => fun
  | [d1, d2, d3] => { results := [.lit (.bool false)], args := [d1, d2, d3] }
  | _ => none }
def ParamSizesWrongFalsely : Prop := paramSizesRow.holds Try.pinned (OpenSpec.ofChange paramSizesWrong)

/-- 'quernlaw02.ParamChecks': WHATEVER THE INPUT: true; the input reads as it did. -/
def paramChecksSpec : ChangeSpec := { name := "paramChecks", fn := fun _ => fun
  | [d1, d2, d3] => { results := [.lit (.bool true)], args := [d1, d2, d3] }
  | _ => none }
def paramChecksRow : OpenClaim := { program := "ytbpbokcglicggaa", sum := "259cfe401d903ce4cbd6e5959b27988e884e5c850cf8580a6e42b3d163489ba0", func := "quern/quernlaw02.ParamChecks", spec := "paramChecks", apart := false }
def ParamChecksSaid : Prop := paramChecksRow.holds Try.pinned (OpenSpec.ofChange paramChecksSpec)

/-- ITS FALSE NEIGHBOUR: 'it returns false'. Refute it at one input. -/
def paramChecksWrong : ChangeSpec := { name := "paramChecks", fn := fun _ => fun
  | [d1, d2, d3] => { results := [.lit (.bool false)], args := [d1, d2, d3] }
  | _ => none }
def ParamChecksWrongFalsely : Prop := paramChecksRow.holds Try.pinned (OpenSpec.ofChange paramChecksWrong)

/-- 'quernlaw02.ParamFields': WHATEVER THE INPUT: true; the input reads as it did. -/
def paramFieldsSpec : ChangeSpec := { name := "paramFields", fn := fun _ => fun
  | [d] => { results := [.lit (.bool true)], args := [d] }
  | _ => none }
def paramFieldsRow : OpenClaim := { program := "ytbpbokcglicggaa", sum := "259cfe401d903ce4cbd6e5959b27988e884e5c850cf8580a6e42b3d163489ba0", func := "quern/quernlaw02.ParamFields", spec := "paramFields", apart := false }
def ParamFieldsSaid : Prop := paramFieldsRow.holds Try.pinned (OpenSpec.ofChange paramFieldsSpec)

/-- ITS FALSE NEIGHBOUR: 'it returns false'. Refute it at one input. -/
def paramFieldsWrong : ChangeSpec := { name := "paramFields", fn := fun _ => fun
  | [d] => { results := [.lit (.bool false)], args := [d] }
  | _ => none }
def ParamFieldsWrongFalsely : Prop := paramFieldsRow.holds Try.pinned (OpenSpec.ofChange paramFieldsWrong)

/-- 'quernlaw02.ParamDecodes': WHATEVER THE INPUT: true; the input reads as it did. -/
def paramDecodesSpec : ChangeSpec := { name := "paramDecodes", fn := fun _ => fun
  | [d1, d2, d3] => { results := [.lit (.bool true)], args := [d1, d2, d3] }
  | _ => none }
def paramDecodesRow : OpenClaim := { program := "ytbpbokcglicggaa", sum := "259cfe401d903ce4cbd6e5959b27988e884e5c850cf8580a6e42b3d163489ba0", func := "quern/quernlaw02.ParamDecodes", spec := "paramDecodes", apart := false }
def ParamDecodesSaid : Prop := paramDecodesRow.holds Try.pinned (OpenSpec.ofChange paramDecodesSpec)

/-- ITS FALSE NEIGHBOUR: 'it returns false'. Refute it at one input. -/
def paramDecodesWrong : ChangeSpec := { name := "paramDecodes", fn := fun _ => fun
  | [d1, d2, d3] => { results := [.lit (.bool false)], args := [d1, d2, d3] }
  | _ => none }
def ParamDecodesWrongFalsely : Prop := paramDecodesRow.holds Try.pinned (OpenSpec.ofChange paramDecodesWrong)

/-- 'quernlaw02.ParamEncodes': WHATEVER THE INPUT: true; the input reads as it did. -/
def paramEncodesSpec : ChangeSpec := { name := "paramEncodes", fn := fun _ => fun
  | [d1, d2] => { results := [.lit (.bool true)], args := [d1, d2] }
  | _ => none }
def paramEncodesRow : OpenClaim := { program := "ytbpbokcglicggaa", sum := "259cfe401d903ce4cbd6e5959b27988e884e5c850cf8580a6e42b3d163489ba0", func := "quern/quernlaw02.ParamEncodes", spec := "paramEncodes", apart := false }
def ParamEncodesSaid : Prop := paramEncodesRow.holds Try.pinned (OpenSpec.ofChange paramEncodesSpec)

/-- ITS FALSE NEIGHBOUR: 'it returns false'. Refute it at one input. -/
def paramEncodesWrong : ChangeSpec := { name := "paramEncodes", fn := fun _ => fun
  | [d1, d2] => { results := [.lit (.bool false)], args := [d1, d2] }
  | _ => none }
def ParamEncodesWrongFalsely : Prop := paramEncodesRow.holds Try.pinned (OpenSpec.ofChange paramEncodesWrong)

/-- 'quernlaw02.ParamUnlike': WHATEVER THE INPUT: true; the input reads as it did. -/
def paramUnlikeSpec : ChangeSpec := { name := "paramUnlike", fn := fun _ => fun
  | [d1, d2, d3] => { results := [.lit (.bool true)], args := [d1, d2, d3] }
  | _ => none }
def paramUnlikeRow : OpenClaim := { program := "ytbpbokcglicggaa", sum := "259cfe401d903ce4cbd6e5959b27988e884e5c850cf8580a6e42b3d163489ba0", func := "quern/quernlaw02.ParamUnlike", spec := "paramUnlike", apart := false }
def ParamUnlikeSaid : Prop := paramUnlikeRow.holds Try.pinned (OpenSpec.ofChange paramUnlikeSpec)

/-- ITS FALSE NEIGHBOUR: 'it returns false'. Refute it at one input. -/
def paramUnlikeWrong : ChangeSpec := { name := "paramUnlike", fn := fun _ => fun
  | [d1, d2, d3] => { results := [.lit (.bool false)], args := [d1, d2, d3] }
  | _ => none }
def ParamUnlikeWrongFalsely : Prop := paramUnlikeRow.holds Try.pinned (OpenSpec.ofChange paramUnlikeWrong)

/-- 'quernlaw02.ParamPuts': WHATEVER THE INPUT: true; the input reads as it did. -/
def paramPutsSpec : ChangeSpec := { name := "paramPuts", fn := fun _ => fun
  | [d] => { results := [.lit (.bool true)], args := [d] }
  | _ => none }
def paramPutsRow : OpenClaim := { program := "ytbpbokcglicggaa", sum := "259cfe401d903ce4cbd6e5959b27988e884e5c850cf8580a6e42b3d163489ba0", func := "quern/quernlaw02.ParamPuts", spec := "paramPuts", apart := false }
def ParamPutsSaid : Prop := paramPutsRow.holds Try.pinned (OpenSpec.ofChange paramPutsSpec)

/-- ITS FALSE NEIGHBOUR: 'it returns false'. Refute it at one input. -/
def paramPutsWrong : ChangeSpec := { name := "paramPuts", fn := fun _ => fun
  | [d] => { results := [.lit (.bool false)], args := [d] }
  | _ => none }
def ParamPutsWrongFalsely : Prop := paramPutsRow.holds Try.pinned (OpenSpec.ofChange paramPutsWrong)

/-- 'quernlaw02.ParamTwins': WHATEVER THE INPUT: true; the input reads as it did. -/
def paramTwinsSpec : ChangeSpec := { name := "paramTwins", fn := fun _ => fun
  | [d1, d2] => { results := [.lit (.bool true)], args := [d1, d2] }
  | _ => none }
def paramTwinsRow : OpenClaim := { program := "ytbpbokcglicggaa", sum := "259cfe401d903ce4cbd6e5959b27988e884e5c850cf8580a6e42b3d163489ba0", func := "quern/quernlaw02.ParamTwins", spec := "paramTwins", apart := false }
def ParamTwinsSaid : Prop := paramTwinsRow.holds Try.pinned (OpenSpec.ofChange paramTwinsSpec)

/-- ITS FALSE NEIGHBOUR: 'it returns false'. Refute it at one input. -/
def paramTwinsWrong : ChangeSpec := { name := "paramTwins", fn := fun _ => fun
  | [d1, d2] => { results := [.lit (.bool false)], args := [d1, d2] }
  | _ => none }
def ParamTwinsWrongFalsely : Prop := paramTwinsRow.holds Try.pinned (OpenSpec.ofChange paramTwinsWrong)

/-- 'quernlaw02.ParamMemory': WHATEVER THE INPUT: true; the input reads as it did. -/
def paramMemorySpec : ChangeSpec := { name := "paramMemory", fn := fun _ => fun
  | [d1, d2] => { results := [.lit (.bool true)], args := [d1, d2] }
  | _ => none }
def paramMemoryRow : OpenClaim := { program := "ytbpbokcglicggaa", sum := "259cfe401d903ce4cbd6e5959b27988e884e5c850cf8580a6e42b3d163489ba0", func := "quern/quernlaw02.ParamMemory", spec := "paramMemory", apart := false }
def ParamMemorySaid : Prop := paramMemoryRow.holds Try.pinned (OpenSpec.ofChange paramMemorySpec)

/-- ITS FALSE NEIGHBOUR: 'it returns false'. Refute it at one input. -/
def paramMemoryWrong : ChangeSpec := { name := "paramMemory", fn := fun _ => fun
  | [d1, d2] => { results := [.lit (.bool false)], args := [d1, d2] }
  | _ => none }
def ParamMemoryWrongFalsely : Prop := paramMemoryRow.holds Try.pinned (OpenSpec.ofChange paramMemoryWrong)

/- THE SECOND FORM. 'bulk': how many values and letters a reading holds, each counted each time it is reached (what is shared counts as often as it is met; a slice's spare places count too). A statement '..UptoSaid' is the law's where the arguments, and the package variables that the reading takes, are together of bulk at most 1048576: NARROWER than '..Said'. Prove '..Said' where nothing that the law and all that it calls make is longer than what came in: it says more and counts as full. Else prove '..UptoSaid'. A law counts once. -/
mutual
def uptoBulk {H : Type} : DataW H → Nat
  | .lit (.string bytes) => bytes.length + 1
  | .lit _ => 1
  | .nil => 1
  | .ptr d => uptoBulk d + 1
  | .slice elems spare => uptoBulkAll elems + uptoBulkAll spare + 1
  | .agg parts => uptoBulkAll parts + 1
  | .iface _ d => uptoBulk d + 1
  | .map entries => uptoBulkEntries entries + 1
  | .held _ => 1
def uptoBulkAll {H : Type} : List (DataW H) → Nat
  | [] => 0
  | d :: r => uptoBulk d + uptoBulkAll r
def uptoBulkEntries {H : Type} : List (Lit × DataW H) → Nat
  | [] => 0
  | x :: r => uptoBulkEntry x + uptoBulkEntries r
def uptoBulkEntry {H : Type} : Lit × DataW H → Nat
  | (.string bytes, d) => bytes.length + uptoBulk d + 1
  | (_, d) => uptoBulk d + 1
 end
def uptoSmall : (H : Type) → List (DataW H) → Bool := fun _ ds => decide (uptoBulkAll ds ≤ 1048576)
def OpenSpec.upto (s : _root_.Go.ChangeSpec) : _root_.Go.OpenSpec := { _root_.Go.OpenSpec.ofChange s with cond := some uptoSmall }

/-- 'quernlaw02.ParamSizes', WHERE WHAT IT READS IS OF BULK AT MOST 1048576: true; the input reads as it did. -/
def paramSizesUptoRow : OpenClaim := { program := "ytbpbokcglicggaa", sum := "259cfe401d903ce4cbd6e5959b27988e884e5c850cf8580a6e42b3d163489ba0", func := "quern/quernlaw02.ParamSizes", spec := "paramSizes", apart := false, narrowed := true }
def ParamSizesUptoSaid : Prop := paramSizesUptoRow.holds Try.pinned (OpenSpec.upto paramSizesSpec)

/-- 'quernlaw02.ParamChecks', WHERE WHAT IT READS IS OF BULK AT MOST 1048576: true; the input reads as it did. -/
def paramChecksUptoRow : OpenClaim := { program := "ytbpbokcglicggaa", sum := "259cfe401d903ce4cbd6e5959b27988e884e5c850cf8580a6e42b3d163489ba0", func := "quern/quernlaw02.ParamChecks", spec := "paramChecks", apart := false, narrowed := true }
def ParamChecksUptoSaid : Prop := paramChecksUptoRow.holds Try.pinned (OpenSpec.upto paramChecksSpec)

/-- 'quernlaw02.ParamFields', WHERE WHAT IT READS IS OF BULK AT MOST 1048576: true; the input reads as it did. -/
def paramFieldsUptoRow : OpenClaim := { program := "ytbpbokcglicggaa", sum := "259cfe401d903ce4cbd6e5959b27988e884e5c850cf8580a6e42b3d163489ba0", func := "quern/quernlaw02.ParamFields", spec := "paramFields", apart := false, narrowed := true }
def ParamFieldsUptoSaid : Prop := paramFieldsUptoRow.holds Try.pinned (OpenSpec.upto paramFieldsSpec)

/-- 'quernlaw02.ParamDecodes', WHERE WHAT IT READS IS OF BULK AT MOST 1048576: true; the input reads as it did. -/
def paramDecodesUptoRow : OpenClaim := { program := "ytbpbokcglicggaa", sum := "259cfe401d903ce4cbd6e5959b27988e884e5c850cf8580a6e42b3d163489ba0", func := "quern/quernlaw02.ParamDecodes", spec := "paramDecodes", apart := false, narrowed := true }
def ParamDecodesUptoSaid : Prop := paramDecodesUptoRow.holds Try.pinned (OpenSpec.upto paramDecodesSpec)

/-- 'quernlaw02.ParamEncodes', WHERE WHAT IT READS IS OF BULK AT MOST 1048576: true; the input reads as it did. -/
def paramEncodesUptoRow : OpenClaim := { program := "ytbpbokcglicggaa", sum := "259cfe401d903ce4cbd6e5959b27988e884e5c850cf8580a6e42b3d163489ba0", func := "quern/quernlaw02.ParamEncodes", spec := "paramEncodes", apart := false, narrowed := true }
def ParamEncodesUptoSaid : Prop := paramEncodesUptoRow.holds Try.pinned (OpenSpec.upto paramEncodesSpec)

/-- 'quernlaw02.ParamUnlike', WHERE WHAT IT READS IS OF BULK AT MOST 1048576: true; the input reads as it did. -/
def paramUnlikeUptoRow : OpenClaim := { program := "ytbpbokcglicggaa", sum := "259cfe401d903ce4cbd6e5959b27988e884e5c850cf8580a6e42b3d163489ba0", func := "quern/quernlaw02.ParamUnlike", spec := "paramUnlike", apart := false, narrowed := true }
def ParamUnlikeUptoSaid : Prop := paramUnlikeUptoRow.holds Try.pinned (OpenSpec.upto paramUnlikeSpec)

/-- 'quernlaw02.ParamPuts', WHERE WHAT IT READS IS OF BULK AT MOST 1048576: true; the input reads as it did. -/
def paramPutsUptoRow : OpenClaim := { program := "ytbpbokcglicggaa", sum := "259cfe401d903ce4cbd6e5959b27988e884e5c850cf8580a6e42b3d163489ba0", func := "quern/quernlaw02.ParamPuts", spec := "paramPuts", apart := false, narrowed := true }
def ParamPutsUptoSaid : Prop := paramPutsUptoRow.holds Try.pinned (OpenSpec.upto paramPutsSpec)

/-- 'quernlaw02.ParamTwins', WHERE WHAT IT READS IS OF BULK AT MOST 1048576: true; the input reads as it did. -/
def paramTwinsUptoRow : OpenClaim := { program := "ytbpbokcglicggaa", sum := "259cfe401d903ce4cbd6e5959b27988e884e5c850cf8580a6e42b3d163489ba0", func := "quern/quernlaw02.ParamTwins", spec := "paramTwins", apart := false, narrowed := true }
def ParamTwinsUptoSaid : Prop := paramTwinsUptoRow.holds Try.pinned (OpenSpec.upto paramTwinsSpec)

/-- 'quernlaw02.ParamMemory', WHERE WHAT IT READS IS OF BULK AT MOST 1048576: true; the input reads as it did. -/
def paramMemoryUptoRow : OpenClaim := { program := "ytbpbokcglicggaa", sum := "259cfe401d903ce4cbd6e5959b27988e884e5c850cf8580a6e42b3d163489ba0", func := "quern/quernlaw02.ParamMemory", spec := "paramMemory", apart := false, narrowed := true }
def ParamMemoryUptoSaid : Prop := paramMemoryUptoRow.holds Try.pinned (OpenSpec.upto paramMemorySpec)

end Rows
end Go.Proofs.Ytbpbokcglicggaa
