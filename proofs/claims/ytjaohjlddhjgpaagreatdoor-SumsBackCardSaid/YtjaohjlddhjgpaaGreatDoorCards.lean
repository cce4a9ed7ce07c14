/-
  DERIVED. GIVEN WITH THE SEED: THE CARDS: each row of YtjaohjlddhjgpaaGreatDoorRows.lean that lists a variable, with what it lists TIED to the program's text (the seventh form; the later family's looks); each row that meets fmt, with fmt's text TOLD by the authors' own Lean function (tested against real Go, not proved from fmt's source: count such statements apart). THE CARD IS WHAT COUNTS. Prove the row's statement (the work); the ties are given (YtjaohjlddhjgpaaGreatDoorTie.lean); close each card by the builder's one call (the guide's Derived/Test/ToyasCard.lean, 'card_holds'). Laid BY PROGRAM, IN A SANDBOX (cutbox-door.mjs). By AI agents, Wed Nov 11 2026. No macro, syntax, notation, axiom, sorry.
-/
import Derived.Test.YtjaohjlddhjgpaaGreatDoorRows
import GoSem.ClaimSeven
namespace Go.Proofs.YtjaohjlddhjgpaaGreatDoor
namespace Rows

/-- THE TIED CARD OF 'quernlaw26.SumsLines'. -/
def sumsLinesCard : Claim7 := { stood := { row := sumsLinesRow, standIns := [], harness := (true, "2af66ef6985a05b57c35b44b636b4b4055b9fd4855830419dc09475d641a2888"), looks := true }, kinds := [], alts := [], laidByText := true, laidKinds := [.data, .data, .data], laidTests := true, laidLooks := .later }
def SumsLinesCardSaid : Prop := Claim7.holds Tryz.pinned (.plain (OpenSpec.ofChange sumsLinesSpec)) sumsLinesCard

/-- THE TIED CARD OF 'quernlaw26.SumsPrints'. -/
def sumsPrintsCard : Claim7 := { stood := { row := sumsPrintsRow, standIns := [], harness := (true, "2af66ef6985a05b57c35b44b636b4b4055b9fd4855830419dc09475d641a2888"), looks := true }, kinds := [], alts := [], laidByText := true, laidKinds := [.data, .data, .data], laidTests := true, laidLooks := .later }
def SumsPrintsCardSaid : Prop := Claim7.holds Tryz.pinned (.plain (OpenSpec.ofChange sumsPrintsSpec)) sumsPrintsCard

/-- THE TIED CARD OF 'quernlaw26.SumsReads'. -/
def sumsReadsCard : Claim7 := { stood := { row := sumsReadsRow, standIns := [], harness := (true, "2af66ef6985a05b57c35b44b636b4b4055b9fd4855830419dc09475d641a2888"), looks := true }, kinds := [], alts := [], laidByText := true, laidKinds := [.data, .data, .data, .handle, .sentinel, .sentinel], laidTests := true, laidLooks := .later }
def SumsReadsCardSaid : Prop := Claim7.holds Tryz.pinned (.plain (OpenSpec.ofChange sumsReadsSpec)) sumsReadsCard

/-- THE TIED CARD OF 'quernlaw26.SumsBack'. -/
def sumsBackCard : Claim7 := { stood := { row := sumsBackRow, standIns := [], harness := (true, "2af66ef6985a05b57c35b44b636b4b4055b9fd4855830419dc09475d641a2888"), looks := true }, kinds := [], alts := [], laidByText := true, laidKinds := [.data, .data, .data, .handle, .sentinel, .sentinel], laidTests := true, laidLooks := .later }
def SumsBackCardSaid : Prop := Claim7.holds Tryz.pinned (.plain (OpenSpec.ofChange sumsBackSpec)) sumsBackCard

/-- THE SECOND FORM's CARD OF 'quernlaw26.SumsLines'. -/
def sumsLinesUptoCard : Claim7 := { stood := { row := sumsLinesUptoRow, standIns := [], harness := (true, "2af66ef6985a05b57c35b44b636b4b4055b9fd4855830419dc09475d641a2888"), looks := true }, kinds := [], alts := [], laidByText := true, laidKinds := [.data, .data, .data], laidTests := true, laidLooks := .later }
def SumsLinesUptoCardSaid : Prop := Claim7.holds Tryz.pinned (.plain (OpenSpec.upto sumsLinesSpec)) sumsLinesUptoCard

/-- THE SECOND FORM's CARD OF 'quernlaw26.SumsPrints'. -/
def sumsPrintsUptoCard : Claim7 := { stood := { row := sumsPrintsUptoRow, standIns := [], harness := (true, "2af66ef6985a05b57c35b44b636b4b4055b9fd4855830419dc09475d641a2888"), looks := true }, kinds := [], alts := [], laidByText := true, laidKinds := [.data, .data, .data], laidTests := true, laidLooks := .later }
def SumsPrintsUptoCardSaid : Prop := Claim7.holds Tryz.pinned (.plain (OpenSpec.upto sumsPrintsSpec)) sumsPrintsUptoCard

/-- THE SECOND FORM's CARD OF 'quernlaw26.SumsReads'. -/
def sumsReadsUptoCard : Claim7 := { stood := { row := sumsReadsUptoRow, standIns := [], harness := (true, "2af66ef6985a05b57c35b44b636b4b4055b9fd4855830419dc09475d641a2888"), looks := true }, kinds := [], alts := [], laidByText := true, laidKinds := [.data, .data, .data, .handle, .sentinel, .sentinel], laidTests := true, laidLooks := .later }
def SumsReadsUptoCardSaid : Prop := Claim7.holds Tryz.pinned (.plain (OpenSpec.upto sumsReadsSpec)) sumsReadsUptoCard

/-- THE SECOND FORM's CARD OF 'quernlaw26.SumsBack'. -/
def sumsBackUptoCard : Claim7 := { stood := { row := sumsBackUptoRow, standIns := [], harness := (true, "2af66ef6985a05b57c35b44b636b4b4055b9fd4855830419dc09475d641a2888"), looks := true }, kinds := [], alts := [], laidByText := true, laidKinds := [.data, .data, .data, .handle, .sentinel, .sentinel], laidTests := true, laidLooks := .later }
def SumsBackUptoCardSaid : Prop := Claim7.holds Tryz.pinned (.plain (OpenSpec.upto sumsBackSpec)) sumsBackUptoCard
end Rows
end Go.Proofs.YtjaohjlddhjgpaaGreatDoor
