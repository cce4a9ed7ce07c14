/-
  DERIVED. GIVEN WITH THE SEED: THE CARDS: each row of YthoifpapdefheaaGreatDoorRows.lean that lists a variable, with what it lists TIED to the program's text (the seventh form; the later family's looks); each row that meets fmt, with fmt's text TOLD by the authors' own Lean function (tested against real Go, not proved from fmt's source: count such statements apart). THE CARD IS WHAT COUNTS. Prove the row's statement (the work); the ties are given (YthoifpapdefheaaGreatDoorTie.lean); close each card by the builder's one call (the guide's Derived/Test/ToyasCard.lean, 'card_holds'). Laid BY PROGRAM, IN A SANDBOX (cutbox-door.mjs). By AI agents, Wed Nov 11 2026. No macro, syntax, notation, axiom, sorry.
-/
import Derived.Test.YthoifpapdefheaaGreatDoorRows
import GoSem.ClaimSeven
namespace Go.Proofs.YthoifpapdefheaaGreatDoor
namespace Rows

/-- THE TIED CARD OF 'quernlaw22.FloatTexts'. -/
def floatTextsCard : Claim7 := { stood := { row := floatTextsRow, standIns := [], harness := (true, "4de28b0a74d472d70cfb9338cc40a816c20d10305fd771358423448b2fe193e7"), looks := true }, kinds := [], alts := [], laidByText := true, laidKinds := [.data, .data, .data, .data, .data, .sentinel, .sentinel, .pinned, .pinned, .pinned], laidTests := true, laidLooks := .later }
def FloatTextsCardSaid : Prop := Claim7.holds Tryz.pinned (.plain (OpenSpec.ofChange floatTextsSpec)) floatTextsCard

/-- THE SECOND FORM's CARD OF 'quernlaw22.FloatTexts'. -/
def floatTextsUptoCard : Claim7 := { stood := { row := floatTextsUptoRow, standIns := [], harness := (true, "4de28b0a74d472d70cfb9338cc40a816c20d10305fd771358423448b2fe193e7"), looks := true }, kinds := [], alts := [], laidByText := true, laidKinds := [.data, .data, .data, .data, .data, .sentinel, .sentinel, .pinned, .pinned, .pinned], laidTests := true, laidLooks := .later }
def FloatTextsUptoCardSaid : Prop := Claim7.holds Tryz.pinned (.plain (OpenSpec.upto floatTextsSpec)) floatTextsUptoCard
end Rows
end Go.Proofs.YthoifpapdefheaaGreatDoor
