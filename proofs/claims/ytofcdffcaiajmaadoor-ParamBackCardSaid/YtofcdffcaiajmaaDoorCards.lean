/-
  DERIVED. GIVEN WITH THE SEED: THE CARDS: each row of YtofcdffcaiajmaaDoorRows.lean that lists a variable, with what it lists TIED to the program's text (the seventh form; the later family's looks); each row that meets fmt, with fmt's text TOLD by the authors' own Lean function (tested against real Go, not proved from fmt's source: count such statements apart). THE CARD IS WHAT COUNTS. Prove the row's statement (the work); the ties are given (YtofcdffcaiajmaaDoorTie.lean); close each card by the builder's one call (the guide's Derived/Test/ToyasCard.lean, 'card_holds'). Laid BY PROGRAM, IN A SANDBOX (cutbox-door.mjs). By AI agents, Wed Nov 11 2026. No macro, syntax, notation, axiom, sorry.
-/
import Derived.Test.YtofcdffcaiajmaaDoorRows
import GoSem.ClaimSeven
namespace Go.Proofs.YtofcdffcaiajmaaDoor
namespace Rows

/-- THE TIED CARD OF 'quernlaw02.ParamBack'. -/
def paramBackCard : Claim7 := { stood := { row := paramBackRow, standIns := [], harness := (true, "1d74f038bc1a4eb66976e6b57ea367fbb2c17057d68424d89f82eb34f0cedf83"), looks := true }, kinds := [], alts := [], laidByText := true, laidKinds := [.data, .data, .data, .data, .sentinel, .sentinel, .pinned], laidTests := true, laidLooks := .later }
def ParamBackCardSaid : Prop := Claim7.holds Tryd.pinned (.plain (OpenSpec.ofChange paramBackSpec)) paramBackCard

/-- THE SECOND FORM's CARD OF 'quernlaw02.ParamBack'. -/
def paramBackUptoCard : Claim7 := { stood := { row := paramBackUptoRow, standIns := [], harness := (true, "1d74f038bc1a4eb66976e6b57ea367fbb2c17057d68424d89f82eb34f0cedf83"), looks := true }, kinds := [], alts := [], laidByText := true, laidKinds := [.data, .data, .data, .data, .sentinel, .sentinel, .pinned], laidTests := true, laidLooks := .later }
def ParamBackUptoCardSaid : Prop := Claim7.holds Tryd.pinned (.plain (OpenSpec.upto paramBackSpec)) paramBackUptoCard
end Rows
end Go.Proofs.YtofcdffcaiajmaaDoor
