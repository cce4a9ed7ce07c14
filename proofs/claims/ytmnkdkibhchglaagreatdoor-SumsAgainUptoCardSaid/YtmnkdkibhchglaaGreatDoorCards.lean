/-
  DERIVED. GIVEN WITH THE SEED: THE CARDS: each row of YtmnkdkibhchglaaGreatDoorRows.lean that lists a variable, with what it lists TIED to the program's text (the seventh form; the later family's looks); each row that meets fmt, with fmt's text TOLD by the authors' own Lean function (tested against real Go, not proved from fmt's source: count such statements apart). THE CARD IS WHAT COUNTS. Prove the row's statement (the work); the ties are given (YtmnkdkibhchglaaGreatDoorTie.lean); close each card by the builder's one call (the guide's Derived/Test/ToyasCard.lean, 'card_holds'). Laid BY PROGRAM, IN A SANDBOX (cutbox-door.mjs). By AI agents, Wed Nov 11 2026. No macro, syntax, notation, axiom, sorry.
-/
import Derived.Test.YtmnkdkibhchglaaGreatDoorRows
import GoSem.ClaimSeven
namespace Go.Proofs.YtmnkdkibhchglaaGreatDoor
namespace Rows

/-- THE TIED CARD OF 'quernlaw26.SumsLists'. -/
def sumsListsCard : Claim7 := { stood := { row := sumsListsRow, standIns := [], harness := (true, "13b1b7967fae37bc61339d237453903d2612fe919b26eff2285e10cae90c1cef"), looks := true }, kinds := [], alts := [], laidByText := true, laidKinds := [.data, .data, .data, .handle, .sentinel, .sentinel], laidTests := true, laidLooks := .later }
def SumsListsCardSaid : Prop := Claim7.holds Tryz.pinned (.plain (OpenSpec.ofChange sumsListsSpec)) sumsListsCard

/-- THE TIED CARD OF 'quernlaw26.SumsAgain'. -/
def sumsAgainCard : Claim7 := { stood := { row := sumsAgainRow, standIns := [], harness := (true, "13b1b7967fae37bc61339d237453903d2612fe919b26eff2285e10cae90c1cef"), looks := true }, kinds := [], alts := [], laidByText := true, laidKinds := [.data, .data, .data, .handle, .sentinel, .sentinel], laidTests := true, laidLooks := .later }
def SumsAgainCardSaid : Prop := Claim7.holds Tryz.pinned (.plain (OpenSpec.ofChange sumsAgainSpec)) sumsAgainCard

/-- THE SECOND FORM's CARD OF 'quernlaw26.SumsLists'. -/
def sumsListsUptoCard : Claim7 := { stood := { row := sumsListsUptoRow, standIns := [], harness := (true, "13b1b7967fae37bc61339d237453903d2612fe919b26eff2285e10cae90c1cef"), looks := true }, kinds := [], alts := [], laidByText := true, laidKinds := [.data, .data, .data, .handle, .sentinel, .sentinel], laidTests := true, laidLooks := .later }
def SumsListsUptoCardSaid : Prop := Claim7.holds Tryz.pinned (.plain (OpenSpec.upto sumsListsSpec)) sumsListsUptoCard

/-- THE SECOND FORM's CARD OF 'quernlaw26.SumsAgain'. -/
def sumsAgainUptoCard : Claim7 := { stood := { row := sumsAgainUptoRow, standIns := [], harness := (true, "13b1b7967fae37bc61339d237453903d2612fe919b26eff2285e10cae90c1cef"), looks := true }, kinds := [], alts := [], laidByText := true, laidKinds := [.data, .data, .data, .handle, .sentinel, .sentinel], laidTests := true, laidLooks := .later }
def SumsAgainUptoCardSaid : Prop := Claim7.holds Tryz.pinned (.plain (OpenSpec.upto sumsAgainSpec)) sumsAgainUptoCard
end Rows
end Go.Proofs.YtmnkdkibhchglaaGreatDoor
