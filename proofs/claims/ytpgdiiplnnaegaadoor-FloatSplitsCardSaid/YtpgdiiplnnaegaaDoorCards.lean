/-
  DERIVED. GIVEN WITH THE SEED: THE CARDS: each row of YtpgdiiplnnaegaaDoorRows.lean that lists a variable, with what it lists TIED to the program's text (the seventh form; the later family's looks); each row that meets fmt, with fmt's text TOLD by the authors' own Lean function (tested against real Go, not proved from fmt's source: count such statements apart). THE CARD IS WHAT COUNTS. Prove the row's statement (the work); the ties are given (YtpgdiiplnnaegaaDoorTie.lean); close each card by the builder's one call (the guide's Derived/Test/ToyasCard.lean, 'card_holds'). Laid BY PROGRAM, IN A SANDBOX (cutbox-door.mjs). By AI agents, Wed Nov 11 2026. No macro, syntax, notation, axiom, sorry.
-/
import Derived.Test.YtpgdiiplnnaegaaDoorRows
import GoSem.ClaimSeven
namespace Go.Proofs.YtpgdiiplnnaegaaDoor
namespace Rows

/-- THE TIED CARD OF 'quernlaw22.FloatSplits'. -/
def floatSplitsCard : Claim7 := { stood := { row := floatSplitsRow, standIns := [], harness := (true, "2c2630852a4716fabd0cac257324f5557540793cf867694296a3e2e0872ab1ea"), looks := true }, kinds := [], alts := [], laidByText := true, laidKinds := [.data], laidTests := true, laidLooks := .later }
def FloatSplitsCardSaid : Prop := Claim7.holds Tryd.pinned (.plain (OpenSpec.ofChange floatSplitsSpec)) floatSplitsCard

/-- THE TIED CARD OF 'quernlaw22.FloatReads'. -/
def floatReadsCard : Claim7 := { stood := { row := floatReadsRow, standIns := [], harness := (true, "2c2630852a4716fabd0cac257324f5557540793cf867694296a3e2e0872ab1ea"), looks := true }, kinds := [], alts := [], laidByText := true, laidKinds := [.data, .data, .widerDeep, .widerDeep, .data, .data, .data, .data, .data, .sentinel, .sentinel, .pinned, .pinned], laidTests := true, laidLooks := .later }
def FloatReadsCardSaid : Prop := Claim7.holds Tryd.pinned (.plain (OpenSpec.ofChange floatReadsSpec)) floatReadsCard

/-- THE SECOND FORM's CARD OF 'quernlaw22.FloatSplits'. -/
def floatSplitsUptoCard : Claim7 := { stood := { row := floatSplitsUptoRow, standIns := [], harness := (true, "2c2630852a4716fabd0cac257324f5557540793cf867694296a3e2e0872ab1ea"), looks := true }, kinds := [], alts := [], laidByText := true, laidKinds := [.data], laidTests := true, laidLooks := .later }
def FloatSplitsUptoCardSaid : Prop := Claim7.holds Tryd.pinned (.plain (OpenSpec.upto floatSplitsSpec)) floatSplitsUptoCard

/-- THE SECOND FORM's CARD OF 'quernlaw22.FloatReads'. -/
def floatReadsUptoCard : Claim7 := { stood := { row := floatReadsUptoRow, standIns := [], harness := (true, "2c2630852a4716fabd0cac257324f5557540793cf867694296a3e2e0872ab1ea"), looks := true }, kinds := [], alts := [], laidByText := true, laidKinds := [.data, .data, .widerDeep, .widerDeep, .data, .data, .data, .data, .data, .sentinel, .sentinel, .pinned, .pinned], laidTests := true, laidLooks := .later }
def FloatReadsUptoCardSaid : Prop := Claim7.holds Tryd.pinned (.plain (OpenSpec.upto floatReadsSpec)) floatReadsUptoCard
end Rows
end Go.Proofs.YtpgdiiplnnaegaaDoor
