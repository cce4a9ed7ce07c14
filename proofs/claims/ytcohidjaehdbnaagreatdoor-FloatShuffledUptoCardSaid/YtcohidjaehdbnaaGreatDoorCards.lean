/-
  DERIVED. GIVEN WITH THE SEED: THE CARDS: each row of YtcohidjaehdbnaaGreatDoorRows.lean that lists a variable, with what it lists TIED to the program's text (the seventh form; the later family's looks); each row that meets fmt, with fmt's text TOLD by the authors' own Lean function (tested against real Go, not proved from fmt's source: count such statements apart). THE CARD IS WHAT COUNTS. Prove the row's statement (the work); the ties are given (YtcohidjaehdbnaaGreatDoorTie.lean); close each card by the builder's one call (the guide's Derived/Test/ToyasCard.lean, 'card_holds'). Laid BY PROGRAM, IN A SANDBOX (cutbox-door.mjs). By AI agents, Wed Nov 11 2026. No macro, syntax, notation, axiom, sorry.
-/
import Derived.Test.YtcohidjaehdbnaaGreatDoorRows
import GoSem.ClaimSeven
namespace Go.Proofs.YtcohidjaehdbnaaGreatDoor
namespace Rows

/-- THE TIED CARD OF 'quernlaw22.FloatLine'. -/
def floatLineCard : Claim7 := { stood := { row := floatLineRow, standIns := [], harness := (true, "52af0bc9a8e04290f9bc9df8a4f68fb26f55547c28663418e571d45c314c577a"), looks := true }, kinds := [], alts := [], laidByText := true, laidKinds := [.data, .data, .data, .data, .data, .sentinel, .sentinel, .pinned, .pinned, .pinned], laidTests := true, laidLooks := .later }
def FloatLineCardSaid : Prop := Claim7.holds Tryz.pinned (.plain (OpenSpec.ofChange floatLineSpec)) floatLineCard

/-- THE TIED CARD OF 'quernlaw22.FloatShuffled'. -/
def floatShuffledCard : Claim7 := { stood := { row := floatShuffledRow, standIns := [], harness := (true, "52af0bc9a8e04290f9bc9df8a4f68fb26f55547c28663418e571d45c314c577a"), looks := true }, kinds := [], alts := [], laidByText := true, laidKinds := [.data, .data, .data, .data, .data, .sentinel, .sentinel, .pinned, .pinned, .pinned], laidTests := true, laidLooks := .later }
def FloatShuffledCardSaid : Prop := Claim7.holds Tryz.pinned (.plain (OpenSpec.ofChange floatShuffledSpec)) floatShuffledCard

/-- THE TIED CARD OF 'quernlaw22.FloatCancels'. -/
def floatCancelsCard : Claim7 := { stood := { row := floatCancelsRow, standIns := [], harness := (true, "52af0bc9a8e04290f9bc9df8a4f68fb26f55547c28663418e571d45c314c577a"), looks := true }, kinds := [], alts := [], laidByText := true, laidKinds := [.data, .data, .data, .data, .data, .sentinel, .sentinel, .pinned, .pinned, .pinned], laidTests := true, laidLooks := .later }
def FloatCancelsCardSaid : Prop := Claim7.holds Tryz.pinned (.plain (OpenSpec.ofChange floatCancelsSpec)) floatCancelsCard

/-- THE SECOND FORM's CARD OF 'quernlaw22.FloatLine'. -/
def floatLineUptoCard : Claim7 := { stood := { row := floatLineUptoRow, standIns := [], harness := (true, "52af0bc9a8e04290f9bc9df8a4f68fb26f55547c28663418e571d45c314c577a"), looks := true }, kinds := [], alts := [], laidByText := true, laidKinds := [.data, .data, .data, .data, .data, .sentinel, .sentinel, .pinned, .pinned, .pinned], laidTests := true, laidLooks := .later }
def FloatLineUptoCardSaid : Prop := Claim7.holds Tryz.pinned (.plain (OpenSpec.upto floatLineSpec)) floatLineUptoCard

/-- THE SECOND FORM's CARD OF 'quernlaw22.FloatShuffled'. -/
def floatShuffledUptoCard : Claim7 := { stood := { row := floatShuffledUptoRow, standIns := [], harness := (true, "52af0bc9a8e04290f9bc9df8a4f68fb26f55547c28663418e571d45c314c577a"), looks := true }, kinds := [], alts := [], laidByText := true, laidKinds := [.data, .data, .data, .data, .data, .sentinel, .sentinel, .pinned, .pinned, .pinned], laidTests := true, laidLooks := .later }
def FloatShuffledUptoCardSaid : Prop := Claim7.holds Tryz.pinned (.plain (OpenSpec.upto floatShuffledSpec)) floatShuffledUptoCard

/-- THE SECOND FORM's CARD OF 'quernlaw22.FloatCancels'. -/
def floatCancelsUptoCard : Claim7 := { stood := { row := floatCancelsUptoRow, standIns := [], harness := (true, "52af0bc9a8e04290f9bc9df8a4f68fb26f55547c28663418e571d45c314c577a"), looks := true }, kinds := [], alts := [], laidByText := true, laidKinds := [.data, .data, .data, .data, .data, .sentinel, .sentinel, .pinned, .pinned, .pinned], laidTests := true, laidLooks := .later }
def FloatCancelsUptoCardSaid : Prop := Claim7.holds Tryz.pinned (.plain (OpenSpec.upto floatCancelsSpec)) floatCancelsUptoCard
end Rows
end Go.Proofs.YtcohidjaehdbnaaGreatDoor
