/-
  DERIVED. GIVEN WITH THE SEED: THE CARDS: each row of YtacnoedhpamdmaaGreatDoorRows.lean that lists a variable, with what it lists TIED to the program's text (the seventh form; the later family's looks); each row that meets fmt, with fmt's text TOLD by the authors' own Lean function (tested against real Go, not proved from fmt's source: count such statements apart). THE CARD IS WHAT COUNTS. Prove the row's statement (the work); the ties are given (YtacnoedhpamdmaaGreatDoorTie.lean); close each card by the builder's one call (the guide's Derived/Test/ToyasCard.lean, 'card_holds'). Laid BY PROGRAM, IN A SANDBOX (cutbox-door.mjs). By AI agents, Wed Nov 11 2026. No macro, syntax, notation, axiom, sorry.
-/
import Derived.Test.YtacnoedhpamdmaaGreatDoorRows
import GoSem.ClaimSeven
namespace Go.Proofs.YtacnoedhpamdmaaGreatDoor
namespace Rows

/-- THE TIED CARD OF 'quernlaw23.ValueBlanks'. -/
def valueBlanksCard : Claim7 := { stood := { row := valueBlanksRow, standIns := [], harness := (true, "d0cd4591aab0cd8a15459f36d19a471ce122a5619b88bc460cd8179b76261c7e"), looks := true }, kinds := [], alts := [], laidByText := true, laidKinds := [.data, .data, .widerDeep, .widerDeep, .data, .data, .data, .data, .data, .sentinel, .sentinel, .pinned, .pinned], laidTests := true, laidLooks := .later }
def ValueBlanksCardSaid : Prop := Claim7.holds Tryz.pinned (.plain (OpenSpec.ofChange valueBlanksSpec)) valueBlanksCard

/-- THE TIED CARD OF 'quernlaw23.ValueChecks'. -/
def valueChecksCard : Claim7 := { stood := { row := valueChecksRow, standIns := [], harness := (true, "d0cd4591aab0cd8a15459f36d19a471ce122a5619b88bc460cd8179b76261c7e"), looks := true }, kinds := [], alts := [], laidByText := true, laidKinds := [.data, .data, .widerDeep, .widerDeep, .data, .data, .data, .data, .data, .sentinel, .sentinel, .pinned, .pinned], laidTests := true, laidLooks := .later }
def ValueChecksCardSaid : Prop := Claim7.holds Tryz.pinned (.plain (OpenSpec.ofChange valueChecksSpec)) valueChecksCard

/-- THE TIED CARD OF 'quernlaw23.ValueWays'. -/
def valueWaysCard : Claim7 := { stood := { row := valueWaysRow, standIns := [], harness := (true, "d0cd4591aab0cd8a15459f36d19a471ce122a5619b88bc460cd8179b76261c7e"), looks := true }, kinds := [], alts := [], laidByText := true, laidKinds := [.data, .data, .widerDeep, .widerDeep, .data, .data, .data, .data, .data, .sentinel, .sentinel, .pinned, .pinned], laidTests := true, laidLooks := .later }
def ValueWaysCardSaid : Prop := Claim7.holds Tryz.pinned (.plain (OpenSpec.ofChange valueWaysSpec)) valueWaysCard

/-- THE TIED CARD OF 'quernlaw23.ValuePuts'. -/
def valuePutsCard : Claim7 := { stood := { row := valuePutsRow, standIns := [], harness := (true, "d0cd4591aab0cd8a15459f36d19a471ce122a5619b88bc460cd8179b76261c7e"), looks := true }, kinds := [], alts := [], laidByText := true, laidKinds := [.data, .data, .widerDeep, .widerDeep, .data, .data, .data, .data, .data, .sentinel, .sentinel, .pinned, .pinned], laidTests := true, laidLooks := .later }
def ValuePutsCardSaid : Prop := Claim7.holds Tryz.pinned (.plain (OpenSpec.ofChange valuePutsSpec)) valuePutsCard

/-- THE TIED CARD OF 'quernlaw23.ValueOrders'. -/
def valueOrdersCard : Claim7 := { stood := { row := valueOrdersRow, standIns := [], harness := (true, "d0cd4591aab0cd8a15459f36d19a471ce122a5619b88bc460cd8179b76261c7e"), looks := true }, kinds := [], alts := [], laidByText := true, laidKinds := [.data, .data, .widerDeep, .widerDeep, .data, .data, .data, .data, .data, .sentinel, .sentinel, .pinned, .pinned], laidTests := true, laidLooks := .later }
def ValueOrdersCardSaid : Prop := Claim7.holds Tryz.pinned (.plain (OpenSpec.ofChange valueOrdersSpec)) valueOrdersCard

/-- THE TIED CARD OF 'quernlaw23.ValueRanks'. -/
def valueRanksCard : Claim7 := { stood := { row := valueRanksRow, standIns := [], harness := (true, "d0cd4591aab0cd8a15459f36d19a471ce122a5619b88bc460cd8179b76261c7e"), looks := true }, kinds := [], alts := [], laidByText := true, laidKinds := [.data, .data, .widerDeep, .widerDeep, .data, .data, .data, .data, .data, .sentinel, .sentinel, .pinned, .pinned], laidTests := true, laidLooks := .later }
def ValueRanksCardSaid : Prop := Claim7.holds Tryz.pinned (.plain (OpenSpec.ofChange valueRanksSpec)) valueRanksCard

/-- THE TIED CARD OF 'quernlaw23.ValueBytes'. -/
def valueBytesCard : Claim7 := { stood := { row := valueBytesRow, standIns := [], harness := (true, "d0cd4591aab0cd8a15459f36d19a471ce122a5619b88bc460cd8179b76261c7e"), looks := true }, kinds := [], alts := [], laidByText := true, laidKinds := [.data, .data, .widerDeep, .widerDeep, .data, .data, .data, .data, .data, .sentinel, .sentinel, .pinned, .pinned], laidTests := true, laidLooks := .later }
def ValueBytesCardSaid : Prop := Claim7.holds Tryz.pinned (.plain (OpenSpec.ofChange valueBytesSpec)) valueBytesCard

/-- THE SECOND FORM's CARD OF 'quernlaw23.ValueBlanks'. -/
def valueBlanksUptoCard : Claim7 := { stood := { row := valueBlanksUptoRow, standIns := [], harness := (true, "d0cd4591aab0cd8a15459f36d19a471ce122a5619b88bc460cd8179b76261c7e"), looks := true }, kinds := [], alts := [], laidByText := true, laidKinds := [.data, .data, .widerDeep, .widerDeep, .data, .data, .data, .data, .data, .sentinel, .sentinel, .pinned, .pinned], laidTests := true, laidLooks := .later }
def ValueBlanksUptoCardSaid : Prop := Claim7.holds Tryz.pinned (.plain (OpenSpec.upto valueBlanksSpec)) valueBlanksUptoCard

/-- THE SECOND FORM's CARD OF 'quernlaw23.ValueChecks'. -/
def valueChecksUptoCard : Claim7 := { stood := { row := valueChecksUptoRow, standIns := [], harness := (true, "d0cd4591aab0cd8a15459f36d19a471ce122a5619b88bc460cd8179b76261c7e"), looks := true }, kinds := [], alts := [], laidByText := true, laidKinds := [.data, .data, .widerDeep, .widerDeep, .data, .data, .data, .data, .data, .sentinel, .sentinel, .pinned, .pinned], laidTests := true, laidLooks := .later }
def ValueChecksUptoCardSaid : Prop := Claim7.holds Tryz.pinned (.plain (OpenSpec.upto valueChecksSpec)) valueChecksUptoCard

/-- THE SECOND FORM's CARD OF 'quernlaw23.ValueWays'. -/
def valueWaysUptoCard : Claim7 := { stood := { row := valueWaysUptoRow, standIns := [], harness := (true, "d0cd4591aab0cd8a15459f36d19a471ce122a5619b88bc460cd8179b76261c7e"), looks := true }, kinds := [], alts := [], laidByText := true, laidKinds := [.data, .data, .widerDeep, .widerDeep, .data, .data, .data, .data, .data, .sentinel, .sentinel, .pinned, .pinned], laidTests := true, laidLooks := .later }
def ValueWaysUptoCardSaid : Prop := Claim7.holds Tryz.pinned (.plain (OpenSpec.upto valueWaysSpec)) valueWaysUptoCard

/-- THE SECOND FORM's CARD OF 'quernlaw23.ValuePuts'. -/
def valuePutsUptoCard : Claim7 := { stood := { row := valuePutsUptoRow, standIns := [], harness := (true, "d0cd4591aab0cd8a15459f36d19a471ce122a5619b88bc460cd8179b76261c7e"), looks := true }, kinds := [], alts := [], laidByText := true, laidKinds := [.data, .data, .widerDeep, .widerDeep, .data, .data, .data, .data, .data, .sentinel, .sentinel, .pinned, .pinned], laidTests := true, laidLooks := .later }
def ValuePutsUptoCardSaid : Prop := Claim7.holds Tryz.pinned (.plain (OpenSpec.upto valuePutsSpec)) valuePutsUptoCard

/-- THE SECOND FORM's CARD OF 'quernlaw23.ValueOrders'. -/
def valueOrdersUptoCard : Claim7 := { stood := { row := valueOrdersUptoRow, standIns := [], harness := (true, "d0cd4591aab0cd8a15459f36d19a471ce122a5619b88bc460cd8179b76261c7e"), looks := true }, kinds := [], alts := [], laidByText := true, laidKinds := [.data, .data, .widerDeep, .widerDeep, .data, .data, .data, .data, .data, .sentinel, .sentinel, .pinned, .pinned], laidTests := true, laidLooks := .later }
def ValueOrdersUptoCardSaid : Prop := Claim7.holds Tryz.pinned (.plain (OpenSpec.upto valueOrdersSpec)) valueOrdersUptoCard

/-- THE SECOND FORM's CARD OF 'quernlaw23.ValueRanks'. -/
def valueRanksUptoCard : Claim7 := { stood := { row := valueRanksUptoRow, standIns := [], harness := (true, "d0cd4591aab0cd8a15459f36d19a471ce122a5619b88bc460cd8179b76261c7e"), looks := true }, kinds := [], alts := [], laidByText := true, laidKinds := [.data, .data, .widerDeep, .widerDeep, .data, .data, .data, .data, .data, .sentinel, .sentinel, .pinned, .pinned], laidTests := true, laidLooks := .later }
def ValueRanksUptoCardSaid : Prop := Claim7.holds Tryz.pinned (.plain (OpenSpec.upto valueRanksSpec)) valueRanksUptoCard

/-- THE SECOND FORM's CARD OF 'quernlaw23.ValueBytes'. -/
def valueBytesUptoCard : Claim7 := { stood := { row := valueBytesUptoRow, standIns := [], harness := (true, "d0cd4591aab0cd8a15459f36d19a471ce122a5619b88bc460cd8179b76261c7e"), looks := true }, kinds := [], alts := [], laidByText := true, laidKinds := [.data, .data, .widerDeep, .widerDeep, .data, .data, .data, .data, .data, .sentinel, .sentinel, .pinned, .pinned], laidTests := true, laidLooks := .later }
def ValueBytesUptoCardSaid : Prop := Claim7.holds Tryz.pinned (.plain (OpenSpec.upto valueBytesSpec)) valueBytesUptoCard
end Rows
end Go.Proofs.YtacnoedhpamdmaaGreatDoor
