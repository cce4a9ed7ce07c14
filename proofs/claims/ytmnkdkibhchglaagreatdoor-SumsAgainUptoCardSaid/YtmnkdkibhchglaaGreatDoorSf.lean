/- Walks of the reference: a mark ahead of a line, a number in base ten, an entry's line (quernref26.ahead, digits, Plain). Conditions: lengths within the reach. -/
import Derived.Test.YtmnkdkibhchglaaGreatDoorSe
import Derived.BigQuiet
namespace Go.Proofs.YtmnkdkibhchglaaGreatDoor
open Go.RowKit
set_option linter.unusedVariables false
attribute [local go_sem ↓] Go.wp_at_zero Go.wp_at_succ

end Go.Proofs.YtmnkdkibhchglaaGreatDoor
