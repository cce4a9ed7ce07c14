/- Walk: an entry's line in the other form, of the reference (quernref26.Tagged). Conditions: lengths within the reach. -/
import Derived.Test.YtmnkdkibhchglaaGreatDoorSf
namespace Go.Proofs.YtmnkdkibhchglaaGreatDoor
open Go.RowKit
set_option linter.unusedVariables false
attribute [local go_sem ↓] Go.wp_at_zero Go.wp_at_succ

end Go.Proofs.YtmnkdkibhchglaaGreatDoor
