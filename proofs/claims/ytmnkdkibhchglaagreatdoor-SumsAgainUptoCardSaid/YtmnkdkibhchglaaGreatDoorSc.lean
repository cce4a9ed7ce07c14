/- Walks: may an entry be, of the reference (quernref26.right). Conditions: lengths within the reach. -/
import Derived.Test.YtmnkdkibhchglaaGreatDoorSb
namespace Go.Proofs.YtmnkdkibhchglaaGreatDoor
open Go.RowKit
set_option linter.unusedVariables false
attribute [local go_sem ↓] Go.wp_at_zero Go.wp_at_succ

end Go.Proofs.YtmnkdkibhchglaaGreatDoor
