/- Walk: quernref02.Decode at kind 2, the option true: parameters out of a block of the right length. Conditions: as stated. -/
import Derived.Test.YtofcdffcaiajmaaDoorRDec
import Derived.Deep.DrawnRows
import Derived.Outline
namespace Go.Proofs.YtofcdffcaiajmaaDoor
open Go.RowKit
set_option linter.unusedVariables false
attribute [local go_sem ↓] Go.wp_at_zero Go.wp_at_succ

end Go.Proofs.YtofcdffcaiajmaaDoor
