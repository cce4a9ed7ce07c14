/- Walk: quernref02.trimmed: bytes without the noughts at their end, one by one. Conditions: the slice reads as the list. -/
import Derived.Test.YtofcdffcaiajmaaDoorPm
import Derived.Test.YtofcdffcaiajmaaDoorMem2
namespace Go.Proofs.YtofcdffcaiajmaaDoor
open Go.RowKit
set_option linter.unusedVariables false

end Go.Proofs.YtofcdffcaiajmaaDoor
