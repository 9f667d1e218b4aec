/- The laws' own helper on states. No condition. -/
import Derived.Test.YtndblondleclpaaDoorBase
namespace Go.Proofs.YtndblondleclpaaDoor
open Go.RowKit
set_option linter.unusedVariables false
set_option linter.unusedSimpArgs false

end Go.Proofs.YtndblondleclpaaDoor
