/- The reference's test of a plain fraction: one region that draws its order. No condition. -/
import Derived.Test.YtndblondleclpaaDoorNum
namespace Go.Proofs.YtndblondleclpaaDoor
open Go.RowKit
set_option linter.unusedVariables false
set_option linter.unusedSimpArgs false

end Go.Proofs.YtndblondleclpaaDoor
