/- Copies of lists of numbers: slices.Clone and the reference's own; the short form of terms. Each theorem names its conditions. -/
import Derived.Test.YtndblondleclpaaDoorApp
import Derived.Test.YtndblondleclpaaDoorNum
namespace Go.Proofs.YtndblondleclpaaDoor
open Go.RowKit
set_option linter.unusedVariables false
set_option linter.unusedSimpArgs false

end Go.Proofs.YtndblondleclpaaDoor
