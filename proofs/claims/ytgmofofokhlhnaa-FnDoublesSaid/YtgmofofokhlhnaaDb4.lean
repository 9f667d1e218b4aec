/- Functions of two numbers: the reference emits one term. Each theorem names its conditions. -/
import Derived.Test.YtgmofofokhlhnaaDb3
import Derived.Test.YtgmofofokhlhnaaStS
namespace Go.Proofs.Ytgmofofokhlhnaa
open Go.RowKit
set_option linter.unusedVariables false
set_option linter.unusedSimpArgs false


end Go.Proofs.Ytgmofofokhlhnaa
