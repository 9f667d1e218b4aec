/- IsBestSecond of the program. No condition. -/
import Derived.Test.YtgmofofokhlhnaaFirst
import Derived.Test.YtgmofofokhlhnaaLeastW
namespace Go.Proofs.Ytgmofofokhlhnaa
open Go.RowKit
set_option linter.unusedVariables false
set_option linter.unusedSimpArgs false

noncomputable def isSecF (n d x y : Int) : Bool × Int := if bestC true [(n, d), (x, y)] = 0 then (secondF n d x y, 0) else (false, bestC true [(n, d), (x, y)])

end Go.Proofs.Ytgmofofokhlhnaa
