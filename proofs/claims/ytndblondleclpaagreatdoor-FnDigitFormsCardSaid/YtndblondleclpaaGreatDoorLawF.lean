/- The laws' own helpers on fractions. No condition. -/
import Derived.Test.YtndblondleclpaaGreatDoorBase
namespace Go.Proofs.YtndblondleclpaaGreatDoor
open Go.RowKit
set_option linter.unusedVariables false
set_option linter.unusedSimpArgs false

/-- Whether two fractions are one, field by field. -/
def eqFr (a b c d : Int) : Bool := decide (a = c) && decide (b = d)
@[simp] theorem eqFr_self (a b : Int) : eqFr a b a b = true := by simp [eqFr]

end Go.Proofs.YtndblondleclpaaGreatDoor
