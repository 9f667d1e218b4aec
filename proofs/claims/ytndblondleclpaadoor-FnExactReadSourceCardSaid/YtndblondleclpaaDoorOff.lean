/- Errors of fractions and comparisons of numbers. Each theorem names its conditions. -/
import Derived.Test.YtndblondleclpaaDoorFrac2
namespace Go.Proofs.YtndblondleclpaaDoor
open Go.RowKit
set_option linter.unusedVariables false
set_option linter.unusedSimpArgs false

/-- The error of m / e for n / d, times both denominators. -/
def offF (n d m e : Int) : Int := ab (n * e - m * d)
theorem offF_nonneg (n d m e : Int) : 0 ≤ offF n d m e := ab_nonneg _
/-- -1, 0 or 1. -/
def cmpF (a b : Int) : Int := if a < b then -1 else if b < a then 1 else 0
end Go.Proofs.YtndblondleclpaaDoor
