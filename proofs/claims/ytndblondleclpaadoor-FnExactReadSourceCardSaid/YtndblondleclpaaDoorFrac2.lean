/- The program's fraction in lowest terms. Each theorem names its conditions. -/
import Derived.Test.YtndblondleclpaaDoorFrac
namespace Go.Proofs.YtndblondleclpaaDoor
open Go.RowKit
set_option linter.unusedVariables false
set_option linter.unusedSimpArgs false

theorem quo_neg (a g : Int) (hg : 0 < g) (h : g ∣ a) : a.tdiv (-g) = -a / g := by
  rw [Int.tdiv_neg, ← Int.neg_tdiv]
  exact quo_exact _ _ hg (Int.dvd_neg.2 h)

end Go.Proofs.YtndblondleclpaaDoor
