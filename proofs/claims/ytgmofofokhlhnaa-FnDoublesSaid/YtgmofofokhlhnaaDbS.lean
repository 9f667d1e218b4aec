/- A run of a function of two numbers: the reference. Each theorem names its conditions. -/
import Derived.Test.YtgmofofokhlhnaaDb9
import Derived.Deep.RegionLaw
import Derived.StillTailTactics
namespace Go.Proofs.Ytgmofofokhlhnaa
open Go.RowKit
set_option linter.unusedVariables false
set_option linter.unusedSimpArgs false


theorem own_madeAt (X : World) {B k : Nat} (hk : k = X.heap.size) (hB : B ≤ X.heap.size) : Own (X.alloc (.cells #[] 2)) B (.slice (some ⟨k, 0, none⟩) 0 0) [] := by subst hk; exact own_made X hB

end Go.Proofs.Ytgmofofokhlhnaa
