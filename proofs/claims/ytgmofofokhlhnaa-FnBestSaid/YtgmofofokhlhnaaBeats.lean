/- BeatsFirst: the program and the reference give the same. No condition. -/
import Derived.Test.YtgmofofokhlhnaaFirst
import Derived.Test.YtgmofofokhlhnaaNearest
namespace Go.Proofs.Ytgmofofokhlhnaa
open Go.RowKit
set_option linter.unusedVariables false
set_option linter.unusedSimpArgs false


noncomputable def beatsF (n d x y : Int) : (Int × Int) × Int :=
  if bestC true [(n, d), (x, y)] = 0 then
    (if firstF n d x y = true then ((0, 0), 3)
     else if (nearestF n d y).1 = x ∧ (nearestF n d y).2 = y then
       (if (sidesF n d y).1.1 = x ∧ (sidesF n d y).1.2 = y then ((sidesF n d y).2, 0) else ((sidesF n d y).1, 0))
     else (nearestF n d y, 0))
  else ((0, 0), bestC true [(n, d), (x, y)])

end Go.Proofs.Ytgmofofokhlhnaa
