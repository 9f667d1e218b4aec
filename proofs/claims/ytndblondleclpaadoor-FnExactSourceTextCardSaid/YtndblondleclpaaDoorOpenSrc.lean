/- How a law's arguments are opened: integers, fractions, slices of integers, sources. No condition. -/
import Derived.Test.YtndblondleclpaaDoorOpenS
import Derived.Test.YtndblondleclpaaDoorLawBs
import Derived.ProofKit
import Derived.OpenShut
import Derived.ShutString
import Derived.ChangeOld
import Derived.Lib.SmallJoins
namespace Go.Proofs.YtndblondleclpaaDoor
open Go.RowKit Go.ChangeShapes Go.WideShapes Go.ChangeAt
open Go.Joins (open_agg2 open_agg3)
set_option linter.unusedVariables false
set_option maxRecDepth 100000
section
variable {H : Type} {enc : TypeId × Value → H} {W : World}

theorem src_of_trod {v : Value} {d : DataW H} {p : List MemPlace} {r : Reach} {b0 : Nat} (hv : Value.okWide Tryd.prog W r b0 28 v) (h : DataW.Trod enc Tryd.prog W 0 (fun _ => true) true 28 v d p) :
    ∃ h' p' g' s, v = .agg #[h', p', g'] ∧ SlS W h' p' g' s := by
  obtain ⟨v0, v1, v2, y0, y1, y2, m, rfl, _, _, h0, h1, h2⟩ := open_agg3 Tryd.underlying28 (by kernel_rfl) (by kernel_rfl) hv h
  obtain ⟨x0, s0⟩ := sl_of_trod h0
  obtain ⟨x1, s1⟩ := sl_of_trod h1
  obtain ⟨x2, s2⟩ := sl_of_trod h2
  exact ⟨v0, v1, v2, ⟨x0, x1, x2⟩, rfl, s0, s1, s2⟩

end
end Go.Proofs.YtndblondleclpaaDoor
