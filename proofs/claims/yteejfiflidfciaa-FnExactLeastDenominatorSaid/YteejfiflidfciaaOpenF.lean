/- How a law's arguments are opened: integers, fractions, slices of integers, sources. No condition. -/
import Derived.Test.YteejfiflidfciaaRows
import Derived.Test.YteejfiflidfciaaLawF
import Derived.ProofKit
import Derived.OpenShut
import Derived.ShutString
import Derived.ChangeOld
import Derived.Lib.SmallJoins
namespace Go.Proofs.Yteejfiflidfciaa
open Go.RowKit Go.ChangeShapes Go.WideShapes Go.ChangeAt
open Go.Joins (open_agg2)
set_option linter.unusedVariables false
set_option linter.unusedSimpArgs false

theorem own : ownKnob Try.prog.godebug = none := by kernel_rfl
theorem laidOut : laidOutB Try.prog = true := by kernel_rfl

theorem r64_of_wf {x : Int} (h : (Lit.int .i64 x).wf = true) : R64 x := by
  have := bounds_i64 h
  unfold R64
  omega

section
variable {H : Type} {enc : TypeId × Value → H} {W : World}

theorem frac_of_trod {v : Value} {d : DataW H} {p : List MemPlace} {r : Reach} {b0 : Nat} (hv : Value.okWide Try.prog W r b0 23 v) (h : DataW.Trod enc Try.prog W 0 (fun _ => true) true 23 v d p) :
    ∃ n e : Int, v = .agg #[.int .i64 n, .int .i64 e] ∧ R64 n ∧ R64 e := by
  obtain ⟨v0, v1, y0, y1, m, rfl, _, _, h0, h1⟩ := open_agg2 Try.underlying23 (by kernel_rfl) (by kernel_rfl) hv h
  obtain ⟨a, e0, _, wa⟩ := DataW.trod_int Try.underlying2 h0
  obtain ⟨b, e1, _, wb⟩ := DataW.trod_int Try.underlying2 h1
  simp at e0 e1
  subst e0 e1
  exact ⟨a, b, rfl, r64_of_wf wa, r64_of_wf wb⟩

end

end Go.Proofs.Yteejfiflidfciaa
