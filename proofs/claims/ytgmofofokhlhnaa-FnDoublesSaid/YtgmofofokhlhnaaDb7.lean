/- Functions of two numbers: the reference emits all that is known. Each theorem names its conditions. -/
import Derived.Test.YtgmofofokhlhnaaDb6
import Derived.Test.YtgmofofokhlhnaaDb4
namespace Go.Proofs.Ytgmofofokhlhnaa
open Go.RowKit
set_option linter.unusedVariables false
set_option linter.unusedSimpArgs false


theorem okD_em {d : Db} {b : Bool} (h : bdD d = true) (he : enD d = b) : okD d = !b := by unfold okD; rw [h, he]; rfl
/-- What emission leaves in the reference's run. -/
def EmT (w : World) (p B : Nat) (ov : Value) (R : Option (Db × List Int × Bool)) (e : Ending) (w' : World) : Prop :=
  Upv w w' p ov ∧ e = .returned (.tuple #[]) ∧ match R with
    | none => ∃ (d1 : Db) (v1 : Value), Bx w' p #[.int .i64 d1.a, .int .i64 d1.b, .int .i64 d1.c, .int .i64 d1.d, .int .i64 d1.e, .int .i64 d1.f, .int .i64 d1.g, .int .i64 d1.h, v1, .bool false, .int .i64 5]
    | some (d', out', b) => ∃ v1 : Value, Bx w' p #[.int .i64 d'.a, .int .i64 d'.b, .int .i64 d'.c, .int .i64 d'.d, .int .i64 d'.e, .int .i64 d'.f, .int .i64 d'.g, .int .i64 d'.h, v1, .bool b, .int .i64 0] ∧ Own w' B v1 out' ∧ RowOf w ov v1
theorem emt_yes {w w' : World} {p B : Nat} {ov v1 : Value} {d1 : Db} {o1 : List Int} {b : Bool} {R : Option (Db × List Int × Bool)} (hR : R = some (d1, o1, b)) (hu : Upv w w' p ov) (hx : Bx w' p #[.int .i64 d1.a, .int .i64 d1.b, .int .i64 d1.c, .int .i64 d1.d, .int .i64 d1.e, .int .i64 d1.f, .int .i64 d1.g, .int .i64 d1.h, v1, .bool b, .int .i64 0]) (ho : Own w' B v1 o1) (hr : RowOf w ov v1) : EmT w p B ov R (.returned (.tuple #[])) w' := by
  subst hR
  exact ⟨hu, rfl, v1, hx, ho, hr⟩
theorem emt_no {w w' : World} {p B : Nat} {ov v1 : Value} {d1 : Db} {R : Option (Db × List Int × Bool)} (hR : R = none) (hu : Upv w w' p ov) (hx : Bx w' p #[.int .i64 d1.a, .int .i64 d1.b, .int .i64 d1.c, .int .i64 d1.d, .int .i64 d1.e, .int .i64 d1.f, .int .i64 d1.g, .int .i64 d1.h, v1, .bool false, .int .i64 5]) : EmT w p B ov R (.returned (.tuple #[])) w' := by
  subst hR
  exact ⟨hu, rfl, d1, v1, hx⟩

end Go.Proofs.Ytgmofofokhlhnaa
