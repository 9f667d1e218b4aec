/- The reference's stream: terms are fed and emitted. Each theorem names its conditions. -/
import Derived.Test.YtgmofofokhlhnaaStr
namespace Go.Proofs.Ytgmofofokhlhnaa
open Go.RowKit
set_option linter.unusedVariables false
set_option linter.unusedSimpArgs false


/-- What emission leaves in the reference's stream. -/
def EmS (w : World) (p B : Nat) (ov : Value) (R : Option (St × List Int)) (e : Ending) (w' : World) : Prop :=
  Upv w w' p ov ∧ e = .returned (.tuple #[]) ∧ match R with
    | none => ∃ (s1 : St) (v1 : Value), Bx w' p #[.int .i64 s1.a, .int .i64 s1.b, .int .i64 s1.c, .int .i64 s1.d, v1, .int .i64 5]
    | some (s', out') => ∃ ov' : Value, Bx w' p #[.int .i64 s'.a, .int .i64 s'.b, .int .i64 s'.c, .int .i64 s'.d, ov', .int .i64 0] ∧ Own w' B ov' out' ∧ RowOf w ov ov'
theorem ems_yes {w w' : World} {p B : Nat} {ov v1 : Value} {s1 : St} {o1 : List Int} {R : Option (St × List Int)} (hR : R = some (s1, o1)) (hu : Upv w w' p ov) (hx : Bx w' p #[.int .i64 s1.a, .int .i64 s1.b, .int .i64 s1.c, .int .i64 s1.d, v1, .int .i64 0]) (ho : Own w' B v1 o1) (hr : RowOf w ov v1) : EmS w p B ov R (.returned (.tuple #[])) w' := by
  subst hR
  exact ⟨hu, rfl, v1, hx, ho, hr⟩
theorem ems_no {w w' : World} {p B : Nat} {ov : Value} {R : Option (St × List Int)} {s1 : St} {v1 : Value} (hR : R = none) (hu : Upv w w' p ov) (hx : Bx w' p #[.int .i64 s1.a, .int .i64 s1.b, .int .i64 s1.c, .int .i64 s1.d, v1, .int .i64 5]) : EmS w p B ov R (.returned (.tuple #[])) w' := by
  subst hR
  exact ⟨hu, rfl, s1, v1, hx⟩

/-- Feed a term, and emit what is known then. -/
def feedR (s : St) (out : List Int) (t : Int) : Option (St × List Int) := if bdS (fedF s t) then emitF 1073741824 (fedF s t) out else none
theorem feedR_yes {s : St} {out : List Int} {t : Int} (h : bdS (fedF s t) = true) : feedR s out t = emitF 1073741824 (fedF s t) out := by rw [feedR, if_pos h]
theorem feedR_no {s : St} {out : List Int} {t : Int} (h : bdS (fedF s t) = false) : feedR s out t = none := by rw [feedR, if_neg (by rw [h]; simp)]
theorem ems_on {w w1 w2 : World} {p B : Nat} {ov : Value} {R : Option (St × List Int)} {e : Ending} (hu : Upd w w1 p) (h : EmS w1 p B ov R e w2) : EmS w p B ov R e w2 := by
  obtain ⟨h1, h2, h3⟩ := h
  refine ⟨upv_upv (upv_upd (upv_refl w p ov) hu) h1 (fun k hk => .inl hk), h2, ?_⟩
  cases R with
  | none => exact h3
  | some r =>
    obtain ⟨ov', a, b, c⟩ := h3
    exact ⟨ov', a, b, fun k hk => (c k hk).imp id (fun q => Nat.le_trans hu.size q)⟩
end Go.Proofs.Ytgmofofokhlhnaa
