/- The laws' own helpers on fractions. No condition. -/
import Derived.Test.YtbonlompmnhmiaaBase
namespace Go.Proofs.Ytbonlompmnhmiaa
open Go.RowKit
set_option linter.unusedVariables false
set_option linter.unusedSimpArgs false

set_option maxHeartbeats 400000 in
theorem toF_any (n d : Int) (w : World) :
    Calls Try.prog 12 #[.agg #[.int .i64 n, .int .i64 d]] w fun e w' => e = .returned (.agg #[.int .i64 n, .int .i64 d]) ∧ Bl w w' := by
  go_enter Try.func12, Try.ntmps12
  go_wp2
  refine bodyPost_ret (v := .agg #[.int .i64 n, .int .i64 d]) (by simp only [results, Try.results12]; go_simp) rfl ⟨rfl, ?_⟩
  exact bl_alloc (bl_alloc (bl_alloc (bl_refl _) _) _) _

/-- Whether two fractions are one, field by field. -/
def eqFr (a b c d : Int) : Bool := decide (a = c) && decide (b = d)
@[simp] theorem eqFr_self (a b : Int) : eqFr a b a b = true := by simp [eqFr]

set_option maxHeartbeats 400000 in
theorem eqF_any (a b c d : Int) (w : World) :
    Calls Try.prog 63 #[.agg #[.int .i64 a, .int .i64 b], .agg #[.int .i64 c, .int .i64 d]] w fun e w' => e = .returned (.bool (eqFr a b c d)) ∧ Bl w w' := by
  by_cases h1 : a = c
  · subst h1
    have e1 : (a != a) = false := by simp
    by_cases h2 : b = d
    · subst h2
      have e2 : (b != b) = false := by simp
      go_enter Try.func63, Try.ntmps63
      go_wp2
      go_ret
      exact ⟨ret_bool (by simp [eqFr]), bl_alloc (bl_alloc (bl_refl _) _) _⟩
    · have e2 : (b != d) = true := by simp [h2]
      go_enter Try.func63, Try.ntmps63
      go_wp2
      go_ret
      exact ⟨ret_bool (by simp [eqFr, h2]), bl_alloc (bl_alloc (bl_refl _) _) _⟩
  · have e1 : (a != c) = true := by simp [h1]
    go_enter Try.func63, Try.ntmps63
    go_wp2
    go_ret
    exact ⟨ret_bool (by simp [eqFr, h1]), bl_alloc (bl_alloc (bl_refl _) _) _⟩

end Go.Proofs.Ytbonlompmnhmiaa
