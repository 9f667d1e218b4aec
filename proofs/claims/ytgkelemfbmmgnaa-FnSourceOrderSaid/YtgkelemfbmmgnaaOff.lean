/- Errors of fractions and comparisons of numbers. Each theorem names its conditions. -/
import Derived.Test.YtgkelemfbmmgnaaFrac2
namespace Go.Proofs.Ytgkelemfbmmgnaa
open Go.RowKit
set_option linter.unusedVariables false
set_option linter.unusedSimpArgs false

/-- The error of m / e for n / d, times both denominators. -/
def offF (n d m e : Int) : Int := ab (n * e - m * d)
theorem offF_nonneg (n d m e : Int) : 0 ≤ offF n d m e := ab_nonneg _
set_option maxHeartbeats 400000 in
theorem ioff_any (n d m e : Int) (w : World) (h1 : -4000000000000000000 ≤ n * e) (h2 : n * e ≤ 4000000000000000000) (h3 : -4000000000000000000 ≤ m * d) (h4 : m * d ≤ 4000000000000000000) :
    Calls Try.prog 127 #[.agg #[.int .i64 n, .int .i64 d], .agg #[.int .i64 m, .int .i64 e]] w fun r w' => r = .returned (.int .i64 (offF n d m e)) ∧ Bl w w' := by
  go_enter Try.func127, Try.ntmps127
  go_wp2_with (go_at_call 138; refine (abs_any _ _ (by omega)).mono ?_; rintro e w' ⟨rfl, rfl⟩)
  go_ret
  exact ⟨rfl, bl_alloc (bl_alloc (bl_refl _) _) _⟩

set_option maxHeartbeats 400000 in
theorem soff_any (n d m e : Int) (w : World) (h1 : -4000000000000000000 ≤ n * e) (h2 : n * e ≤ 4000000000000000000) (h3 : -4000000000000000000 ≤ m * d) (h4 : m * d ≤ 4000000000000000000) :
    Calls Try.prog 108 #[.agg #[.int .i64 n, .int .i64 d], .agg #[.int .i64 m, .int .i64 e]] w fun r w' => r = .returned (.int .i64 (offF n d m e)) ∧ Bl w w' := by
  go_enter Try.func108, Try.ntmps108
  go_wp2_with (go_at_call 88; refine (size_any _ _ (by omega)).mono ?_; rintro e w' ⟨rfl, rfl⟩)
  go_ret
  exact ⟨rfl, bl_alloc (bl_alloc (bl_refl _) _) _⟩

/-- -1, 0 or 1. -/
def cmpF (a b : Int) : Int := if a < b then -1 else if b < a then 1 else 0
theorem cmp_any (a b : Int) (w : World) : Calls Try.prog 81 #[.int .i64 a, .int .i64 b] w fun e w' => e = .returned (.int .i64 (cmpF a b)) ∧ w = w' := by
  by_cases h1 : a < b
  · go_enter Try.func81, Try.ntmps81
    go_wp2
    go_ret
    exact ⟨ret_int (by rw [cmpF, if_pos h1]), rfl⟩
  · by_cases h2 : b < a
    · go_enter Try.func81, Try.ntmps81
      go_wp2
      go_ret
      exact ⟨ret_int (by rw [cmpF, if_neg (by omega), if_pos h2]), rfl⟩
    · go_enter Try.func81, Try.ntmps81
      go_wp2
      go_ret
      exact ⟨ret_int (by rw [cmpF, if_neg (by omega), if_neg (by omega)]), rfl⟩

end Go.Proofs.Ytgkelemfbmmgnaa
