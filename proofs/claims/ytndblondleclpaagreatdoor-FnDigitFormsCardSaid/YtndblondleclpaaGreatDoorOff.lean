/- Errors of fractions and comparisons of numbers. Each theorem names its conditions. -/
import Derived.Test.YtndblondleclpaaGreatDoorFrac2
namespace Go.Proofs.YtndblondleclpaaGreatDoor
open Go.RowKit
set_option linter.unusedVariables false
set_option linter.unusedSimpArgs false

/-- The error of m / e for n / d, times both denominators. -/
def offF (n d m e : Int) : Int := ab (n * e - m * d)
theorem offF_nonneg (n d m e : Int) : 0 ≤ offF n d m e := ab_nonneg _
/-- -1, 0 or 1. -/
def cmpF (a b : Int) : Int := if a < b then -1 else if b < a then 1 else 0
theorem cmp_any (a b : Int) (w : World) : Calls Tryz.prog 156 #[.int .i64 a, .int .i64 b] w fun e w' => e = .returned (.int .i64 (cmpF a b)) ∧ w = w' := by
  by_cases h1 : a < b
  · go_enter Tryz.func156, Tryz.ntmps156
    go_wp2
    go_ret
    exact ⟨ret_int (by rw [cmpF, if_pos h1]), rfl⟩
  · by_cases h2 : b < a
    · go_enter Tryz.func156, Tryz.ntmps156
      go_wp2
      go_ret
      exact ⟨ret_int (by rw [cmpF, if_neg (by omega), if_pos h2]), rfl⟩
    · go_enter Tryz.func156, Tryz.ntmps156
      go_wp2
      go_ret
      exact ⟨ret_int (by rw [cmpF, if_neg (by omega), if_neg (by omega)]), rfl⟩

end Go.Proofs.YtndblondleclpaaGreatDoor
