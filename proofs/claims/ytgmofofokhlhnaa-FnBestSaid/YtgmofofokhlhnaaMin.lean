/- The lesser of two numbers. No condition. -/
import Derived.Test.YtgmofofokhlhnaaSides
namespace Go.Proofs.Ytgmofofokhlhnaa
open Go.RowKit
set_option linter.unusedVariables false
set_option linter.unusedSimpArgs false

/-- The lesser of two numbers. -/
theorem lmin_any {a b k : Int} (h : min a b = k) (w : World) : Calls Try.prog 180 #[.int .i64 a, .int .i64 b] w fun e w' => e = .returned (.int .i64 k) ∧ Bl w w' := by
  by_cases h1 : a < b
  · have H := Lib.hid (show a = k by omega)
    clear h
    go_enter Try.func180, Try.ntmps180
    go_wp2
    go_ret
    exact ⟨ret_int H.out, bl_refl _⟩
  · have H := Lib.hid (show b = k by omega)
    clear h
    go_enter Try.func180, Try.ntmps180
    go_wp2
    go_ret
    exact ⟨ret_int H.out, bl_refl _⟩

end Go.Proofs.Ytgmofofokhlhnaa
