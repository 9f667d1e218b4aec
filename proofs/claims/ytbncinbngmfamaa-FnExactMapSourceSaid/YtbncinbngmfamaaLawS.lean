/- The laws' own helper on states. No condition. -/
import Derived.Test.YtbncinbngmfamaaBase
namespace Go.Proofs.Ytbncinbngmfamaa
open Go.RowKit
set_option linter.unusedVariables false
set_option linter.unusedSimpArgs false

set_option maxHeartbeats 800000 in
theorem toSt_any (a b c d : Int) (w : World) :
    Calls Try.prog 27 #[.agg #[.int .i64 a, .int .i64 b, .int .i64 c, .int .i64 d]] w fun e w' => e = .returned (.agg #[.int .i64 a, .int .i64 b, .int .i64 c, .int .i64 d]) ∧ Bl w w' := by
  go_enter Try.func27, Try.ntmps27
  go_wp2
  refine bodyPost_ret (v := .agg #[.int .i64 a, .int .i64 b, .int .i64 c, .int .i64 d]) (by simp only [results, Try.results27]; go_simp) rfl ⟨rfl, ?_⟩
  exact bl_alloc (bl_alloc (bl_alloc (bl_refl _) _) _) _

end Go.Proofs.Ytbncinbngmfamaa
