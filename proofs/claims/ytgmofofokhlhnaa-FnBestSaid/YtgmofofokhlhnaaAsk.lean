/- The code of a fraction and a limit, by both programs. Each theorem names its conditions. -/
import Derived.Test.YtgmofofokhlhnaaArd
import Derived.Test.YtgmofofokhlhnaaOk
namespace Go.Proofs.Ytgmofofokhlhnaa
open Go.RowKit
set_option linter.unusedVariables false
set_option linter.unusedSimpArgs false

/-- The code of a fraction and a limit. -/
def askC (n d m hi : Int) : Int := if okF n d then (if inB m 1 hi then 0 else 2) else 1

theorem askC_zero {n d m hi : Int} (h : askC n d m hi = 0) : okF n d = true ∧ 1 ≤ m ∧ m ≤ hi := by
  unfold askC at h
  split at h
  · rename_i h1
    split at h
    · rename_i h2
      have := inB_iff.1 h2
      exact ⟨h1, this.1, this.2⟩
    · simp at h
  · simp at h

end Go.Proofs.Ytgmofofokhlhnaa
