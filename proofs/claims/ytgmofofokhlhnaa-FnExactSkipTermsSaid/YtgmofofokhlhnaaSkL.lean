/- SkipTerms: its results are short. No condition. -/
import Derived.Test.YtgmofofokhlhnaaSkipM
namespace Go.Proofs.Ytgmofofokhlhnaa
open Go.RowKit
set_option linter.unusedVariables false
set_option linter.unusedSimpArgs false

theorem skipF_len (s : Src) (c : Int) : (skipF s c).1.H.length ≤ 1048576 ∧ (skipF s c).1.P.length ≤ 1048576 ∧ (skipF s c).1.G.length ≤ 1048576 := by
  unfold skipF
  split
  · split
    · split
      · split
        · rename_i h
          have o := okSrc_iff.1 h
          have h1 := o.h30; have h2 := o.p30; have h3 := o.gp
          show (outF s c.toNat).H.length ≤ 1048576 ∧ (outF s c.toNat).P.length ≤ 1048576 ∧ (outF s c.toNat).G.length ≤ 1048576
          omega
        · simp
      · simp
    · simp
  · simp

end Go.Proofs.Ytgmofofokhlhnaa
