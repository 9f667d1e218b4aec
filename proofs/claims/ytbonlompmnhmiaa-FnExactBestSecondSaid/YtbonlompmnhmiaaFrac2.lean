/- The program's fraction in lowest terms. Each theorem names its conditions. -/
import Derived.Test.YtbonlompmnhmiaaFrac
namespace Go.Proofs.Ytbonlompmnhmiaa
open Go.RowKit
set_option linter.unusedVariables false
set_option linter.unusedSimpArgs false

theorem gcdB_any (a b : Int) (w : World) (ha : -9223372036854775808 < a) (hb : -9223372036854775808 < b) (hb' : b ≤ 9223372036854775807) :
    Calls Try.prog 88 #[.int .i64 a, .int .i64 b] w fun e w' => e = .returned (.int .i64 (gcdI a b)) ∧ Bl w w' :=
  (gcd_any a b w ha hb hb').mono fun _ _ h => ⟨h.1, h.2.below _⟩

theorem quo_neg (a g : Int) (hg : 0 < g) (h : g ∣ a) : a.tdiv (-g) = -a / g := by
  rw [Int.tdiv_neg, ← Int.neg_tdiv]
  exact quo_exact _ _ hg (Int.dvd_neg.2 h)

end Go.Proofs.Ytbonlompmnhmiaa
