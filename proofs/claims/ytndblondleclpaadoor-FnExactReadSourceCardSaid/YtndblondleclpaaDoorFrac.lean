/- Fractions in lowest terms: making them, comparing them. Each theorem names its conditions. -/
import Derived.Test.YtndblondleclpaaDoorOk
namespace Go.Proofs.YtndblondleclpaaDoor
open Go.RowKit
set_option linter.unusedVariables false
set_option linter.unusedSimpArgs false

theorem gcdI_pos (a b : Int) (h : b ≠ 0) : 0 < gcdI a b := by
  unfold gcdI
  have : Int.gcd a b ≠ 0 := by rw [Ne, Int.gcd_eq_zero_iff]; exact fun q => h q.2
  omega
theorem gcdI_dvd_left (a b : Int) : gcdI a b ∣ a := Int.gcd_dvd_left a b
theorem gcdI_dvd_right (a b : Int) : gcdI a b ∣ b := Int.gcd_dvd_right a b
theorem gcdI_neg (a b : Int) : gcdI (-a) (-b) = gcdI a b := by simp [gcdI]
theorem gcdI_le (a b : Int) (h : 0 < b) : gcdI a b ≤ b := Int.le_of_dvd h (gcdI_dvd_right a b)
theorem quo_exact (a g : Int) (hg : 0 < g) (h : g ∣ a) : a.tdiv g = a / g := by
  rw [Int.tdiv_eq_ediv_of_dvd h]
theorem ediv_bd (a g m : Int) (hg : 0 < g) (h : -m ≤ a ∧ a ≤ m) (hm : 0 ≤ m) : -m ≤ a / g ∧ a / g ≤ m := by
  constructor
  · rw [Int.le_ediv_iff_mul_le hg]
    have : m * 1 ≤ m * g := Int.mul_le_mul_of_nonneg_left (by omega) hm
    have e : -m * g = -(m * g) := Int.neg_mul _ _
    omega
  · exact Int.le_trans (Int.ediv_le_ediv hg h.2) (Int.ediv_le_self _ hm)

/-- The fraction in lowest terms; den is positive. -/
def lowF (num den : Int) : Int × Int := (num / gcdI num den, den / gcdI num den)
/-- The plain fraction of two numbers and a code; den is not 0. -/
def fullF (num den : Int) : Int × Int × Int :=
  let x := if den < 0 then lowF (-num) (-den) else lowF num den
  if okF x.1 x.2 then (x.1, x.2, 0) else (0, 0, 5)
theorem fullF_eq (num den : Int) (n d : Int) (h : (if den < 0 then lowF (-num) (-den) else lowF num den) = (n, d)) : fullF num den = if okF n d then (n, d, 0) else (0, 0, 5) := by
  unfold fullF; rw [h]

theorem lowF_neg (num den : Int) : lowF (-num) (-den) = (-num / gcdI num den, -den / gcdI num den) := by simp [lowF, gcdI_neg]

end Go.Proofs.YtndblondleclpaaDoor
