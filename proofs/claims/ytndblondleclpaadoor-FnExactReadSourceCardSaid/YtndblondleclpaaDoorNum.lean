/- The numeric leaves: bounds, absolute values, greatest common divisors, floors, comparisons. Each theorem names its conditions. -/
import Derived.Test.YtndblondleclpaaDoorBase
namespace Go.Proofs.YtndblondleclpaaDoor
open Go.RowKit
set_option linter.unusedVariables false
set_option linter.unusedSimpArgs false

/-- low ≤ n ≤ high, as a Bool of its own. -/
def inB (n lo hi : Int) : Bool := decide (lo ≤ n) && decide (n ≤ hi)
theorem inB_iff {n lo hi : Int} : inB n lo hi = true ↔ lo ≤ n ∧ n ≤ hi := by simp [inB]
theorem inB_no {n lo hi : Int} (h : ¬ (lo ≤ n ∧ n ≤ hi)) : inB n lo hi = false := by
  cases e : inB n lo hi
  · rfl
  · exact absurd (inB_iff.1 e) h

theorem in_any (n lo hi : Int) (w : World) : Calls Tryd.prog 26 #[.int .i64 n, .int .i64 lo, .int .i64 hi] w fun e w' => e = .returned (.bool (inB n lo hi)) ∧ w = w' := by
  by_cases h1 : lo ≤ n
  · by_cases h2 : n ≤ hi
    · go_enter Tryd.func26, Tryd.ntmps26
      go_wp2
      go_ret
      exact ⟨ret_bool (by simp [inB, h1, h2]), rfl⟩
    · go_enter Tryd.func26, Tryd.ntmps26
      go_wp2
      go_ret
      exact ⟨ret_bool (inB_no (by omega)).symm, rfl⟩
  · go_enter Tryd.func26, Tryd.ntmps26
    go_wp2
    go_ret
    exact ⟨ret_bool (inB_no (by omega)).symm, rfl⟩

theorem within_any (n lo hi : Int) (w : World) : Calls Tryd.prog 29 #[.int .i64 n, .int .i64 lo, .int .i64 hi] w fun e w' => e = .returned (.bool (inB n lo hi)) ∧ w = w' := by
  by_cases h1 : lo ≤ n
  · by_cases h2 : n ≤ hi
    · go_enter Tryd.func29, Tryd.ntmps29
      go_wp2
      go_ret
      exact ⟨ret_bool (by simp [inB, h1, h2]), rfl⟩
    · go_enter Tryd.func29, Tryd.ntmps29
      go_wp2
      go_ret
      exact ⟨ret_bool (inB_no (by omega)).symm, rfl⟩
  · go_enter Tryd.func29, Tryd.ntmps29
    go_wp2
    go_ret
    exact ⟨ret_bool (inB_no (by omega)).symm, rfl⟩

/-- The absolute value. -/
def ab (n : Int) : Int := n.natAbs
theorem ab_nonneg (n : Int) : 0 ≤ ab n := by unfold ab; omega
theorem ab_pos {n : Int} (h : 0 ≤ n) : ab n = n := by unfold ab; omega
theorem ab_neg {n : Int} (h : n ≤ 0) : ab n = -n := by unfold ab; omega
theorem ab_le {n m : Int} (h : -m ≤ n ∧ n ≤ m) : ab n ≤ m := by unfold ab; omega

/-- A world that has drawn some answers more. -/
def Drawn (w w' : World) : Prop := ∃ n, w' = w.drewN n
theorem Drawn.refl (w : World) : Drawn w w := ⟨0, rfl⟩
theorem Drawn.below {w w' : World} (h : Drawn w w') (B : Nat) : Below B w w' := by
  obtain ⟨n, rfl⟩ := h
  exact ⟨rfl, rfl, rfl, Nat.le_refl _, fun _ _ => rfl⟩

theorem Drawn.more {w w' : World} (h : Drawn w w') (n : Nat) : Drawn w (w'.drewN n) := by
  obtain ⟨m, rfl⟩ := h
  exact ⟨m + n, World.drewN_drewN _ _ _⟩

/-- The greatest common divisor, as an integer. -/
def gcdI (a b : Int) : Int := (Int.gcd a b : Nat)
theorem gcdI_zero (a : Int) (h : 0 ≤ a) : gcdI a 0 = a := by simp [gcdI]; omega
theorem gcdI_step (p q : Int) (hp : 0 ≤ p) (hq : 0 < q) : gcdI q (p % q) = gcdI p q := by
  obtain ⟨a, rfl⟩ := Int.eq_ofNat_of_zero_le hp
  obtain ⟨b, rfl⟩ := Int.eq_ofNat_of_zero_le (Int.le_of_lt hq)
  have e : ((a : Int) % (b : Int)) = ((a % b : Nat) : Int) := by omega
  rw [e]
  simp only [gcdI, Int.gcd, Int.natAbs_natCast]
  rw [Nat.gcd_comm a b, Nat.gcd_rec b a, Nat.gcd_comm]
theorem gcdI_ab (a b : Int) : gcdI (ab a) (ab b) = gcdI a b := by simp [gcdI, ab, Int.gcd]

/-- The quotient of a negative number, cut towards nought, and its floor. -/
theorem neg_quo (a b : Int) (ha : a < 0) (hb : 0 < b) : (a.tmod b = 0 → a.tdiv b = a / b) ∧ (a.tmod b ≠ 0 → a.tdiv b - 1 = a / b) ∧ a.tmod b ≤ 0 ∧ a ≤ a.tdiv b ∧ a.tdiv b ≤ 0 := by
  have e := Int.mul_tdiv_add_tmod a b
  have e1 : a.tmod b = -((-a).tmod b) := by rw [Int.neg_tmod]; omega
  have e2 : a.tdiv b = -((-a).tdiv b) := by rw [Int.neg_tdiv]; omega
  have m1 := Int.tmod_nonneg b (a := -a) (by omega)
  have m2 := Int.tmod_lt_of_pos (-a) hb
  have d1 := Int.tdiv_nonneg (a := -a) (b := b) (by omega) (by omega)
  have d2 : (-a).tdiv b ≤ -a := by
    rw [Int.tdiv_eq_ediv_of_nonneg (by omega)]
    exact Int.ediv_le_self _ (by omega)
  refine ⟨fun h => ?_, fun h => ?_, by omega, by omega, by omega⟩
  · exact ((Int.ediv_emod_unique (a := a) (b := b) (r := 0) (q := a.tdiv b) hb).2 ⟨by omega, by omega, by omega⟩).1.symm
  · refine ((Int.ediv_emod_unique (a := a) (b := b) (r := a.tmod b + b) (q := a.tdiv b - 1) hb).2 ⟨?_, by omega, by omega⟩).1.symm
    rw [Int.mul_sub]
    omega

/-- A plain fraction. -/
def okF (n d : Int) : Bool := inB d 1 1000000000 && inB n (-1000000000) 1000000000 && (gcdI n d == 1)
theorem okF_iff {n d : Int} : okF n d = true ↔ (1 ≤ d ∧ d ≤ 1000000000) ∧ (-1000000000 ≤ n ∧ n ≤ 1000000000) ∧ gcdI n d = 1 := by
  simp [okF, inB_iff, and_assoc]

end Go.Proofs.YtndblondleclpaaDoor
