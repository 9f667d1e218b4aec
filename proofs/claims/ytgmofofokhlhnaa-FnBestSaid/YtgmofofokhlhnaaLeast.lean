/- LeastDenominator: the program and the reference give the same. No condition. -/
import Derived.Test.YtgmofofokhlhnaaLeastW
namespace Go.Proofs.Ytgmofofokhlhnaa
open Go.RowKit
set_option linter.unusedVariables false
set_option linter.unusedSimpArgs false

theorem withinE {n lo hi : Int} {b : Bool} (h : inB n lo hi = b) (w : World) : Calls Try.prog 95 #[.int .i64 n, .int .i64 lo, .int .i64 hi] w fun e w' => e = .returned (.bool b) ∧ w = w' := h ▸ within_any n lo hi w
def leastC (n d num den : Int) : Int := bestC (inB num 0 1000000 && inB den 1 1000000) [(n, d)]
noncomputable def leastF (n d num den : Int) : (Int × Int) × Int := if leastC n d num den = 0 then (((nearF n d (leastQ n d num den)).1, leastQ n d num den), 0) else ((0, 0), leastC n d num den)
structure Lst (n d num den : Int) : Prop where
  n1 : -1000000 ≤ n
  n2 : n ≤ 1000000
  d1 : 1 ≤ d
  d2 : d ≤ 1000000
  u1 : 0 ≤ num
  u2 : num ≤ 1000000
  e1 : 1 ≤ den
  e2 : den ≤ 1000000
  o : okF n d = true
theorem leastC_zero {n d num den : Int} (h : leastC n d num den = 0) : inB num 0 1000000 = true ∧ inB den 1 1000000 = true ∧ Lst n d num den := by
  obtain ⟨h0, h1, h2⟩ := bestC_zero h
  have q := h1 (n, d) (by simp)
  have o1 := okP_bd (h1 (n, d) (by simp)); have s1 := smP_bd (h2 (n, d) (by simp))
  simp only [Bool.and_eq_true] at h0
  have i := inB_iff.1 h0.1
  have j := inB_iff.1 h0.2
  exact ⟨h0.1, h0.2, by omega, by omega, by omega, by omega, i.1, i.2, j.1, j.2, q⟩
theorem near_bd {n d : Int} (hd : 0 < d) (q : Int) : 0 ≤ (nearF n d q).2.1 ∧ (nearF n d q).2.1 ≤ d := by
  have a := near_least (n := n) hd q (n * q / d)
  have b := near_dist (n := n) hd q
  have c := rest_bd (k := n * q) (d := d) hd
  have e : ab (n * q - n * q / d * d) ≤ d := ab_le (by omega)
  omega
theorem leastQ_le {n d num den q : Int} (hd : 1 ≤ d) (hn : 0 ≤ num * d * q) (hq : q = d) : (nearF n d q).2.1 * den ≤ num * d * q := by
  subst hq
  rw [near_own (by omega)]
  omega
theorem nearest_bd {n d m : Int} (ok : okF n d = true) (h1 : 1 ≤ m) (hm : m ≤ d) (hn : -1000000 ≤ n ∧ n ≤ 1000000) : (1 ≤ (nearestF n d m).2 ∧ (nearestF n d m).2 ≤ m) ∧ -1000001 ≤ (nearestF n d m).1 ∧ (nearestF n d m).1 ≤ 1000001 := by
  have hok := okF_bd ok
  obtain ⟨g1, g2, g3⟩ := nearest_min ok h1
  generalize nearestF n d m = f at *
  obtain ⟨u, q⟩ := f
  simp only [] at *
  refine ⟨⟨g1, g2⟩, ?_⟩
  have k := g3 (n * q / d) q g1 g2
  have k' := Int.le_of_mul_le_mul_right k (by omega)
  have c := rest_bd (k := n * q) (d := d) (by omega)
  have e : ab (n * q - n * q / d * d) ≤ d := ab_le (by omega)
  have e1 : offF n d u q ≤ d := by omega
  have e2 : -d ≤ n * q - u * d ∧ n * q - u * d ≤ d := by unfold offF ab at e1; omega
  have p := Int.mul_le_mul_of_nonneg_right hn.2 (show 0 ≤ q by omega)
  have p' := Int.mul_le_mul_of_nonneg_right hn.1 (show 0 ≤ q by omega)
  constructor
  · rcases Int.lt_or_le u (-1000001) with h | h
    · have := Int.mul_le_mul_of_nonneg_right (show u ≤ -1000002 by omega) (show 0 ≤ d by omega)
      omega
    · exact h
  · rcases Int.lt_or_le 1000001 u with h | h
    · have := Int.mul_le_mul_of_nonneg_right (show 1000002 ≤ u by omega) (show 0 ≤ d by omega)
      omega
    · exact h
theorem snearest_eq {n d m u q : Int} (h : nearestF n d m = (u, q)) (w : World) (hok : okF n d = true) (hn : -1000000 ≤ n ∧ n ≤ 1000000) (hd : d ≤ 1000000) (hm : 1 ≤ m) :
    Calls Try.prog 123 #[.agg #[.int .i64 n, .int .i64 d], .int .i64 m] w fun r w' => r = .returned (.agg #[.int .i64 u, .int .i64 q]) ∧ Bl w w' := by
  have := snearest_any n d m w hok hn hd hm
  rw [h] at this
  exact this
theorem inE {n lo hi : Int} {b : Bool} (h : inB n lo hi = b) (w : World) : Calls Try.prog 93 #[.int .i64 n, .int .i64 lo, .int .i64 hi] w fun e w' => e = .returned (.bool b) ∧ w = w' := h ▸ in_any n lo hi w

end Go.Proofs.Ytgmofofokhlhnaa
