/- Both neighbours of a fraction with bounded denominators, as the program finds them. Each theorem names its conditions. -/
import Derived.Test.YtgmofofokhlhnaaSidesM
import Derived.Test.YtgmofofokhlhnaaCmp
namespace Go.Proofs.Ytgmofofokhlhnaa
open Go.RowKit
set_option linter.unusedVariables false
set_option linter.unusedSimpArgs false

/-- Two fractions handed back. -/
theorem ret_ff {r : (Int × Int) × (Int × Int)} {a b c d : Int} (h : r = ((a, b), (c, d))) : Ending.returned (.tuple #[.agg #[.int .i64 a, .int .i64 b], .agg #[.int .i64 c, .int .i64 d]]) = .returned (.tuple #[.agg #[.int .i64 r.1.1, .int .i64 r.1.2], .agg #[.int .i64 r.2.1, .int .i64 r.2.2]]) := by subst h; rfl
theorem fdivB_any (a b : Int) (w : World) (h1 : -9223372036854775808 < a) (h2 : a ≤ 9223372036854775807) (hb : 0 < b) (hb2 : b ≤ 9223372036854775807) :
    Calls Try.prog 172 #[.int .i64 a, .int .i64 b] w fun e w' => e = .returned (.int .i64 (a / b)) ∧ Bl w w' :=
  (fdiv_any a b w h1 h2 hb hb2).mono (by rintro e w' ⟨h, rfl⟩; exact ⟨h, bl_refl _⟩)
theorem floorB_any (a b : Int) (w : World) (h1 : -9223372036854775808 < a) (h2 : a ≤ 9223372036854775807) (hb : 0 < b) (hb2 : b ≤ 9223372036854775807) :
    Calls Try.prog 145 #[.int .i64 a, .int .i64 b] w fun e w' => e = .returned (.int .i64 (a / b)) ∧ Bl w w' :=
  (floor_any a b w h1 h2 hb hb2).mono (by rintro e w' ⟨h, rfl⟩; exact ⟨h, bl_refl _⟩)
theorem soffE {n d m e P : Int} (h : offF n d m e = P) (w : World) (h1 : -4000000000000000000 ≤ n * e) (h2 : n * e ≤ 4000000000000000000) (h3 : -4000000000000000000 ≤ m * d) (h4 : m * d ≤ 4000000000000000000) :
    Calls Try.prog 157 #[.agg #[.int .i64 n, .int .i64 d], .agg #[.int .i64 m, .int .i64 e]] w fun r w' => r = .returned (.int .i64 P) ∧ Bl w w' := h ▸ soff_any n d m e w h1 h2 h3 h4

set_option maxHeartbeats 1600000 in
set_option maxRecDepth 100000 in
theorem sides_own (N D m : Int) (w : World) (hm : D ≤ m) :
    Calls Try.prog 156 #[.agg #[.int .i64 N, .int .i64 D], .int .i64 m] w fun r w' => r = .returned (.tuple #[.agg #[.int .i64 (sidesF N D m).1.1, .int .i64 (sidesF N D m).1.2], .agg #[.int .i64 (sidesF N D m).2.1, .int .i64 (sidesF N D m).2.2]]) ∧ Bl w w' := by
  have HR := Lib.hid (sidesF_own (N := N) hm)
  go_enter Try.func156, Try.ntmps156
  go_wp2_with fail
  go_region
  all_goals go_wp2
  all_goals refine bodyPost_ret (v := .tuple #[.agg #[.int .i64 N, .int .i64 D], .agg #[.int .i64 N, .int .i64 D]]) (by simp only [results, Try.results156]; go_simp) rfl ?_
  all_goals refine ⟨ret_ff HR.out, ?_⟩
  all_goals repeat first | exact (bl_alloc (bl_alloc (bl_alloc (bl_refl w) _) _) _) | refine bl_drew ?_ | refine bl_set ?_ (by first | exact Nat.le_refl _ | (simp; done) | (simp; omega)) _
/-- What stands in the loop's three blocks. -/
theorem SP.bds {N D m a b c d : Int} (hN : -1000000000 ≤ N ∧ N ≤ 1000000000) (hD : D ≤ 1000000000) (hm : m < D) (x : SP N D m a b c d) :
    (-1000000000000000000 ≤ N * b ∧ N * b ≤ 1000000000000000000) ∧ (-1000000000000000000 ≤ N * d ∧ N * d ≤ 1000000000000000000) ∧ (-1000000001000000000 ≤ a * D ∧ a * D ≤ 1000000001000000000) ∧ (-1000000001000000000 ≤ c * D ∧ c * D ≤ 1000000001000000000) ∧ (-1000000001 ≤ a ∧ a ≤ 1000000001) ∧ (-1000000001 ≤ c ∧ c ≤ 1000000001) := by
  have p1 := mul_bd hN.1 hN.2 (show 0 ≤ b by have := x.hb; omega) (show b ≤ 1000000000 by have := x.bm; omega)
  have p2 := mul_bd hN.1 hN.2 (show 0 ≤ d by have := x.hd; omega) (show d ≤ 1000000000 by have := x.dm; omega)
  have hD0 : 0 < D := by have := x.hb; have := x.bm; omega
  have e1 := x.lo; have e2 := x.lo'; have e3 := x.hi; have e4 := x.hi'
  have q1 : -1000000001 ≤ a ∧ a ≤ 1000000001 := by
    have l1 : N * b ≤ 1000000000 * D := by
      have := Int.mul_le_mul_of_nonneg_right hN.2 (show 0 ≤ b by have := x.hb; omega)
      have := x.bm; omega
    have l2 : -(1000000000 * D) ≤ N * b := by
      have := Int.mul_le_mul_of_nonneg_right hN.1 (show 0 ≤ b by have := x.hb; omega)
      have := x.bm; omega
    constructor
    · rcases Int.lt_or_le a (-1000000001) with h | h
      · have := Int.mul_le_mul_of_nonneg_right (show a ≤ -1000000002 by omega) (show 0 ≤ D by omega); omega
      · exact h
    · rcases Int.lt_or_le 1000000001 a with h | h
      · have := Int.mul_le_mul_of_nonneg_right (show (1000000002 : Int) ≤ a by omega) (show 0 ≤ D by omega); omega
      · exact h
  have q2 : -1000000001 ≤ c ∧ c ≤ 1000000001 := by
    have l1 : N * d ≤ 1000000000 * D := by
      have := Int.mul_le_mul_of_nonneg_right hN.2 (show 0 ≤ d by have := x.hd; omega)
      have := x.dm; omega
    have l2 : -(1000000000 * D) ≤ N * d := by
      have := Int.mul_le_mul_of_nonneg_right hN.1 (show 0 ≤ d by have := x.hd; omega)
      have := x.dm; omega
    constructor
    · rcases Int.lt_or_le c (-1000000001) with h | h
      · have := Int.mul_le_mul_of_nonneg_right (show c ≤ -1000000002 by omega) (show 0 ≤ D by omega); omega
      · exact h
    · rcases Int.lt_or_le 1000000001 c with h | h
      · have := Int.mul_le_mul_of_nonneg_right (show (1000000002 : Int) ≤ c by omega) (show 0 ≤ D by omega); omega
      · exact h
  refine ⟨?_, ?_, ?_, ?_, q1, q2⟩ <;> omega

/-- How often the lower side may go on towards the higher one: quotient. -/
theorem tdiv_le {P Q : Int} (hP : 0 ≤ P) (hQ : 0 < Q) : 0 ≤ P.tdiv Q ∧ P.tdiv Q * Q ≤ P ∧ P < (P.tdiv Q + 1) * Q ∧ P.tdiv Q ≤ P := by
  rw [Int.tdiv_eq_ediv_of_nonneg hP]
  have e := Int.mul_ediv_add_emod P Q
  have r1 := Int.emod_nonneg P (show Q ≠ 0 by omega)
  have r2 := Int.emod_lt_of_pos P hQ
  have c1 : P / Q * Q = Q * (P / Q) := Int.mul_comm _ _
  have c2 : (P / Q + 1) * Q = Q * (P / Q) + Q := by grind
  have n := Int.ediv_nonneg hP (show 0 ≤ Q by omega)
  refine ⟨n, by omega, by omega, ?_⟩
  have := le_mul_pos (b := P / Q) (x := Q) n (by omega)
  omega
/-- The number of steps k: the least of the two quotients; what is known of it. -/
theorem steps_ok {P Q m b d k : Int} (hP : 0 ≤ P) (hQ : 0 < Q) (hb : b ≤ m) (hd : 0 < d) (hk : k = min (P.tdiv Q) ((m - b).tdiv d)) : 0 ≤ k ∧ k * Q ≤ P ∧ b + k * d ≤ m ∧ k ≤ m - b ∧ (k = 0 → P < Q ∨ m < b + d) := by
  have x := tdiv_le hP hQ
  have y := tdiv_le (P := m - b) (Q := d) (by omega) hd
  have l1 : k ≤ P.tdiv Q := by omega
  have l2 : k ≤ (m - b).tdiv d := by omega
  have := Int.mul_le_mul_of_nonneg_right l1 (show 0 ≤ Q by omega)
  have := Int.mul_le_mul_of_nonneg_right l2 (show 0 ≤ d by omega)
  refine ⟨by omega, by omega, by omega, by omega, fun h0 => ?_⟩
  subst h0
  rcases Int.le_total (P.tdiv Q) ((m - b).tdiv d) with q | q
  · left
    have e : P.tdiv Q = 0 := by omega
    rw [e] at x; omega
  · right
    have e : (m - b).tdiv d = 0 := by omega
    rw [e] at y; omega

end Go.Proofs.Ytgmofofokhlhnaa
