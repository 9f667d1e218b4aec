/- Some of the texts of this claim, joined in one file: SidesM, Cmp, Sides, Min, Side18. -/
import Derived.Test.YtndblondleclpaaGreatDoorFrac
import Derived.Test.YtndblondleclpaaGreatDoorOff
/- Plain numbers, no program: the neighbours on both sides of a fraction with bounded denominators are unique, and each way of coming nearer keeps them neighbours. -/
namespace Go.Proofs.YtndblondleclpaaGreatDoor
set_option linter.unusedVariables false
set_option linter.unusedSimpArgs false

/-- a/b < N/D < c/d are neighbours with denominators up to m. -/
structure SP (N D m a b c d : Int) : Prop where
  hb : 1 ≤ b
  hd : 1 ≤ d
  bm : b ≤ m
  dm : d ≤ m
  det : c * b - a * d = 1
  lo : 0 < N * b - a * D
  lo' : N * b - a * D ≤ D
  hi : 0 < c * D - N * d
  hi' : c * D - N * d ≤ D

theorem pos_of_mul {x y : Int} (hx : 0 < x) (h : 0 < x * y) : 0 < y := by
  rcases Int.lt_trichotomy 0 y with q | q | q
  · exact q
  · subst q; simp at h
  · have := Int.mul_neg_of_pos_of_neg hx q; omega
theorem le_mul_pos {b x : Int} (hb : 0 ≤ b) (hx : 1 ≤ x) : b ≤ b * x := by
  have := Int.mul_le_mul_of_nonneg_left hx hb; omega

theorem between {a b c d a' b' N D : Int} (hD : 0 < D) (hd : 0 < d) (hb : 0 < b') (h1 : a' * D < N * b') (h2 : N * d < c * D) : 0 < c * b' - a' * d := by
  have e1 := Int.mul_lt_mul_of_pos_right h1 hd
  have e2 := Int.mul_lt_mul_of_pos_right h2 hb
  have : 0 < D * (c * b' - a' * d) := by grind
  exact pos_of_mul hD this

theorem SP.low_le {N D m a b c d a' b' c' d' : Int} (hD : 0 < D) (x : SP N D m a b c d) (y : SP N D m a' b' c' d') (hx : m < b + d) : a' * b - a * b' ≤ 0 := by
  rcases Int.lt_or_le 0 (a' * b - a * b') with h | h
  · have e : b' = b * (c * b' - a' * d) + d * (a' * b - a * b') := by have := x.det; grind
    have h1 := between (N := N) (a := a) (b := b) (a' := a') (b' := b') (c := c) (d := d) hD (by have := x.hd; omega) (by have := y.hb; omega) (by have := y.lo; omega) (by have := x.hi; omega)
    have g1 := le_mul_pos (b := b) (x := c * b' - a' * d) (by have := x.hb; omega) (by omega)
    have g2 := le_mul_pos (b := d) (x := a' * b - a * b') (by have := x.hd; omega) (by omega)
    have := y.bm
    omega
  · exact h
theorem SP.high_ge {N D m a b c d a' b' c' d' : Int} (hD : 0 < D) (x : SP N D m a b c d) (y : SP N D m a' b' c' d') (hx : m < b + d) : c * d' - c' * d ≤ 0 := by
  rcases Int.lt_or_le 0 (c * d' - c' * d) with h | h
  · have e : d' = d * (c' * b - a * d') + b * (c * d' - c' * d) := by have := x.det; grind
    have h1 := between (N := N) (a := a') (b := b') (a' := a) (b' := b) (c := c') (d := d') hD (by have := y.hd; omega) (by have := x.hb; omega) (by have := x.lo; omega) (by have := y.hi; omega)
    have g1 := le_mul_pos (b := d) (x := c' * b - a * d') (by have := x.hd; omega) (by omega)
    have g2 := le_mul_pos (b := b) (x := c * d' - c' * d) (by have := x.hb; omega) (by omega)
    have := y.dm
    omega
  · exact h

theorem eq_of_cross {a b c d a' b' c' d' : Int} (hb : 1 ≤ b) (hb' : 1 ≤ b') (e : a' * b = a * b') (h1 : c * b - a * d = 1) (h2 : c' * b' - a' * d' = 1) : a = a' ∧ b = b' := by
  have d1 : b ∣ b' := ⟨c * b' - d * a', by grind⟩
  have d2 : b' ∣ b := ⟨c' * b - d' * a, by grind⟩
  have l1 := Int.le_of_dvd (by omega) d1
  have l2 := Int.le_of_dvd (by omega) d2
  have eb : b = b' := by omega
  subst eb
  have : a' = a := Int.eq_of_mul_eq_mul_right (by omega) e
  exact ⟨this.symm, rfl⟩

/-- There is only one such pair that no further fraction of denominator up to m comes between. -/
theorem SP.unique {N D m a b c d a' b' c' d' : Int} (hD : 0 < D) (x : SP N D m a b c d) (y : SP N D m a' b' c' d') (hx : m < b + d) (hy : m < b' + d') :
    a = a' ∧ b = b' ∧ c = c' ∧ d = d' := by
  have l1 := SP.low_le hD x y hx
  have l2 := SP.low_le hD y x hy
  have h1 := SP.high_ge hD x y hx
  have h2 := SP.high_ge hD y x hy
  have e1 := eq_of_cross x.hb y.hb (by omega) x.det y.det
  have e2 := eq_of_cross (a := c) (b := d) (c := -a) (d := -b) (a' := c') (b' := d') (c' := -a') (d' := -b') x.hd y.hd (by omega) (by have := x.det; grind) (by have := y.det; grind)
  exact ⟨e1.1, e1.2, e2.1, e2.2⟩

/-- Nothing with a denominator below D is the fraction itself. -/
theorem not_own {N D a b : Int} (hg : gcdI N D = 1) (hb : 1 ≤ b) (hbD : b < D) : N * b - a * D ≠ 0 := by
  intro h
  have hdv : D ∣ N * b := ⟨a, by grind⟩
  have hco : Int.gcd D N = 1 := by rw [Int.gcd_comm]; unfold gcdI at hg; omega
  have : D ∣ b := by
    have q := Int.dvd_gcd_mul_iff_dvd_mul.2 hdv
    rw [hco] at q
    simpa using q
  have := Int.le_of_dvd (by omega) this
  omega

/-- k steps of the lower side towards the higher one. -/
theorem SP.stepLow {N D m a b c d k : Int} (x : SP N D m a b c d) (hg : gcdI N D = 1) (hm : m < D) (hk : 0 ≤ k) (h1 : k * (c * D - N * d) ≤ N * b - a * D) (h2 : b + k * d ≤ m) : SP N D m (a + k * c) (b + k * d) c d := by
  have hkd := Int.mul_nonneg hk (show 0 ≤ d by have := x.hd; omega)
  have hkh := Int.mul_nonneg hk (show 0 ≤ c * D - N * d by have := x.hi; omega)
  have e : N * (b + k * d) - (a + k * c) * D = (N * b - a * D) - k * (c * D - N * d) := by grind
  have hne := not_own (N := N) (D := D) (a := a + k * c) (b := b + k * d) hg (by have := x.hb; omega) (by omega)
  exact ⟨by have := x.hb; omega, x.hd, h2, x.dm, by have := x.det; grind, by omega, by have := x.lo'; omega, x.hi, x.hi'⟩
theorem SP.stepHigh {N D m a b c d k : Int} (x : SP N D m a b c d) (hg : gcdI N D = 1) (hm : m < D) (hk : 0 ≤ k) (h1 : k * (N * b - a * D) ≤ c * D - N * d) (h2 : d + k * b ≤ m) : SP N D m a b (c + k * a) (d + k * b) := by
  have hkb := Int.mul_nonneg hk (show 0 ≤ b by have := x.hb; omega)
  have hkh := Int.mul_nonneg hk (show 0 ≤ N * b - a * D by have := x.lo; omega)
  have e : (c + k * a) * D - N * (d + k * b) = (c * D - N * d) - k * (N * b - a * D) := by grind
  have hne := not_own (N := N) (D := D) (a := c + k * a) (b := d + k * b) hg (by have := x.hd; omega) (by omega)
  exact ⟨x.hb, by have := x.hd; omega, x.bm, h2, by have := x.det; grind, x.lo, x.lo', by omega, by have := x.hi'; omega⟩

/-- The beginning: the floor and the number behind it. -/
theorem SP.start {N D m : Int} (hg : gcdI N D = 1) (hm : m < D) (h1 : 1 ≤ m) : SP N D m (N / D) 1 (N / D + 1) 1 := by
  have e := Int.mul_ediv_add_emod N D
  have r1 := Int.emod_nonneg N (show D ≠ 0 by omega)
  have r2 := Int.emod_lt_of_pos N (show 0 < D by omega)
  have hne := not_own (N := N) (D := D) (a := N / D) (b := 1) hg (by omega) (by omega)
  have c1 : N / D * D = D * (N / D) := Int.mul_comm _ _
  have c2 : (N / D + 1) * D = D * (N / D) + D := by grind
  refine ⟨by omega, by omega, by omega, by omega, by grind, ?_, ?_, ?_, ?_⟩ <;> omega

/-- Both sides: the fraction itself if its denominator is not greater than m. -/
noncomputable def sidesF (N D m : Int) : (Int × Int) × (Int × Int) :=
  if D ≤ m then ((N, D), (N, D))
  else @dite _ (∃ x : (Int × Int) × (Int × Int), SP N D m x.1.1 x.1.2 x.2.1 x.2.2 ∧ m < x.1.2 + x.2.2) (Classical.propDecidable _) (fun h => Classical.choose h) (fun _ => ((0, 0), (0, 0)))
theorem sidesF_own {N D m : Int} (h : D ≤ m) : sidesF N D m = ((N, D), (N, D)) := by rw [sidesF, if_pos h]
theorem sidesF_eq {N D m a b c d : Int} (hD : 0 < D) (hm : ¬ D ≤ m) (x : SP N D m a b c d) (hx : m < b + d) : sidesF N D m = ((a, b), (c, d)) := by
  have hex : ∃ x : (Int × Int) × (Int × Int), SP N D m x.1.1 x.1.2 x.2.1 x.2.2 ∧ m < x.1.2 + x.2.2 := ⟨((a, b), (c, d)), x, hx⟩
  rw [sidesF, if_neg hm, dif_pos hex]
  obtain ⟨y, hy⟩ := Classical.choose_spec hex
  obtain ⟨e1, e2, e3, e4⟩ := SP.unique hD x y hx hy
  generalize Classical.choose hex = z at *
  obtain ⟨⟨z1, z2⟩, ⟨z3, z4⟩⟩ := z
  simp at e1 e2 e3 e4
  subst e1 e2 e3 e4
  rfl

end Go.Proofs.YtndblondleclpaaGreatDoor

/- The comparison of two errors. Each theorem names its conditions. -/
namespace Go.Proofs.YtndblondleclpaaGreatDoor
open Go.RowKit
set_option linter.unusedVariables false
set_option linter.unusedSimpArgs false

/-- The comparison of the errors of a / b and p / q for n / d. -/
def cmpErrF (n d a b p q : Int) : Int := cmpF (offF n d a b * q) (offF n d p q * b)
/-- Numbers so small that no product on the way is too great. -/
structure SmallP (n d a b p q : Int) : Prop where
  n1 : -2000000 ≤ n
  n2 : n ≤ 2000000
  d1 : 0 ≤ d
  d2 : d ≤ 1000000
  a1 : -2000000 ≤ a
  a2 : a ≤ 2000000
  b1 : 0 ≤ b
  b2 : b ≤ 1000000
  p1 : -2000000 ≤ p
  p2 : p ≤ 2000000
  q1 : 0 ≤ q
  q2 : q ≤ 1000000
theorem mul_bd {x y X Y : Int} (h1 : -X ≤ x) (h2 : x ≤ X) (h3 : 0 ≤ y) (h4 : y ≤ Y) : -(X * Y) ≤ x * y ∧ x * y ≤ X * Y := by
  have hX : 0 ≤ X := by omega
  have e1 := Int.mul_le_mul_of_nonneg_right h2 h3
  have e2 := Int.mul_le_mul_of_nonneg_right h1 h3
  have e3 := Int.mul_le_mul_of_nonneg_left h4 hX
  have e4 : -X * y = -(X * y) := Int.neg_mul _ _
  omega
theorem SmallP.prods {n d a b p q : Int} (h : SmallP n d a b p q) : (-2000000000000 ≤ n * b ∧ n * b ≤ 2000000000000) ∧ (-2000000000000 ≤ a * d ∧ a * d ≤ 2000000000000) ∧ (-2000000000000 ≤ n * q ∧ n * q ≤ 2000000000000) ∧ (-2000000000000 ≤ p * d ∧ p * d ≤ 2000000000000) ∧ True ∧ True ∧ True ∧ True :=
  ⟨mul_bd h.n1 h.n2 h.b1 h.b2, mul_bd h.a1 h.a2 h.d1 h.d2, mul_bd h.n1 h.n2 h.q1 h.q2, mul_bd h.p1 h.p2 h.d1 h.d2, trivial, trivial, trivial, trivial⟩
theorem SmallP.outs {n d a b p q : Int} (h : SmallP n d a b p q) : 0 ≤ offF n d a b * q ∧ offF n d a b * q ≤ 4000000000000000000 ∧ 0 ≤ offF n d p q * b ∧ offF n d p q * b ≤ 4000000000000000000 := by
  obtain ⟨u1, u2, u3, u4, _⟩ := h.prods
  have o1 : offF n d a b ≤ 4000000000000 := ab_le (by omega)
  have o2 : offF n d p q ≤ 4000000000000 := ab_le (by omega)
  have m1 := mul_bd (X := 4000000000000) (by have := offF_nonneg n d a b; omega) o1 h.q1 h.q2
  have m2 := mul_bd (X := 4000000000000) (by have := offF_nonneg n d p q; omega) o2 h.b1 h.b2
  exact ⟨Int.mul_nonneg (offF_nonneg _ _ _ _) h.q1, by omega, Int.mul_nonneg (offF_nonneg _ _ _ _) h.b1, by omega⟩
theorem cmpB_any (a b : Int) (w : World) : Calls Tryz.prog 156 #[.int .i64 a, .int .i64 b] w fun e w' => e = .returned (.int .i64 (cmpF a b)) ∧ Bl w w' :=
  (cmp_any a b w).mono fun _ _ h => ⟨h.1, by rw [← h.2]; exact bl_refl w⟩

end Go.Proofs.YtndblondleclpaaGreatDoor

/- Both neighbours of a fraction with bounded denominators, as the program finds them. Each theorem names its conditions. -/
namespace Go.Proofs.YtndblondleclpaaGreatDoor
open Go.RowKit
set_option linter.unusedVariables false
set_option linter.unusedSimpArgs false

/-- Two fractions handed back. -/
theorem ret_ff {r : (Int × Int) × (Int × Int)} {a b c d : Int} (h : r = ((a, b), (c, d))) : Ending.returned (.tuple #[.agg #[.int .i64 a, .int .i64 b], .agg #[.int .i64 c, .int .i64 d]]) = .returned (.tuple #[.agg #[.int .i64 r.1.1, .int .i64 r.1.2], .agg #[.int .i64 r.2.1, .int .i64 r.2.2]]) := by subst h; rfl
theorem fdivB_any (a b : Int) (w : World) (h1 : -9223372036854775808 < a) (h2 : a ≤ 9223372036854775807) (hb : 0 < b) (hb2 : b ≤ 9223372036854775807) :
    Calls Tryz.prog 125 #[.int .i64 a, .int .i64 b] w fun e w' => e = .returned (.int .i64 (a / b)) ∧ Bl w w' :=
  (fdiv_any a b w h1 h2 hb hb2).mono (by rintro e w' ⟨h, rfl⟩; exact ⟨h, bl_refl _⟩)
theorem floorB_any (a b : Int) (w : World) (h1 : -9223372036854775808 < a) (h2 : a ≤ 9223372036854775807) (hb : 0 < b) (hb2 : b ≤ 9223372036854775807) :
    Calls Tryz.prog 181 #[.int .i64 a, .int .i64 b] w fun e w' => e = .returned (.int .i64 (a / b)) ∧ Bl w w' :=
  (floor_any a b w h1 h2 hb hb2).mono (by rintro e w' ⟨h, rfl⟩; exact ⟨h, bl_refl _⟩)
/-- What stands in the loop's three blocks. -/
theorem SP.bds {N D m a b c d : Int} (hN : -1000000000 ≤ N ∧ N ≤ 1000000000) (hD : D ≤ 1000000000) (hm : m < D) (x : SP N D m a b c d) :
    (-1000000000000000000 ≤ N * b ∧ N * b ≤ 1000000000000000000) ∧ (-1000000000000000000 ≤ N * d ∧ N * d ≤ 1000000000000000000) ∧ (-1000000001000000000 ≤ a * D ∧ a * D ≤ 1000000001000000000) ∧ (-1000000001000000000 ≤ c * D ∧ c * D ≤ 1000000001000000000) ∧ (-1000000001 ≤ a ∧ a ≤ 1000000001) ∧ (-1000000001 ≤ c ∧ c ≤ 1000000001) := by
  have p1 := mul_bd hN.1 hN.2 (show 0 ≤ b by have := x.hb; omega) (show b ≤ 1000000000 by have := x.bm; omega)
  have p2 := mul_bd hN.1 hN.2 (show 0 ≤ d by have := x.hd; omega) (show d ≤ 1000000000 by have := x.dm; omega)
  have hD0 : 0 < D := by have := x.hb; have := x.bm; omega
  have e1 := x.lo; have e2 := x.lo'; have e3 := x.hi; have e4 := x.hi'
  have q1 : -1000000001 ≤ a ∧ a ≤ 1000000001 := by
    have l1 : N * b ≤ 1000000000 * D := by
      have := Int.mul_le_mul_of_nonneg_right hN.2 (show 0 ≤ b by have := x.hb; omega)
      have := x.bm; omega
    have l2 : -(1000000000 * D) ≤ N * b := by
      have := Int.mul_le_mul_of_nonneg_right hN.1 (show 0 ≤ b by have := x.hb; omega)
      have := x.bm; omega
    constructor
    · rcases Int.lt_or_le a (-1000000001) with h | h
      · have := Int.mul_le_mul_of_nonneg_right (show a ≤ -1000000002 by omega) (show 0 ≤ D by omega); omega
      · exact h
    · rcases Int.lt_or_le 1000000001 a with h | h
      · have := Int.mul_le_mul_of_nonneg_right (show (1000000002 : Int) ≤ a by omega) (show 0 ≤ D by omega); omega
      · exact h
  have q2 : -1000000001 ≤ c ∧ c ≤ 1000000001 := by
    have l1 : N * d ≤ 1000000000 * D := by
      have := Int.mul_le_mul_of_nonneg_right hN.2 (show 0 ≤ d by have := x.hd; omega)
      have := x.dm; omega
    have l2 : -(1000000000 * D) ≤ N * d := by
      have := Int.mul_le_mul_of_nonneg_right hN.1 (show 0 ≤ d by have := x.hd; omega)
      have := x.dm; omega
    constructor
    · rcases Int.lt_or_le c (-1000000001) with h | h
      · have := Int.mul_le_mul_of_nonneg_right (show c ≤ -1000000002 by omega) (show 0 ≤ D by omega); omega
      · exact h
    · rcases Int.lt_or_le 1000000001 c with h | h
      · have := Int.mul_le_mul_of_nonneg_right (show (1000000002 : Int) ≤ c by omega) (show 0 ≤ D by omega); omega
      · exact h
  refine ⟨?_, ?_, ?_, ?_, q1, q2⟩ <;> omega

/-- How often the lower side may go on towards the higher one: quotient. -/
theorem tdiv_le {P Q : Int} (hP : 0 ≤ P) (hQ : 0 < Q) : 0 ≤ P.tdiv Q ∧ P.tdiv Q * Q ≤ P ∧ P < (P.tdiv Q + 1) * Q ∧ P.tdiv Q ≤ P := by
  rw [Int.tdiv_eq_ediv_of_nonneg hP]
  have e := Int.mul_ediv_add_emod P Q
  have r1 := Int.emod_nonneg P (show Q ≠ 0 by omega)
  have r2 := Int.emod_lt_of_pos P hQ
  have c1 : P / Q * Q = Q * (P / Q) := Int.mul_comm _ _
  have c2 : (P / Q + 1) * Q = Q * (P / Q) + Q := by grind
  have n := Int.ediv_nonneg hP (show 0 ≤ Q by omega)
  refine ⟨n, by omega, by omega, ?_⟩
  have := le_mul_pos (b := P / Q) (x := Q) n (by omega)
  omega
/-- The number of steps k: the least of the two quotients; what is known of it. -/
theorem steps_ok {P Q m b d k : Int} (hP : 0 ≤ P) (hQ : 0 < Q) (hb : b ≤ m) (hd : 0 < d) (hk : k = min (P.tdiv Q) ((m - b).tdiv d)) : 0 ≤ k ∧ k * Q ≤ P ∧ b + k * d ≤ m ∧ k ≤ m - b ∧ (k = 0 → P < Q ∨ m < b + d) := by
  have x := tdiv_le hP hQ
  have y := tdiv_le (P := m - b) (Q := d) (by omega) hd
  have l1 : k ≤ P.tdiv Q := by omega
  have l2 : k ≤ (m - b).tdiv d := by omega
  have := Int.mul_le_mul_of_nonneg_right l1 (show 0 ≤ Q by omega)
  have := Int.mul_le_mul_of_nonneg_right l2 (show 0 ≤ d by omega)
  refine ⟨by omega, by omega, by omega, by omega, fun h0 => ?_⟩
  subst h0
  rcases Int.le_total (P.tdiv Q) ((m - b).tdiv d) with q | q
  · left
    have e : P.tdiv Q = 0 := by omega
    rw [e] at x; omega
  · right
    have e : (m - b).tdiv d = 0 := by omega
    rw [e] at y; omega

end Go.Proofs.YtndblondleclpaaGreatDoor

/- The lesser of two numbers. No condition. -/
namespace Go.Proofs.YtndblondleclpaaGreatDoor
open Go.RowKit
set_option linter.unusedVariables false
set_option linter.unusedSimpArgs false

/-- The lesser of two numbers. -/
theorem lmin_any {a b k : Int} (h : min a b = k) (w : World) : Calls Tryz.prog 127 #[.int .i64 a, .int .i64 b] w fun e w' => e = .returned (.int .i64 k) ∧ Bl w w' := by
  by_cases h1 : a < b
  · have H := Lib.hid (show a = k by omega)
    clear h
    go_enter Tryz.func127, Tryz.ntmps127
    go_wp2
    go_ret
    exact ⟨ret_int H.out, bl_refl _⟩
  · have H := Lib.hid (show b = k by omega)
    clear h
    go_enter Tryz.func127, Tryz.ntmps127
    go_wp2
    go_ret
    exact ⟨ret_int H.out, bl_refl _⟩

end Go.Proofs.YtndblondleclpaaGreatDoor

/- The reference's two sides of a fraction. Each theorem names its conditions. -/
namespace Go.Proofs.YtndblondleclpaaGreatDoor
open Go.RowKit
set_option linter.unusedVariables false
set_option linter.unusedSimpArgs false


set_option maxHeartbeats 800000 in
theorem sign_lt (n d m e : Int) (w : World) (h1 : -4000000000000000000 ≤ n * e) (h2 : n * e ≤ 4000000000000000000) (h3 : -4000000000000000000 ≤ m * d) (h4 : m * d ≤ 4000000000000000000) (h : n * e < m * d) :
    Calls Tryz.prog 159 #[.agg #[.int .i64 n, .int .i64 d], .agg #[.int .i64 m, .int .i64 e]] w fun r w' => r = .returned (.int .i64 (-1)) ∧ Bl w w' := by
  have k1 := (show n * e ≤ m * d by omega)
  have k2 := (show n * e < m * d by omega)
  clear h
  go_enter Tryz.func159, Tryz.ntmps159
  go_wp2
  go_ret
  exact ⟨rfl, bl_alloc (bl_alloc (bl_refl _) _) _⟩
set_option maxHeartbeats 800000 in
theorem less_lt (n d m e : Int) (w : World) (h1 : -4000000000000000000 ≤ n * e) (h2 : n * e ≤ 4000000000000000000) (h3 : -4000000000000000000 ≤ m * d) (h4 : m * d ≤ 4000000000000000000) (h : n * e < m * d) :
    Calls Tryz.prog 135 #[.agg #[.int .i64 n, .int .i64 d], .agg #[.int .i64 m, .int .i64 e]] w fun r w' => r = .returned (.bool true) ∧ Bl w w' := by
  have HH := Lib.hid h
  clear h
  go_enter Tryz.func135, Tryz.ntmps135
  go_wp2_with fail
  refine (sign_lt n d m e _ h1 h2 h3 h4 HH.out).mono ?_
  rintro e w1 ⟨rfl, hb1⟩
  have B1 : Bl w w1 := bl_call (bl_alloc (bl_alloc (bl_refl _) _) _) hb1
  have xA_1 : Bx w1 (w.heap.size) #[.int .i64 (n), .int .i64 (d)] := ((Bx.new (b := w.heap.size) _ #[.int .i64 (n), .int .i64 (d)] 45 (by first | rfl | simp)).alloc _).below hb1
  have xB_1 : Bx w1 (w.heap.size + 1) #[.int .i64 (m), .int .i64 (e)] := (Bx.new (b := w.heap.size + 1) _ #[.int .i64 (m), .int .i64 (e)] 45 (by first | rfl | simp)).below hb1
  obtain ⟨cA_1, fA_1, zA_1⟩ := xA_1.out
  obtain ⟨cB_1, fB_1, zB_1⟩ := xB_1.out
  go_wp2
  go_ret
  exact ⟨rfl, B1⟩

set_option maxHeartbeats 800000 in
theorem sign_gt (n d m e : Int) (w : World) (h1 : -4000000000000000000 ≤ n * e) (h2 : n * e ≤ 4000000000000000000) (h3 : -4000000000000000000 ≤ m * d) (h4 : m * d ≤ 4000000000000000000) (h : m * d < n * e) :
    Calls Tryz.prog 159 #[.agg #[.int .i64 n, .int .i64 d], .agg #[.int .i64 m, .int .i64 e]] w fun r w' => r = .returned (.int .i64 (1)) ∧ Bl w w' := by
  have k1 := (show m * d < n * e by omega)
  have k2 := (show m * d ≤ n * e by omega)
  clear h
  go_enter Tryz.func159, Tryz.ntmps159
  go_wp2
  go_ret
  exact ⟨rfl, bl_alloc (bl_alloc (bl_refl _) _) _⟩
set_option maxHeartbeats 800000 in
theorem less_gt (n d m e : Int) (w : World) (h1 : -4000000000000000000 ≤ n * e) (h2 : n * e ≤ 4000000000000000000) (h3 : -4000000000000000000 ≤ m * d) (h4 : m * d ≤ 4000000000000000000) (h : m * d < n * e) :
    Calls Tryz.prog 135 #[.agg #[.int .i64 n, .int .i64 d], .agg #[.int .i64 m, .int .i64 e]] w fun r w' => r = .returned (.bool false) ∧ Bl w w' := by
  have HH := Lib.hid h
  clear h
  go_enter Tryz.func135, Tryz.ntmps135
  go_wp2_with fail
  refine (sign_gt n d m e _ h1 h2 h3 h4 HH.out).mono ?_
  rintro e w1 ⟨rfl, hb1⟩
  have B1 : Bl w w1 := bl_call (bl_alloc (bl_alloc (bl_refl _) _) _) hb1
  have xA_1 : Bx w1 (w.heap.size) #[.int .i64 (n), .int .i64 (d)] := ((Bx.new (b := w.heap.size) _ #[.int .i64 (n), .int .i64 (d)] 45 (by first | rfl | simp)).alloc _).below hb1
  have xB_1 : Bx w1 (w.heap.size + 1) #[.int .i64 (m), .int .i64 (e)] := (Bx.new (b := w.heap.size + 1) _ #[.int .i64 (m), .int .i64 (e)] 45 (by first | rfl | simp)).below hb1
  obtain ⟨cA_1, fA_1, zA_1⟩ := xA_1.out
  obtain ⟨cB_1, fB_1, zB_1⟩ := xB_1.out
  go_wp2
  go_ret
  exact ⟨rfl, B1⟩

set_option maxHeartbeats 800000 in
theorem sign_eq (n d m e : Int) (w : World) (h1 : -4000000000000000000 ≤ n * e) (h2 : n * e ≤ 4000000000000000000) (h3 : -4000000000000000000 ≤ m * d) (h4 : m * d ≤ 4000000000000000000) (h : n * e = m * d) :
    Calls Tryz.prog 159 #[.agg #[.int .i64 n, .int .i64 d], .agg #[.int .i64 m, .int .i64 e]] w fun r w' => r = .returned (.int .i64 (0)) ∧ Bl w w' := by
  have k1 := (show n * e ≤ m * d by omega)
  have k2 := (show m * d ≤ n * e by omega)
  clear h
  go_enter Tryz.func159, Tryz.ntmps159
  go_wp2
  go_ret
  exact ⟨rfl, bl_alloc (bl_alloc (bl_refl _) _) _⟩
set_option maxHeartbeats 800000 in
theorem less_eq (n d m e : Int) (w : World) (h1 : -4000000000000000000 ≤ n * e) (h2 : n * e ≤ 4000000000000000000) (h3 : -4000000000000000000 ≤ m * d) (h4 : m * d ≤ 4000000000000000000) (h : n * e = m * d) :
    Calls Tryz.prog 135 #[.agg #[.int .i64 n, .int .i64 d], .agg #[.int .i64 m, .int .i64 e]] w fun r w' => r = .returned (.bool false) ∧ Bl w w' := by
  have HH := Lib.hid h
  clear h
  go_enter Tryz.func135, Tryz.ntmps135
  go_wp2_with fail
  refine (sign_eq n d m e _ h1 h2 h3 h4 HH.out).mono ?_
  rintro e w1 ⟨rfl, hb1⟩
  have B1 : Bl w w1 := bl_call (bl_alloc (bl_alloc (bl_refl _) _) _) hb1
  have xA_1 : Bx w1 (w.heap.size) #[.int .i64 (n), .int .i64 (d)] := ((Bx.new (b := w.heap.size) _ #[.int .i64 (n), .int .i64 (d)] 45 (by first | rfl | simp)).alloc _).below hb1
  have xB_1 : Bx w1 (w.heap.size + 1) #[.int .i64 (m), .int .i64 (e)] := (Bx.new (b := w.heap.size + 1) _ #[.int .i64 (m), .int .i64 (e)] 45 (by first | rfl | simp)).below hb1
  obtain ⟨cA_1, fA_1, zA_1⟩ := xA_1.out
  obtain ⟨cB_1, fB_1, zB_1⟩ := xB_1.out
  go_wp2
  go_ret
  exact ⟨rfl, B1⟩

end Go.Proofs.YtndblondleclpaaGreatDoor

