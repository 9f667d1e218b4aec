/- Plain numbers, no program: the neighbours on both sides of a fraction with bounded denominators are unique, and each way of coming nearer keeps them neighbours. -/
import Derived.Test.YtgmofofokhlhnaaFrac
namespace Go.Proofs.Ytgmofofokhlhnaa
set_option linter.unusedVariables false
set_option linter.unusedSimpArgs false

/-- a/b < N/D < c/d are neighbours with denominators up to m. -/
structure SP (N D m a b c d : Int) : Prop where
  hb : 1 ≤ b
  hd : 1 ≤ d
  bm : b ≤ m
  dm : d ≤ m
  det : c * b - a * d = 1
  lo : 0 < N * b - a * D
  lo' : N * b - a * D ≤ D
  hi : 0 < c * D - N * d
  hi' : c * D - N * d ≤ D

theorem pos_of_mul {x y : Int} (hx : 0 < x) (h : 0 < x * y) : 0 < y := by
  rcases Int.lt_trichotomy 0 y with q | q | q
  · exact q
  · subst q; simp at h
  · have := Int.mul_neg_of_pos_of_neg hx q; omega
theorem le_mul_pos {b x : Int} (hb : 0 ≤ b) (hx : 1 ≤ x) : b ≤ b * x := by
  have := Int.mul_le_mul_of_nonneg_left hx hb; omega

theorem between {a b c d a' b' N D : Int} (hD : 0 < D) (hd : 0 < d) (hb : 0 < b') (h1 : a' * D < N * b') (h2 : N * d < c * D) : 0 < c * b' - a' * d := by
  have e1 := Int.mul_lt_mul_of_pos_right h1 hd
  have e2 := Int.mul_lt_mul_of_pos_right h2 hb
  have : 0 < D * (c * b' - a' * d) := by grind
  exact pos_of_mul hD this

theorem SP.low_le {N D m a b c d a' b' c' d' : Int} (hD : 0 < D) (x : SP N D m a b c d) (y : SP N D m a' b' c' d') (hx : m < b + d) : a' * b - a * b' ≤ 0 := by
  rcases Int.lt_or_le 0 (a' * b - a * b') with h | h
  · have e : b' = b * (c * b' - a' * d) + d * (a' * b - a * b') := by have := x.det; grind
    have h1 := between (N := N) (a := a) (b := b) (a' := a') (b' := b') (c := c) (d := d) hD (by have := x.hd; omega) (by have := y.hb; omega) (by have := y.lo; omega) (by have := x.hi; omega)
    have g1 := le_mul_pos (b := b) (x := c * b' - a' * d) (by have := x.hb; omega) (by omega)
    have g2 := le_mul_pos (b := d) (x := a' * b - a * b') (by have := x.hd; omega) (by omega)
    have := y.bm
    omega
  · exact h
theorem SP.high_ge {N D m a b c d a' b' c' d' : Int} (hD : 0 < D) (x : SP N D m a b c d) (y : SP N D m a' b' c' d') (hx : m < b + d) : c * d' - c' * d ≤ 0 := by
  rcases Int.lt_or_le 0 (c * d' - c' * d) with h | h
  · have e : d' = d * (c' * b - a * d') + b * (c * d' - c' * d) := by have := x.det; grind
    have h1 := between (N := N) (a := a') (b := b') (a' := a) (b' := b) (c := c') (d := d') hD (by have := y.hd; omega) (by have := x.hb; omega) (by have := x.lo; omega) (by have := y.hi; omega)
    have g1 := le_mul_pos (b := d) (x := c' * b - a * d') (by have := x.hd; omega) (by omega)
    have g2 := le_mul_pos (b := b) (x := c * d' - c' * d) (by have := x.hb; omega) (by omega)
    have := y.dm
    omega
  · exact h

theorem eq_of_cross {a b c d a' b' c' d' : Int} (hb : 1 ≤ b) (hb' : 1 ≤ b') (e : a' * b = a * b') (h1 : c * b - a * d = 1) (h2 : c' * b' - a' * d' = 1) : a = a' ∧ b = b' := by
  have d1 : b ∣ b' := ⟨c * b' - d * a', by grind⟩
  have d2 : b' ∣ b := ⟨c' * b - d' * a, by grind⟩
  have l1 := Int.le_of_dvd (by omega) d1
  have l2 := Int.le_of_dvd (by omega) d2
  have eb : b = b' := by omega
  subst eb
  have : a' = a := Int.eq_of_mul_eq_mul_right (by omega) e
  exact ⟨this.symm, rfl⟩

/-- There is only one such pair that no further fraction of denominator up to m comes between. -/
theorem SP.unique {N D m a b c d a' b' c' d' : Int} (hD : 0 < D) (x : SP N D m a b c d) (y : SP N D m a' b' c' d') (hx : m < b + d) (hy : m < b' + d') :
    a = a' ∧ b = b' ∧ c = c' ∧ d = d' := by
  have l1 := SP.low_le hD x y hx
  have l2 := SP.low_le hD y x hy
  have h1 := SP.high_ge hD x y hx
  have h2 := SP.high_ge hD y x hy
  have e1 := eq_of_cross x.hb y.hb (by omega) x.det y.det
  have e2 := eq_of_cross (a := c) (b := d) (c := -a) (d := -b) (a' := c') (b' := d') (c' := -a') (d' := -b') x.hd y.hd (by omega) (by have := x.det; grind) (by have := y.det; grind)
  exact ⟨e1.1, e1.2, e2.1, e2.2⟩

/-- Nothing with a denominator below D is the fraction itself. -/
theorem not_own {N D a b : Int} (hg : gcdI N D = 1) (hb : 1 ≤ b) (hbD : b < D) : N * b - a * D ≠ 0 := by
  intro h
  have hdv : D ∣ N * b := ⟨a, by grind⟩
  have hco : Int.gcd D N = 1 := by rw [Int.gcd_comm]; unfold gcdI at hg; omega
  have : D ∣ b := by
    have q := Int.dvd_gcd_mul_iff_dvd_mul.2 hdv
    rw [hco] at q
    simpa using q
  have := Int.le_of_dvd (by omega) this
  omega

/-- k steps of the lower side towards the higher one. -/
theorem SP.stepLow {N D m a b c d k : Int} (x : SP N D m a b c d) (hg : gcdI N D = 1) (hm : m < D) (hk : 0 ≤ k) (h1 : k * (c * D - N * d) ≤ N * b - a * D) (h2 : b + k * d ≤ m) : SP N D m (a + k * c) (b + k * d) c d := by
  have hkd := Int.mul_nonneg hk (show 0 ≤ d by have := x.hd; omega)
  have hkh := Int.mul_nonneg hk (show 0 ≤ c * D - N * d by have := x.hi; omega)
  have e : N * (b + k * d) - (a + k * c) * D = (N * b - a * D) - k * (c * D - N * d) := by grind
  have hne := not_own (N := N) (D := D) (a := a + k * c) (b := b + k * d) hg (by have := x.hb; omega) (by omega)
  exact ⟨by have := x.hb; omega, x.hd, h2, x.dm, by have := x.det; grind, by omega, by have := x.lo'; omega, x.hi, x.hi'⟩
theorem SP.stepHigh {N D m a b c d k : Int} (x : SP N D m a b c d) (hg : gcdI N D = 1) (hm : m < D) (hk : 0 ≤ k) (h1 : k * (N * b - a * D) ≤ c * D - N * d) (h2 : d + k * b ≤ m) : SP N D m a b (c + k * a) (d + k * b) := by
  have hkb := Int.mul_nonneg hk (show 0 ≤ b by have := x.hb; omega)
  have hkh := Int.mul_nonneg hk (show 0 ≤ N * b - a * D by have := x.lo; omega)
  have e : (c + k * a) * D - N * (d + k * b) = (c * D - N * d) - k * (N * b - a * D) := by grind
  have hne := not_own (N := N) (D := D) (a := c + k * a) (b := d + k * b) hg (by have := x.hd; omega) (by omega)
  exact ⟨x.hb, by have := x.hd; omega, x.bm, h2, by have := x.det; grind, x.lo, x.lo', by omega, by have := x.hi'; omega⟩

/-- The beginning: the floor and the number behind it. -/
theorem SP.start {N D m : Int} (hg : gcdI N D = 1) (hm : m < D) (h1 : 1 ≤ m) : SP N D m (N / D) 1 (N / D + 1) 1 := by
  have e := Int.mul_ediv_add_emod N D
  have r1 := Int.emod_nonneg N (show D ≠ 0 by omega)
  have r2 := Int.emod_lt_of_pos N (show 0 < D by omega)
  have hne := not_own (N := N) (D := D) (a := N / D) (b := 1) hg (by omega) (by omega)
  have c1 : N / D * D = D * (N / D) := Int.mul_comm _ _
  have c2 : (N / D + 1) * D = D * (N / D) + D := by grind
  refine ⟨by omega, by omega, by omega, by omega, by grind, ?_, ?_, ?_, ?_⟩ <;> omega

/-- Both sides: the fraction itself if its denominator is not greater than m. -/
noncomputable def sidesF (N D m : Int) : (Int × Int) × (Int × Int) :=
  if D ≤ m then ((N, D), (N, D))
  else @dite _ (∃ x : (Int × Int) × (Int × Int), SP N D m x.1.1 x.1.2 x.2.1 x.2.2 ∧ m < x.1.2 + x.2.2) (Classical.propDecidable _) (fun h => Classical.choose h) (fun _ => ((0, 0), (0, 0)))
theorem sidesF_own {N D m : Int} (h : D ≤ m) : sidesF N D m = ((N, D), (N, D)) := by rw [sidesF, if_pos h]
theorem sidesF_eq {N D m a b c d : Int} (hD : 0 < D) (hm : ¬ D ≤ m) (x : SP N D m a b c d) (hx : m < b + d) : sidesF N D m = ((a, b), (c, d)) := by
  have hex : ∃ x : (Int × Int) × (Int × Int), SP N D m x.1.1 x.1.2 x.2.1 x.2.2 ∧ m < x.1.2 + x.2.2 := ⟨((a, b), (c, d)), x, hx⟩
  rw [sidesF, if_neg hm, dif_pos hex]
  obtain ⟨y, hy⟩ := Classical.choose_spec hex
  obtain ⟨e1, e2, e3, e4⟩ := SP.unique hD x y hx hy
  generalize Classical.choose hex = z at *
  obtain ⟨⟨z1, z2⟩, ⟨z3, z4⟩⟩ := z
  simp at e1 e2 e3 e4
  subst e1 e2 e3 e4
  rfl

end Go.Proofs.Ytgmofofokhlhnaa
