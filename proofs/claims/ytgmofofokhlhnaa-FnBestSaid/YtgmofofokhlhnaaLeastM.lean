/- Plain numbers, no program: the nearest fraction with a bounded denominator has the least error, and the least denominator with a small enough error is that of the nearest fraction. -/
import Derived.Test.YtgmofofokhlhnaaNearest
import Derived.Test.YtgmofofokhlhnaaSecM
namespace Go.Proofs.Ytgmofofokhlhnaa
set_option linter.unusedVariables false
set_option linter.unusedSimpArgs false

theorem le_of_mul_le_pos {a b c : Int} (hc : 0 < c) (h : a * c ≤ b * c) : a ≤ b := Int.le_of_mul_le_mul_right h hc

/-- No fraction with a bounded denominator has a lesser error than the side on which it lies. -/
theorem SP.ratio {N D m a b c e : Int} (x : SP N D m a b c e) (hx : m < b + e) {u q : Int} (h1 : 1 ≤ q) (h2 : q ≤ m) :
    (0 < N * q - u * D ∧ (N * b - a * D) * q ≤ ab (N * q - u * D) * b) ∨ (N * q - u * D < 0 ∧ (c * D - N * e) * q ≤ ab (N * q - u * D) * e) := by
  obtain ⟨s, t, hu, hq, hv, hst⟩ := x.comb hx (u := u) h1 h2
  have hX := x.lo; have hY := x.hi; have hb := x.hb; have he := x.hd
  generalize hXX : N * b - a * D = X at *
  generalize hYY : c * D - N * e = Y at *
  have k1 := Int.mul_nonneg (show 0 ≤ Y by omega) (show 0 ≤ b by omega)
  have k2 := Int.mul_nonneg (show 0 ≤ X by omega) (show 0 ≤ e by omega)
  rcases hst with ⟨hs, ht⟩ | ⟨hs, ht⟩
  · left
    have g1 := Int.mul_le_mul_of_nonneg_right hs (show 0 ≤ X by omega)
    have g2 := Int.mul_nonneg (show 0 ≤ -t by omega) (show 0 ≤ Y by omega)
    have e2 : -t * Y = -(t * Y) := by grind
    refine ⟨by omega, ?_⟩
    rw [ab_pos (by omega), hv, hq]
    have g3 := Int.mul_nonneg (show 0 ≤ -t by omega) (show 0 ≤ Y * b + X * e by omega)
    have e3 : (s * X - t * Y) * b - X * (s * b + t * e) = -t * (Y * b + X * e) := by grind
    omega
  · right
    have g1 := Int.mul_le_mul_of_nonneg_right ht (show 0 ≤ Y by omega)
    have g2 := Int.mul_nonneg (show 0 ≤ -s by omega) (show 0 ≤ X by omega)
    have e2 : -s * X = -(s * X) := by grind
    refine ⟨by omega, ?_⟩
    rw [ab_neg (by omega), hv, hq]
    have g3 := Int.mul_nonneg (show 0 ≤ -s by omega) (show 0 ≤ Y * b + X * e by omega)
    have e3 : -(s * X - t * Y) * e - Y * (s * b + t * e) = -s * (Y * b + X * e) := by grind
    omega

theorem cmp_cases {n d a b p q : Int} : (0 < cmpErrF n d a b p q ∧ offF n d p q * b < offF n d a b * q) ∨ (cmpErrF n d a b p q = 0 ∧ offF n d a b * q = offF n d p q * b) ∨ (cmpErrF n d a b p q < 0 ∧ offF n d a b * q < offF n d p q * b) := by
  unfold cmpErrF cmpF
  split
  · right; right; omega
  · split
    · left; omega
    · right; left; omega

/-- The nearest fraction has the least error. -/
theorem nearest_min {n d m : Int} (ok : okF n d = true) (h1 : 1 ≤ m) :
    1 ≤ (nearestF n d m).2 ∧ (nearestF n d m).2 ≤ m ∧ ∀ u q, 1 ≤ q → q ≤ m → offF n d (nearestF n d m).1 (nearestF n d m).2 * q ≤ ab (n * q - u * d) * (nearestF n d m).2 := by
  have hok := okF_bd ok
  by_cases hm : d ≤ m
  · have e : nearestF n d m = (n, d) := by
      rw [nearestF_eq (sidesF_own hm)]
      split <;> rfl
    rw [e]
    refine ⟨hok.1, hm, fun u q g1 g2 => ?_⟩
    have z : offF n d n d = 0 := by simp [offF, ab]
    simp only [z, Int.zero_mul]
    exact Int.mul_nonneg (ab_nonneg _) (by omega)
  · obtain ⟨a, b, c, e, hs, x, hx, o1, o2⟩ := second_sides hok.2.2.2.2 h1 (show m < d by omega)
    have hb := x.hb; have he := x.hd; have bm := x.bm; have em := x.dm
    rw [nearestF_eq hs]
    have key : ∀ u q, 1 ≤ q → q ≤ m → offF n d a b * q ≤ ab (n * q - u * d) * b ∨ offF n d c e * q ≤ ab (n * q - u * d) * e := by
      intro u q g1 g2
      rw [o1, o2]
      rcases x.ratio hx (u := u) g1 g2 with r | r
      · exact .inl r.2
      · exact .inr r.2
    have lo : offF n d a b * e ≤ offF n d c e * b → ∀ u q, 1 ≤ q → q ≤ m → offF n d a b * q ≤ ab (n * q - u * d) * b := by
      intro hc u q g1 g2
      rcases key u q g1 g2 with r | r
      · exact r
      · have k1 := Int.mul_le_mul_of_nonneg_right hc (show 0 ≤ q by omega)
        have k2 := Int.mul_le_mul_of_nonneg_right r (show 0 ≤ b by omega)
        refine le_of_mul_le_pos (c := e) (by omega) ?_
        have e1 : offF n d a b * e * q = offF n d a b * q * e := by grind
        have e2 : offF n d c e * b * q = offF n d c e * q * b := by grind
        have e3 : ab (n * q - u * d) * e * b = ab (n * q - u * d) * b * e := by grind
        omega
    have hi : offF n d c e * b ≤ offF n d a b * e → ∀ u q, 1 ≤ q → q ≤ m → offF n d c e * q ≤ ab (n * q - u * d) * e := by
      intro hc u q g1 g2
      rcases key u q g1 g2 with r | r
      · have k1 := Int.mul_le_mul_of_nonneg_right hc (show 0 ≤ q by omega)
        have k2 := Int.mul_le_mul_of_nonneg_right r (show 0 ≤ e by omega)
        refine le_of_mul_le_pos (c := b) (by omega) ?_
        have e1 : offF n d c e * b * q = offF n d c e * q * b := by grind
        have e2 : offF n d a b * e * q = offF n d a b * q * e := by grind
        have e3 : ab (n * q - u * d) * b * e = ab (n * q - u * d) * e * b := by grind
        omega
      · exact r
    rcases cmp_cases (n := n) (d := d) (a := a) (b := b) (p := c) (q := e) with h | h | h
    · rw [if_pos (.inl h.1)]
      exact ⟨he, em, hi (by omega)⟩
    · split
      · exact ⟨he, em, hi (by omega)⟩
      · exact ⟨hb, bm, lo (by omega)⟩
    · rw [if_neg (by omega)]
      exact ⟨hb, bm, lo (by omega)⟩

/-- The nearest fraction is near enough just if some numerator over a denominator up to m is. -/
theorem within_iff {n d m num den : Int} (ok : okF n d = true) (h1 : 1 ≤ m) (hden : 0 ≤ den) :
    offF n d (nearestF n d m).1 (nearestF n d m).2 * den ≤ num * d * (nearestF n d m).2 ↔ ∃ q, 1 ≤ q ∧ q ≤ m ∧ (nearF n d q).2.1 * den ≤ num * d * q := by
  have hok := okF_bd ok
  obtain ⟨g1, g2, g3⟩ := nearest_min ok h1
  generalize nearestF n d m = f at *
  obtain ⟨u0, q0⟩ := f
  simp only [] at *
  constructor
  · intro h
    refine ⟨q0, g1, g2, ?_⟩
    have l := near_least (n := n) (d := d) (by omega) q0 u0
    have k := Int.mul_le_mul_of_nonneg_right l hden
    have e : offF n d u0 q0 = ab (n * q0 - u0 * d) := rfl
    rw [e] at h
    omega
  · rintro ⟨q, k1, k2, k3⟩
    have l := g3 (nearF n d q).1 q k1 k2
    have dd := near_dist (n := n) (d := d) (by omega) q
    rw [dd.1] at l
    have m1 := Int.mul_le_mul_of_nonneg_right l hden
    have m2 := Int.mul_le_mul_of_nonneg_right k3 (show 0 ≤ q0 by omega)
    refine le_of_mul_le_pos (c := q) (by omega) ?_
    have e1 : offF n d u0 q0 * q * den = offF n d u0 q0 * den * q := by grind
    have e2 : (nearF n d q).2.1 * q0 * den = (nearF n d q).2.1 * den * q0 := by grind
    have e3 : num * d * q * q0 = num * d * q0 * q := by grind
    omega

/-- At the least denominator that is near enough, the nearest fraction has this denominator and the nearest numerator. -/
theorem least_nearest {n d q0 num den : Int} (ok : okF n d = true) (h1 : 1 ≤ q0) (hden : 1 ≤ den) (hin : (nearF n d q0).2.1 * den ≤ num * d * q0)
    (hmin : ∀ q, 1 ≤ q → q < q0 → num * d * q < (nearF n d q).2.1 * den) : nearestF n d q0 = ((nearF n d q0).1, q0) := by
  have hok := okF_bd ok
  have hd : 0 < d := by omega
  obtain ⟨g1, g2, g3⟩ := nearest_min ok h1
  have hw := (within_iff (num := num) (den := den) ok h1 (by omega)).2 ⟨q0, h1, Int.le_refl _, hin⟩
  have l := near_least (n := n) hd (nearestF n d q0).2 (nearestF n d q0).1
  have k := Int.mul_le_mul_of_nonneg_right l (show 0 ≤ den by omega)
  have e : offF n d (nearestF n d q0).1 (nearestF n d q0).2 = ab (n * (nearestF n d q0).2 - (nearestF n d q0).1 * d) := rfl
  rw [e] at hw
  have hb : (nearestF n d q0).2 = q0 := by
    rcases Int.lt_or_le (nearestF n d q0).2 q0 with h | h
    · have := hmin _ g1 h
      omega
    · omega
  have dq := near_dist (n := n) hd q0
  have m1 := g3 (nearF n d q0).1 q0 h1 (Int.le_refl _)
  rw [e, dq.1] at m1
  rw [hb] at m1 l
  have m2 := le_of_mul_le_pos (by omega) m1
  have hu : ab (n * q0 - (nearestF n d q0).1 * d) = (nearF n d q0).2.1 := by omega
  have hn : (nearestF n d q0).1 = (nearF n d q0).1 := by
    cases ho : (nearF n d q0).2.2 with
    | true => exact near_only hd q0 _ ho hu
    | false =>
      have t := near_two (n := n) hd q0 ho
      have hof := off_or (k := n * q0) (p := (nearF n d q0).1) (u := (nearestF n d q0).1) hd
      have hof2 := off_or (k := n * q0) (p := (nearF n d q0).1 + 1) (u := (nearestF n d q0).1) hd
      have ee : ((nearF n d q0).1 + 1) * d = (nearF n d q0).1 * d + d := by grind
      have tp : n * q0 - (nearF n d q0).1 * d = (nearF n d q0).2.1 ∧ 2 * (nearF n d q0).2.1 = d := by
        have := dq.1; have := dq.2
        have a1 := ab_nonneg (n * q0 - (nearF n d q0).1 * d)
        unfold ab at t hu
        have q1 := dq.1
        unfold ab at q1
        omega
      rcases (show (nearestF n d q0).1 = (nearF n d q0).1 ∨ (nearestF n d q0).1 = (nearF n d q0).1 + 1 by
        unfold ab at hu
        omega) with h | h
      · exact h
      · exfalso
        by_cases hm : d ≤ q0
        · have e1 : nearestF n d q0 = (n, d) := by
            rw [nearestF_eq (sidesF_own hm)]
            split <;> rfl
          rw [e1] at h hb
          simp only [] at h hb
          subst hb
          have z : n * d - n * d = 0 := by omega
          have h2 : (nearF n d d).1 * d = n * d - d := by rw [show n = (nearF n d d).1 + 1 from h]; rw [show (nearF ((nearF n d d).1 + 1) d d).1 = (nearF n d d).1 by rw [← h]]; grind
          omega
        · obtain ⟨a, b, c, e', hs, x, hx, o1, o2⟩ := second_sides hok.2.2.2.2 h1 (show q0 < d by omega)
          have hbb := x.hb; have hee := x.hd; have bm := x.bm; have em := x.dm; have xlo := x.lo; have xhi := x.hi
          rw [nearestF_eq hs] at h hb
          have r := x.ratio hx (u := (nearF n d q0).1) h1 (Int.le_refl _)
          rw [dq.1] at r
          rcases r with r | r
          · split at h
            · rename_i hc
              rw [if_pos hc] at hb
              simp only [] at h hb
              subst hb
              have hY : c * d - n * e' = (nearF n d e').2.1 := by rw [h, ee]; omega
              rcases cmp_cases (n := n) (d := d) (a := a) (b := b) (p := c) (q := e') with g | g | g
              · rw [o1, o2, hY] at g; omega
              · rcases hc with hc | hc
                · omega
                · rw [o1, o2, hY] at g
                  have q1 := r.2
                  omega
              · omega
            · rename_i hc
              rw [if_neg hc] at hb
              simp only [] at h hb
              subst hb
              rw [h, ee] at xlo
              omega
          · omega
  exact Prod.ext hn hb

/-- Over this denominator some numerator is near enough, over no lesser one. -/
def Least (n d num den q0 : Int) : Prop := 1 ≤ q0 ∧ (nearF n d q0).2.1 * den ≤ num * d * q0 ∧ ∀ q, 1 ≤ q → q < q0 → num * d * q < (nearF n d q).2.1 * den
theorem Least.unique {n d num den a b : Int} (x : Least n d num den a) (y : Least n d num den b) : a = b := by
  rcases Int.lt_trichotomy a b with h | h | h
  · have := y.2.2 a x.1 h; have := x.2.1; omega
  · exact h
  · have := x.2.2 b y.1 h; have := y.2.1; omega
theorem near_own {n d : Int} (hd : 0 < d) : (nearF n d d).2.1 = 0 := by
  have a := near_least (n := n) hd d n
  have b := near_dist (n := n) hd d
  rw [show n * d - n * d = 0 by omega] at a
  have : ab 0 = 0 := by simp [ab]
  omega
noncomputable def leastQ (n d num den : Int) : Int := @dite _ (∃ q, Least n d num den q) (Classical.propDecidable _) (fun h => Classical.choose h) (fun _ => 0)
theorem leastQ_eq {n d num den q : Int} (x : Least n d num den q) : leastQ n d num den = q := by
  have hex : ∃ q, Least n d num den q := ⟨q, x⟩
  unfold leastQ
  rw [dif_pos hex]
  exact (Classical.choose_spec hex).unique x
/-- Near enough at most, and nothing is near enough below: this is the least one. -/
theorem least_of {n d num den q : Int} (h1 : 1 ≤ q) (hin : ∃ q', 1 ≤ q' ∧ q' ≤ q ∧ (nearF n d q').2.1 * den ≤ num * d * q') (hno : ¬ ∃ q', 1 ≤ q' ∧ q' ≤ q - 1 ∧ (nearF n d q').2.1 * den ≤ num * d * q') : Least n d num den q := by
  obtain ⟨r, r1, r2, r3⟩ := hin
  have hr : r = q := by
    rcases Int.lt_or_le r q with h | h
    · exact absurd ⟨r, r1, by omega, r3⟩ hno
    · omega
  subst hr
  refine ⟨h1, r3, fun q' a b => ?_⟩
  rcases Int.lt_or_le (num * d * q') ((nearF n d q').2.1 * den) with h | h
  · exact h
  · exact absurd ⟨q', a, by omega, h⟩ hno

end Go.Proofs.Ytgmofofokhlhnaa
