/- Best approximations of both kinds: all with denominators up to a number, in order. Plain; each theorem names its conditions. -/
import Derived.Test.YtgmofofokhlhnaaFirst
import Derived.Test.YtgmofofokhlhnaaSecM
namespace Go.Proofs.Ytgmofofokhlhnaa
set_option linter.unusedVariables false
set_option linter.unusedSimpArgs false

theorem mul_pos' {a b : Int} (ha : 0 < a) (hb : 0 < b) : 0 < a * b := Int.mul_pos ha hb
/-- How near a fraction with a bounded denominator comes, in terms of the two neighbours. -/
theorem SP.err {N D m a b c e : Int} (x : SP N D m a b c e) (hx : m < b + e) {u q : Int} (h1 : 1 ≤ q) (h2 : q ≤ m) :
    ((N * b - a * D) * q ≤ ab (N * q - u * D) * b ∧ (ab (N * q - u * D) * b ≤ (N * b - a * D) * q → ∃ s, 1 ≤ s ∧ u = s * a ∧ q = s * b)) ∨
    ((c * D - N * e) * q ≤ ab (N * q - u * D) * e ∧ (ab (N * q - u * D) * e ≤ (c * D - N * e) * q → ∃ s, 1 ≤ s ∧ u = s * c ∧ q = s * e)) := by
  obtain ⟨s, t, hu, hq, hv, hst⟩ := x.comb hx (u := u) h1 h2
  have hX := x.lo; have hY := x.hi; have hb := x.hb; have he := x.hd
  generalize hXX : N * b - a * D = X at *
  generalize hYY : c * D - N * e = Y at *
  have g := Int.add_pos (mul_pos' hX (show 0 < e by omega)) (mul_pos' hY (show 0 < b by omega))
  rcases hst with ⟨hs, ht⟩ | ⟨hs, ht⟩
  · left
    have g1 := Int.mul_nonneg (show 0 ≤ s by omega) (show 0 ≤ X by omega)
    have g2 := Int.mul_nonneg (show 0 ≤ -t by omega) (show 0 ≤ Y by omega)
    have e2 : -t * Y = -(t * Y) := by grind
    have g3 := Int.mul_nonneg (show 0 ≤ -t by omega) (show 0 ≤ X * e + Y * b by omega)
    have e3 : (s * X - t * Y) * b = X * q + -t * (X * e + Y * b) := by rw [hq]; grind
    rw [hv, ab_pos (by omega)]
    refine ⟨by omega, fun h => ?_⟩
    have ht0 : t = 0 := by
      rcases Int.lt_or_le t 0 with q1 | q1
      · have := mul_pos' (show 0 < -t by omega) g; omega
      · omega
    subst ht0
    exact ⟨s, hs, by simpa using hu, by simpa using hq⟩
  · right
    have g1 := Int.mul_nonneg (show 0 ≤ t by omega) (show 0 ≤ Y by omega)
    have g2 := Int.mul_nonneg (show 0 ≤ -s by omega) (show 0 ≤ X by omega)
    have e2 : -s * X = -(s * X) := by grind
    have g3 := Int.mul_nonneg (show 0 ≤ -s by omega) (show 0 ≤ X * e + Y * b by omega)
    have e3 : -(s * X - t * Y) * e = Y * q + -s * (X * e + Y * b) := by rw [hq]; grind
    rw [hv, ab_neg (by omega)]
    refine ⟨by omega, fun h => ?_⟩
    have hs0 : s = 0 := by
      rcases Int.lt_or_le s 0 with q1 | q1
      · have := mul_pos' (show 0 < -s by omega) g; omega
      · omega
    subst hs0
    exact ⟨t, ht, by simpa using hu, by simpa using hq⟩

theorem near_self {n d : Int} (hd : 0 < d) : nearF n d d = (n, 0, true) := by
  unfold nearF
  rw [Int.mul_ediv_cancel n (by omega), Int.sub_self, if_neg (by omega)]
  simp; omega
theorem one_of_mul {s b : Int} (hb : 1 ≤ b) (hs : 1 ≤ s) (h : b = s * b) : s = 1 := by
  rcases Int.lt_or_le 1 s with g | g
  · have := Int.mul_le_mul_of_nonneg_right (show 2 ≤ s by omega) (show 0 ≤ b by omega); omega
  · omega
theorem le_of_mul {x y b : Int} (hb : 0 < b) (h : x * b ≤ y * b) : x ≤ y := Int.le_of_mul_le_mul_right h hb
theorem lt_of_mul {x y b : Int} (hb : 0 < b) (h : x * b < y * b) : x < y := Int.lt_of_mul_lt_mul_right h (by omega)

/-- The two sides of a lesser denominator in terms of the sign of the comparison. -/
theorem first_sides {n d y : Int} (hg : gcdI n d = 1) (h1 : 1 ≤ y) (hy : y < d) : ∃ a b c e, SP n d y a b c e ∧ y < b + e ∧
    ∀ x, firstF n d x y = decide ((x = a ∧ y = b) ∧ (n * b - a * d) * e < (c * d - n * e) * b ∨ (x = c ∧ y = e) ∧ (c * d - n * e) * b < (n * b - a * d) * e) := by
  obtain ⟨a, b, c, e, hs, hsp, hx, o1, o2⟩ := second_sides hg h1 hy
  refine ⟨a, b, c, e, hsp, hx, fun x => ?_⟩
  rw [firstF_eq hs, decide_eq_decide]
  have hne : ¬ (a = c ∧ b = e) := by
    rintro ⟨rfl, rfl⟩
    have := hsp.det
    have := Int.mul_comm a b
    omega
  unfold cmpErrF cmpF
  rw [o1, o2]
  constructor
  · rintro (⟨h, h2 | h2⟩ | ⟨h, h2⟩)
    · left; refine ⟨h, ?_⟩
      split at h2
      · assumption
      · split at h2 <;> omega
    · exact absurd h2 hne
    · right; refine ⟨h, ?_⟩
      split at h2
      · omega
      · split at h2
        · assumption
        · omega
  · rintro (⟨h, h2⟩ | ⟨h, h2⟩)
    · left; refine ⟨h, .inl ?_⟩; rw [if_pos h2]; omega
    · right; refine ⟨h, ?_⟩; rw [if_neg (by omega), if_pos h2]; omega

theorem first_own {n d x : Int} : firstF n d x d = decide (x = n) := by
  rw [firstF_eq (sidesF_own (Int.le_refl d))]
  simp
  intro h _; exact h
theorem first_far {n d x y : Int} (h : d < y) : firstF n d x y = false := by
  rw [firstF_eq (sidesF_own (show d ≤ y by omega))]
  simp; omega
theorem second_far {n d x y : Int} (h : d < y) : secondF n d x y = false := by
  unfold secondF
  rw [if_neg (by omega), if_pos h]

/-- The first kind: nearer than all with lesser denominators, and the only one. -/
theorem first_iff {n d y : Int} (hd : 0 < d) (hg : gcdI n d = 1) (h1 : 1 ≤ y) (hy : y ≤ d) (x : Int) : firstF n d x y = true ↔
    x = (nearF n d y).1 ∧ (nearF n d y).2.2 = true ∧ ∀ q, 1 ≤ q → q < y → (nearF n d y).2.1 * q < (nearF n d q).2.1 * y := by
  by_cases hyd : y = d
  · subst hyd
    rw [first_own, near_self hd]
    simp only [decide_eq_true_eq]
    constructor
    · rintro rfl
      refine ⟨rfl, trivial, fun q a b => ?_⟩
      have := mul_pos' (no_own hd hg a b) hd
      omega
    · exact fun h => h.1
  · obtain ⟨a, b, c, e, x1, hx, hF⟩ := first_sides hg h1 (show y < d by omega)
    rw [hF, decide_eq_true_eq]
    have gy := near_dist (n := n) hd y
    have ly := near_least (n := n) hd y
    have hb := x1.hb; have he := x1.hd; have bm := x1.bm; have em := x1.dm; have hX := x1.lo; have hY := x1.hi
    have oa : ab (n * b - a * d) = n * b - a * d := ab_pos (by omega)
    have oc : ab (n * e - c * d) = c * d - n * e := by rw [ab_neg (by omega)]; omega
    have lb := near_least (n := n) hd b a
    have le := near_least (n := n) hd e c
    rw [oa] at lb; rw [oc] at le
    have ey := x1.err hx (u := (nearF n d y).1) h1 (Int.le_refl y)
    rw [gy.1] at ey
    have fr : ∀ q, 1 ≤ q → q < y → ((n * b - a * d) * q ≤ (nearF n d q).2.1 * b ∧ ((nearF n d q).2.1 * b ≤ (n * b - a * d) * q → ∃ s, 1 ≤ s ∧ q = s * b)) ∨ ((c * d - n * e) * q ≤ (nearF n d q).2.1 * e ∧ ((nearF n d q).2.1 * e ≤ (c * d - n * e) * q → ∃ s, 1 ≤ s ∧ q = s * e)) := by
      intro q hq1 hq2
      have g := x1.err hx (u := (nearF n d q).1) hq1 (show q ≤ y by omega)
      rw [(near_dist (n := n) hd q).1] at g
      rcases g with ⟨g1, g2⟩ | ⟨g1, g2⟩
      · exact .inl ⟨g1, fun h => by obtain ⟨s, s1, _, s2⟩ := g2 h; exact ⟨s, s1, s2⟩⟩
      · exact .inr ⟨g1, fun h => by obtain ⟨s, s1, _, s2⟩ := g2 h; exact ⟨s, s1, s2⟩⟩
    have e2 : (nearF n d y).2.2 = false → ((n * b - a * d) * y ≤ (nearF n d y).2.1 * b ∧ ((nearF n d y).2.1 * b ≤ (n * b - a * d) * y → ∃ s, 1 ≤ s ∧ (nearF n d y).1 + 1 = s * a ∧ y = s * b)) ∨ ((c * d - n * e) * y ≤ (nearF n d y).2.1 * e ∧ ((nearF n d y).2.1 * e ≤ (c * d - n * e) * y → ∃ s, 1 ≤ s ∧ (nearF n d y).1 + 1 = s * c ∧ y = s * e)) := by
      intro h
      have g := x1.err hx (u := (nearF n d y).1 + 1) h1 (Int.le_refl y)
      rw [near_two (n := n) hd y h] at g
      exact g
    have only : ∀ u, (nearF n d y).2.2 = true → ab (n * y - u * d) = (nearF n d y).2.1 → u = (nearF n d y).1 := fun u => near_only hd y u
    have det := x1.det
    generalize hXX : n * b - a * d = X at *
    generalize hYY : c * d - n * e = Y at *
    generalize hp : (nearF n d y).1 = p at *
    generalize hδ : (nearF n d y).2.1 = δ at *
    constructor
    · rintro (⟨⟨rfl, rfl⟩, hlt⟩ | ⟨⟨rfl, rfl⟩, hlt⟩)
      · have hδX : δ ≤ X := by have := ly x; rw [hXX, oa] at this; exact this
        have m1 := Int.mul_le_mul_of_nonneg_right hδX (show 0 ≤ e by omega)
        have m2 := Int.mul_le_mul_of_nonneg_right hδX (show 0 ≤ y by omega)
        have hpx : x = p ∧ δ = X := by
          rcases ey with ⟨g1, g2⟩ | ⟨g1, g2⟩
          · obtain ⟨s, s1, s2, s3⟩ := g2 (by omega)
            have := one_of_mul h1 s1 s3
            subst this
            have := le_of_mul (show 0 < y by omega) g1
            omega
          · omega
        obtain ⟨rfl, rfl⟩ := hpx
        refine ⟨rfl, ?_, fun q hq1 hq2 => ?_⟩
        · cases ho : (nearF n d y).2.2 with
          | true => rfl
          | false =>
            rcases e2 ho with ⟨g1, g2⟩ | ⟨g1, g2⟩
            · obtain ⟨s, s1, s2, s3⟩ := g2 (by omega)
              have := one_of_mul h1 s1 s3
              subst this
              omega
            · omega
        · rcases fr q hq1 hq2 with ⟨g1, g2⟩ | ⟨g1, g2⟩
          · rcases Int.lt_or_le (δ * q) ((nearF n d q).2.1 * y) with h | h
            · exact h
            · obtain ⟨s, s1, s2⟩ := g2 h
              have := Int.mul_le_mul_of_nonneg_right s1 (show 0 ≤ y by omega)
              omega
          · have k1 := Int.mul_le_mul_of_nonneg_right g1 (show 0 ≤ y by omega)
            have k2 := Int.mul_lt_mul_of_pos_right hlt (show 0 < q by omega)
            have k3 : Y * q * y = Y * y * q := by grind
            have k4 : (nearF n d q).2.1 * e * y = (nearF n d q).2.1 * y * e := by grind
            have k5 : δ * e * q = δ * q * e := by grind
            exact lt_of_mul (show 0 < e by omega) (by omega)
      · have hδX : δ ≤ Y := by have := ly x; rw [oc] at this; exact this
        have m1 := Int.mul_le_mul_of_nonneg_right hδX (show 0 ≤ b by omega)
        have m2 := Int.mul_le_mul_of_nonneg_right hδX (show 0 ≤ y by omega)
        have hpx : x = p ∧ δ = Y := by
          rcases ey with ⟨g1, g2⟩ | ⟨g1, g2⟩
          · omega
          · obtain ⟨s, s1, s2, s3⟩ := g2 (by omega)
            have := one_of_mul h1 s1 s3
            subst this
            have := le_of_mul (show 0 < y by omega) g1
            omega
        obtain ⟨rfl, rfl⟩ := hpx
        refine ⟨rfl, ?_, fun q hq1 hq2 => ?_⟩
        · cases ho : (nearF n d y).2.2 with
          | true => rfl
          | false =>
            rcases e2 ho with ⟨g1, g2⟩ | ⟨g1, g2⟩
            · omega
            · obtain ⟨s, s1, s2, s3⟩ := g2 (by omega)
              have := one_of_mul h1 s1 s3
              subst this
              omega
        · rcases fr q hq1 hq2 with ⟨g1, g2⟩ | ⟨g1, g2⟩
          · have k1 := Int.mul_le_mul_of_nonneg_right g1 (show 0 ≤ y by omega)
            have k2 := Int.mul_lt_mul_of_pos_right hlt (show 0 < q by omega)
            have k3 : X * q * y = X * y * q := by grind
            have k4 : (nearF n d q).2.1 * b * y = (nearF n d q).2.1 * y * b := by grind
            have k5 : δ * b * q = δ * q * b := by grind
            exact lt_of_mul (show 0 < b by omega) (by omega)
          · rcases Int.lt_or_le (δ * q) ((nearF n d q).2.1 * y) with h | h
            · exact h
            · obtain ⟨s, s1, s2⟩ := g2 h
              have := Int.mul_le_mul_of_nonneg_right s1 (show 0 ≤ y by omega)
              omega
    · rintro ⟨rfl, ho, hall⟩
      rcases ey with ⟨g1, g2⟩ | ⟨g1, g2⟩
      · left
        have hby : b = y := by
          rcases Int.lt_or_le b y with h | h
          · have h2 := hall b hb h
            have h3 := Int.mul_le_mul_of_nonneg_right lb (show 0 ≤ y by omega)
            omega
          · omega
        subst hby
        have hXδ : X ≤ δ := le_of_mul (show 0 < b by omega) g1
        have hδX : δ ≤ X := by have := ly a; rw [hXX, oa] at this; exact this
        obtain rfl : X = δ := by omega
        obtain ⟨s, s1, s2, s3⟩ := g2 (Int.le_refl _)
        have := one_of_mul h1 s1 s3
        subst this
        have hxa : x = a := by omega
        refine ⟨⟨hxa, rfl⟩, ?_⟩
        rcases Int.lt_or_le e b with h | h
        · have h2 := hall e he h
          have h3 := Int.mul_le_mul_of_nonneg_right le (show 0 ≤ b by omega)
          omega
        · obtain rfl : e = b := by omega
          have h4 : X ≤ Y := by have := ly c; rw [oc] at this; exact this
          rcases Int.lt_or_le X Y with h5 | h5
          · exact Int.mul_lt_mul_of_pos_right h5 (by omega)
          · have h6 := only c ho (by rw [oc]; omega)
            subst h6 hxa
            omega
      · right
        have hby : e = y := by
          rcases Int.lt_or_le e y with h | h
          · have h2 := hall e he h
            have h3 := Int.mul_le_mul_of_nonneg_right le (show 0 ≤ y by omega)
            omega
          · omega
        subst hby
        have hXδ : Y ≤ δ := le_of_mul (show 0 < e by omega) g1
        have hδX : δ ≤ Y := by have := ly c; rw [oc] at this; exact this
        obtain rfl : Y = δ := by omega
        obtain ⟨s, s1, s2, s3⟩ := g2 (Int.le_refl _)
        have := one_of_mul h1 s1 s3
        subst this
        have hxa : x = c := by omega
        refine ⟨⟨hxa, rfl⟩, ?_⟩
        rcases Int.lt_or_le b e with h | h
        · have h2 := hall b hb h
          have h3 := Int.mul_le_mul_of_nonneg_right lb (show 0 ≤ e by omega)
          omega
        · obtain rfl : b = e := by omega
          have h4 : Y ≤ X := by have := ly a; rw [hXX, oa] at this; exact this
          rcases Int.lt_or_le Y X with h5 | h5
          · exact Int.mul_lt_mul_of_pos_right h5 (by omega)
          · have h6 := only a ho (by rw [hXX, oa]; omega)
            subst h6 hxa
            omega
/-- The second kind likewise. -/
theorem second_iff {n d y : Int} (hd : 0 < d) (hg : gcdI n d = 1) (h1 : 1 ≤ y) (hy : y ≤ d) (x : Int) : secondF n d x y = true ↔
    x = (nearF n d y).1 ∧ (nearF n d y).2.2 = true ∧ ∀ q, 1 ≤ q → q < y → (nearF n d y).2.1 < (nearF n d q).2.1 := by
  have gy := near_dist (n := n) hd y
  constructor
  · intro h
    have hall : ∀ q, 1 ≤ q → q < y → offF n d x y < (nearF n d q).2.1 := fun q a b => by
      rcases Int.lt_or_le (offF n d x y) (nearF n d q).2.1 with g | g
      · exact g
      · rw [second_no hd hg a b g] at h; cases h
    rw [second_end hd hg h1 hall] at h
    simp only [Bool.and_eq_true, decide_eq_true_eq] at h
    exact ⟨h.1.1.symm, h.2, fun q a b => by rw [h.1.2]; exact hall q a b⟩
  · rintro ⟨rfl, ho, hall⟩
    have e : offF n d (nearF n d y).1 y = (nearF n d y).2.1 := gy.1
    rw [second_end hd hg h1 (fun q a b => by rw [e]; exact hall q a b)]
    simp [e, ho]

/-- A best approximation of a kind. -/
noncomputable def bestK (sec : Bool) (n d x y : Int) : Bool := if sec then secondF n d x y else firstF n d x y
/-- A distance over a denominator beats another one. -/
def lessK (sec : Bool) (dq q best over : Int) : Bool := if sec then decide (dq < best) else decide (dq * over < best * q)
theorem best_iff (sec : Bool) {n d y : Int} (hd : 0 < d) (hg : gcdI n d = 1) (h1 : 1 ≤ y) (hy : y ≤ d) (x : Int) : bestK sec n d x y = true ↔
    x = (nearF n d y).1 ∧ (nearF n d y).2.2 = true ∧ ∀ q, 1 ≤ q → q < y → lessK sec (nearF n d y).2.1 y (nearF n d q).2.1 q = true := by
  cases sec with
  | true => simpa [bestK, lessK] using second_iff hd hg h1 hy x
  | false => simpa [bestK, lessK] using first_iff hd hg h1 hy x
theorem best_far (sec : Bool) {n d x y : Int} (h : d < y) : bestK sec n d x y = false := by
  cases sec with
  | true => exact second_far h
  | false => exact first_far h
theorem best_own (sec : Bool) {n d x : Int} : bestK sec n d x d = decide (x = n) := by
  cases sec with
  | true => simp [bestK, secondF]
  | false => simp only [bestK]; exact first_own
theorem best_at (sec : Bool) {n d x y a b c e : Int} (hD : 0 < d) (x1 : SP n d y a b c e) (hm : y < d) (hx : y < b + e) (h : bestK sec n d x y = true) : (x = a ∧ y = b) ∨ (x = c ∧ y = e) := by
  have hs := sidesF_eq hD (show ¬ d ≤ y by omega) x1 hx
  cases sec with
  | true =>
    have h : secondF n d x y = true := h
    unfold secondF at h
    rw [if_neg (by omega), if_neg (by omega), hs] at h
    simp only [Bool.or_eq_true, Bool.and_eq_true, decide_eq_true_eq] at h
    rcases h with h | h
    · exact .inl h.2
    · exact .inr h.2
  | false =>
    have h : firstF n d x y = true := h
    rw [firstF_eq hs, decide_eq_true_eq] at h
    rcases h with h | h
    · exact .inl h.1
    · exact .inr h.1

/-- The best ones with denominators up to k. -/
noncomputable def tgt (sec : Bool) (n d : Int) : Nat → List (Int × Int)
  | 0 => []
  | k + 1 => tgt sec n d k ++ (if bestK sec n d (nearF n d ((k + 1 : Nat) : Int)).1 ((k + 1 : Nat) : Int) then [((nearF n d ((k + 1 : Nat) : Int)).1, ((k + 1 : Nat) : Int))] else [])
theorem tgt_yes {sec : Bool} {n d x y : Int} {k : Nat} (hd : 0 < d) (hg : gcdI n d = 1) (hy : y = ((k + 1 : Nat) : Int)) (h : bestK sec n d x y = true) : tgt sec n d (k + 1) = tgt sec n d k ++ [(x, y)] := by
  subst hy
  have hle : ((k + 1 : Nat) : Int) ≤ d := by
    rcases Int.lt_or_le d ((k + 1 : Nat) : Int) with g | g
    · rw [best_far sec g] at h; cases h
    · exact g
  have e := ((best_iff sec hd hg (by omega) hle x).1 h).1
  subst e
  show tgt sec n d k ++ (if _ then _ else _) = _
  rw [if_pos h]
theorem tgt_no {sec : Bool} {n d : Int} {k : Nat} (h : ∀ x, bestK sec n d x ((k + 1 : Nat) : Int) = false) : tgt sec n d (k + 1) = tgt sec n d k := by
  show tgt sec n d k ++ (if _ then _ else _) = _
  rw [h, if_neg (by simp), List.append_nil]
theorem tgt_len (sec : Bool) (n d : Int) (k : Nat) : (tgt sec n d k).length ≤ k := by
  induction k with
  | zero => exact Nat.le_refl _
  | succ k ih =>
    show (tgt sec n d k ++ (if _ then _ else _)).length ≤ _
    split <;> simp <;> omega
theorem tgt_mono (sec : Bool) (n d : Int) {j k : Nat} (h : j ≤ k) : (tgt sec n d j).length ≤ (tgt sec n d k).length := by
  induction k with
  | zero => obtain rfl : j = 0 := by omega
            exact Nat.le_refl _
  | succ k ih =>
    rcases Nat.lt_or_ge k j with g | g
    · obtain rfl : j = k + 1 := by omega
      exact Nat.le_refl _
    · refine Nat.le_trans (ih g) ?_
      show _ ≤ (tgt sec n d k ++ (if _ then _ else _)).length
      simp
theorem tgt_flat {sec : Bool} {n d : Int} {j k : Nat} (h : j ≤ k) (hall : ∀ q : Int, (j : Int) < q → q ≤ k → ∀ x, bestK sec n d x q = false) : tgt sec n d k = tgt sec n d j := by
  induction k with
  | zero => obtain rfl : j = 0 := by omega
            rfl
  | succ k ih =>
    rcases Nat.lt_or_ge k j with g | g
    · obtain rfl : j = k + 1 := by omega
      rfl
    · rw [tgt_no (fun x => hall _ (by omega) (Int.le_refl _) x)]
      exact ih g (fun q a b => hall q a (by omega))

/-! The program's way: the least distance so far. -/
def MinK (sec : Bool) (n d : Int) (k : Nat) (best over : Int) : Prop :=
  1 ≤ over ∧ over ≤ k ∧ best = (nearF n d over).2.1 ∧ ∀ q : Int, 1 ≤ q → q ≤ k → lessK sec (nearF n d q).2.1 q best over = false
theorem minK_one (sec : Bool) (n d : Int) : MinK sec n d 1 (nearF n d 1).2.1 1 := by
  refine ⟨Int.le_refl _, Int.le_refl _, rfl, fun q h1 h2 => ?_⟩
  obtain rfl : q = 1 := by omega
  cases sec <;> simp [lessK]
theorem minK_yes {sec : Bool} {n d best over : Int} {k : Nat} (hd : 0 < d) (h : MinK sec n d k best over) {y : Int} (hy : y = ((k + 1 : Nat) : Int)) (hl : lessK sec (nearF n d y).2.1 y best over = true) :
    MinK sec n d (k + 1) (nearF n d y).2.1 y ∧ ∀ q : Int, 1 ≤ q → q < y → lessK sec (nearF n d y).2.1 y (nearF n d q).2.1 q = true := by
  obtain ⟨h1, h2, h3, h4⟩ := h
  have hall : ∀ q : Int, 1 ≤ q → q < y → lessK sec (nearF n d y).2.1 y (nearF n d q).2.1 q = true := by
    intro q a b
    have g := h4 q a (by omega)
    cases sec with
    | true => simp only [lessK, if_true, decide_eq_true_eq, decide_eq_false_iff_not] at *; omega
    | false =>
      simp only [lessK, Bool.false_eq_true, if_false, decide_eq_true_eq, decide_eq_false_iff_not] at *
      have k1 := Int.mul_lt_mul_of_pos_right hl (show 0 < q by omega)
      have k2 := Int.mul_le_mul_of_nonneg_right (show best * q ≤ (nearF n d q).2.1 * over by omega) (show 0 ≤ y by omega)
      refine lt_of_mul (b := over) (by omega) ?_
      have e1 : (nearF n d y).2.1 * q * over = (nearF n d y).2.1 * over * q := by grind
      have e2 : (nearF n d q).2.1 * y * over = (nearF n d q).2.1 * over * y := by grind
      have e3 : best * q * y = best * y * q := by grind
      omega
  refine ⟨⟨by omega, by omega, rfl, fun q a b => ?_⟩, hall⟩
  rcases Int.lt_or_le q y with c | c
  · have g := hall q a c
    cases sec with
    | true => simp only [lessK, if_true, decide_eq_true_eq, decide_eq_false_iff_not] at *; omega
    | false => simp only [lessK, Bool.false_eq_true, if_false, decide_eq_true_eq, decide_eq_false_iff_not] at *; omega
  · obtain rfl : q = y := by omega
    cases sec <;> simp [lessK]
theorem minK_no {sec : Bool} {n d best over : Int} {k : Nat} (h : MinK sec n d k best over) {y : Int} (hy : y = ((k + 1 : Nat) : Int)) (hl : lessK sec (nearF n d y).2.1 y best over = false) :
    MinK sec n d (k + 1) best over := by
  obtain ⟨h1, h2, h3, h4⟩ := h
  refine ⟨h1, by omega, h3, fun q a b => ?_⟩
  rcases Int.lt_or_le q y with c | c
  · exact h4 q a (by omega)
  · obtain rfl : q = y := by omega
    exact hl
theorem tgt_first {sec : Bool} {n d : Int} (hd : 0 < d) (hg : gcdI n d = 1) : tgt sec n d 1 = if (nearF n d 1).2.2 then [((nearF n d 1).1, 1)] else [] := by
  have g := best_iff sec (y := 1) hd hg (by omega) (by omega) (nearF n d 1).1
  show [] ++ (if _ then _ else _) = _
  rw [List.nil_append]
  show (if bestK sec n d (nearF n d 1).1 1 = true then [((nearF n d 1).1, (1 : Int))] else []) = _
  cases ho : (nearF n d 1).2.2 with
  | true => rw [if_pos (g.2 ⟨rfl, ho, fun q a b => by omega⟩)]; rfl
  | false => rw [if_neg (fun h => by have := (g.1 h).2.1; rw [ho] at this; cases this)]; rfl
theorem tgt_less {sec : Bool} {n d best over : Int} {k : Nat} (hd : 0 < d) (hg : gcdI n d = 1) (hk : ((k + 1 : Nat) : Int) ≤ d) (h : MinK sec n d k best over) {y : Int} (hy : y = ((k + 1 : Nat) : Int)) (hl : lessK sec (nearF n d y).2.1 y best over = true) :
    tgt sec n d (k + 1) = if (nearF n d y).2.2 then tgt sec n d k ++ [((nearF n d y).1, y)] else tgt sec n d k := by
  have g := best_iff sec (y := y) hd hg (by omega) (by omega) (nearF n d y).1
  cases ho : (nearF n d y).2.2 with
  | true => rw [tgt_yes hd hg hy (g.2 ⟨rfl, ho, (minK_yes hd h hy hl).2⟩)]; rfl
  | false =>
    subst hy
    show tgt sec n d k ++ (if _ then _ else _) = _
    rw [if_neg (fun h => by have := (g.1 h).2.1; rw [ho] at this; cases this), List.append_nil]; rfl
theorem tgt_not {sec : Bool} {n d best over : Int} {k : Nat} (hd : 0 < d) (hg : gcdI n d = 1) (hk : ((k + 1 : Nat) : Int) ≤ d) (h : MinK sec n d k best over) {y : Int} (hy : y = ((k + 1 : Nat) : Int)) (hl : lessK sec (nearF n d y).2.1 y best over = false) :
    tgt sec n d (k + 1) = tgt sec n d k := by
  refine tgt_no (fun x => ?_)
  cases hb : bestK sec n d x ((k + 1 : Nat) : Int) with
  | false => rfl
  | true =>
    subst hy
    have g := ((best_iff sec hd hg (by omega) hk x).1 hb).2.2 over h.1 (by have := h.2.1; omega)
    rw [← h.2.2.1] at g
    rw [hl] at g; cases g

end Go.Proofs.Ytgmofofokhlhnaa
