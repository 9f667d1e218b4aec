/- Best approximations: the way towards a fraction on which all of them lie. Plain; each theorem names its conditions. -/
import Derived.Test.YtgmofofokhlhnaaBsM
namespace Go.Proofs.Ytgmofofokhlhnaa
set_option linter.unusedVariables false
set_option linter.unusedSimpArgs false

/-- a/b on one side of N/D (s = 1: below it, or it), its neighbour c/e on the other one. -/
structure Way (s N D a b c e : Int) : Prop where
  s1 : s = 1 ∨ s = -1
  hb : 1 ≤ b
  he : 1 ≤ e
  det : s * (c * b - a * e) = 1
  x0 : 0 ≤ s * (N * b - a * D)
  y0 : 0 < s * (c * D - N * e)

theorem Way.den {s N D a b c e : Int} (h : Way s N D a b c e) : D = s * (c * D - N * e) * b + s * (N * b - a * D) * e := by
  have e1 : s * (c * D - N * e) * b + s * (N * b - a * D) * e = s * (c * b - a * e) * D := by grind
  rw [e1, h.det, Int.one_mul]
theorem Way.off {s N D a b c e : Int} (h : Way s N D a b c e) (k : Int) : s * (N * (b + k * e) - (a + k * c) * D) = s * (N * b - a * D) - k * (s * (c * D - N * e)) := by grind
theorem Way.det' {s N D a b c e : Int} (h : Way s N D a b c e) (k : Int) : s * (c * (b + k * e) - (a + k * c) * e) = 1 := by have := h.det; grind
theorem Way.node {s N D a b c e k : Int} (h : Way s N D a b c e) (hk : 0 ≤ k) (hx : k * (s * (c * D - N * e)) ≤ s * (N * b - a * D)) : Way s N D (a + k * c) (b + k * e) c e :=
  ⟨h.s1, by have := Int.mul_nonneg hk (show 0 ≤ e by have := h.he; omega); have := h.hb; omega, h.he, h.det' k, by rw [h.off k]; omega, h.y0⟩
theorem Way.sp {s N D a b c e q : Int} (h : Way s N D a b c e) (hx : 0 < s * (N * b - a * D)) (hb : b ≤ q) (he : e ≤ q) :
    (SP N D q a b c e ∨ SP N D q c e a b) := by
  have hd := h.den
  have h1 := h.hb; have h2 := h.he; have h3 := h.y0; have dt := h.det
  have p1 := Int.mul_le_mul_of_nonneg_left h1 (show 0 ≤ s * (c * D - N * e) by omega)
  have p2 := Int.mul_le_mul_of_nonneg_left h2 (show 0 ≤ s * (N * b - a * D) by omega)
  rcases h.s1 with rfl | rfl
  · left
    exact ⟨h1, h2, hb, he, by omega, by omega, by omega, by omega, by omega⟩
  · right
    exact ⟨h2, h1, he, hb, by omega, by omega, by omega, by omega, by omega⟩
theorem Way.low {s N D a b c e q : Int} (h : Way s N D a b c e) (hx : 0 < s * (N * b - a * D)) (hq : q < b + e) : q < D := by
  have hd := h.den
  have h1 := h.hb; have h2 := h.he; have h3 := h.y0
  have p1 := Int.mul_le_mul_of_nonneg_right (show 1 ≤ s * (c * D - N * e) by omega) (show 0 ≤ b by omega)
  have p2 := Int.mul_le_mul_of_nonneg_right (show 1 ≤ s * (N * b - a * D) by omega) (show 0 ≤ e by omega)
  omega
theorem Way.at {sec : Bool} {s N D a b c e q x : Int} (h : Way s N D a b c e) (hx : 0 < s * (N * b - a * D)) (hb : b ≤ q) (he : e ≤ q) (hq : q < b + e) (hB : bestK sec N D x q = true) : (x = a ∧ q = b) ∨ (x = c ∧ q = e) := by
  have hl := h.low hx hq
  have h1 := h.hb
  rcases h.sp hx hb he with g | g
  · exact best_at sec (by omega) g hl hq hB
  · exact (best_at sec (by omega) g hl (by omega) hB).symm
/-- Between two that follow each other on the way: none. -/
theorem Way.none {sec : Bool} {s N D a b c e q : Int} (h : Way s N D a b c e) (hx : 0 < s * (N * b - a * D)) (hb : b < q) (he : e < q) (hq : q < b + e) (x : Int) : bestK sec N D x q = false := by
  cases hB : bestK sec N D x q with
  | false => rfl
  | true => rcases h.at hx (by omega) (by omega) hq hB with g | g <;> omega
/-- The first half of the way: none. -/
theorem Way.skip {sec : Bool} {s N D a b c e k : Int} (hg : gcdI N D = 1) (h : Way s N D a b c e) (hbe : b ≤ e) (hk : 1 ≤ k) (hx : (2 * k + 3) * (s * (c * D - N * e)) ≤ s * (N * b - a * D)) (x : Int) : bestK sec N D x (b + k * e) = false := by
  have h1 := h.hb; have h2 := h.he; have h3 := h.y0; have hof := h.off k; have ss := h.s1
  have hke := Int.mul_le_mul_of_nonneg_right hk (show 0 ≤ e by omega)
  have hkY := Int.mul_nonneg (show 0 ≤ k by omega) (show 0 ≤ s * (c * D - N * e) by omega)
  have e0 : (2 * k + 3) * (s * (c * D - N * e)) = k * (s * (c * D - N * e)) + k * (s * (c * D - N * e)) + 3 * (s * (c * D - N * e)) := by grind
  have hn := h.node (k := k) (by omega) (by omega)
  cases hB : bestK sec N D x (b + k * e) with
  | false => rfl
  | true =>
    have hl := hn.low (q := b + k * e) (by omega) (by omega)
    rcases hn.at (by omega) (Int.le_refl _) (by omega) (by omega) hB with ⟨rfl, _⟩ | ⟨_, hq⟩
    · have g := (best_iff sec (show 0 < D by omega) hg (by omega) (by omega) _).1 hB
      have gl := g.2.2 e h2 (by omega)
      have gd := (near_dist (n := N) (show 0 < D by omega) (b + k * e)).1
      have gn := near_least (n := N) (show 0 < D by omega) e c
      have ge : ab (N * e - c * D) = s * (c * D - N * e) := by
        rcases ss with rfl | rfl
        · rw [ab_neg (by omega)]; omega
        · rw [ab_pos (by omega)]; omega
      rw [← g.1] at gd
      have gx : ab (N * (b + k * e) - (a + k * c) * D) = s * (N * b - a * D) - k * (s * (c * D - N * e)) := by
        rw [← hof]
        rcases ss with rfl | rfl
        · rw [ab_pos (by omega)]; omega
        · rw [ab_neg (by omega)]; omega
      rw [gx] at gd
      rw [ge] at gn
      rw [← gd] at gl
      generalize s * (N * b - a * D) = X at *
      generalize s * (c * D - N * e) = Y at *
      cases sec with
      | true => simp only [lessK, if_true, decide_eq_true_eq] at gl; omega
      | false =>
        simp only [lessK, Bool.false_eq_true, if_false, decide_eq_true_eq] at gl
        have q1 := Int.mul_le_mul_of_nonneg_right gn (show 0 ≤ b + k * e by omega)
        have q2 := Int.mul_le_mul_of_nonneg_right (show k * Y + 3 * Y ≤ X - k * Y by omega) (show 0 ≤ e by omega)
        have q3 : (k * Y + 3 * Y) * e = k * Y * e + 3 * (Y * e) := by grind
        have q4 : Y * (b + k * e) = Y * b + k * Y * e := by grind
        have q5 := Int.mul_le_mul_of_nonneg_left hbe (show 0 ≤ Y by omega)
        have q6 := mul_pos' h3 (show 0 < e by omega)
        omega
    · omega
/-- Where nothing is left, the fraction itself is reached. -/
theorem Way.own {s N D a b c e : Int} (hg : gcdI N D = 1) (hD : 0 < D) (h : Way s N D a b c e) (hx : s * (N * b - a * D) = 0) : a = N ∧ b = D := by
  have hd := h.den
  have h1 := h.hb; have h3 := h.y0
  rw [hx, Int.zero_mul, Int.add_zero] at hd
  have h0 : N * b - a * D = 0 := by rcases h.s1 with rfl | rfl <;> omega
  have hp := Int.mul_le_mul_of_nonneg_right (show 1 ≤ s * (c * D - N * e) by omega) (show 0 ≤ b by omega)
  have hbD : b = D := by
    rcases Int.lt_or_le b D with g | g
    · exact absurd h0 (not_own hg h1 g)
    · omega
  subst hbD
  refine ⟨?_, rfl⟩
  exact Int.eq_of_mul_eq_mul_right (a := b) (by omega) (by omega)

theorem tgtI_flat {sec : Bool} {n d j k : Int} (hj : 0 ≤ j) (h : j ≤ k) (hall : ∀ q : Int, j < q → q ≤ k → ∀ x, bestK sec n d x q = false) : tgt sec n d k.toNat = tgt sec n d j.toNat :=
  tgt_flat (by omega) (fun q a b => hall q (by omega) (by omega))
/-- The run begins behind its first half. -/
theorem Way.start {sec : Bool} {s N D a b c e k0 : Int} (hg : gcdI N D = 1) (h : Way s N D a b c e) (hbe : b ≤ e) (hk1 : 1 ≤ k0) (hk : k0 = 1 ∨ (2 * k0 + 2) * (s * (c * D - N * e)) ≤ s * (N * b - a * D)) :
    tgt sec N D (b + k0 * e - 1).toNat = tgt sec N D (b + e - 1).toNat := by
  have h1 := h.hb; have h2 := h.he; have h3 := h.y0
  have hke := Int.mul_le_mul_of_nonneg_right hk1 (show 0 ≤ e by omega)
  rcases hk with rfl | hk
  · rw [Int.one_mul]
  · refine tgtI_flat (by omega) (by omega) (fun q g1 g2 x => ?_)
    have hd := Int.mul_ediv_add_emod (q - b) e
    have r1 := Int.emod_nonneg (q - b) (show e ≠ 0 by omega)
    have r2 := Int.emod_lt_of_pos (q - b) (show 0 < e by omega)
    have hkk : 1 ≤ (q - b) / e := Int.le_ediv_of_mul_le (by omega) (by omega)
    have hkk2 : (q - b) / e < k0 := Int.ediv_lt_of_lt_mul (by omega) (by omega)
    have hcm := Int.mul_comm e ((q - b) / e)
    generalize (q - b) / e = k at *
    generalize (q - b) % e = r at *
    have hYk := Int.mul_le_mul_of_nonneg_right (show 2 * k + 4 ≤ 2 * k0 + 2 by omega) (show 0 ≤ s * (c * D - N * e) by omega)
    have e1 : (2 * k + 4) * (s * (c * D - N * e)) = (2 * k + 3) * (s * (c * D - N * e)) + s * (c * D - N * e) := by grind
    have e2 : (2 * k + 3) * (s * (c * D - N * e)) = k * (s * (c * D - N * e)) + (k + 3) * (s * (c * D - N * e)) := by grind
    have p := mul_pos' (show 0 < k + 3 by omega) h3
    have hke2 := Int.mul_le_mul_of_nonneg_right hkk (show 0 ≤ e by omega)
    rcases Int.lt_or_le 0 r with g | g
    · have hn := h.node (k := k) (by omega) (by omega)
      have hof := h.off k
      exact hn.none (by omega) (by omega) (by omega) (by omega) x
    · have hq : q = b + k * e := by omega
      rw [hq]
      exact h.skip hg hbe hkk (by omega) x
/-- One step of the run. -/
theorem Way.step {sec : Bool} {s N D a b c e k : Int} (hg : gcdI N D = 1) (hD : 0 < D) (h : Way s N D a b c e) (hk1 : 1 ≤ k) (hk : k * (s * (c * D - N * e)) ≤ s * (N * b - a * D)) :
    tgt sec N D (b + (k + 1) * e - 1).toNat = tgt sec N D (b + k * e - 1).toNat ++ (if bestK sec N D (a + k * c) (b + k * e) then [(a + k * c, b + k * e)] else []) := by
  have h1 := h.hb; have h2 := h.he; have h3 := h.y0
  have hke := Int.mul_le_mul_of_nonneg_right hk1 (show 0 ≤ e by omega)
  have hn := h.node (k := k) (by omega) hk
  have hof := h.off k
  have e1 : b + (k + 1) * e = b + k * e + e := by grind
  rw [e1]
  have hx0 := hn.x0
  have hye : e < b + k * e := by omega
  have hown := hn.own hg hD
  have hat := fun x => hn.at (sec := sec) (x := x) (q := b + k * e)
  have hnn := fun q => hn.none (sec := sec) (q := q)
  generalize a + k * c = x at *
  generalize b + k * e = y at *
  have hflat : tgt sec N D (y + e - 1).toNat = tgt sec N D y.toNat := by
    refine tgtI_flat (by omega) (by omega) (fun q a b z => ?_)
    rcases Int.lt_or_le 0 (s * (N * y - x * D)) with g | g
    · exact hnn q g (by omega) (by omega) (by omega) z
    · have := hown (by omega)
      exact best_far sec (by omega)
  rw [hflat]
  have hy : y.toNat = (y - 1).toNat + 1 := by omega
  cases hB : bestK sec N D x y with
  | true => rw [hy, tgt_yes hD hg (by omega) hB]; rfl
  | false =>
    rw [hy, tgt_no (fun z => ?_)]
    · simp
    · rw [show (((y - 1).toNat + 1 : Nat) : Int) = y by omega]
      cases hZ : bestK sec N D z y with
      | false => rfl
      | true =>
        rcases Int.lt_or_le 0 (s * (N * y - x * D)) with g | g
        · rcases hat z g (Int.le_refl _) (by omega) (by omega) hZ with ⟨rfl, _⟩ | ⟨_, q⟩
          · rw [hB] at hZ; cases hZ
          · omega
        · obtain ⟨rfl, rfl⟩ := hown (by omega)
          rw [best_own] at hB hZ
          simp at hB

/-- The two neighbours on the way. -/
structure Adj (N D a b c e : Int) : Prop where
  hb : 1 ≤ b
  he : 1 ≤ e
  det : c * b - a * e = 1
  lo : 0 ≤ N * b - a * D
  hi : 0 ≤ c * D - N * e
theorem Adj.lowWay {N D a b c e : Int} (h : Adj N D a b c e) (hy : 0 < c * D - N * e) : Way 1 N D a b c e := ⟨.inl rfl, h.hb, h.he, by have := h.det; omega, by have := h.lo; omega, by omega⟩
theorem Adj.highWay {N D a b c e : Int} (h : Adj N D a b c e) (hx : 0 < N * b - a * D) : Way (-1) N D c e a b := ⟨.inr rfl, h.he, h.hb, by have := h.det; grind, by have := h.hi; omega, by omega⟩
theorem Adj.den {N D a b c e : Int} (h : Adj N D a b c e) : D = (c * D - N * e) * b + (N * b - a * D) * e := by
  have e1 : (c * D - N * e) * b + (N * b - a * D) * e = (c * b - a * e) * D := by grind
  rw [e1, h.det, Int.one_mul]
theorem Adj.ownLow {N D a b c e : Int} (hg : gcdI N D = 1) (hD : 0 < D) (h : Adj N D a b c e) (hx : N * b - a * D = 0) : a = N ∧ b = D := by
  have hd := h.den
  rw [hx, Int.zero_mul, Int.add_zero] at hd
  have : 0 < c * D - N * e := by
    rcases Int.lt_or_le 0 (c * D - N * e) with g | g
    · exact g
    · have h0 := h.hi
      rw [show c * D - N * e = 0 by omega, Int.zero_mul] at hd
      omega
  exact (h.lowWay this).own hg hD (by omega)
theorem Adj.ownHigh {N D a b c e : Int} (hg : gcdI N D = 1) (hD : 0 < D) (h : Adj N D a b c e) (hy : c * D - N * e = 0) : c = N ∧ e = D := by
  have hd := h.den
  rw [hy, Int.zero_mul, Int.zero_add] at hd
  have : 0 < N * b - a * D := by
    rcases Int.lt_or_le 0 (N * b - a * D) with g | g
    · exact g
    · have h0 := h.lo
      rw [show N * b - a * D = 0 by omega, Int.zero_mul] at hd
      omega
  exact (h.highWay this).own hg hD (by omega)
theorem Adj.start {N D : Int} (hD : 0 < D) : Adj N D (N / D) 1 (N / D + 1) 1 := by
  have e := Int.mul_ediv_add_emod N D
  have r1 := Int.emod_nonneg N (show D ≠ 0 by omega)
  have r2 := Int.emod_lt_of_pos N hD
  have c1 : N / D * D = D * (N / D) := Int.mul_comm _ _
  have c2 : (N / D + 1) * D = D * (N / D) + D := by grind
  exact ⟨by omega, by omega, by omega, by omega, by omega⟩
theorem Adj.runLow {N D a b c e k : Int} (h : Adj N D a b c e) (hk : 0 ≤ k) (hx : k * (c * D - N * e) ≤ N * b - a * D) : Adj N D (a + k * c) (b + k * e) c e := by
  have h1 := Int.mul_nonneg hk (show 0 ≤ e by have := h.he; omega)
  have e1 : N * (b + k * e) - (a + k * c) * D = (N * b - a * D) - k * (c * D - N * e) := by grind
  exact ⟨by have := h.hb; omega, h.he, by have := h.det; grind, by omega, h.hi⟩
theorem Adj.runHigh {N D a b c e k : Int} (h : Adj N D a b c e) (hk : 0 ≤ k) (hx : k * (N * b - a * D) ≤ c * D - N * e) : Adj N D a b (c + k * a) (e + k * b) := by
  have h1 := Int.mul_nonneg hk (show 0 ≤ b by have := h.hb; omega)
  have e1 : (c + k * a) * D - N * (e + k * b) = (c * D - N * e) - k * (N * b - a * D) := by grind
  exact ⟨h.hb, by have := h.he; omega, by have := h.det; grind, h.lo, by omega⟩
/-- The end of the way: all are there. -/
theorem Adj.done {sec : Bool} {N D a b c e m : Int} (hg : gcdI N D = 1) (hD : 0 < D) (h : Adj N D a b c e) (hb : b ≤ m) (he : e ≤ m) (hend : (a = N ∧ b = D) ∨ (c = N ∧ e = D) ∨ m < b + e) :
    tgt sec N D (b + e - 1).toNat = tgt sec N D (min m D).toNat := by
  have h1 := h.hb; have h2 := h.he
  have far : ∀ j k : Int, D ≤ j → j ≤ k → tgt sec N D k.toNat = tgt sec N D j.toNat := fun j k hj hk => tgtI_flat (by omega) hk (fun q a _ x => best_far sec (by omega))
  by_cases g1 : a = N ∧ b = D
  · rw [far D (b + e - 1) (Int.le_refl _) (by omega), show min m D = D by omega]
  · by_cases g2 : c = N ∧ e = D
    · rw [far D (b + e - 1) (Int.le_refl _) (by omega), show min m D = D by omega]
    · have hm : m < b + e := by
        rcases hend with q | q | q
        · exact absurd q g1
        · exact absurd q g2
        · exact q
      have hX : 0 < N * b - a * D := by
        rcases Int.lt_or_le 0 (N * b - a * D) with g | g
        · exact g
        · exact absurd (h.ownLow hg hD (by have := h.lo; omega)) g1
      have hY : 0 < c * D - N * e := by
        rcases Int.lt_or_le 0 (c * D - N * e) with g | g
        · exact g
        · exact absurd (h.ownHigh hg hD (by have := h.hi; omega)) g2
      have hw := h.lowWay hY
      have hl := hw.low (q := b + e - 1) (by omega) (by omega)
      rw [show min m D = m by omega]
      refine tgtI_flat (by omega) (by omega) (fun q a b x => ?_)
      exact hw.none (by omega) (by omega) (by omega) (by omega) x
theorem Adj.early {sec : Bool} {N D a b c e m : Int} (hg : gcdI N D = 1) (hD : 0 < D) (h : Adj N D a b c e) (g1 : ¬ (a = N ∧ b = D)) (g2 : ¬ (c = N ∧ e = D)) (hm : b + e ≤ m) :
    (tgt sec N D (b + e - 1).toNat).length ≤ (tgt sec N D (min m D).toNat).length := by
  have hX : 0 < N * b - a * D := by
    rcases Int.lt_or_le 0 (N * b - a * D) with g | g
    · exact g
    · exact absurd (h.ownLow hg hD (by have := h.lo; omega)) g1
  have hY : 0 < c * D - N * e := by
    rcases Int.lt_or_le 0 (c * D - N * e) with g | g
    · exact g
    · exact absurd (h.ownHigh hg hD (by have := h.hi; omega)) g2
  have hl := (h.lowWay hY).low (q := b + e - 1) (by omega) (by omega)
  exact tgt_mono sec N D (by omega)
/-- Numerators on the way are no greater than the fraction's own. -/
theorem way_num {N D x q L : Int} (hN : -L ≤ N ∧ N ≤ L) (hN0 : N ≠ 0) (h1 : N * q - D ≤ x * D) (h2 : x * D ≤ N * q + D) (q1 : 1 ≤ q) (q2 : q < D) : -L ≤ x ∧ x ≤ L := by
  rcases Int.lt_or_gt_of_ne hN0 with g | g
  · have m1 := Int.mul_le_mul_of_nonpos_left (a := N) (by omega) (show q ≤ D - 1 by omega)
    have m2 := Int.mul_le_mul_of_nonpos_left (a := N) (by omega) q1
    have e1 : N * (D - 1) = N * D - N := by grind
    have u : x ≤ 0 := by
      rcases Int.lt_or_le 0 x with k | k
      · have := Int.mul_le_mul_of_nonneg_right (show 1 ≤ x by omega) (show 0 ≤ D by omega); omega
      · exact k
    have l : N ≤ x := by
      rcases Int.lt_or_le x N with k | k
      · have := Int.mul_le_mul_of_nonneg_right (show x ≤ N - 1 by omega) (show 0 ≤ D by omega)
        have e2 : (N - 1) * D = N * D - D := by grind
        omega
      · exact k
    omega
  · have m1 := Int.mul_le_mul_of_nonneg_left (show q ≤ D - 1 by omega) (show 0 ≤ N by omega)
    have m2 := Int.mul_le_mul_of_nonneg_left q1 (show 0 ≤ N by omega)
    have e1 : N * (D - 1) = N * D - N := by grind
    have u : 0 ≤ x := by
      rcases Int.lt_or_le x 0 with k | k
      · have := Int.mul_le_mul_of_nonneg_right (show x ≤ -1 by omega) (show 0 ≤ D by omega); omega
      · exact k
    have l : x ≤ N := by
      rcases Int.lt_or_le N x with k | k
      · have := Int.mul_le_mul_of_nonneg_right (show N + 1 ≤ x by omega) (show 0 ≤ D by omega)
        have e2 : (N + 1) * D = N * D + D := by grind
        omega
      · exact k
    omega
theorem num_ne {N D : Int} (hg : gcdI N D = 1) (hD : 1 < D) : N ≠ 0 := by
  rintro rfl
  simp [gcdI] at hg
  omega

end Go.Proofs.Ytgmofofokhlhnaa
