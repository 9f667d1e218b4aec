/- FnLeastDens: plain facts. Each theorem names its conditions. -/
import Derived.Test.YtgmofofokhlhnaaLeast
import Derived.Test.YtgmofofokhlhnaaOk
namespace Go.Proofs.Ytgmofofokhlhnaa
open Go.RowKit
set_option linter.unusedVariables false
set_option linter.unusedSimpArgs false

theorem ok_make {n d : Int} (hg : gcdI n d = 1) (hd : 1 ≤ d ∧ d ≤ 1000000000) (hn : -1000000000 ≤ n ∧ n ≤ 1000000000) : okF n d = true := okF_iff.2 ⟨hd, hn, hg⟩
theorem gcd_det {a b x y : Int} (hb : 1 ≤ b) (h : x * b - a * y = 1 ∨ a * y - x * b = 1) : gcdI a b = 1 := by
  have g1 := gcdI_dvd_left a b
  have g2 := gcdI_dvd_right a b
  have e1 : gcdI a b ∣ x * b := Int.dvd_trans g2 (Int.dvd_mul_left _ _)
  have e2 : gcdI a b ∣ a * y := Int.dvd_trans g1 (Int.dvd_mul_right _ _)
  have e3 : gcdI a b ∣ 1 := by
    rcases h with h | h
    · rw [← h]; exact Int.dvd_sub e1 e2
    · rw [← h]; exact Int.dvd_sub e2 e1
  exact Int.eq_one_of_dvd_one (by unfold gcdI; omega) e3
theorem sides_gcd {n d m : Int} (ok : okF n d = true) (h1 : 1 ≤ m) : gcdI (sidesF n d m).1.1 (sidesF n d m).1.2 = 1 ∧ gcdI (sidesF n d m).2.1 (sidesF n d m).2.2 = 1 := by
  have hok := okF_bd ok
  by_cases hm : d ≤ m
  · rw [sidesF_own hm]; exact ⟨hok.2.2.2.2, hok.2.2.2.2⟩
  · obtain ⟨a, b, c, e, hs, x, hx, o1, o2⟩ := second_sides hok.2.2.2.2 h1 (show m < d by omega)
    rw [hs]
    exact ⟨gcd_det x.hb (.inl x.det), gcd_det x.hd (x := a) (y := b) (.inr x.det)⟩
theorem nearest_gcd {n d m : Int} (ok : okF n d = true) (h1 : 1 ≤ m) : gcdI (nearestF n d m).1 (nearestF n d m).2 = 1 := by
  have h := sides_gcd ok h1
  generalize hs : sidesF n d m = s at h
  obtain ⟨⟨a, b⟩, ⟨c, e⟩⟩ := s
  rw [nearestF_eq hs]
  split
  · exact h.2
  · exact h.1
theorem least_is {n d num den : Int} (hd : 1 ≤ d) (hnum : 0 ≤ num) (hden : 0 ≤ den) : ∃ q, Least n d num den q ∧ q ≤ d := by
  have hP : 1 ≤ (d.toNat : Int) ∧ (nearF n d (d.toNat : Int)).2.1 * den ≤ num * d * (d.toNat : Int) := by
    have e : (d.toNat : Int) = d := by omega
    rw [e]
    refine ⟨hd, ?_⟩
    rw [near_own (by omega), Int.zero_mul]
    exact Int.mul_nonneg (Int.mul_nonneg hnum (by omega)) (by omega)
  have key : ∀ m : Nat, (1 ≤ (m : Int) ∧ (nearF n d (m : Int)).2.1 * den ≤ num * d * (m : Int)) → ∃ p : Nat, p ≤ m ∧ (1 ≤ (p : Int) ∧ (nearF n d (p : Int)).2.1 * den ≤ num * d * (p : Int)) ∧ ∀ j : Nat, j < p → ¬ (1 ≤ (j : Int) ∧ (nearF n d (j : Int)).2.1 * den ≤ num * d * (j : Int)) := by
    intro m
    induction m using Nat.strongRecOn with
    | ind m ih =>
      intro h
      by_cases hx : ∃ j : Nat, j < m ∧ (1 ≤ (j : Int) ∧ (nearF n d (j : Int)).2.1 * den ≤ num * d * (j : Int))
      · obtain ⟨j, hj, hp⟩ := hx
        obtain ⟨p, h1, h2, h3⟩ := ih j hj hp
        exact ⟨p, by omega, h2, h3⟩
      · exact ⟨m, Nat.le_refl _, h, fun j hj hp => hx ⟨j, hj, hp⟩⟩
  obtain ⟨p, p1, p2, p3⟩ := key _ hP
  refine ⟨p, ⟨p2.1, p2.2, fun q q1 q2 => ?_⟩, by omega⟩
  obtain ⟨j, rfl⟩ := Int.eq_ofNat_of_zero_le (show 0 ≤ q by omega)
  have := p3 j (by omega)
  refine Classical.byContradiction fun hc => this ⟨q1, by omega⟩
/-- What LeastDenominator tells of a small fraction. -/
structure Ldens (n d num den P Q u q : Int) : Prop where
  r : leastF n d num den = ((P, Q), 0)
  ok : okF P Q = true
  q1 : 1 ≤ Q
  q2 : Q ≤ d
  p1 : -1000001 ≤ P
  p2 : P ≤ 1000001
  near : ab (n * Q - P * d) * den ≤ num * d * Q
  next : Q = 1 ∨ (nearFrF n d (Q - 1) = ((u, q), 0) ∧ 1 ≤ q ∧ q ≤ Q - 1 ∧ -1000001 ≤ u ∧ u ≤ 1000001 ∧ num * d * q < ab (n * q - u * d) * den)
theorem ldens_of {n d num den : Int} (ok : okF n d = true) (hn : -2000 ≤ n ∧ n ≤ 2000) (hd : 1 ≤ d ∧ d ≤ 2000) (hnum : 0 ≤ num ∧ num ≤ 5) (hden : 1 ≤ den ∧ den ≤ 2551) : ∃ P Q u q, Ldens n d num den P Q u q := by
  obtain ⟨Q, hL, hQd⟩ := least_is (n := n) (d := d) (num := num) (den := den) hd.1 hnum.1 (by omega)
  have e := leastQ_eq hL
  have hc : leastC n d num den = 0 := by
    have a1 : inB num 0 1000000 = true := inB_iff.2 (by omega)
    have a2 : inB den 1 1000000 = true := inB_iff.2 (by omega)
    have a3 : smP (n, d) = true := by
      have : inB n (-1000000) 1000000 = true := inB_iff.2 (by omega)
      simp [smP, this]; omega
    simp [leastC, bestC, okP, ok, a1, a2, a3]
  have hnb := nearest_bd ok hL.1 hQd (by omega)
  have hln := least_nearest ok hL.1 hden.1 hL.2.1 hL.2.2
  have hg := nearest_gcd ok hL.1
  rw [hln] at hnb hg
  have dd := near_dist (n := n) (d := d) (by omega) Q
  refine ⟨(nearF n d Q).1, Q, (nearestF n d (Q - 1)).1, (nearestF n d (Q - 1)).2, ?_, ok_make hg (by omega) (by omega), hL.1, hQd, hnb.2.1, hnb.2.2, ?_, ?_⟩
  · rw [leastF, if_pos hc, e]
  · rw [dd.1]; exact hL.2.1
  · by_cases h1 : Q = 1
    · exact .inl h1
    · refine .inr ?_
      have hb := nearest_bd ok (show 1 ≤ Q - 1 by omega) (by omega) (by omega)
      have mc : mostC n d (Q - 1) = 0 := by
        have a1 : inB (Q - 1) 1 1000000 = true := inB_iff.2 (by omega)
        have a3 : smP (n, d) = true := by
          have : inB n (-1000000) 1000000 = true := inB_iff.2 (by omega)
          simp [smP, this]; omega
        simp [mostC, bestC, okP, ok, a1, a3]
      refine ⟨by rw [nearFrF, if_pos mc], hb.1.1, hb.1.2, hb.2.1, hb.2.2, ?_⟩
      have hlt := hL.2.2 _ hb.1.1 (show (nearestF n d (Q - 1)).2 < Q by omega)
      have nl := near_least (n := n) (d := d) (by omega) (nearestF n d (Q - 1)).2 (nearestF n d (Q - 1)).1
      have := Int.mul_le_mul_of_nonneg_right nl (show 0 ≤ den by omega)
      omega
theorem mulbd {x y X Y : Int} (h1 : -X ≤ x ∧ x ≤ X) (h2 : 0 ≤ y ∧ y ≤ Y) : -(X * Y) ≤ x * y ∧ x * y ≤ X * Y := by
  have a1 := Int.mul_le_mul_of_nonneg_left h2.2 (show 0 ≤ X by omega)
  have a2 := Int.mul_le_mul_of_nonneg_right h1.1 h2.1
  have a3 := Int.mul_le_mul_of_nonneg_right h1.2 h2.1
  rw [Int.neg_mul] at a2
  omega
theorem max_ab (x : Int) : max x (-x) = ab x := by unfold ab; omega
end Go.Proofs.Ytgmofofokhlhnaa
