/- Best approximations: what the reference's run keeps. Plain; each theorem names its conditions. -/
import Derived.Test.YtgmofofokhlhnaaBsP
namespace Go.Proofs.Ytgmofofokhlhnaa
set_option linter.unusedVariables false
set_option linter.unusedSimpArgs false

/-- What is collected: all up to the denominator Q; or there are too many. -/
def Gd (sec : Bool) (n d Q : Int) (L : List (Int × Int)) (full : Bool) : Prop :=
  (full = true ∧ 200 < (tgt sec n d Q.toNat).length) ∨ (full = false ∧ L = tgt sec n d Q.toNat ∧ L.length ≤ 200)
/-- What a fraction that is seen leaves: the list, and whether it is full. -/
def seeF (b : Bool) (g : Int × Int) (L : List (Int × Int)) : List (Int × Int) × Bool := if b then (if 200 ≤ L.length then (L, true) else (L ++ [g], false)) else (L, false)
theorem see_no {b : Bool} {g : Int × Int} {L : List (Int × Int)} (h : b = false) : seeF b g L = (L, false) := by subst h; rfl
theorem see_full {b : Bool} {g : Int × Int} {L : List (Int × Int)} (h : b = true) (h2 : 200 ≤ L.length) : seeF b g L = (L, true) := by subst h; simp [seeF, h2]
theorem see_yes {b : Bool} {g : Int × Int} {L : List (Int × Int)} (h : b = true) (h2 : ¬ 200 ≤ L.length) : seeF b g L = (L ++ [g], false) := by subst h; simp [seeF]; omega
theorem gd_step {sec : Bool} {n d Q Q' : Int} {L : List (Int × Int)} {g : Int × Int} {b : Bool} (h : Gd sec n d Q L false) (ht : tgt sec n d Q'.toNat = tgt sec n d Q.toNat ++ (if b then [g] else [])) : Gd sec n d Q' (seeF b g L).1 (seeF b g L).2 := by
  rcases h with ⟨h, _⟩ | ⟨_, rfl, h2⟩
  · cases h
  · cases b with
    | false => right; exact ⟨rfl, by rw [ht]; simp [seeF], h2⟩
    | true =>
      by_cases hf : 200 ≤ (tgt sec n d Q.toNat).length
      · rw [see_full rfl hf]; left; exact ⟨rfl, by rw [ht]; simp; omega⟩
      · rw [see_yes rfl hf]; right; exact ⟨rfl, by rw [ht]; simp, by simp; omega⟩
theorem gd_eq {sec : Bool} {n d Q Q' : Int} {L : List (Int × Int)} {f : Bool} (h : Gd sec n d Q L f) (ht : tgt sec n d Q'.toNat = tgt sec n d Q.toNat) : Gd sec n d Q' L f := by
  unfold Gd; rw [ht]; exact h
theorem gd_full {sec : Bool} {n d Q Q' : Int} {L L' : List (Int × Int)} (h : Gd sec n d Q L true) (ht : (tgt sec n d Q.toNat).length ≤ (tgt sec n d Q'.toNat).length) : Gd sec n d Q' L' true := by
  rcases h with ⟨_, h⟩ | ⟨h, _⟩
  · exact .inl ⟨rfl, by omega⟩
  · cases h
theorem gd_len {sec : Bool} {n d Q : Int} {L : List (Int × Int)} (h : Gd sec n d Q L false) : L.length ≤ 200 := by
  rcases h with ⟨h, _⟩ | ⟨_, _, h⟩
  · cases h
  · exact h

theorem prod_bdK {k c : Int} (h1 : 0 ≤ k ∧ k ≤ 1000001) (h2 : -1000001 ≤ c ∧ c ≤ 1000001) : -4000000000000 ≤ k * c ∧ k * c ≤ 4000000000000 := by
  have a1 := Int.mul_le_mul_of_nonneg_left h2.1 h1.1
  have a2 := Int.mul_le_mul_of_nonneg_left h2.2 h1.1
  omega
/-- A fraction on the way is small. -/
theorem Way.small {s N D a b c e : Int} (hg : gcdI N D = 1) (hD : 0 < D) (hN : -1000000 ≤ N ∧ N ≤ 1000000) (h : Way s N D a b c e) : -1000000 ≤ a ∧ a ≤ 1000000 ∧ b ≤ D ∧ s * (N * b - a * D) ≤ D := by
  have hd := h.den
  have h1 := h.hb; have h2 := h.he; have h3 := h.y0; have h4 := h.x0
  have p1 := Int.mul_le_mul_of_nonneg_left h2 h4
  have p2 := Int.mul_le_mul_of_nonneg_left h1 (show 0 ≤ s * (c * D - N * e) by omega)
  have p3 := Int.mul_le_mul_of_nonneg_right (show 1 ≤ s * (c * D - N * e) by omega) (show 0 ≤ b by omega)
  have p4 := Int.mul_nonneg h4 (show 0 ≤ e by omega)
  rcases Int.lt_or_le 0 (s * (N * b - a * D)) with g | g
  · have hl := h.low (q := b) g (by omega)
    have hn := way_num (N := N) (D := D) (x := a) (q := b) (L := 1000000) hN (num_ne hg (by omega)) (by rcases h.s1 with rfl | rfl <;> omega) (by rcases h.s1 with rfl | rfl <;> omega) h1 hl
    exact ⟨hn.1, hn.2, by omega, by omega⟩
  · obtain ⟨rfl, rfl⟩ := h.own hg hD (by omega)
    exact ⟨hN.1, hN.2, Int.le_refl _, by omega⟩
theorem Way.sm2 {s N D a b c e k m : Int} (ok : okF N D = true) (hN : -1000000 ≤ N ∧ N ≤ 1000000) (hD2 : D ≤ 1000000) (h : Way s N D a b c e) (hk : 0 ≤ k) (hx : k * (s * (c * D - N * e)) ≤ s * (N * b - a * D)) : Sm2 N D (a + k * c) (b + k * e) := by
  have hok := okF_bd ok
  have hn := h.node hk hx
  have g := hn.small hok.2.2.2.2 (by omega) hN
  have := hn.hb
  exact ⟨hN.1, hN.2, hok.1, hD2, g.1, g.2.1, hn.hb, by omega, hok.2.2.2.2, ok⟩
/-- The other end of the way: its numerator. -/
theorem Way.by {s N D a b c e : Int} (hg : gcdI N D = 1) (hD : 0 < D) (hN : -1000000 ≤ N ∧ N ≤ 1000000) (h : Way s N D a b c e) (hx : 0 < s * (N * b - a * D)) : -1000000 ≤ c ∧ c ≤ 1000000 ∧ e ≤ D ∧ s * (c * D - N * e) ≤ D := by
  have hw : Way (-s) N D c e a b := by
    have d1 := h.det; have d2 := h.y0
    have e1 : -s * (a * e - c * b) = s * (c * b - a * e) := by grind
    have e2 : -s * (N * e - c * D) = s * (c * D - N * e) := by grind
    have e3 : -s * (a * D - N * b) = s * (N * b - a * D) := by grind
    exact ⟨by rcases h.s1 with q | q <;> omega, h.he, h.hb, by omega, by omega, by omega⟩
  have g := hw.small hg hD hN
  have e2 : -s * (N * e - c * D) = s * (c * D - N * e) := by grind
  omega
/-- The program's quotients. -/
theorem run_k0 {X Y A : Int} (hY : 0 < Y) (hA : A = X / Y) (hX : 0 ≤ X) (hXY : Y ≤ X) : 1 ≤ A ∧ A * Y ≤ X ∧ X < (A + 1) * Y ∧ A ≤ X ∧ (max 1 (A / 2 - 1) = 1 ∨ (2 * max 1 (A / 2 - 1) + 2) * Y ≤ X) ∧ 1 ≤ max 1 (A / 2 - 1) ∧ max 1 (A / 2 - 1) ≤ A := by
  have e := Int.mul_ediv_add_emod X Y
  have r1 := Int.emod_nonneg X (show Y ≠ 0 by omega)
  have r2 := Int.emod_lt_of_pos X hY
  have c1 := Int.mul_comm Y (X / Y)
  have c2 : (A + 1) * Y = A * Y + Y := by grind
  have h1 : 1 ≤ A := by rw [hA]; exact Int.le_ediv_of_mul_le hY (by omega)
  rw [← hA] at c1
  have h2 := Int.mul_le_mul_of_nonneg_left (show 1 ≤ Y by omega) (show 0 ≤ A by omega)
  refine ⟨h1, by rw [hA] at c1 ⊢; omega, by rw [hA] at c1 c2 ⊢; omega, by rw [hA] at c1 h2 ⊢; omega, ?_, by omega, by omega⟩
  rcases (show A / 2 - 1 ≤ 1 ∨ 1 < A / 2 - 1 by omega) with q | q
  · left; omega
  · right
    rw [show max 1 (A / 2 - 1) = A / 2 - 1 by omega]
    have := Int.mul_le_mul_of_nonneg_right (show 2 * (A / 2 - 1) + 2 ≤ A by omega) (show 0 ≤ Y by omega)
    rw [hA] at c1 this ⊢
    omega
theorem run_last {A m b e l : Int} (he : 1 ≤ e) (hA : 1 ≤ A) (hm : b + e ≤ m) (hb : 1 ≤ b) (hl : l = min A ((m - b) / e)) : 1 ≤ l ∧ l ≤ A ∧ b + l * e ≤ m ∧ (l < A → m < b + l * e + e) ∧ (m - b) / e ≤ m := by
  have e1 := Int.mul_ediv_add_emod (m - b) e
  have r1 := Int.emod_nonneg (m - b) (show e ≠ 0 by omega)
  have r2 := Int.emod_lt_of_pos (m - b) (show 0 < e by omega)
  have c1 := Int.mul_comm e ((m - b) / e)
  have h1 : 1 ≤ (m - b) / e := Int.le_ediv_of_mul_le (by omega) (by omega)
  have h2 := Int.mul_le_mul_of_nonneg_left he (show 0 ≤ (m - b) / e by omega)
  generalize (m - b) / e = q at *
  have hlq : l ≤ q := by omega
  have h3 := Int.mul_le_mul_of_nonneg_right hlq (show 0 ≤ e by omega)
  refine ⟨by omega, by omega, by omega, fun h => ?_, by omega⟩
  obtain rfl : l = q := by omega
  omega

end Go.Proofs.Ytgmofofokhlhnaa
