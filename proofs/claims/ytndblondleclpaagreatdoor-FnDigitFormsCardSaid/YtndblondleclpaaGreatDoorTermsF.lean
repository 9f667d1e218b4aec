/- The terms of a fraction: plain laws. Each theorem names its conditions. -/
import Derived.Test.YtndblondleclpaaGreatDoorApp
namespace Go.Proofs.YtndblondleclpaaGreatDoor
set_option linter.unusedVariables false
set_option linter.unusedSimpArgs false

/-- The terms of n / d, at most f of them. -/
def termsN : Nat → Int → Int → List Int
  | 0, _, _ => []
  | f + 1, n, d => if d = 0 then [] else (n / d) :: termsN f d (n - n / d * d)
/-- The short terms of n / d. -/
def termsF (n d : Int) : List Int := termsN (d.toNat + 1) n d
theorem rest_lt {n d : Int} (hd : 0 < d) : 0 ≤ n - n / d * d ∧ n - n / d * d < d := by
  have h1 := Int.emod_nonneg n (show d ≠ 0 by omega)
  have h2 := Int.emod_lt_of_pos n hd
  have h3 := Int.mul_ediv_add_emod n d
  have h4 : n / d * d = d * (n / d) := Int.mul_comm _ _
  omega
theorem termsN_fuel (f : Nat) : ∀ (g : Nat) (n d : Int), 0 ≤ d → d < f → d < g → termsN f n d = termsN g n d := by
  induction f with
  | zero => intro g n d h0 h1 h2; omega
  | succ f ih =>
    intro g n d h0 h1 h2
    cases g with
    | zero => omega
    | succ g =>
      unfold termsN
      by_cases hd : d = 0
      · rw [if_pos hd, if_pos hd]
      · rw [if_neg hd, if_neg hd]
        have hr := rest_lt (n := n) (d := d) (by omega)
        rw [ih g d (n - n / d * d) hr.1 (by omega) (by omega)]
theorem termsF_step {n d : Int} (hd : 0 < d) : termsF n d = (n / d) :: termsF d (n - n / d * d) := by
  have hr := rest_lt (n := n) hd
  unfold termsF
  rw [termsN, if_neg (by omega)]
  rw [termsN_fuel d.toNat ((n - n / d * d).toNat + 1) d (n - n / d * d) hr.1 (by omega) (by omega)]
theorem termsF_zero (n : Int) : termsF n 0 = [] := by simp [termsF, termsN]
/-- Two steps halve the denominator. -/
theorem termsF_len (k : Nat) : ∀ (n d : Int), 0 ≤ d → d < 2 ^ k → (termsF n d).length ≤ 2 * k := by
  induction k with
  | zero => intro n d h0 h1; obtain rfl : d = 0 := by simp at h1; omega
            simp [termsF_zero]
  | succ k ih =>
    intro n d h0 h1
    by_cases hd : d = 0
    · subst hd; simp [termsF_zero]
    · rw [termsF_step (by omega)]
      have hr := rest_lt (n := n) (d := d) (by omega)
      generalize n - n / d * d = r at *
      by_cases hr0 : r = 0
      · subst hr0; simp [termsF_zero]; omega
      · rw [termsF_step (n := d) (d := r) (by omega)]
        have hs := rest_lt (n := d) (d := r) (by omega)
        have hq : 1 ≤ d / r := (Int.le_ediv_iff_mul_le (by omega)).2 (by omega)
        have hm := Int.mul_le_mul_of_nonneg_right hq (show 0 ≤ r by omega)
        have := ih r (d - d / r * r) hs.1 (by rw [Int.pow_succ] at h1; omega)
        simp only [List.length_cons]
        omega
theorem quo_le {n d M : Int} (hd : 0 < d) (h : -M ≤ n ∧ n ≤ M) (hM : 0 ≤ M) : -M ≤ n / d ∧ n / d ≤ M := by
  constructor
  · refine (Int.le_ediv_iff_mul_le hd).2 ?_
    have := Int.mul_le_mul_of_nonneg_left (show 1 ≤ d by omega) hM
    have e : -M * d = -(M * d) := Int.neg_mul _ _
    omega
  · refine Int.ediv_le_of_le_mul hd ?_
    have := Int.mul_le_mul_of_nonneg_left (show 1 ≤ d by omega) hM
    omega
/-- Bounds: the first term, and the others. -/
theorem termsF_bd (f : Nat) : ∀ (n d : Int), 0 ≤ d → d < f → d ≤ 1000000000 → (-1000000000 ≤ n ∧ n ≤ 1000000000) → ∀ (i : Nat) (x : Int), (termsF n d)[i]? = some x → (if d ≤ n ∨ 0 < i then 1 else -1000000000) ≤ x ∧ x ≤ 1000000000 := by
  induction f with
  | zero => intro n d h0 h1; omega
  | succ f ih =>
    intro n d h0 h1 h2 h3 i x hx
    by_cases hd : d = 0
    · subst hd; simp [termsF_zero] at hx
    · rw [termsF_step (by omega)] at hx
      have hr := rest_lt (n := n) (d := d) (by omega)
      cases i with
      | zero =>
        simp at hx
        subst hx
        have q := quo_le (show 0 < d by omega) h3 (by omega)
        refine ⟨?_, q.2⟩
        split
        · rename_i h
          exact (Int.le_ediv_iff_mul_le (by omega)).2 (by omega)
        · exact q.1
      | succ i =>
        have := ih d (n - n / d * d) hr.1 (by omega) (by omega) (by omega) i x (by simpa using hx)
        rw [if_pos (by omega)] at this
        rw [if_pos (by omega)]
        exact this
theorem termsF_R64 {n d : Int} (h0 : 0 ≤ d) (h2 : d ≤ 1000000000) (h3 : -1000000000 ≤ n ∧ n ≤ 1000000000) : ∀ x ∈ termsF n d, -1000000000 ≤ x ∧ x ≤ 1000000000 := by
  intro x hx
  obtain ⟨i, hi⟩ := List.getElem?_of_mem hx
  have := termsF_bd (d.toNat + 1) n d h0 (by omega) h2 h3 i x hi
  split at this <;> omega
theorem termsF_60 {n d : Int} (h0 : 0 ≤ d) (h2 : d ≤ 1000000000) : (termsF n d).length ≤ 60 := termsF_len 30 n d h0 (by simp; omega)
theorem termsF_pos {n d : Int} (h0 : 0 < d) : 0 < (termsF n d).length := by rw [termsF_step h0]; simp

end Go.Proofs.YtndblondleclpaaGreatDoor
