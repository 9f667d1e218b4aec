/- The terms of a fraction: they are short and valid; a common factor changes nothing. Each theorem names its conditions. -/
import Derived.Test.YtgmofofokhlhnaaTermsF
import Derived.Test.YtgmofofokhlhnaaVal
import Derived.Test.YtgmofofokhlhnaaShort
import Derived.Test.YtgmofofokhlhnaaFrac
namespace Go.Proofs.Ytgmofofokhlhnaa
set_option linter.unusedVariables false
set_option linter.unusedSimpArgs false

theorem termsF_lastV (f : Nat) : ∀ (n d : Int), 0 < d → d < n → d < f → ∀ x, (termsF n d).getLast? = some x → 2 ≤ x := by
  induction f with
  | zero => intro n d h1 h2 h3; omega
  | succ f ih =>
    intro n d h1 h2 h3 x hx
    have hr := rest_lt (n := n) h1
    rw [termsF_step h1] at hx
    by_cases hz : n - n / d * d = 0
    · rw [hz, termsF_zero] at hx
      simp at hx
      subst hx
      have e : n = n / d * d := by omega
      rcases Int.lt_or_le (n / d) 2 with h | h
      · have := Int.mul_le_mul_of_nonneg_right (show n / d ≤ 1 by omega) (show 0 ≤ d by omega)
        omega
      · exact h
    · have hne : termsF d (n - n / d * d) ≠ [] := by
        have := termsF_pos (n := d) (d := n - n / d * d) (by omega)
        intro e; rw [e] at this; simp at this
      rw [List.getLast?_cons_of_ne_nil hne] at hx
      exact ih d _ (by omega) hr.2 (by omega) x hx
theorem shortL_termsV {n d : Int} (h1 : 0 < d) : shortL (termsF n d) = termsF n d := by
  refine shortL_no fun q => ?_
  obtain ⟨q1, q2⟩ := q
  rw [← List.getLast?_eq_getElem?] at q2
  have hr := rest_lt (n := n) h1
  rw [termsF_step h1] at q1 q2
  by_cases hz : n - n / d * d = 0
  · rw [hz, termsF_zero] at q1
    simp at q1
  · have hne : termsF d (n - n / d * d) ≠ [] := by
      have := termsF_pos (n := d) (d := n - n / d * d) (by omega)
      intro e; rw [e] at this; simp at this
    rw [List.getLast?_cons_of_ne_nil hne] at q2
    have := termsF_lastV (d.toNat + 1) d (n - n / d * d) (by omega) hr.2 (by omega) 1 q2
    omega
theorem terms_okV {n d : Int} (hn : -1000000000 ≤ n ∧ n ≤ 1000000000) (hd : 1 ≤ d ∧ d ≤ 1000000000) : termsP (termsF n d) = true := by
  refine termsP_iff.2 ⟨⟨termsF_pos (by omega), termsF_60 (by omega) (by omega)⟩, fun i x hx => inB_iff.2 ?_⟩
  have := termsF_bd (d.toNat + 1) n d (by omega) (by omega) (by omega) (by omega) i x hx
  unfold lowT
  split at this <;> split <;> omega
theorem termsF_scale (g : Int) (hg : 0 < g) (f : Nat) : ∀ n d : Int, 0 ≤ d → d < f → termsF (g * n) (g * d) = termsF n d := by
  induction f with
  | zero => intro n d h0 h1; omega
  | succ f ih =>
    intro n d h0 h1
    rcases Int.lt_or_le 0 d with h | h
    · have hgd : 0 < g * d := Int.mul_pos hg h
      rw [termsF_step hgd, termsF_step h, Int.mul_ediv_mul_of_pos _ _ hg]
      have hr := rest_lt (n := n) h
      have e : g * n - n / d * (g * d) = g * (n - n / d * d) := by
        rw [Int.mul_sub, Int.mul_left_comm (n / d) g d]
      rw [e, ih d _ (by omega) (by omega)]
    · have : d = 0 := by omega
      subst this
      rw [Int.mul_zero, termsF_zero, termsF_zero]
theorem termsF_low {n d : Int} (hd : 0 < d) : termsF (lowF n d).1 (lowF n d).2 = termsF n d := by
  have hg := gcdI_pos n d (by omega)
  show termsF (n / gcdI n d) (d / gcdI n d) = termsF n d
  obtain ⟨x, hx⟩ := gcdI_dvd_left n d
  obtain ⟨y, hy⟩ := gcdI_dvd_right n d
  generalize gcdI n d = g at hx hy hg ⊢
  subst hx hy
  have hy0 : 0 ≤ y := by
    rcases Int.lt_or_le y 0 with h | h
    · have := Int.mul_neg_of_pos_of_neg hg h
      omega
    · exact h
  rw [Int.mul_ediv_cancel_left _ (by omega), Int.mul_ediv_cancel_left _ (by omega), termsF_scale g hg (y.toNat + 1) x y hy0 (by omega)]

end Go.Proofs.Ytgmofofokhlhnaa
