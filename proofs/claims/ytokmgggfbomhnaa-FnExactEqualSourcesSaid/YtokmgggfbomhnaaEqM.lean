/- Equal terms for ever: plain laws. Each theorem names its conditions. -/
import Derived.Test.YtokmgggfbomhnaaTerm
namespace Go.Proofs.Ytokmgggfbomhnaa
set_option linter.unusedVariables false
set_option linter.unusedSimpArgs false

theorem termP_far {s : Src} (hp : s.P.length ≠ 0) (m r q j : Nat) (hm : s.H.length ≤ m) :
    termP s (m + r + s.P.length * q * j) = ((termP s (m + r)).1 + (j : Int) * ((q : Int) * s.G.getD ((m + r - s.H.length) % s.P.length) 0), true) := by
  have hpos : 0 < s.P.length := by omega
  have e0 : m + r + s.P.length * q * j - s.H.length = (m + r - s.H.length) + s.P.length * (q * j) := by
    rw [Nat.mul_assoc]; omega
  rw [termP, if_neg (by omega), if_neg hp, termP, if_neg (by omega), if_neg hp, e0, Nat.add_mul_mod_self_left, Nat.add_mul_div_left _ _ hpos]
  simp only [Prod.mk.injEq, and_true]
  generalize (m + r - s.H.length) / s.P.length = c
  generalize s.G.getD ((m + r - s.H.length) % s.P.length) 0 = g
  generalize s.P.getD ((m + r - s.H.length) % s.P.length) 0 = t
  push_cast
  grind
theorem termP_none {s : Src} (hp : s.P.length = 0) {k : Nat} (hk : s.H.length ≤ k) : termP s k = (0, false) := by
  rw [termP, if_neg (by omega), if_pos hp]
theorem termP_some {s : Src} (hp : s.P.length ≠ 0) (k : Nat) : (termP s k).2 = true := by
  rw [termP, if_neg hp]
  split <;> rfl
/-- What holds of two rounds of both periods holds of all. -/
theorem equal_all {s t : Src} {N : Nat} (h1 : max s.H.length t.H.length + 2 * (s.P.length * t.P.length) ≤ N) (h2 : max s.H.length t.H.length < N) (h : ∀ k, k < N → termP s k = termP t k) : ∀ k, termP s k = termP t k := by
  intro k
  rcases Nat.lt_or_ge k N with hk | hk
  · exact h k hk
  by_cases p0 : s.P.length = 0
  · by_cases q0 : t.P.length = 0
    · rw [termP_none p0 (by omega), termP_none q0 (by omega)]
    · have := h (max s.H.length t.H.length) h2
      have e := termP_some q0 (max s.H.length t.H.length)
      rw [← this, termP_none p0 (by omega)] at e
      cases e
  · by_cases q0 : t.P.length = 0
    · have := h (max s.H.length t.H.length) h2
      have e := termP_some p0 (max s.H.length t.H.length)
      rw [this, termP_none q0 (by omega)] at e
      cases e
    · obtain ⟨m, hm⟩ : ∃ m, m = max s.H.length t.H.length := ⟨_, rfl⟩
      obtain ⟨M, hM⟩ : ∃ M, M = s.P.length * t.P.length := ⟨_, rfl⟩
      have hMp : 0 < M := by rw [hM]; exact Nat.mul_pos (by omega) (by omega)
      rw [← hm, ← hM] at h1
      obtain ⟨r, j, hr, rfl⟩ : ∃ r j, r < M ∧ k = m + r + M * j := ⟨(k - m) % M, (k - m) / M, Nat.mod_lt _ hMp, by have := Nat.mod_add_div (k - m) M; omega⟩
      have a0 := h (m + r) (by omega)
      have a1 := h (m + r + M * 1) (by omega)
      have x1 := termP_far p0 m r t.P.length 1 (by omega)
      have xj := termP_far p0 m r t.P.length j (by omega)
      have y1 := termP_far q0 m r s.P.length 1 (by omega)
      have yj := termP_far q0 m r s.P.length j (by omega)
      rw [← hM] at x1 xj
      rw [Nat.mul_comm t.P.length s.P.length, ← hM] at y1 yj
      rw [x1, y1, a0] at a1
      simp only [Prod.mk.injEq, and_true] at a1
      rw [xj, yj, a0]
      simp only [Prod.mk.injEq, and_true]
      have e : (t.P.length : Int) * s.G.getD ((m + r - s.H.length) % s.P.length) 0 = (s.P.length : Int) * t.G.getD ((m + r - t.H.length) % t.P.length) 0 := by
        have : ((1 : Nat) : Int) = 1 := rfl
        rw [this] at a1
        omega
      rw [e]

end Go.Proofs.Ytokmgggfbomhnaa
