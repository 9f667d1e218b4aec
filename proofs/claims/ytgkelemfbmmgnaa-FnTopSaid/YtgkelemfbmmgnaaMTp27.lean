/- Some of the texts of this claim, joined in one file: Side18, BestC. -/
import Derived.Test.YtgkelemfbmmgnaaMTp26
import Derived.Test.YtgkelemfbmmgnaaMTp8
import Derived.Test.YtgkelemfbmmgnaaMTp25
/- The reference's two sides of a fraction. Each theorem names its conditions. -/
namespace Go.Proofs.Ytgkelemfbmmgnaa
open Go.RowKit
set_option linter.unusedVariables false
set_option linter.unusedSimpArgs false


end Go.Proofs.Ytgkelemfbmmgnaa

/- What a code 0 says of the fractions. Each theorem names its conditions. -/
namespace Go.Proofs.Ytgkelemfbmmgnaa
open Go.RowKit
set_option linter.unusedVariables false
set_option linter.unusedSimpArgs false

theorem bestC_zero {fits : Bool} {fs : List (Int × Int)} (h : bestC fits fs = 0) : fits = true ∧ (∀ f ∈ fs, okP f = true) ∧ (∀ f ∈ fs, smP f = true) := by
  unfold bestC at h
  split at h
  · rename_i h1
    split at h
    · rename_i h2
      simp only [Bool.and_eq_true] at h2
      exact ⟨h2.1, by simpa using h1, by simpa using h2.2⟩
    · simp at h
  · simp at h
theorem okP_bd {n d : Int} (h : okP (n, d) = true) : 1 ≤ d ∧ d ≤ 1000000000 ∧ -1000000000 ≤ n ∧ n ≤ 1000000000 ∧ gcdI n d = 1 := by
  have := okF_iff.1 h
  exact ⟨this.1.1, this.1.2, this.2.1.1, this.2.1.2, this.2.2⟩
theorem smP_bd {n d : Int} (h : smP (n, d) = true) : -1000000 ≤ n ∧ n ≤ 1000000 ∧ d ≤ 1000000 := by
  simp only [smP, Bool.and_eq_true, decide_eq_true_eq] at h
  have := inB_iff.1 h.1
  exact ⟨this.1, this.2, h.2⟩
theorem lit1 (n d : Int) : ∀ i n' d', ([(n, d)] : List (Int × Int))[i]? = some (n', d') → (#[Value.int .i64 n, .int .i64 d] : Array Value)[i * 2]? = some (.int .i64 n') ∧ (#[Value.int .i64 n, .int .i64 d] : Array Value)[i * 2 + 1]? = some (.int .i64 d') := by
  intro i n' d' h
  match i, h with
  | 0, h => simp at h; obtain ⟨rfl, rfl⟩ := h; simp
theorem lit2 (n d a b : Int) : ∀ i n' d', ([(n, d), (a, b)] : List (Int × Int))[i]? = some (n', d') → (#[Value.int .i64 n, .int .i64 d, .int .i64 a, .int .i64 b] : Array Value)[i * 2]? = some (.int .i64 n') ∧ (#[Value.int .i64 n, .int .i64 d, .int .i64 a, .int .i64 b] : Array Value)[i * 2 + 1]? = some (.int .i64 d') := by
  intro i n' d' h
  match i, h with
  | 0, h => simp at h; obtain ⟨rfl, rfl⟩ := h; simp
  | 1, h => simp at h; obtain ⟨rfl, rfl⟩ := h; simp
theorem lit3 (n d a b p q : Int) : ∀ i n' d', ([(n, d), (a, b), (p, q)] : List (Int × Int))[i]? = some (n', d') →
    (#[Value.int .i64 n, .int .i64 d, .int .i64 a, .int .i64 b, .int .i64 p, .int .i64 q] : Array Value)[i * 2]? = some (.int .i64 n') ∧ (#[Value.int .i64 n, .int .i64 d, .int .i64 a, .int .i64 b, .int .i64 p, .int .i64 q] : Array Value)[i * 2 + 1]? = some (.int .i64 d') := by
  intro i n' d' h
  match i, h with
  | 0, h => simp at h; obtain ⟨rfl, rfl⟩ := h; simp
  | 1, h => simp at h; obtain ⟨rfl, rfl⟩ := h; simp
  | 2, h => simp at h; obtain ⟨rfl, rfl⟩ := h; simp

end Go.Proofs.Ytgkelemfbmmgnaa

