/- Some of the texts of this claim, joined in one file: Ard, Most. -/
import Derived.Test.YtgkelemfbmmgnaaMTp27
/- Both sides of a fraction, by both programs. Each theorem names its conditions. -/
namespace Go.Proofs.Ytgkelemfbmmgnaa
open Go.RowKit
set_option linter.unusedVariables false
set_option linter.unusedSimpArgs false

theorem ret_fi2 {r : (Int × Int) × Int} {x y c : Int} (h : r = ((x, y), c)) : Ending.returned (.tuple #[.agg #[.int .i64 x, .int .i64 y], .int .i64 c]) = .returned (.tuple #[.agg #[.int .i64 r.1.1, .int .i64 r.1.2], .int .i64 r.2]) := by subst h; rfl
theorem okF_bd {n d : Int} (h : okF n d = true) : 1 ≤ d ∧ d ≤ 1000000000 ∧ -1000000000 ≤ n ∧ n ≤ 1000000000 ∧ gcdI n d = 1 := by
  have := okF_iff.1 h
  exact ⟨this.1.1, this.1.2, this.2.1.1, this.2.1.2, this.2.2⟩
theorem around_any {N D : Int} (h : okF N D = true) (m : Int) (h1 : 1 ≤ m) (w : World) :
    Calls Try.prog 105 #[.agg #[.int .i64 N, .int .i64 D], .int .i64 m] w fun r w' => r = .returned (.tuple #[.agg #[.int .i64 (sidesF N D m).1.1, .int .i64 (sidesF N D m).1.2], .agg #[.int .i64 (sidesF N D m).2.1, .int .i64 (sidesF N D m).2.2]]) ∧ Bl w w' := by
  have := okF_bd h
  by_cases hm : D ≤ m
  · exact around_own N D m w hm
  · exact around_far N D m w h1 hm (by omega) (by omega) (by omega)
/-- There is always a last pair. -/
theorem SP.last {N D m : Int} (hg : gcdI N D = 1) (hm : m < D) : ∀ (k : Nat) (a b c d : Int), SP N D m a b c d → 2 * m - b - d ≤ k → ∃ a b c d, SP N D m a b c d ∧ m < b + d
  | 0, a, b, c, d, x, h => ⟨a, b, c, d, x, by have := x.bm; have := x.dm; have := x.hb; have := x.hd; omega⟩
  | k + 1, a, b, c, d, x, h => by
    by_cases hx : m < b + d
    · exact ⟨a, b, c, d, x, hx⟩
    · have hb := x.hb
      have hd := x.hd
      have hne := not_own (N := N) (D := D) (a := a + c) (b := b + d) hg (by omega) (by omega)
      have e : N * (b + d) - (a + c) * D = (N * b - a * D) - (c * D - N * d) := by grind
      rcases Int.lt_or_gt_of_ne hne with q | q
      · have y := SP.stepHigh x hg hm (k := 1) (by omega) (by omega) (by omega)
        exact SP.last hg hm k _ _ _ _ y (by push_cast at h; omega)
      · have y := SP.stepLow x hg hm (k := 1) (by omega) (by omega) (by omega)
        exact SP.last hg hm k _ _ _ _ y (by push_cast at h; omega)
theorem sidesF_spec {N D m : Int} (hg : gcdI N D = 1) (h1 : 1 ≤ m) (hm : ¬ D ≤ m) : SP N D m (sidesF N D m).1.1 (sidesF N D m).1.2 (sidesF N D m).2.1 (sidesF N D m).2.2 ∧ m < (sidesF N D m).1.2 + (sidesF N D m).2.2 := by
  obtain ⟨a, b, c, d, x, hx⟩ := SP.last hg (show m < D by omega) (2 * m).toNat _ _ _ _ (SP.start hg (show m < D by omega) h1) (by omega)
  rw [sidesF_eq (by omega) hm x hx]
  exact ⟨x, hx⟩
/-- Numerators stay about as small as the fraction's own. -/
theorem SP.num {N D m a b c d L : Int} (hN : -L ≤ N ∧ N ≤ L) (hL : 0 ≤ L) (hm : m < D) (x : SP N D m a b c d) : (-(L + 1) ≤ a ∧ a ≤ L + 1) ∧ (-(L + 1) ≤ c ∧ c ≤ L + 1) := by
  have hb := x.hb; have hd := x.hd; have bm := x.bm; have dm := x.dm
  have e1 := x.lo; have e2 := x.lo'; have e3 := x.hi; have e4 := x.hi'
  have key : ∀ b : Int, 1 ≤ b → b ≤ m → -(L * D) ≤ N * b ∧ N * b ≤ L * D := by
    intro b h1 h2
    have p := mul_bd hN.1 hN.2 (show 0 ≤ b by omega) (show b ≤ D by omega)
    exact p
  have kb := key b hb bm
  have kd := key d hd dm
  have q : ∀ z : Int, -(L * D) - D ≤ z * D → z * D ≤ L * D + D → -(L + 1) ≤ z ∧ z ≤ L + 1 := by
    intro z h1 h2
    constructor
    · rcases Int.lt_or_le z (-(L + 1)) with h | h
      · have := Int.mul_le_mul_of_nonneg_right (show z ≤ -(L + 1) - 1 by omega) (show 0 ≤ D by omega)
        have e : (-(L + 1) - 1) * D = -(L * D) - D - D := by grind
        omega
      · exact h
    · rcases Int.lt_or_le (L + 1) z with h | h
      · have := Int.mul_le_mul_of_nonneg_right (show L + 1 + 1 ≤ z by omega) (show 0 ≤ D by omega)
        have e : (L + 1 + 1) * D = L * D + D + D := by grind
        omega
      · exact h
  exact ⟨q a (by omega) (by omega), q c (by omega) (by omega)⟩
/-- What is known of both sides of a small fraction. -/
theorem sides_small {n d m a b p q : Int} (ok : okF n d = true) (h1 : 1 ≤ m) (hn : -1000000 ≤ n ∧ n ≤ 1000000) (hd : d ≤ 1000000) (h : sidesF n d m = ((a, b), (p, q))) :
    SmallP n d a b p q ∧ offF n d a b = n * b - a * d ∧ offF n d p q = p * d - n * q := by
  have hok := okF_bd ok
  by_cases hm : d ≤ m
  · rw [sidesF_own hm] at h
    simp at h
    obtain ⟨⟨rfl, rfl⟩, rfl, rfl⟩ := h
    refine ⟨by constructor <;> omega, ?_, ?_⟩ <;> simp [offF, ab]
  · have s := (sidesF_spec hok.2.2.2.2 h1 hm).1
    rw [h] at s
    simp only [] at s
    have b := SP.num hn (by omega) (show m < d by omega) s
    have s1 := s.hb; have s2 := s.hd; have s3 := s.bm; have s4 := s.dm; have s5 := s.lo; have s6 := s.hi
    refine ⟨by constructor <;> omega, ?_, ?_⟩
    · rw [offF, ab_pos (by omega)]
    · rw [offF, ab_neg (by omega)]; omega
theorem around_eq {N D a b p q : Int} (h : okF N D = true) (m : Int) (h1 : 1 ≤ m) (hs : sidesF N D m = ((a, b), (p, q))) (w : World) :
    Calls Try.prog 105 #[.agg #[.int .i64 N, .int .i64 D], .int .i64 m] w fun r w' => r = .returned (.tuple #[.agg #[.int .i64 a, .int .i64 b], .agg #[.int .i64 p, .int .i64 q]]) ∧ Bl w w' := by
  have := around_any h m h1 w
  rw [hs] at this
  exact this
end Go.Proofs.Ytgkelemfbmmgnaa

/- The code of a fraction and a greatest denominator. Each theorem names its conditions. -/
namespace Go.Proofs.Ytgkelemfbmmgnaa
open Go.RowKit
set_option linter.unusedVariables false
set_option linter.unusedSimpArgs false

/-- The code of a fraction and a greatest denominator. -/
def mostC (n d m : Int) : Int := bestC (inB m 1 1000000) [(n, d)]
theorem withinB {n lo hi : Int} {b : Bool} (h : inB n lo hi = b) (w : World) : Calls Try.prog 67 #[.int .i64 n, .int .i64 lo, .int .i64 hi] w fun e w' => e = .returned (.bool b) ∧ Bl w w' :=
  (within_any n lo hi w).mono (by rintro e w' ⟨h1, rfl⟩; exact ⟨h ▸ h1, bl_refl _⟩)
theorem checkBest_eq {fits : Bool} {v : Value} {fs : List (Int × Int)} {c : Int} (h : bestC fits fs = c) (w : World) (hv : SlF w v fs) :
    Calls Try.prog 71 #[.bool fits, v] w fun r w' => r = .returned (.int .i64 c) ∧ Bl w w' := h ▸ checkBest_any fits v fs w hv
structure Most (n d m : Int) : Prop where
  n1 : -1000000 ≤ n
  n2 : n ≤ 1000000
  d1 : 1 ≤ d
  d2 : d ≤ 1000000
  m1 : 1 ≤ m
  m2 : m ≤ 1000000
  o : okF n d = true
theorem mostC_zero {n d m : Int} (h : mostC n d m = 0) : Most n d m := by
  obtain ⟨h0, h1, h2⟩ := bestC_zero h
  have q := h1 (n, d) (by simp)
  have o1 := okP_bd (h1 (n, d) (by simp)); have s1 := smP_bd (h2 (n, d) (by simp))
  have i := inB_iff.1 h0
  exact ⟨by omega, by omega, by omega, by omega, i.1, i.2, q⟩
theorem bestC_fits {b : Bool} {fs : List (Int × Int)} : bestC b fs = if bestC true fs = 0 then (if b then 0 else 2) else bestC true fs := by
  unfold bestC
  cases fs.all okP <;> cases fs.all smP <;> cases b <;> simp

end Go.Proofs.Ytgkelemfbmmgnaa

