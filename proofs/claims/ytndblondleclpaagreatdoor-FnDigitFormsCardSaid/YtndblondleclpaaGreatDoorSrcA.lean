/- Whether a source is valid: what it means. -/
import Derived.Test.YtndblondleclpaaGreatDoorLawBs
import Derived.Test.YtndblondleclpaaGreatDoorNum
import Derived.Test.YtndblondleclpaaGreatDoorShort
namespace Go.Proofs.YtndblondleclpaaGreatDoor
open Go.RowKit
set_option linter.unusedVariables false
set_option linter.unusedSimpArgs false

/-- The least term at a place of the head. -/
def lowAt (i : Nat) : Int := if i = 0 then -1000000000 else 1
structure OkSrc (s : Src) : Prop where
  h30 : s.H.length ≤ 30
  p30 : s.P.length ≤ 30
  pos : 0 < s.H.length + s.P.length
  gp : s.G.length = s.P.length
  hd : ∀ (i : Nat) (x : Int), s.H[i]? = some x → lowAt i ≤ x ∧ x ≤ 1000000000
  per : ∀ (i : Nat) (x : Int), s.P[i]? = some x → 1 ≤ x ∧ x ≤ 1000000
  gr : ∀ (i : Nat) (x : Int), s.G[i]? = some x → 0 ≤ x ∧ x ≤ 1000000
noncomputable def okSrc (s : Src) : Bool := @decide (OkSrc s) (Classical.propDecidable _)
theorem okSrc_iff {s : Src} : okSrc s = true ↔ OkSrc s := by simp [okSrc]
theorem okS_no {s : Src} (h : ¬ OkSrc s) : false = okSrc s := by
  cases e : okSrc s
  · rfl
  · exact absurd (okSrc_iff.1 e) h
theorem okS_yes {s : Src} (h : OkSrc s) : true = okSrc s := (okSrc_iff.2 h).symm

theorem inB_not {x lo hi : Int} (h : inB x lo hi = false) : ¬ (lo ≤ x ∧ x ≤ hi) := by
  intro q
  rw [inB_iff.2 q] at h
  cases h

/-- What holds of the first k elements holds of k + 1 if it holds of the next. -/
theorem upto_succ {xs : List Int} {P : Nat → Int → Prop} {k : Nat} {x : Int} (h : ∀ (j : Nat) (y : Int), j < k → xs[j]? = some y → P j y) (hx : xs[k]? = some x) (hp : P k x) :
    ∀ (j : Nat) (y : Int), j < k + 1 → xs[j]? = some y → P j y := by
  intro j y hj hy
  rcases Nat.lt_or_ge j k with h1 | h1
  · exact h j y h1 hy
  · obtain rfl : j = k := by omega
    rw [hx] at hy
    exact Option.some.inj hy ▸ hp
theorem upto_all {xs : List Int} {P : Nat → Int → Prop} {k : Nat} (h : ∀ (j : Nat) (y : Int), j < k → xs[j]? = some y → P j y) (hk : xs.length ≤ k) : ∀ (j : Nat) (y : Int), xs[j]? = some y → P j y :=
  fun j y hy => h j y (Nat.lt_of_lt_of_le (List.getElem?_eq_some_iff.1 hy).1 hk) hy

/-- The four tests ahead of the loops. -/
def Shape (s : Src) : Prop := s.H.length ≤ 30 ∧ s.P.length ≤ 30 ∧ 0 < s.H.length + s.P.length ∧ s.G.length = s.P.length
theorem okS_shape {s : Src} (c : ¬ Shape s) : false = okSrc s := okS_no fun q => c ⟨q.h30, q.p30, q.pos, q.gp⟩

end Go.Proofs.YtndblondleclpaaGreatDoor
