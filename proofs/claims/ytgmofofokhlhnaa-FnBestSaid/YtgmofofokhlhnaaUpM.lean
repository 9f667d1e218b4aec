/- BestAbove's plain law: each new one is in lowest terms. No condition but what each theorem names. -/
import Derived.Test.YtgmofofokhlhnaaBase
namespace Go.Proofs.Ytgmofofokhlhnaa
/-- The least numerator over q that is not less. -/
def ceilD (n d q : Int) : Int := -((-n * q) / d)
def upStep (n d q : Int) (acc : List (Int × Int)) : List (Int × Int) :=
  match acc.getLast? with
  | none => acc ++ [(ceilD n d q, q)]
  | some p => if ceilD n d q * p.2 < p.1 * q then acc ++ [(ceilD n d q, q)] else acc
/-- All fractions with denominators up to k that are nearer from above than all with lesser ones. -/
def upL (n d : Int) : Nat → List (Int × Int)
  | 0 => []
  | k + 1 => upStep n d (k + 1 : Nat) (upL n d k)
theorem ceilD_le {n d q m : Int} (hd : 0 < d) : ceilD n d q ≤ m ↔ n * q ≤ m * d := by
  unfold ceilD
  have h := Int.le_ediv_iff_mul_le (a := -m) (b := -n * q) hd
  have e : -m * d = -(m * d) := Int.neg_mul m d
  have e2 : -n * q = -(n * q) := Int.neg_mul n q
  rw [e2] at h ⊢
  rw [e] at h
  constructor
  · intro hh; have := h.1 (by omega); omega
  · intro hh; have := h.2 (by omega); omega
theorem ceilD_self {n d q : Int} (hd : 0 < d) : n * q ≤ ceilD n d q * d := (ceilD_le hd).1 (Int.le_refl _)
theorem ceilD_bd {n d q : Int} (hd : 1 ≤ d) (hn : -1000000000 ≤ n ∧ n ≤ 1000000000) (hq : 1 ≤ q ∧ q ≤ 10000) : (-10000000000000 ≤ n * q ∧ n * q ≤ 10000000000000) ∧ -10000000000000 ≤ ceilD n d q ∧ ceilD n d q ≤ 10000000000000 := by
  have a1 := Int.mul_le_mul_of_nonneg_right hn.1 (show 0 ≤ q by omega)
  have a2 := Int.mul_le_mul_of_nonneg_right hn.2 (show 0 ≤ q by omega)
  have hb : -10000000000000 ≤ n * q ∧ n * q ≤ 10000000000000 := by omega
  refine ⟨hb, ?_, ?_⟩
  · refine Classical.byContradiction fun hc => ?_
    have h1 := (ceilD_le (n := n) (q := q) (show 0 < d by omega)).1 (show ceilD n d q ≤ -10000000000001 by omega)
    have := Int.mul_le_mul_of_nonneg_left hd (show (0:Int) ≤ 10000000000001 by omega)
    omega
  · refine (ceilD_le (show 0 < d by omega)).2 ?_
    have := Int.mul_le_mul_of_nonneg_left hd (show (0:Int) ≤ 10000000000000 by omega)
    omega
theorem upStep_none {n d q : Int} {acc : List (Int × Int)} (h : acc = []) : upStep n d q acc = acc ++ [(ceilD n d q, q)] := by subst h; rfl
theorem upStep_yes {n d q a t : Int} {acc : List (Int × Int)} (h : acc[acc.length - 1]? = some (a, t)) (hc : ceilD n d q * t < a * q) : upStep n d q acc = acc ++ [(ceilD n d q, q)] := by
  unfold upStep
  rw [List.getLast?_eq_getElem?, h]
  exact if_pos hc
theorem upStep_no {n d q a t : Int} {acc : List (Int × Int)} (h : acc[acc.length - 1]? = some (a, t)) (hc : ¬ ceilD n d q * t < a * q) : upStep n d q acc = acc := by
  unfold upStep
  rw [List.getLast?_eq_getElem?, h]
  exact if_neg hc
/-- What is known of the last one. -/
def UpI (n d : Int) (k : Nat) (a t : Int) : Prop := 1 ≤ t ∧ t ≤ k ∧ a = ceilD n d t ∧ ∀ q : Int, 1 ≤ q → q ≤ k → a * q ≤ ceilD n d q * t
theorem last_app {α : Type} (l : List α) (x : α) : (l ++ [x])[(l ++ [x]).length - 1]? = some x := by simp
theorem upL_last (n d : Int) (k : Nat) : (upL n d k).length ≤ k ∧ (1 ≤ k → 1 ≤ (upL n d k).length ∧ ∃ a t, (upL n d k)[(upL n d k).length - 1]? = some (a, t) ∧ UpI n d k a t) := by
  induction k with
  | zero => exact ⟨Nat.le_refl _, fun h => absurd h (by omega)⟩
  | succ k ih =>
    obtain ⟨hl, ih⟩ := ih
    rcases Nat.eq_zero_or_pos k with rfl | hk
    · have e : upL n d 1 = [(ceilD n d 1, 1)] := rfl
      rw [e]
      refine ⟨by simp, fun _ => ⟨by simp, ceilD n d 1, 1, by simp, by omega, by omega, rfl, fun q h1 h2 => ?_⟩⟩
      obtain rfl : q = 1 := by omega
      omega
    · obtain ⟨h1, a, t, h2, h3, h4, h5, h6⟩ := ih hk
      rw [upL]
      by_cases hc : ceilD n d ((k + 1 : Nat) : Int) * t < a * ((k + 1 : Nat) : Int)
      · rw [upStep_yes h2 hc]
        refine ⟨by simp; omega, fun _ => ⟨by simp, _, _, last_app _ _, by omega, by omega, rfl, fun q q1 q2 => ?_⟩⟩
        by_cases hq : q = ((k + 1 : Nat) : Int)
        · subst hq; omega
        · have b1 := h6 q q1 (by omega)
          have b2 : ceilD n d ((k + 1 : Nat) : Int) * t * q ≤ a * ((k + 1 : Nat) : Int) * q := Int.mul_le_mul_of_nonneg_right (by omega) (by omega)
          have b3 : a * q * ((k + 1 : Nat) : Int) ≤ ceilD n d q * t * ((k + 1 : Nat) : Int) := Int.mul_le_mul_of_nonneg_right b1 (by omega)
          refine Int.le_of_mul_le_mul_left (a := t) ?_ (by omega)
          calc t * (ceilD n d ((k + 1 : Nat) : Int) * q) = ceilD n d ((k + 1 : Nat) : Int) * t * q := by ac_rfl
            _ ≤ a * ((k + 1 : Nat) : Int) * q := b2
            _ = a * q * ((k + 1 : Nat) : Int) := by ac_rfl
            _ ≤ ceilD n d q * t * ((k + 1 : Nat) : Int) := b3
            _ = t * (ceilD n d q * ((k + 1 : Nat) : Int)) := by ac_rfl
      · rw [upStep_no h2 hc]
        refine ⟨by omega, fun _ => ⟨h1, a, t, h2, h3, by omega, h5, fun q q1 q2 => ?_⟩⟩
        by_cases hq : q = ((k + 1 : Nat) : Int)
        · subst hq; omega
        · exact h6 q q1 (by omega)
/-- A new one is in lowest terms. -/
theorem up_low {n d a t g x' q' : Int} {k : Nat} (hd : 0 < d) (h : UpI n d k a t) (hg : 1 < g) (hx : ceilD n d ((k + 1 : Nat) : Int) = g * x') (hq : ((k + 1 : Nat) : Int) = g * q') : ¬ ceilD n d ((k + 1 : Nat) : Int) * t < a * ((k + 1 : Nat) : Int) := by
  obtain ⟨h3, h4, h5, h6⟩ := h
  have q0 : 1 ≤ q' := by
    refine Classical.byContradiction fun hc => ?_
    have := Int.mul_le_mul_of_nonneg_left (show q' ≤ 0 by omega) (show 0 ≤ g by omega)
    rw [Int.mul_zero] at this
    omega
  have q1 : q' ≤ k := by
    have := Int.mul_le_mul_of_nonneg_right (show 2 ≤ g by omega) (show 0 ≤ q' by omega)
    omega
  have hc := h6 q' q0 q1
  have c1 : ceilD n d q' ≤ x' := by
    refine (ceilD_le hd).2 ?_
    have := ceilD_self (n := n) (q := ((k + 1 : Nat) : Int)) hd
    rw [hx, hq] at this
    refine Int.le_of_mul_le_mul_left (a := g) ?_ (by omega)
    calc g * (n * q') = n * (g * q') := by ac_rfl
      _ ≤ g * x' * d := this
      _ = g * (x' * d) := by ac_rfl
  have c2 : ceilD n d q' * t ≤ x' * t := Int.mul_le_mul_of_nonneg_right c1 (by omega)
  have c3 : g * (a * q') ≤ g * (x' * t) := Int.mul_le_mul_of_nonneg_left (by omega) (by omega)
  rw [hx, hq]
  have e1 : g * x' * t = g * (x' * t) := by ac_rfl
  have e2 : a * (g * q') = g * (a * q') := by ac_rfl
  omega

end Go.Proofs.Ytgmofofokhlhnaa
