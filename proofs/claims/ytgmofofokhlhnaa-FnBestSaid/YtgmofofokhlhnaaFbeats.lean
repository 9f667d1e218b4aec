/- FnBeats: plain facts. Each theorem names its conditions. -/
import Derived.Test.YtgmofofokhlhnaaLdens
import Derived.Test.YtgmofofokhlhnaaBeats
import Derived.Test.YtgmofofokhlhnaaSecI
import Derived.Test.YtgmofofokhlhnaaCmpE
import Derived.Test.YtgmofofokhlhnaaLowFr
import Derived.Test.YtgmofofokhlhnaaUp
namespace Go.Proofs.Ytgmofofokhlhnaa
open Go.RowKit
set_option linter.unusedVariables false
set_option linter.unusedSimpArgs false

theorem best2_zero {n d x y : Int} (o1 : okF n d = true) (o2 : okF x y = true) (hn : -2000 ≤ n ∧ n ≤ 2000) (hd : d ≤ 2000) (hx : -2001 ≤ x ∧ x ≤ 2001) (hy : y ≤ 2000) : bestC true [(n, d), (x, y)] = 0 := by
  have a1 : smP (n, d) = true := by
    have : inB n (-1000000) 1000000 = true := inB_iff.2 (by omega)
    simp [smP, this]; omega
  have a2 : smP (x, y) = true := by
    have : inB x (-1000000) 1000000 = true := inB_iff.2 (by omega)
    simp [smP, this]; omega
  simp [bestC, okP, o1, o2, a1, a2]
theorem best3_zero {n d x y u v : Int} (o1 : okF n d = true) (o2 : okF x y = true) (o3 : okF u v = true) (hn : -2000 ≤ n ∧ n ≤ 2000) (hd : d ≤ 2000) (hx : -2001 ≤ x ∧ x ≤ 2001) (hy : y ≤ 2000) (hu : -2001 ≤ u ∧ u ≤ 2001) (hv : v ≤ 2000) : bestC true [(n, d), (x, y), (u, v)] = 0 := by
  have a1 : smP (n, d) = true := by
    have : inB n (-1000000) 1000000 = true := inB_iff.2 (by omega)
    simp [smP, this]; omega
  have a2 : smP (x, y) = true := by
    have : inB x (-1000000) 1000000 = true := inB_iff.2 (by omega)
    simp [smP, this]; omega
  have a3 : smP (u, v) = true := by
    have : inB u (-1000000) 1000000 = true := inB_iff.2 (by omega)
    simp [smP, this]; omega
  simp [bestC, okP, o1, o2, o3, a1, a2, a3]
theorem most_zero {n d m : Int} (o1 : okF n d = true) (hn : -2000 ≤ n ∧ n ≤ 2000) (hd : d ≤ 2000) (hm : 1 ≤ m ∧ m ≤ 1000000) : mostC n d m = 0 := by
  have a0 : inB m 1 1000000 = true := inB_iff.2 hm
  have a1 : smP (n, d) = true := by
    have : inB n (-1000000) 1000000 = true := inB_iff.2 (by omega)
    simp [smP, this]; omega
  simp [mostC, bestC, okP, o1, a0, a1]
/-- Both sides of a small fraction are small. -/
theorem sp_small {n d m a b c e : Int} (x : SP n d m a b c e) (hm : m < d) (hn : -2000 ≤ n ∧ n ≤ 2000) : (-2001 ≤ a ∧ a ≤ 2001) ∧ (-2001 ≤ c ∧ c ≤ 2001) := by
  have q1 := x.hb; have q2 := x.hd; have q3 := x.bm; have q4 := x.dm
  have e1 := x.lo; have e2 := x.lo'; have e3 := x.hi; have e4 := x.hi'
  have nb1 : -2000 * d ≤ n * b := by
    have h1 := Int.mul_le_mul_of_nonneg_right hn.1 (show 0 ≤ b by omega)
    have h2 : -2000 * d ≤ -2000 * b := by omega
    omega
  have nb2 : n * b ≤ 2000 * d := by
    have h1 := Int.mul_le_mul_of_nonneg_right hn.2 (show 0 ≤ b by omega)
    omega
  have ne1 : -2000 * d ≤ n * e := by
    have h1 := Int.mul_le_mul_of_nonneg_right hn.1 (show 0 ≤ e by omega)
    have h2 : -2000 * d ≤ -2000 * e := by omega
    omega
  have ne2 : n * e ≤ 2000 * d := by
    have h1 := Int.mul_le_mul_of_nonneg_right hn.2 (show 0 ≤ e by omega)
    omega
  have d0 : 0 < d := by omega
  refine ⟨⟨?_, ?_⟩, ⟨?_, ?_⟩⟩
  · refine Int.le_of_mul_le_mul_right (a := d) ?_ d0; omega
  · refine Int.le_of_mul_le_mul_right (a := d) ?_ d0; omega
  · refine Int.le_of_mul_le_mul_right (a := d) ?_ d0; omega
  · refine Int.le_of_mul_le_mul_right (a := d) ?_ d0; omega
theorem cmpF_le {A B : Int} (h : A ≤ B) : cmpF A B ≤ 0 := by
  unfold cmpF
  split
  · omega
  · split <;> omega
theorem cmpF_lt {A B : Int} (h : cmpF A B < 0) : A < B := by
  unfold cmpF at h
  split at h
  · assumption
  · split at h <;> omega
theorem cmpF_zero {A B : Int} (h : cmpF A B = 0) : A = B := by
  unfold cmpF at h
  split at h
  · omega
  · split at h <;> omega
theorem cmpF_neg {A B : Int} (h : A < B) : cmpF A B = -1 := by unfold cmpF; rw [if_pos h]
theorem cmpF_pos {A B : Int} (h : B < A) : cmpF A B = 1 := by unfold cmpF; rw [if_neg (by omega), if_pos h]
/-- The second kind is of the first kind, too. -/
theorem sec_first {n d x y : Int} (ok : okF n d = true) (h1 : 1 ≤ y) (h : secondF n d x y = true) : firstF n d x y = true := by
  have hok := okF_bd ok
  by_cases hm : d ≤ y
  · rw [firstF_eq (sidesF_own hm)]
    unfold secondF at h
    by_cases e : y = d
    · rw [if_pos e] at h
      have hx := of_decide_eq_true h
      subst e hx
      simp
    · rw [if_neg e, if_pos (by omega)] at h
      cases h
  · obtain ⟨a, b, p, q, hs, x1, hx, o1, o2⟩ := second_sides hok.2.2.2.2 h1 (show y < d by omega)
    rw [firstF_eq hs]
    unfold secondF at h
    rw [if_neg (by omega), if_neg (by omega), hs] at h
    have g1 := x1.hb; have g2 := x1.hd; have g3 := x1.bm; have g4 := x1.dm
    have z1 := offF_nonneg n d a b
    have z2 := offF_nonneg n d p q
    simp only [Bool.or_eq_true, Bool.and_eq_true, decide_eq_true_eq] at h
    rcases h with ⟨l, rfl, rfl⟩ | ⟨l, rfl, rfl⟩
    · refine decide_eq_true (.inl ⟨⟨rfl, rfl⟩, .inl ?_⟩)
      have m1 := Int.mul_le_mul_of_nonneg_left g4 z1
      have m2 := Int.mul_lt_mul_of_pos_right l (show 0 < y by omega)
      unfold cmpErrF
      rw [cmpF_neg (by omega)]; omega
    · refine decide_eq_true (.inr ⟨⟨rfl, rfl⟩, ?_⟩)
      have m1 := Int.mul_le_mul_of_nonneg_left g3 z2
      have m2 := Int.mul_lt_mul_of_pos_right l (show 0 < y by omega)
      unfold cmpErrF
      rw [cmpF_pos (by omega)]; omega
/-- What BeatsFirst tells of a small fraction that is not best. -/
structure Bts (n d x y hx hy c : Int) : Prop where
  r : beatsF n d x y = ((hx, hy), 0)
  cmp : compErrF n d hx hy x y = (c, 0)
  c0 : c ≤ 0
  ne : ¬ (hx = x ∧ hy = y)
  le : hy ≤ y
  ok : okF hx hy = true
theorem bts_of {n d x y : Int} (o1 : okF n d = true) (o2 : okF x y = true) (hn : -2000 ≤ n ∧ n ≤ 2000) (hd : d ≤ 2000) (hx : -2000 ≤ x ∧ x ≤ 2000) (hy : y ≤ 2000) (hf : firstF n d x y = false) : ∃ u v c, Bts n d x y u v c := by
  have hok := okF_bd o1
  have hok2 := okF_bd o2
  have h1 := hok2.1
  have hb := best2_zero o1 o2 hn hd (by omega) hy
  have fin : ∀ u v : Int, okF u v = true → (-2001 ≤ u ∧ u ≤ 2001) → v ≤ 2000 → beatsF n d x y = ((u, v), 0) → offF n d u v * y ≤ offF n d x y * v → ¬ (u = x ∧ v = y) → v ≤ y → ∃ u v c, Bts n d x y u v c := by
    intro u v q1 q2 q3 q4 q5 q6 q7
    refine ⟨u, v, cmpErrF n d u v x y, q4, ?_, cmpF_le q5, q6, q7, q1⟩
    rw [compErrF, if_pos (best3_zero o1 q1 o2 hn hd q2 q3 (by omega) hy)]
  have hff : ¬ firstF n d x y = true := by rw [hf]; simp
  have hff' := hff
  obtain ⟨g1, g2, g3⟩ := nearest_min o1 h1
  by_cases hm : d ≤ y
  · have hs : sidesF n d y = ((n, d), (n, d)) := sidesF_own hm
    have hne : nearestF n d y = (n, d) := by rw [nearestF_eq hs]; split <;> rfl
    have hxy : ¬ (n = x ∧ d = y) := by
      rintro ⟨rfl, rfl⟩
      rw [firstF_eq hs] at hff
      simp at hff
    have z : offF n d n d = 0 := by simp [offF, ab]
    refine fin n d o1 (by omega) hd ?_ ?_ hxy hm
    · rw [beatsF, if_pos hb, if_neg hff, hne, if_neg hxy]
    · rw [z, Int.zero_mul]; exact Int.mul_nonneg (offF_nonneg _ _ _ _) (by omega)
  · obtain ⟨a, b, p, q, hs, x1, hxs, e1, e2⟩ := second_sides hok.2.2.2.2 h1 (show y < d by omega)
    have sg := sides_gcd o1 h1
    rw [hs] at sg
    have ss := sp_small x1 (by omega) hn
    have k1 := x1.hb; have k2 := x1.hd; have k3 := x1.bm; have k4 := x1.dm
    have oka : okF a b = true := ok_make sg.1 (by omega) (by omega)
    have okp : okF p q = true := ok_make sg.2 (by omega) (by omega)
    by_cases hnx : (nearestF n d y).1 = x ∧ (nearestF n d y).2 = y
    · rw [firstF_eq hs] at hff
      have hff2 := fun hh => hff (decide_eq_true hh)
      rw [nearestF_eq hs] at hnx
      by_cases hcc : 0 < cmpErrF n d a b p q ∨ cmpErrF n d a b p q = 0 ∧ q < b
      · rw [if_pos hcc] at hnx
        have e3 : p = x := hnx.1
        have e4 : q = y := hnx.2
        subst e3 e4
        rcases hcc with hcc | ⟨_, hcc⟩
        · exact absurd (.inr ⟨⟨rfl, rfl⟩, hcc⟩) hff2
        · omega
      · rw [if_neg hcc] at hnx
        have e3 : a = x := hnx.1
        have e4 : b = y := hnx.2
        subst e3 e4
        have hc0 : cmpErrF n d a b p q = 0 := by
          rcases Int.lt_trichotomy (cmpErrF n d a b p q) 0 with h | h | h
          · exact absurd (.inl ⟨⟨rfl, rfl⟩, .inl h⟩) hff2
          · exact h
          · exact absurd (.inl h) hcc
        have heq := cmpF_zero hc0
        have hdet := x1.det
        refine fin p q okp ss.2 (by omega) ?_ (by omega) ?_ k4
        · rw [beatsF, if_pos hb, if_neg hff', if_pos ⟨by rw [nearestF_eq hs, if_neg hcc], by rw [nearestF_eq hs, if_neg hcc]⟩, hs, if_pos ⟨rfl, rfl⟩]
        · rintro ⟨rfl, rfl⟩
          omega
    · have hnn : nearestF n d y = (a, b) ∨ nearestF n d y = (p, q) := by
        rw [nearestF_eq hs]
        split
        · exact .inr rfl
        · exact .inl rfl
      have hmin := g3 x y h1 (Int.le_refl _)
      have hr : beatsF n d x y = (nearestF n d y, 0) := by rw [beatsF, if_pos hb, if_neg hff, if_neg hnx]
      rcases hnn with e | e
      · rw [e] at hr hmin hnx
        exact fin a b oka ss.1 (by omega) hr hmin hnx k3
      · rw [e] at hr hmin hnx
        exact fin p q okp ss.2 (by omega) hr hmin hnx k4
/-- Both sides of a small fraction. -/
structure Nbr (n d m a b p q : Int) : Prop where
  r1 : lowFrF n d m = ((a, b), 0)
  r2 : upFrF n d m = ((p, q), 0)
  o1 : okF a b = true
  o2 : okF p q = true
  l1 : b ≤ m
  l2 : q ≤ m
  own : d ≤ m → (a = n ∧ b = d) ∧ p = n ∧ q = d
  far : m < d → sgnV (a * d) (n * b) = -1 ∧ sgnV (n * q) (p * d) = -1 ∧ ab (a * q - p * b) = 1 ∧ m < b + q
  s : (-2001 ≤ a ∧ a ≤ 2001) ∧ (-2001 ≤ p ∧ p ≤ 2001)
theorem nbr_of {n d m : Int} (o1 : okF n d = true) (hn : -2000 ≤ n ∧ n ≤ 2000) (hd : d ≤ 2000) (hm : 1 ≤ m ∧ m ≤ 1000000) : ∃ a b p q, Nbr n d m a b p q := by
  have hok := okF_bd o1
  have hmz := most_zero o1 hn hd hm
  by_cases c : d ≤ m
  · have hs := sidesF_own (N := n) c
    exact ⟨n, d, n, d, by rw [lowFrF, if_pos hmz, hs], by rw [upFrF, if_pos hmz, hs], o1, o1, c, c, fun _ => ⟨⟨rfl, rfl⟩, rfl, rfl⟩, fun h => absurd h (by omega), by omega, by omega⟩
  · obtain ⟨a, b, p, q, hs, x1, hxs, e1, e2⟩ := second_sides hok.2.2.2.2 hm.1 (show m < d by omega)
    have sg := sides_gcd o1 hm.1
    rw [hs] at sg
    have ss := sp_small x1 (by omega) hn
    have k1 := x1.hb; have k2 := x1.hd; have k3 := x1.bm; have k4 := x1.dm
    have hdet := x1.det
    have ab1 : a * q - p * b = -1 := by omega
    exact ⟨a, b, p, q, by rw [lowFrF, if_pos hmz, hs], by rw [upFrF, if_pos hmz, hs], ok_make sg.1 (by omega) (by omega), ok_make sg.2 (by omega) (by omega), k3, k4, fun h => absurd h c, fun _ => ⟨sgn_lt (by have := x1.lo; omega), sgn_lt (by have := x1.hi; omega), by rw [ab1]; rfl, hxs⟩, ss⟩
end Go.Proofs.Ytgmofofokhlhnaa
