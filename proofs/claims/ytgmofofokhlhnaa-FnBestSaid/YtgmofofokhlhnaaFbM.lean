/- FnBest's plain law: the best ones of the second kind are convergents; what is nearest is the last one of the first kind if it is one. Plain; each theorem names its conditions. -/
import Derived.Test.YtgmofofokhlhnaaBsP
import Derived.Test.YtgmofofokhlhnaaFbeats
import Derived.Test.YtgmofofokhlhnaaConv
import Derived.Test.YtgmofofokhlhnaaTermsF
import Derived.Test.YtgmofofokhlhnaaVal
namespace Go.Proofs.Ytgmofofokhlhnaa
set_option linter.unusedVariables false
set_option linter.unusedSimpArgs false

theorem tgt_mem {sec : Bool} {n d x y : Int} {k : Nat} (h : (x, y) ∈ tgt sec n d k) : 1 ≤ y ∧ y ≤ k ∧ bestK sec n d x y = true := by
  induction k with
  | zero => simp [tgt] at h
  | succ k ih =>
    have h : (x, y) ∈ tgt sec n d k ++ (if bestK sec n d (nearF n d ((k + 1 : Nat) : Int)).1 ((k + 1 : Nat) : Int) then [((nearF n d ((k + 1 : Nat) : Int)).1, ((k + 1 : Nat) : Int))] else []) := h
    rcases List.mem_append.1 h with h | h
    · have := ih h; exact ⟨this.1, by omega, this.2.2⟩
    · split at h
      · rename_i hb
        simp only [List.mem_singleton, Prod.mk.injEq] at h
        obtain ⟨rfl, rfl⟩ := h
        exact ⟨by omega, by omega, hb⟩
      · simp at h
theorem mem_tgt {sec : Bool} {n d x y : Int} {k : Nat} (hd : 0 < d) (hg : gcdI n d = 1) (h1 : 1 ≤ y) (h2 : y ≤ k) (h : bestK sec n d x y = true) : (x, y) ∈ tgt sec n d k := by
  induction k with
  | zero => omega
  | succ k ih =>
    show (x, y) ∈ tgt sec n d k ++ _
    rcases Int.lt_or_le y ((k + 1 : Nat) : Int) with g | g
    · exact List.mem_append.2 (.inl (ih (by omega)))
    · have hy : y = ((k + 1 : Nat) : Int) := by omega
      have := tgt_yes hd hg hy h
      have e : (x, y) ∈ tgt sec n d (k + 1) := by rw [this]; simp
      exact e
theorem tgt_pair (sec : Bool) (n d : Int) (k : Nat) : (tgt sec n d k).Pairwise (fun a b => a.2 < b.2) := by
  induction k with
  | zero => simp [tgt]
  | succ k ih =>
    show (tgt sec n d k ++ (if _ then _ else _)).Pairwise _
    split
    · refine List.pairwise_append.2 ⟨ih, by simp, fun a ha b hb => ?_⟩
      simp only [List.mem_singleton] at hb
      subst hb
      have := (tgt_mem (x := a.1) (y := a.2) ha).2.1
      show a.2 < ((k + 1 : Nat) : Int)
      omega
    · simpa using ih
/-- What is known of a best one of a small fraction. -/
structure Bst (n d x y : Int) : Prop where
  ok : okF x y = true
  y1 : 1 ≤ y
  yd : y ≤ d
  x1 : -2001 ≤ x
  x2 : x ≤ 2001
theorem bst_of {sec : Bool} {n d x y : Int} (o1 : okF n d = true) (hn : -2000 ≤ n ∧ n ≤ 2000) (hd : d ≤ 2000) (h1 : 1 ≤ y) (h : bestK sec n d x y = true) : Bst n d x y := by
  have hok := okF_bd o1
  rcases Int.lt_trichotomy y d with g | g | g
  · obtain ⟨a, b, c, e, hs, x1, hx, _, _⟩ := second_sides hok.2.2.2.2 h1 g
    have sg := sides_gcd o1 h1
    rw [hs] at sg
    have ss := sp_small x1 (by omega) hn
    have k1 := x1.hb; have k2 := x1.hd; have k3 := x1.bm; have k4 := x1.dm
    rcases best_at sec (by omega) x1 g hx h with ⟨rfl, rfl⟩ | ⟨rfl, rfl⟩
    · exact ⟨ok_make sg.1 (by omega) (by omega), h1, by omega, ss.1.1, ss.1.2⟩
    · exact ⟨ok_make sg.2 (by omega) (by omega), h1, by omega, ss.2.1, ss.2.2⟩
  · subst g
    rw [best_own] at h
    have hx := of_decide_eq_true h
    subst hx
    exact ⟨o1, h1, by omega, by omega, by omega⟩
  · rw [best_far sec g] at h; cases h
/-- Of two that follow each other the later one is nearer. -/
theorem best_cmp {n d x y u v : Int} (hd : 0 < d) (hg : gcdI n d = 1) (h1 : 1 ≤ v) (hvy : v < y) (hx : firstF n d x y = true) (hu : firstF n d u v = true) (hy : y ≤ d) : cmpErrF n d x y u v = -1 := by
  have a := (first_iff hd hg (by omega) hy x).1 hx
  have b := (first_iff hd hg h1 (by omega) u).1 hu
  have c := a.2.2 v h1 hvy
  have e1 := (near_dist (n := n) hd y).1
  have e2 := (near_dist (n := n) hd v).1
  rw [← a.1] at e1
  rw [← b.1] at e2
  unfold cmpErrF
  refine cmpF_neg ?_
  show ab (n * y - x * d) * v < ab (n * v - u * d) * y
  rw [e1, e2]; exact c

/-! Convergents. -/
structure CvS (n d p q p0 q0 N D : Int) : Prop where
  e1 : n = p * N + p0 * D
  e2 : d = q * N + q0 * D
  det : p * q0 - p0 * q = 1 ∨ p * q0 - p0 * q = -1
  np : 0 < N
  dz : 0 ≤ D
  dn : D < N
  qa : 1 ≤ q
  qz : 0 ≤ q0
  qq : q0 ≤ q
theorem CvS.next {n d p q p0 q0 N D : Int} (h : CvS n d p q p0 q0 N D) (hD : 0 < D) : CvS n d (N / D * p + p0) (N / D * q + q0) p q D (N - N / D * D) := by
  have b := rest_lt (n := N) (d := D) hD
  have t1 : 1 ≤ N / D := Int.le_ediv_of_mul_le hD (by have := h.dn; omega)
  have hq := Int.mul_le_mul_of_nonneg_right t1 (show 0 ≤ q by have := h.qa; omega)
  have e1 := h.e1; have e2 := h.e2; have dt := h.det; have z1 := h.qa; have z2 := h.qz; have z3 := h.qq
  generalize N / D = t at *
  refine ⟨by rw [e1]; grind, by rw [e2]; grind, ?_, hD, b.1, b.2, by omega, by omega, by omega⟩
  have e : (t * p + p0) * q - p * (t * q + q0) = -(p * q0 - p0 * q) := by grind
  omega
theorem CvS.off {n d p q p0 q0 N D : Int} (h : CvS n d p q p0 q0 N D) : n * q - p * d = -(p * q0 - p0 * q) * D := by
  rw [h.e1, h.e2]; grind
theorem CvS.abs {n d p q p0 q0 N D : Int} (h : CvS n d p q p0 q0 N D) : ab (n * q - p * d) = D := by
  have hD := h.dz
  rw [h.off]
  rcases h.det with e | e <;> rw [e]
  · rw [ab_neg (by omega)]; omega
  · rw [ab_pos (by omega)]; omega
theorem CvS.plain {n d p q p0 q0 N D : Int} (h : CvS n d p q p0 q0 N D) (hn : -2000 ≤ n ∧ n ≤ 2000) (hd : 1 ≤ d ∧ d ≤ 2000) : okF p q = true := by
  have hq := h.qa
  have m1 := Int.mul_le_mul_of_nonneg_left (show 1 ≤ N by have := h.np; omega) (show 0 ≤ q by omega)
  have m2 := Int.mul_nonneg h.qz h.dz
  have e2 := h.e2
  have hqd : q ≤ d := by omega
  have hg : gcdI p q = 1 := gcd_det (x := p0) (y := q0) hq (by rcases h.det with e | e <;> omega)
  have ho := h.abs
  have hDd : D ≤ d := by
    have m3 := Int.mul_le_mul_of_nonneg_right hq (show 0 ≤ N by have := h.np; omega)
    have := h.dn
    omega
  have m4 := mulbd (x := n) (y := q) (X := 2000) (Y := 2000) (by omega) (by omega)
  have hpd : -4002000 ≤ p * d ∧ p * d ≤ 4002000 := by unfold ab at ho; omega
  refine ok_make hg (by omega) ?_
  constructor
  · rcases Int.lt_or_le p (-1000000000) with g | g
    · have := Int.mul_le_mul_of_nonneg_right (show p ≤ -1000000000 by omega) (show 0 ≤ d by omega)
      omega
    · exact g
  · rcases Int.lt_or_le 1000000000 p with g | g
    · have := Int.mul_le_mul_of_nonneg_right (show 1000000000 ≤ p by omega) (show 0 ≤ d by omega)
      omega
    · exact g
/-- Nothing with a denominator below the next convergent's is nearer than this one. -/
theorem CvS.far {n d p q p0 q0 N D u v : Int} (h : CvS n d p q p0 q0 N D) (hD : 0 < D) (h1 : 1 ≤ v) (h2 : v < N / D * q + q0) : D ≤ ab (n * v - u * d) := by
  have hx := h.next hD
  have o1 := h.off
  have o2 := hx.off
  have d2 := hx.dz
  have hq := h.qa
  have dt := h.det
  generalize hp' : N / D * p + p0 = p' at *
  generalize hq' : N / D * q + q0 = q' at *
  generalize N - N / D * D = D' at *
  have hσ : p' * q - p * q' = -(p * q0 - p0 * q) := by rw [← hp', ← hq']; grind
  obtain ⟨σ, hs⟩ : ∃ σ, σ = p * q0 - p0 * q := ⟨_, rfl⟩
  rw [← hs] at o1 hσ dt
  rw [hσ] at o2
  -- u/v = s p/q + r p'/q'
  have ev : v = (σ * (p' * v - u * q')) * (-1) * q + (σ * (u * q - p * v)) * (-1) * q' := by
    have : σ * σ = 1 := by rcases dt with e | e <;> rw [e] <;> rfl
    have e3 : (σ * (p' * v - u * q')) * (-1) * q + (σ * (u * q - p * v)) * (-1) * q' = -(σ * ((p' * q - p * q') * v)) := by grind
    rw [e3, hσ]
    grind
  have eu : n * v - u * d = (σ * (p' * v - u * q')) * (-1) * (n * q - p * d) + (σ * (u * q - p * v)) * (-1) * (n * q' - p' * d) := by
    have : σ * σ = 1 := by rcases dt with e | e <;> rw [e] <;> rfl
    have e3 : (σ * (p' * v - u * q')) * (-1) * (n * q - p * d) + (σ * (u * q - p * v)) * (-1) * (n * q' - p' * d) = -(σ * ((p' * q - p * q') * (n * v - u * d))) := by grind
    rw [e3, hσ]
    grind
  rw [o1, o2] at eu
  generalize (σ * (p' * v - u * q')) * (-1) = s at *
  generalize (σ * (u * q - p * v)) * (-1) = r at *
  have eu2 : n * v - u * d = σ * (r * D' - s * D) := by rw [eu]; grind
  have key : D ≤ ab (r * D' - s * D) := by
    rcases Int.lt_trichotomy r 0 with hr | hr | hr
    · have hs1 : 1 ≤ s := by
        rcases Int.lt_or_le 0 s with g | g
        · omega
        · have m1 := Int.mul_le_mul_of_nonneg_right g (show 0 ≤ q by omega)
          have m2 := Int.mul_le_mul_of_nonneg_right (show r ≤ -1 by omega) (show 0 ≤ q' by have := hx.qa; omega)
          omega
      have m1 := Int.mul_le_mul_of_nonneg_right hs1 (show 0 ≤ D by omega)
      have m2 := Int.mul_le_mul_of_nonneg_right (show r ≤ 0 by omega) d2
      rw [ab_neg (by omega)]; omega
    · subst hr
      have hs1 : 1 ≤ s := by
        rcases Int.lt_or_le 0 s with g | g
        · omega
        · have m1 := Int.mul_le_mul_of_nonneg_right g (show 0 ≤ q by omega)
          omega
      have m1 := Int.mul_le_mul_of_nonneg_right hs1 (show 0 ≤ D by omega)
      rw [ab_neg (by omega)]; omega
    · have hs1 : s ≤ -1 := by
        rcases Int.lt_or_le s 0 with g | g
        · omega
        · have m1 := Int.mul_le_mul_of_nonneg_right g (show 0 ≤ q by omega)
          have m2 := Int.mul_le_mul_of_nonneg_right (show 1 ≤ r by omega) (show 0 ≤ q' by have := hx.qa; omega)
          omega
      have m1 := Int.mul_le_mul_of_nonneg_right hs1 (show 0 ≤ D by omega)
      have m2 := Int.mul_le_mul_of_nonneg_right (show 0 ≤ r by omega) d2
      rw [ab_pos (by omega)]; omega
  have : ab (n * v - u * d) = ab (r * D' - s * D) := by
    rw [eu2]
    rcases dt with e | e <;> rw [e]
    · rw [Int.one_mul]
    · unfold ab; omega
  omega
theorem conv_tail {n d : Int} (hn : -2000 ≤ n ∧ n ≤ 2000) (hd : 1 ≤ d ∧ d ≤ 2000) (hg : gcdI n d = 1) : ∀ (f : Nat) (p q p0 q0 N D : Int), D < f → CvS n d p q p0 q0 N D →
    ∃ fs, convG (termsF N D) p q p0 q0 = some fs ∧ ∀ x y, secondF n d x y = true → q < y → y ≤ d → (x, y) ∈ fs
  | 0, _, _, _, _, _, _, h, hc => by have := hc.dz; omega
  | f + 1, p, q, p0, q0, N, D, h, hc => by
    rcases Int.lt_or_le 0 D with hD | hD
    · have hx := hc.next hD
      obtain ⟨fs, h1, h2⟩ := conv_tail hn hd hg f _ _ _ _ _ _ (by have := hx.dn; omega) hx
      refine ⟨(N / D * p + p0, N / D * q + q0) :: fs, ?_, fun x y hs hq hy => ?_⟩
      · rw [termsF_step hD, convG, if_pos (hx.plain hn hd), h1]; rfl
      · have hq1 := hc.qa
        have si := (second_iff (show 0 < d by omega) hg (by omega) hy x).1 hs
        have hnd := (near_dist (n := n) (show 0 < d by omega) y).1
        rw [← si.1] at hnd
        rcases Int.lt_trichotomy y (N / D * q + q0) with g | g | g
        · have a1 := hc.far (u := x) hD (by omega) g
          have a2 := si.2.2 q hq1 hq
          have a3 := near_least (n := n) (show 0 < d by omega) q p
          rw [hc.abs] at a3
          omega
        · have a1 := near_least (n := n) (show 0 < d by omega) y (N / D * p + p0)
          rw [g, hx.abs, ← g] at a1
          have e2 := hx.e2
          have hD' := hx.dz
          have hDl := hx.dn
          rw [← g] at e2
          have m1 := Int.mul_le_mul_of_nonneg_right (show 2 ≤ y by omega) (show 0 ≤ D by omega)
          have m2 := Int.mul_nonneg (show 0 ≤ q by omega) hD'
          have e3 := hx.off
          rw [← g] at e3
          have hxp : x = N / D * p + p0 := by
            rcases off_or (k := n * y) (d := d) (p := N / D * p + p0) (u := x) (by omega) with o | o | o
            · have := hx.abs
              rw [← g] at this
              unfold ab at *
              omega
            · exact o.2
            · have := hx.abs
              rw [← g] at this
              unfold ab at *
              omega
          rw [hxp, g]
          simp
        · exact List.mem_cons_of_mem _ (h2 x y hs g hy)
    · obtain rfl : D = 0 := by have := hc.dz; omega
      refine ⟨[], by rw [termsF_zero]; rfl, fun x y hs hq hy => ?_⟩
      have e1 := hc.e1; have e2 := hc.e2
      have hN : N = 1 := by
        have d1 : N ∣ n := ⟨p, by rw [e1]; grind⟩
        have d2 : N ∣ d := ⟨q, by rw [e2]; grind⟩
        have : N ∣ (Int.gcd n d : Int) := Int.dvd_coe_gcd d1 d2
        unfold gcdI at hg
        rw [hg] at this
        have := Int.le_of_dvd (by omega) this
        have := hc.np
        omega
      subst hN
      omega
/-- Best ones of the second kind are convergents; all convergents are plain. -/
theorem conv_second {n d : Int} (hn : -2000 ≤ n ∧ n ≤ 2000) (hd : 1 ≤ d ∧ d ≤ 2000) (hg : gcdI n d = 1) :
    ∃ fs, convL (termsF n d) = some fs ∧ ∀ x y, secondF n d x y = true → 1 ≤ y → y ≤ d → (x, y) ∈ fs := by
  have b := rest_lt (n := n) (d := d) (by omega)
  have hc : CvS n d (n / d) 1 1 0 d (n - n / d * d) := ⟨by omega, by omega, by omega, by omega, b.1, b.2, by omega, by omega, by omega⟩
  have hp : okF (n / d * 1 + 0) (n / d * 0 + 1) = true := by
    rw [show n / d * 1 + 0 = n / d by omega, show n / d * 0 + 1 = 1 by omega]; exact hc.plain hn hd
  obtain ⟨fs, h1, h2⟩ := conv_tail hn hd hg _ _ _ _ _ _ _ (show n - n / d * d < ((n - n / d * d).toNat + 1 : Nat) by omega) hc
  refine ⟨(n / d, 1) :: fs, ?_, fun x y hs hy1 hy => ?_⟩
  · rw [convL, termsF_step (by omega), convG, if_pos hp, show n / d * 1 + 0 = n / d by omega, show n / d * 0 + 1 = 1 by omega, h1]; rfl
  · rcases Int.lt_or_le 1 y with g | g
    · exact List.mem_cons_of_mem _ (h2 x y hs g hy)
    · obtain rfl : y = 1 := by omega
      have si := (second_iff (show 0 < d by omega) hg (by omega) hy x).1 hs
      by_cases hx : x = n / d
      · subst hx; simp
      · have hx1 := si.1
        unfold nearF at hx1
        rw [show n * 1 = n by omega] at hx1
        split at hx1
        · rename_i hlt
          have hx2 : x = n / d + 1 := hx1
          have hD : 0 < n - n / d * d := by omega
          have ht : d / (n - n / d * d) = 1 := by
            have q1 : 1 ≤ d / (n - n / d * d) := Int.le_ediv_of_mul_le hD (by omega)
            have q2 : d / (n - n / d * d) < 2 := Int.ediv_lt_of_lt_mul hD (by omega)
            omega
          have hx' := hc.next hD
          rw [termsF_step hD, convG, if_pos (hx'.plain hn hd)] at h1
          obtain ⟨l, hl, rfl⟩ := Option.map_eq_some_iff.1 h1
          rw [ht, hx2]
          have e1 : 1 * (n / d) + 1 = n / d + 1 := by omega
          have e2 : (1 : Int) * 1 + 0 = 1 := by omega
          rw [e1, e2]
          simp
        · exact absurd hx1 hx
theorem terms_ok {n d : Int} (hn : -2000 ≤ n ∧ n ≤ 2000) (hd : 1 ≤ d ∧ d ≤ 2000) : termsP (termsF n d) = true := by
  refine termsP_iff.2 ⟨⟨termsF_pos (by omega), termsF_60 (by omega) (by omega)⟩, fun i x hx => inB_iff.2 ?_⟩
  have := termsF_bd (d.toNat + 1) n d (by omega) (by omega) (by omega) (by omega) i x hx
  unfold lowT
  split at this <;> split <;> omega

/-- What is nearest and best is the last one. -/
theorem near_last {n d m x y : Int} (ok : okF n d = true) (hm : 1 ≤ m) (hr : nearestF n d m = (x, y)) (hf : firstF n d x y = true) :
    (tgt false n d (min m d).toNat)[(tgt false n d (min m d).toNat).length - 1]? = some (x, y) ∧ 0 < (tgt false n d (min m d).toNat).length := by
  have hok := okF_bd ok
  have hg := hok.2.2.2.2
  have hd : 0 < d := by omega
  obtain ⟨hy1, hym, hyd, hall⟩ : 1 ≤ y ∧ y ≤ m ∧ y ≤ d ∧ ∀ u v, firstF n d u v = true → 1 ≤ v → v ≤ m → v ≤ d → v ≤ y := by
    by_cases hmd : d ≤ m
    · rw [nearestF_eq (sidesF_own hmd)] at hr
      have hr' : (n, d) = (x, y) := by split at hr <;> exact hr
      simp only [Prod.mk.injEq] at hr'
      obtain ⟨rfl, rfl⟩ := hr'
      exact ⟨by omega, hmd, Int.le_refl _, fun u v _ _ _ h => h⟩
    · obtain ⟨a, b, c, e, hs, x1, hx, o1, o2⟩ := second_sides hg hm (show m < d by omega)
      rw [nearestF_eq hs] at hr
      have k1 := x1.hb; have k2 := x1.hd; have k3 := x1.bm; have k4 := x1.dm; have k5 := x1.lo; have k6 := x1.hi
      have hxy : ((x = a ∧ y = b) ∧ (n * b - a * d) * e ≤ (c * d - n * e) * b) ∨ ((x = c ∧ y = e) ∧ (c * d - n * e) * b ≤ (n * b - a * d) * e) := by
        unfold cmpErrF at hr
        rw [o1, o2] at hr
        split at hr
        · rename_i hc
          right
          simp only [Prod.mk.injEq] at hr
          refine ⟨⟨hr.1.symm, hr.2.symm⟩, ?_⟩
          rcases hc with hc | ⟨hc, _⟩
          · rcases Int.lt_or_le ((n * b - a * d) * e) ((c * d - n * e) * b) with g | g
            · rw [cmpF_neg g] at hc; omega
            · exact g
          · have := cmpF_zero hc; omega
        · rename_i hc
          left
          simp only [Prod.mk.injEq] at hr
          refine ⟨⟨hr.1.symm, hr.2.symm⟩, ?_⟩
          rcases Int.lt_or_le ((c * d - n * e) * b) ((n * b - a * d) * e) with g | g
          · rw [cmpF_pos g] at hc; omega
          · exact g
      have hyy : 1 ≤ y ∧ y ≤ m := by rcases hxy with ⟨⟨_, rfl⟩, _⟩ | ⟨⟨_, rfl⟩, _⟩ <;> omega
      refine ⟨hyy.1, hyy.2, by omega, fun u v huv h1 h2 h3 => ?_⟩
      rcases Int.lt_or_le y v with g | g
      · exfalso
        have su := (first_iff hd hg h1 h3 u).1 huv
        have sx := (first_iff hd hg hyy.1 (by omega) x).1 hf
        have l := su.2.2 y hyy.1 g
        have d1 := (near_dist (n := n) hd v).1
        have d2 := (near_dist (n := n) hd y).1
        rw [← su.1] at d1
        rw [← sx.1] at d2
        have er := x1.err hx (u := u) h1 h2
        rw [d1] at er
        rcases hxy with ⟨⟨rfl, rfl⟩, hle⟩ | ⟨⟨rfl, rfl⟩, hle⟩
        · rw [ab_pos (by omega)] at d2
          rw [← d2] at l
          rcases er with ⟨er, _⟩ | ⟨er, _⟩
          · omega
          · have m1 := Int.mul_le_mul_of_nonneg_right hle (show 0 ≤ v by omega)
            have m2 := Int.mul_le_mul_of_nonneg_right er (show 0 ≤ y by omega)
            have m3 := Int.mul_lt_mul_of_pos_right l (show 0 < e by omega)
            have z1 : (n * y - x * d) * e * v = (n * y - x * d) * v * e := by grind
            have z2 : (c * d - n * e) * y * v = (c * d - n * e) * v * y := by grind
            have z3 : (nearF n d v).2.1 * y * e = (nearF n d v).2.1 * e * y := by grind
            omega
        · rw [ab_neg (by omega)] at d2
          rw [← d2] at l
          have l' : (nearF n d v).2.1 * y < (x * d - n * y) * v := by rw [show x * d - n * y = -(n * y - x * d) by omega]; exact l
          rcases er with ⟨er, _⟩ | ⟨er, _⟩
          · have m1 := Int.mul_le_mul_of_nonneg_right hle (show 0 ≤ v by omega)
            have m2 := Int.mul_le_mul_of_nonneg_right er (show 0 ≤ y by omega)
            have m3 := Int.mul_lt_mul_of_pos_right l' (show 0 < b by omega)
            have z1 : (x * d - n * y) * b * v = (x * d - n * y) * v * b := by grind
            have z2 : (n * b - a * d) * y * v = (n * b - a * d) * v * y := by grind
            have z3 : (nearF n d v).2.1 * y * b = (nearF n d v).2.1 * b * y := by grind
            omega
          · omega
      · exact g
  have hmem := mem_tgt (sec := false) (k := (min m d).toNat) hd hg hy1 (by omega) hf
  have hlen := List.length_pos_of_mem hmem
  refine ⟨?_, hlen⟩
  obtain ⟨i, hi, hget⟩ := List.getElem_of_mem hmem
  have hpw := tgt_pair false n d (min m d).toNat
  have hil : i = (tgt false n d (min m d).toNat).length - 1 := by
    rcases Nat.lt_or_ge i ((tgt false n d (min m d).toNat).length - 1) with g | g
    · have h2 := List.pairwise_iff_getElem.1 hpw i ((tgt false n d (min m d).toNat).length - 1) hi (by omega) g
      have hm2 := tgt_mem (x := ((tgt false n d (min m d).toNat)[(tgt false n d (min m d).toNat).length - 1]).1) (y := ((tgt false n d (min m d).toNat)[(tgt false n d (min m d).toNat).length - 1]).2) (List.getElem_mem (by omega))
      have h3 := hall _ _ hm2.2.2 hm2.1 (by omega) (by omega)
      rw [hget] at h2
      simp only [] at h2
      omega
    · omega
  rw [← hil, List.getElem?_eq_getElem hi, hget]

end Go.Proofs.Ytgmofofokhlhnaa
