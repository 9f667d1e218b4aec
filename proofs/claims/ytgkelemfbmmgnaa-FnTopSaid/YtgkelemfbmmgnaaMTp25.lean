/- Some of the texts of this claim, joined in one file: SidesM, Cmp. -/
import Derived.Test.YtgkelemfbmmgnaaMTp4
import Derived.Test.YtgkelemfbmmgnaaMTp7
/- Plain numbers, no program: the neighbours on both sides of a fraction with bounded denominators are unique, and each way of coming nearer keeps them neighbours. -/
namespace Go.Proofs.Ytgkelemfbmmgnaa
set_option linter.unusedVariables false
set_option linter.unusedSimpArgs false

/-- a/b < N/D < c/d are neighbours with denominators up to m. -/
structure SP (N D m a b c d : Int) : Prop where
  hb : 1 ≤ b
  hd : 1 ≤ d
  bm : b ≤ m
  dm : d ≤ m
  det : c * b - a * d = 1
  lo : 0 < N * b - a * D
  lo' : N * b - a * D ≤ D
  hi : 0 < c * D - N * d
  hi' : c * D - N * d ≤ D

theorem pos_of_mul {x y : Int} (hx : 0 < x) (h : 0 < x * y) : 0 < y := by
  rcases Int.lt_trichotomy 0 y with q | q | q
  · exact q
  · subst q; simp at h
  · have := Int.mul_neg_of_pos_of_neg hx q; omega
theorem le_mul_pos {b x : Int} (hb : 0 ≤ b) (hx : 1 ≤ x) : b ≤ b * x := by
  have := Int.mul_le_mul_of_nonneg_left hx hb; omega

theorem between {a b c d a' b' N D : Int} (hD : 0 < D) (hd : 0 < d) (hb : 0 < b') (h1 : a' * D < N * b') (h2 : N * d < c * D) : 0 < c * b' - a' * d := by
  have e1 := Int.mul_lt_mul_of_pos_right h1 hd
  have e2 := Int.mul_lt_mul_of_pos_right h2 hb
  have : 0 < D * (c * b' - a' * d) := by grind
  exact pos_of_mul hD this

theorem SP.low_le {N D m a b c d a' b' c' d' : Int} (hD : 0 < D) (x : SP N D m a b c d) (y : SP N D m a' b' c' d') (hx : m < b + d) : a' * b - a * b' ≤ 0 := by
  rcases Int.lt_or_le 0 (a' * b - a * b') with h | h
  · have e : b' = b * (c * b' - a' * d) + d * (a' * b - a * b') := by have := x.det; grind
    have h1 := between (N := N) (a := a) (b := b) (a' := a') (b' := b') (c := c) (d := d) hD (by have := x.hd; omega) (by have := y.hb; omega) (by have := y.lo; omega) (by have := x.hi; omega)
    have g1 := le_mul_pos (b := b) (x := c * b' - a' * d) (by have := x.hb; omega) (by omega)
    have g2 := le_mul_pos (b := d) (x := a' * b - a * b') (by have := x.hd; omega) (by omega)
    have := y.bm
    omega
  · exact h
theorem SP.high_ge {N D m a b c d a' b' c' d' : Int} (hD : 0 < D) (x : SP N D m a b c d) (y : SP N D m a' b' c' d') (hx : m < b + d) : c * d' - c' * d ≤ 0 := by
  rcases Int.lt_or_le 0 (c * d' - c' * d) with h | h
  · have e : d' = d * (c' * b - a * d') + b * (c * d' - c' * d) := by have := x.det; grind
    have h1 := between (N := N) (a := a') (b := b') (a' := a) (b' := b) (c := c') (d := d') hD (by have := y.hd; omega) (by have := x.hb; omega) (by have := x.lo; omega) (by have := y.hi; omega)
    have g1 := le_mul_pos (b := d) (x := c' * b - a * d') (by have := x.hd; omega) (by omega)
    have g2 := le_mul_pos (b := b) (x := c * d' - c' * d) (by have := x.hb; omega) (by omega)
    have := y.dm
    omega
  · exact h

theorem eq_of_cross {a b c d a' b' c' d' : Int} (hb : 1 ≤ b) (hb' : 1 ≤ b') (e : a' * b = a * b') (h1 : c * b - a * d = 1) (h2 : c' * b' - a' * d' = 1) : a = a' ∧ b = b' := by
  have d1 : b ∣ b' := ⟨c * b' - d * a', by grind⟩
  have d2 : b' ∣ b := ⟨c' * b - d' * a, by grind⟩
  have l1 := Int.le_of_dvd (by omega) d1
  have l2 := Int.le_of_dvd (by omega) d2
  have eb : b = b' := by omega
  subst eb
  have : a' = a := Int.eq_of_mul_eq_mul_right (by omega) e
  exact ⟨this.symm, rfl⟩

/-- There is only one such pair that no further fraction of denominator up to m comes between. -/
theorem SP.unique {N D m a b c d a' b' c' d' : Int} (hD : 0 < D) (x : SP N D m a b c d) (y : SP N D m a' b' c' d') (hx : m < b + d) (hy : m < b' + d') :
    a = a' ∧ b = b' ∧ c = c' ∧ d = d' := by
  have l1 := SP.low_le hD x y hx
  have l2 := SP.low_le hD y x hy
  have h1 := SP.high_ge hD x y hx
  have h2 := SP.high_ge hD y x hy
  have e1 := eq_of_cross x.hb y.hb (by omega) x.det y.det
  have e2 := eq_of_cross (a := c) (b := d) (c := -a) (d := -b) (a' := c') (b' := d') (c' := -a') (d' := -b') x.hd y.hd (by omega) (by have := x.det; grind) (by have := y.det; grind)
  exact ⟨e1.1, e1.2, e2.1, e2.2⟩

/-- Nothing with a denominator below D is the fraction itself. -/
theorem not_own {N D a b : Int} (hg : gcdI N D = 1) (hb : 1 ≤ b) (hbD : b < D) : N * b - a * D ≠ 0 := by
  intro h
  have hdv : D ∣ N * b := ⟨a, by grind⟩
  have hco : Int.gcd D N = 1 := by rw [Int.gcd_comm]; unfold gcdI at hg; omega
  have : D ∣ b := by
    have q := Int.dvd_gcd_mul_iff_dvd_mul.2 hdv
    rw [hco] at q
    simpa using q
  have := Int.le_of_dvd (by omega) this
  omega

/-- k steps of the lower side towards the higher one. -/
theorem SP.stepLow {N D m a b c d k : Int} (x : SP N D m a b c d) (hg : gcdI N D = 1) (hm : m < D) (hk : 0 ≤ k) (h1 : k * (c * D - N * d) ≤ N * b - a * D) (h2 : b + k * d ≤ m) : SP N D m (a + k * c) (b + k * d) c d := by
  have hkd := Int.mul_nonneg hk (show 0 ≤ d by have := x.hd; omega)
  have hkh := Int.mul_nonneg hk (show 0 ≤ c * D - N * d by have := x.hi; omega)
  have e : N * (b + k * d) - (a + k * c) * D = (N * b - a * D) - k * (c * D - N * d) := by grind
  have hne := not_own (N := N) (D := D) (a := a + k * c) (b := b + k * d) hg (by have := x.hb; omega) (by omega)
  exact ⟨by have := x.hb; omega, x.hd, h2, x.dm, by have := x.det; grind, by omega, by have := x.lo'; omega, x.hi, x.hi'⟩
theorem SP.stepHigh {N D m a b c d k : Int} (x : SP N D m a b c d) (hg : gcdI N D = 1) (hm : m < D) (hk : 0 ≤ k) (h1 : k * (N * b - a * D) ≤ c * D - N * d) (h2 : d + k * b ≤ m) : SP N D m a b (c + k * a) (d + k * b) := by
  have hkb := Int.mul_nonneg hk (show 0 ≤ b by have := x.hb; omega)
  have hkh := Int.mul_nonneg hk (show 0 ≤ N * b - a * D by have := x.lo; omega)
  have e : (c + k * a) * D - N * (d + k * b) = (c * D - N * d) - k * (N * b - a * D) := by grind
  have hne := not_own (N := N) (D := D) (a := c + k * a) (b := d + k * b) hg (by have := x.hd; omega) (by omega)
  exact ⟨x.hb, by have := x.hd; omega, x.bm, h2, by have := x.det; grind, x.lo, x.lo', by omega, by have := x.hi'; omega⟩

/-- The beginning: the floor and the number behind it. -/
theorem SP.start {N D m : Int} (hg : gcdI N D = 1) (hm : m < D) (h1 : 1 ≤ m) : SP N D m (N / D) 1 (N / D + 1) 1 := by
  have e := Int.mul_ediv_add_emod N D
  have r1 := Int.emod_nonneg N (show D ≠ 0 by omega)
  have r2 := Int.emod_lt_of_pos N (show 0 < D by omega)
  have hne := not_own (N := N) (D := D) (a := N / D) (b := 1) hg (by omega) (by omega)
  have c1 : N / D * D = D * (N / D) := Int.mul_comm _ _
  have c2 : (N / D + 1) * D = D * (N / D) + D := by grind
  refine ⟨by omega, by omega, by omega, by omega, by grind, ?_, ?_, ?_, ?_⟩ <;> omega

/-- Both sides: the fraction itself if its denominator is not greater than m. -/
noncomputable def sidesF (N D m : Int) : (Int × Int) × (Int × Int) :=
  if D ≤ m then ((N, D), (N, D))
  else @dite _ (∃ x : (Int × Int) × (Int × Int), SP N D m x.1.1 x.1.2 x.2.1 x.2.2 ∧ m < x.1.2 + x.2.2) (Classical.propDecidable _) (fun h => Classical.choose h) (fun _ => ((0, 0), (0, 0)))
theorem sidesF_own {N D m : Int} (h : D ≤ m) : sidesF N D m = ((N, D), (N, D)) := by rw [sidesF, if_pos h]
theorem sidesF_eq {N D m a b c d : Int} (hD : 0 < D) (hm : ¬ D ≤ m) (x : SP N D m a b c d) (hx : m < b + d) : sidesF N D m = ((a, b), (c, d)) := by
  have hex : ∃ x : (Int × Int) × (Int × Int), SP N D m x.1.1 x.1.2 x.2.1 x.2.2 ∧ m < x.1.2 + x.2.2 := ⟨((a, b), (c, d)), x, hx⟩
  rw [sidesF, if_neg hm, dif_pos hex]
  obtain ⟨y, hy⟩ := Classical.choose_spec hex
  obtain ⟨e1, e2, e3, e4⟩ := SP.unique hD x y hx hy
  generalize Classical.choose hex = z at *
  obtain ⟨⟨z1, z2⟩, ⟨z3, z4⟩⟩ := z
  simp at e1 e2 e3 e4
  subst e1 e2 e3 e4
  rfl

end Go.Proofs.Ytgkelemfbmmgnaa

/- The comparison of two errors. Each theorem names its conditions. -/
namespace Go.Proofs.Ytgkelemfbmmgnaa
open Go.RowKit
set_option linter.unusedVariables false
set_option linter.unusedSimpArgs false

/-- The comparison of the errors of a / b and p / q for n / d. -/
def cmpErrF (n d a b p q : Int) : Int := cmpF (offF n d a b * q) (offF n d p q * b)
/-- Numbers so small that no product on the way is too great. -/
structure SmallP (n d a b p q : Int) : Prop where
  n1 : -2000000 ≤ n
  n2 : n ≤ 2000000
  d1 : 0 ≤ d
  d2 : d ≤ 1000000
  a1 : -2000000 ≤ a
  a2 : a ≤ 2000000
  b1 : 0 ≤ b
  b2 : b ≤ 1000000
  p1 : -2000000 ≤ p
  p2 : p ≤ 2000000
  q1 : 0 ≤ q
  q2 : q ≤ 1000000
theorem mul_bd {x y X Y : Int} (h1 : -X ≤ x) (h2 : x ≤ X) (h3 : 0 ≤ y) (h4 : y ≤ Y) : -(X * Y) ≤ x * y ∧ x * y ≤ X * Y := by
  have hX : 0 ≤ X := by omega
  have e1 := Int.mul_le_mul_of_nonneg_right h2 h3
  have e2 := Int.mul_le_mul_of_nonneg_right h1 h3
  have e3 := Int.mul_le_mul_of_nonneg_left h4 hX
  have e4 : -X * y = -(X * y) := Int.neg_mul _ _
  omega
theorem SmallP.prods {n d a b p q : Int} (h : SmallP n d a b p q) : (-2000000000000 ≤ n * b ∧ n * b ≤ 2000000000000) ∧ (-2000000000000 ≤ a * d ∧ a * d ≤ 2000000000000) ∧ (-2000000000000 ≤ n * q ∧ n * q ≤ 2000000000000) ∧ (-2000000000000 ≤ p * d ∧ p * d ≤ 2000000000000) ∧ True ∧ True ∧ True ∧ True :=
  ⟨mul_bd h.n1 h.n2 h.b1 h.b2, mul_bd h.a1 h.a2 h.d1 h.d2, mul_bd h.n1 h.n2 h.q1 h.q2, mul_bd h.p1 h.p2 h.d1 h.d2, trivial, trivial, trivial, trivial⟩
theorem SmallP.outs {n d a b p q : Int} (h : SmallP n d a b p q) : 0 ≤ offF n d a b * q ∧ offF n d a b * q ≤ 4000000000000000000 ∧ 0 ≤ offF n d p q * b ∧ offF n d p q * b ≤ 4000000000000000000 := by
  obtain ⟨u1, u2, u3, u4, _⟩ := h.prods
  have o1 : offF n d a b ≤ 4000000000000 := ab_le (by omega)
  have o2 : offF n d p q ≤ 4000000000000 := ab_le (by omega)
  have m1 := mul_bd (X := 4000000000000) (by have := offF_nonneg n d a b; omega) o1 h.q1 h.q2
  have m2 := mul_bd (X := 4000000000000) (by have := offF_nonneg n d p q; omega) o2 h.b1 h.b2
  exact ⟨Int.mul_nonneg (offF_nonneg _ _ _ _) h.q1, by omega, Int.mul_nonneg (offF_nonneg _ _ _ _) h.b1, by omega⟩
theorem cmpB_any (a b : Int) (w : World) : Calls Try.prog 81 #[.int .i64 a, .int .i64 b] w fun e w' => e = .returned (.int .i64 (cmpF a b)) ∧ Bl w w' :=
  (cmp_any a b w).mono fun _ _ h => ⟨h.1, by rw [← h.2]; exact bl_refl w⟩

set_option maxRecDepth 100000 in
set_option maxHeartbeats 1600000 in
theorem icmpErr_any (n d a b p q : Int) (w : World) (ok : SmallP n d a b p q) :
    Calls Try.prog 106 #[.agg #[.int .i64 n, .int .i64 d], .agg #[.int .i64 a, .int .i64 b], .agg #[.int .i64 p, .int .i64 q]] w fun r w' => r = .returned (.int .i64 (cmpErrF n d a b p q)) ∧ Bl w w' := by
  obtain ⟨u1, u2, u3, u4, v1, v2, v3, v4⟩ := ok.prods
  obtain ⟨t1, t2, t3, t4⟩ := ok.outs
  have W1 : IntKind.i64.wrap (offF n d a b * q) = offF n d a b * q := IntWalk.i64_in _ (by omega)
  have W2 : IntKind.i64.wrap (offF n d p q * b) = offF n d p q * b := IntWalk.i64_in _ (by omega)
  go_enter Try.func106, Try.ntmps106
  go_wp2_with fail
  have B1 : Bl w (((w.alloc (.cells #[.int .i64 n, .int .i64 d] 44)).alloc (.cells #[.int .i64 a, .int .i64 b] 44)).alloc (.cells #[.int .i64 p, .int .i64 q] 44)) := (bl_alloc (bl_alloc (bl_alloc (bl_refl _) _) _) _)
  have xF_1 : Bx (((w.alloc (.cells #[.int .i64 n, .int .i64 d] 44)).alloc (.cells #[.int .i64 a, .int .i64 b] 44)).alloc (.cells #[.int .i64 p, .int .i64 q] 44)) (w.heap.size) #[.int .i64 n, .int .i64 d] := (((Bx.new (b := w.heap.size) _ #[.int .i64 n, .int .i64 d] 44 (by first | rfl | simp)).alloc _).alloc _)
  have xA_1 : Bx (((w.alloc (.cells #[.int .i64 n, .int .i64 d] 44)).alloc (.cells #[.int .i64 a, .int .i64 b] 44)).alloc (.cells #[.int .i64 p, .int .i64 q] 44)) (w.heap.size + 1) #[.int .i64 a, .int .i64 b] := ((Bx.new (b := w.heap.size + 1) _ #[.int .i64 a, .int .i64 b] 44 (by first | rfl | simp)).alloc _)
  have xB_1 : Bx (((w.alloc (.cells #[.int .i64 n, .int .i64 d] 44)).alloc (.cells #[.int .i64 a, .int .i64 b] 44)).alloc (.cells #[.int .i64 p, .int .i64 q] 44)) (w.heap.size + 1 + 1) #[.int .i64 p, .int .i64 q] := (Bx.new (b := w.heap.size + 1 + 1) _ #[.int .i64 p, .int .i64 q] 44 (by first | rfl | simp))
  have zz1 : w.heap.size + 3 ≤ (((w.alloc (.cells #[.int .i64 n, .int .i64 d] 44)).alloc (.cells #[.int .i64 a, .int .i64 b] 44)).alloc (.cells #[.int .i64 p, .int .i64 q] 44)).heap.size := (by simp)
  generalize (((w.alloc (.cells #[.int .i64 n, .int .i64 d] 44)).alloc (.cells #[.int .i64 a, .int .i64 b] 44)).alloc (.cells #[.int .i64 p, .int .i64 q] 44)) = w1 at *
  obtain ⟨cF_1, fF_1, zF_1⟩ := xF_1.out
  obtain ⟨cA_1, fA_1, zA_1⟩ := xA_1.out
  obtain ⟨cB_1, fB_1, zB_1⟩ := xB_1.out
  go_region_held3 (fun w' => w'.cell? ⟨w.heap.size, 0, none⟩ = some (.int .i64 n) ∧ w'.cell? ⟨w.heap.size, 1, none⟩ = some (.int .i64 d) ∧ w'.cell? ⟨w.heap.size + 1, 0, none⟩ = some (.int .i64 a) ∧ w'.cell? ⟨w.heap.size + 1, 1, none⟩ = some (.int .i64 b) ∧ w'.cell? ⟨w.heap.size + 1 + 1, 0, none⟩ = some (.int .i64 p) ∧ w'.cell? ⟨w.heap.size + 1 + 1, 1, none⟩ = some (.int .i64 q)) (first | (simp [*]; done) | go_keep)
    (first | (go_at_call_of 127 (Value.agg #[Value.int IntKind.i64 a, Value.int IntKind.i64 b]); go_must (refine (ioff_any n d a b _ (by omega) (by omega) (by omega) (by omega)).mono ?_; rintro e w2 ⟨rfl, hb2⟩; have B2 : Bl w w2 := bl_call (bl_drew B1) hb2; have xF_2 : Bx w2 (w.heap.size) #[.int .i64 n, .int .i64 d] := xF_1.drew.below hb2; have xA_2 : Bx w2 (w.heap.size + 1) #[.int .i64 a, .int .i64 b] := xA_1.drew.below hb2; have xB_2 : Bx w2 (w.heap.size + 1 + 1) #[.int .i64 p, .int .i64 q] := xB_1.drew.below hb2; clear cF_1 fF_1 zF_1 cA_1 fA_1 zA_1 cB_1 fB_1 zB_1; obtain ⟨cF_2, fF_2, zF_2⟩ := xF_2.out; obtain ⟨cA_2, fA_2, zA_2⟩ := xA_2.out; obtain ⟨cB_2, fB_2, zB_2⟩ := xB_2.out)) | (go_at_call_of 127 (Value.agg #[Value.int IntKind.i64 p, Value.int IntKind.i64 q]); go_must (refine (ioff_any n d p q _ (by omega) (by omega) (by omega) (by omega)).mono ?_; rintro e w3 ⟨rfl, hb3⟩; have B3 : Bl w w3 := bl_call B2 hb3; have xF_3 : Bx w3 (w.heap.size) #[.int .i64 n, .int .i64 d] := xF_2.below hb3; have xA_3 : Bx w3 (w.heap.size + 1) #[.int .i64 a, .int .i64 b] := xA_2.below hb3; have xB_3 : Bx w3 (w.heap.size + 1 + 1) #[.int .i64 p, .int .i64 q] := xB_2.below hb3; clear cF_2 fF_2 zF_2 cA_2 fA_2 zA_2 cB_2 fB_2 zB_2; obtain ⟨cF_3, fF_3, zF_3⟩ := xF_3.out; obtain ⟨cA_3, fA_3, zA_3⟩ := xA_3.out; obtain ⟨cB_3, fB_3, zB_3⟩ := xB_3.out)) | (go_at_call 81; go_must (refine (cmpB_any _ _ _).mono ?_; rintro e w4 ⟨rfl, hb4⟩; have B4 : Bl w w4 := bl_call B3 hb4; have xF_4 : Bx w4 (w.heap.size) #[.int .i64 n, .int .i64 d] := xF_3.below hb4; have xA_4 : Bx w4 (w.heap.size + 1) #[.int .i64 a, .int .i64 b] := xA_3.below hb4; have xB_4 : Bx w4 (w.heap.size + 1 + 1) #[.int .i64 p, .int .i64 q] := xB_3.below hb4; clear cF_3 fF_3 zF_3 cA_3 fA_3 zA_3 cB_3 fB_3 zB_3; obtain ⟨cF_4, fF_4, zF_4⟩ := xF_4.out; obtain ⟨cA_4, fA_4, zA_4⟩ := xA_4.out; obtain ⟨cB_4, fB_4, zB_4⟩ := xB_4.out)))
  go_wp2
  go_ret
  exact ⟨rfl, B4⟩

set_option maxRecDepth 100000 in
set_option maxHeartbeats 1600000 in
theorem scmpErr_any (n d a b p q : Int) (w : World) (ok : SmallP n d a b p q) :
    Calls Try.prog 76 #[.agg #[.int .i64 n, .int .i64 d], .agg #[.int .i64 a, .int .i64 b], .agg #[.int .i64 p, .int .i64 q]] w fun r w' => r = .returned (.int .i64 (cmpErrF n d a b p q)) ∧ Bl w w' := by
  obtain ⟨u1, u2, u3, u4, v1, v2, v3, v4⟩ := ok.prods
  obtain ⟨t1, t2, t3, t4⟩ := ok.outs
  have W1 : IntKind.i64.wrap (offF n d a b * q) = offF n d a b * q := IntWalk.i64_in _ (by omega)
  have W2 : IntKind.i64.wrap (offF n d p q * b) = offF n d p q * b := IntWalk.i64_in _ (by omega)
  by_cases e1 : offF n d a b * q < offF n d p q * b
  · have HR := Lib.hid (show (-1 : Int) = cmpErrF n d a b p q by rw [cmpErrF, cmpF, if_pos e1])
    go_enter Try.func76, Try.ntmps76
    go_wp2_with fail
    have B1 : Bl w (((w.alloc (.cells #[.int .i64 n, .int .i64 d] 44)).alloc (.cells #[.int .i64 a, .int .i64 b] 44)).alloc (.cells #[.int .i64 p, .int .i64 q] 44)) := (bl_alloc (bl_alloc (bl_alloc (bl_refl _) _) _) _)
    have xF_1 : Bx (((w.alloc (.cells #[.int .i64 n, .int .i64 d] 44)).alloc (.cells #[.int .i64 a, .int .i64 b] 44)).alloc (.cells #[.int .i64 p, .int .i64 q] 44)) (w.heap.size) #[.int .i64 n, .int .i64 d] := (((Bx.new (b := w.heap.size) _ #[.int .i64 n, .int .i64 d] 44 (by first | rfl | simp)).alloc _).alloc _)
    have xA_1 : Bx (((w.alloc (.cells #[.int .i64 n, .int .i64 d] 44)).alloc (.cells #[.int .i64 a, .int .i64 b] 44)).alloc (.cells #[.int .i64 p, .int .i64 q] 44)) (w.heap.size + 1) #[.int .i64 a, .int .i64 b] := ((Bx.new (b := w.heap.size + 1) _ #[.int .i64 a, .int .i64 b] 44 (by first | rfl | simp)).alloc _)
    have xB_1 : Bx (((w.alloc (.cells #[.int .i64 n, .int .i64 d] 44)).alloc (.cells #[.int .i64 a, .int .i64 b] 44)).alloc (.cells #[.int .i64 p, .int .i64 q] 44)) (w.heap.size + 1 + 1) #[.int .i64 p, .int .i64 q] := (Bx.new (b := w.heap.size + 1 + 1) _ #[.int .i64 p, .int .i64 q] 44 (by first | rfl | simp))
    have zz1 : w.heap.size + 3 ≤ (((w.alloc (.cells #[.int .i64 n, .int .i64 d] 44)).alloc (.cells #[.int .i64 a, .int .i64 b] 44)).alloc (.cells #[.int .i64 p, .int .i64 q] 44)).heap.size := (by simp)
    generalize (((w.alloc (.cells #[.int .i64 n, .int .i64 d] 44)).alloc (.cells #[.int .i64 a, .int .i64 b] 44)).alloc (.cells #[.int .i64 p, .int .i64 q] 44)) = w1 at *
    obtain ⟨cF_1, fF_1, zF_1⟩ := xF_1.out
    obtain ⟨cA_1, fA_1, zA_1⟩ := xA_1.out
    obtain ⟨cB_1, fB_1, zB_1⟩ := xB_1.out
    go_region_held3 (fun w' => w'.cell? ⟨w.heap.size, 0, none⟩ = some (.int .i64 n) ∧ w'.cell? ⟨w.heap.size, 1, none⟩ = some (.int .i64 d) ∧ w'.cell? ⟨w.heap.size + 1, 0, none⟩ = some (.int .i64 a) ∧ w'.cell? ⟨w.heap.size + 1, 1, none⟩ = some (.int .i64 b) ∧ w'.cell? ⟨w.heap.size + 1 + 1, 0, none⟩ = some (.int .i64 p) ∧ w'.cell? ⟨w.heap.size + 1 + 1, 1, none⟩ = some (.int .i64 q)) (first | (simp [*]; done) | go_keep)
      (first | (go_at_call_of 108 (Value.agg #[Value.int IntKind.i64 a, Value.int IntKind.i64 b]); go_must (refine (soff_any n d a b _ (by omega) (by omega) (by omega) (by omega)).mono ?_; rintro e w2 ⟨rfl, hb2⟩; have B2 : Bl w w2 := bl_call (bl_drew B1) hb2; have xF_2 : Bx w2 (w.heap.size) #[.int .i64 n, .int .i64 d] := xF_1.drew.below hb2; have xA_2 : Bx w2 (w.heap.size + 1) #[.int .i64 a, .int .i64 b] := xA_1.drew.below hb2; have xB_2 : Bx w2 (w.heap.size + 1 + 1) #[.int .i64 p, .int .i64 q] := xB_1.drew.below hb2; clear cF_1 fF_1 zF_1 cA_1 fA_1 zA_1 cB_1 fB_1 zB_1; obtain ⟨cF_2, fF_2, zF_2⟩ := xF_2.out; obtain ⟨cA_2, fA_2, zA_2⟩ := xA_2.out; obtain ⟨cB_2, fB_2, zB_2⟩ := xB_2.out)))
    go_wp2
    go_region_held3 (fun w' => w'.cell? ⟨w.heap.size, 0, none⟩ = some (.int .i64 n) ∧ w'.cell? ⟨w.heap.size, 1, none⟩ = some (.int .i64 d) ∧ w'.cell? ⟨w.heap.size + 1, 0, none⟩ = some (.int .i64 a) ∧ w'.cell? ⟨w.heap.size + 1, 1, none⟩ = some (.int .i64 b) ∧ w'.cell? ⟨w.heap.size + 1 + 1, 0, none⟩ = some (.int .i64 p) ∧ w'.cell? ⟨w.heap.size + 1 + 1, 1, none⟩ = some (.int .i64 q)) (first | (simp [*]; done) | go_keep)
      (first | (go_at_call_of 108 (Value.agg #[Value.int IntKind.i64 p, Value.int IntKind.i64 q]); go_must (refine (soff_any n d p q _ (by omega) (by omega) (by omega) (by omega)).mono ?_; rintro e w3 ⟨rfl, hb3⟩; have B3 : Bl w w3 := bl_call (bl_drew B2) hb3; have xF_3 : Bx w3 (w.heap.size) #[.int .i64 n, .int .i64 d] := xF_2.drew.below hb3; have xA_3 : Bx w3 (w.heap.size + 1) #[.int .i64 a, .int .i64 b] := xA_2.drew.below hb3; have xB_3 : Bx w3 (w.heap.size + 1 + 1) #[.int .i64 p, .int .i64 q] := xB_2.drew.below hb3; clear cF_2 fF_2 zF_2 cA_2 fA_2 zA_2 cB_2 fB_2 zB_2; obtain ⟨cF_3, fF_3, zF_3⟩ := xF_3.out; obtain ⟨cA_3, fA_3, zA_3⟩ := xA_3.out; obtain ⟨cB_3, fB_3, zB_3⟩ := xB_3.out)))
    go_wp2
    go_ret
    exact ⟨ret_int HR.out, B3⟩
  · by_cases e2 : offF n d p q * b < offF n d a b * q
    · have HR := Lib.hid (show (1 : Int) = cmpErrF n d a b p q by rw [cmpErrF, cmpF, if_neg e1, if_pos e2])
      go_enter Try.func76, Try.ntmps76
      go_wp2_with fail
      have B1 : Bl w (((w.alloc (.cells #[.int .i64 n, .int .i64 d] 44)).alloc (.cells #[.int .i64 a, .int .i64 b] 44)).alloc (.cells #[.int .i64 p, .int .i64 q] 44)) := (bl_alloc (bl_alloc (bl_alloc (bl_refl _) _) _) _)
      have xF_1 : Bx (((w.alloc (.cells #[.int .i64 n, .int .i64 d] 44)).alloc (.cells #[.int .i64 a, .int .i64 b] 44)).alloc (.cells #[.int .i64 p, .int .i64 q] 44)) (w.heap.size) #[.int .i64 n, .int .i64 d] := (((Bx.new (b := w.heap.size) _ #[.int .i64 n, .int .i64 d] 44 (by first | rfl | simp)).alloc _).alloc _)
      have xA_1 : Bx (((w.alloc (.cells #[.int .i64 n, .int .i64 d] 44)).alloc (.cells #[.int .i64 a, .int .i64 b] 44)).alloc (.cells #[.int .i64 p, .int .i64 q] 44)) (w.heap.size + 1) #[.int .i64 a, .int .i64 b] := ((Bx.new (b := w.heap.size + 1) _ #[.int .i64 a, .int .i64 b] 44 (by first | rfl | simp)).alloc _)
      have xB_1 : Bx (((w.alloc (.cells #[.int .i64 n, .int .i64 d] 44)).alloc (.cells #[.int .i64 a, .int .i64 b] 44)).alloc (.cells #[.int .i64 p, .int .i64 q] 44)) (w.heap.size + 1 + 1) #[.int .i64 p, .int .i64 q] := (Bx.new (b := w.heap.size + 1 + 1) _ #[.int .i64 p, .int .i64 q] 44 (by first | rfl | simp))
      have zz1 : w.heap.size + 3 ≤ (((w.alloc (.cells #[.int .i64 n, .int .i64 d] 44)).alloc (.cells #[.int .i64 a, .int .i64 b] 44)).alloc (.cells #[.int .i64 p, .int .i64 q] 44)).heap.size := (by simp)
      generalize (((w.alloc (.cells #[.int .i64 n, .int .i64 d] 44)).alloc (.cells #[.int .i64 a, .int .i64 b] 44)).alloc (.cells #[.int .i64 p, .int .i64 q] 44)) = w1 at *
      obtain ⟨cF_1, fF_1, zF_1⟩ := xF_1.out
      obtain ⟨cA_1, fA_1, zA_1⟩ := xA_1.out
      obtain ⟨cB_1, fB_1, zB_1⟩ := xB_1.out
      go_region_held3 (fun w' => w'.cell? ⟨w.heap.size, 0, none⟩ = some (.int .i64 n) ∧ w'.cell? ⟨w.heap.size, 1, none⟩ = some (.int .i64 d) ∧ w'.cell? ⟨w.heap.size + 1, 0, none⟩ = some (.int .i64 a) ∧ w'.cell? ⟨w.heap.size + 1, 1, none⟩ = some (.int .i64 b) ∧ w'.cell? ⟨w.heap.size + 1 + 1, 0, none⟩ = some (.int .i64 p) ∧ w'.cell? ⟨w.heap.size + 1 + 1, 1, none⟩ = some (.int .i64 q)) (first | (simp [*]; done) | go_keep)
        (first | (go_at_call_of 108 (Value.agg #[Value.int IntKind.i64 a, Value.int IntKind.i64 b]); go_must (refine (soff_any n d a b _ (by omega) (by omega) (by omega) (by omega)).mono ?_; rintro e w2 ⟨rfl, hb2⟩; have B2 : Bl w w2 := bl_call (bl_drew B1) hb2; have xF_2 : Bx w2 (w.heap.size) #[.int .i64 n, .int .i64 d] := xF_1.drew.below hb2; have xA_2 : Bx w2 (w.heap.size + 1) #[.int .i64 a, .int .i64 b] := xA_1.drew.below hb2; have xB_2 : Bx w2 (w.heap.size + 1 + 1) #[.int .i64 p, .int .i64 q] := xB_1.drew.below hb2; clear cF_1 fF_1 zF_1 cA_1 fA_1 zA_1 cB_1 fB_1 zB_1; obtain ⟨cF_2, fF_2, zF_2⟩ := xF_2.out; obtain ⟨cA_2, fA_2, zA_2⟩ := xA_2.out; obtain ⟨cB_2, fB_2, zB_2⟩ := xB_2.out)))
      go_wp2
      go_region_held3 (fun w' => w'.cell? ⟨w.heap.size, 0, none⟩ = some (.int .i64 n) ∧ w'.cell? ⟨w.heap.size, 1, none⟩ = some (.int .i64 d) ∧ w'.cell? ⟨w.heap.size + 1, 0, none⟩ = some (.int .i64 a) ∧ w'.cell? ⟨w.heap.size + 1, 1, none⟩ = some (.int .i64 b) ∧ w'.cell? ⟨w.heap.size + 1 + 1, 0, none⟩ = some (.int .i64 p) ∧ w'.cell? ⟨w.heap.size + 1 + 1, 1, none⟩ = some (.int .i64 q)) (first | (simp [*]; done) | go_keep)
        (first | (go_at_call_of 108 (Value.agg #[Value.int IntKind.i64 p, Value.int IntKind.i64 q]); go_must (refine (soff_any n d p q _ (by omega) (by omega) (by omega) (by omega)).mono ?_; rintro e w3 ⟨rfl, hb3⟩; have B3 : Bl w w3 := bl_call (bl_drew B2) hb3; have xF_3 : Bx w3 (w.heap.size) #[.int .i64 n, .int .i64 d] := xF_2.drew.below hb3; have xA_3 : Bx w3 (w.heap.size + 1) #[.int .i64 a, .int .i64 b] := xA_2.drew.below hb3; have xB_3 : Bx w3 (w.heap.size + 1 + 1) #[.int .i64 p, .int .i64 q] := xB_2.drew.below hb3; clear cF_2 fF_2 zF_2 cA_2 fA_2 zA_2 cB_2 fB_2 zB_2; obtain ⟨cF_3, fF_3, zF_3⟩ := xF_3.out; obtain ⟨cA_3, fA_3, zA_3⟩ := xA_3.out; obtain ⟨cB_3, fB_3, zB_3⟩ := xB_3.out)))
      go_wp2
      go_ret
      exact ⟨ret_int HR.out, B3⟩
    · have HR := Lib.hid (show (0 : Int) = cmpErrF n d a b p q by rw [cmpErrF, cmpF, if_neg e1, if_neg e2])
      go_enter Try.func76, Try.ntmps76
      go_wp2_with fail
      have B1 : Bl w (((w.alloc (.cells #[.int .i64 n, .int .i64 d] 44)).alloc (.cells #[.int .i64 a, .int .i64 b] 44)).alloc (.cells #[.int .i64 p, .int .i64 q] 44)) := (bl_alloc (bl_alloc (bl_alloc (bl_refl _) _) _) _)
      have xF_1 : Bx (((w.alloc (.cells #[.int .i64 n, .int .i64 d] 44)).alloc (.cells #[.int .i64 a, .int .i64 b] 44)).alloc (.cells #[.int .i64 p, .int .i64 q] 44)) (w.heap.size) #[.int .i64 n, .int .i64 d] := (((Bx.new (b := w.heap.size) _ #[.int .i64 n, .int .i64 d] 44 (by first | rfl | simp)).alloc _).alloc _)
      have xA_1 : Bx (((w.alloc (.cells #[.int .i64 n, .int .i64 d] 44)).alloc (.cells #[.int .i64 a, .int .i64 b] 44)).alloc (.cells #[.int .i64 p, .int .i64 q] 44)) (w.heap.size + 1) #[.int .i64 a, .int .i64 b] := ((Bx.new (b := w.heap.size + 1) _ #[.int .i64 a, .int .i64 b] 44 (by first | rfl | simp)).alloc _)
      have xB_1 : Bx (((w.alloc (.cells #[.int .i64 n, .int .i64 d] 44)).alloc (.cells #[.int .i64 a, .int .i64 b] 44)).alloc (.cells #[.int .i64 p, .int .i64 q] 44)) (w.heap.size + 1 + 1) #[.int .i64 p, .int .i64 q] := (Bx.new (b := w.heap.size + 1 + 1) _ #[.int .i64 p, .int .i64 q] 44 (by first | rfl | simp))
      have zz1 : w.heap.size + 3 ≤ (((w.alloc (.cells #[.int .i64 n, .int .i64 d] 44)).alloc (.cells #[.int .i64 a, .int .i64 b] 44)).alloc (.cells #[.int .i64 p, .int .i64 q] 44)).heap.size := (by simp)
      generalize (((w.alloc (.cells #[.int .i64 n, .int .i64 d] 44)).alloc (.cells #[.int .i64 a, .int .i64 b] 44)).alloc (.cells #[.int .i64 p, .int .i64 q] 44)) = w1 at *
      obtain ⟨cF_1, fF_1, zF_1⟩ := xF_1.out
      obtain ⟨cA_1, fA_1, zA_1⟩ := xA_1.out
      obtain ⟨cB_1, fB_1, zB_1⟩ := xB_1.out
      go_region_held3 (fun w' => w'.cell? ⟨w.heap.size, 0, none⟩ = some (.int .i64 n) ∧ w'.cell? ⟨w.heap.size, 1, none⟩ = some (.int .i64 d) ∧ w'.cell? ⟨w.heap.size + 1, 0, none⟩ = some (.int .i64 a) ∧ w'.cell? ⟨w.heap.size + 1, 1, none⟩ = some (.int .i64 b) ∧ w'.cell? ⟨w.heap.size + 1 + 1, 0, none⟩ = some (.int .i64 p) ∧ w'.cell? ⟨w.heap.size + 1 + 1, 1, none⟩ = some (.int .i64 q)) (first | (simp [*]; done) | go_keep)
        (first | (go_at_call_of 108 (Value.agg #[Value.int IntKind.i64 a, Value.int IntKind.i64 b]); go_must (refine (soff_any n d a b _ (by omega) (by omega) (by omega) (by omega)).mono ?_; rintro e w2 ⟨rfl, hb2⟩; have B2 : Bl w w2 := bl_call (bl_drew B1) hb2; have xF_2 : Bx w2 (w.heap.size) #[.int .i64 n, .int .i64 d] := xF_1.drew.below hb2; have xA_2 : Bx w2 (w.heap.size + 1) #[.int .i64 a, .int .i64 b] := xA_1.drew.below hb2; have xB_2 : Bx w2 (w.heap.size + 1 + 1) #[.int .i64 p, .int .i64 q] := xB_1.drew.below hb2; clear cF_1 fF_1 zF_1 cA_1 fA_1 zA_1 cB_1 fB_1 zB_1; obtain ⟨cF_2, fF_2, zF_2⟩ := xF_2.out; obtain ⟨cA_2, fA_2, zA_2⟩ := xA_2.out; obtain ⟨cB_2, fB_2, zB_2⟩ := xB_2.out)))
      go_wp2
      go_region_held3 (fun w' => w'.cell? ⟨w.heap.size, 0, none⟩ = some (.int .i64 n) ∧ w'.cell? ⟨w.heap.size, 1, none⟩ = some (.int .i64 d) ∧ w'.cell? ⟨w.heap.size + 1, 0, none⟩ = some (.int .i64 a) ∧ w'.cell? ⟨w.heap.size + 1, 1, none⟩ = some (.int .i64 b) ∧ w'.cell? ⟨w.heap.size + 1 + 1, 0, none⟩ = some (.int .i64 p) ∧ w'.cell? ⟨w.heap.size + 1 + 1, 1, none⟩ = some (.int .i64 q)) (first | (simp [*]; done) | go_keep)
        (first | (go_at_call_of 108 (Value.agg #[Value.int IntKind.i64 p, Value.int IntKind.i64 q]); go_must (refine (soff_any n d p q _ (by omega) (by omega) (by omega) (by omega)).mono ?_; rintro e w3 ⟨rfl, hb3⟩; have B3 : Bl w w3 := bl_call (bl_drew B2) hb3; have xF_3 : Bx w3 (w.heap.size) #[.int .i64 n, .int .i64 d] := xF_2.drew.below hb3; have xA_3 : Bx w3 (w.heap.size + 1) #[.int .i64 a, .int .i64 b] := xA_2.drew.below hb3; have xB_3 : Bx w3 (w.heap.size + 1 + 1) #[.int .i64 p, .int .i64 q] := xB_2.drew.below hb3; clear cF_2 fF_2 zF_2 cA_2 fA_2 zA_2 cB_2 fB_2 zB_2; obtain ⟨cF_3, fF_3, zF_3⟩ := xF_3.out; obtain ⟨cA_3, fA_3, zA_3⟩ := xA_3.out; obtain ⟨cB_3, fB_3, zB_3⟩ := xB_3.out)))
      go_wp2
      go_ret
      exact ⟨ret_int HR.out, B3⟩


end Go.Proofs.Ytgkelemfbmmgnaa

