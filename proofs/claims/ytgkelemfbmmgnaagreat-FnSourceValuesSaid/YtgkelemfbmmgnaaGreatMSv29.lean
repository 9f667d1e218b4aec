/- Some of the texts of this claim, joined in one file: RsV, SrW. -/
import Derived.Test.YtgkelemfbmmgnaaGreatMSv28
import Derived.Test.YtgkelemfbmmgnaaGreatMSv4
import Derived.Test.YtgkelemfbmmgnaaGreatMSv17
/- The value law of RunState: the terms of a small state of a small fraction are those of its value, and nothing grows too great. Each theorem names its conditions. -/
namespace Go.Proofs.YtgkelemfbmmgnaaGreat
set_option linter.unusedVariables false
set_option linter.unusedSimpArgs false

/-- Euclid's algorithm: after some steps u0 / v0 = (p u + p' v) / (q u + q' v). -/
structure Eu (u0 v0 p p' q q' e u v : Int) : Prop where
  hu : u0 = p * u + p' * v
  hv : v0 = q * u + q' * v
  det : p * q' - p' * q = e
  e1 : e = 1 ∨ e = -1
  qz : 0 ≤ q
  qz' : 0 ≤ q'
  st : (q = 0 ∧ q' = 1 ∧ p = 1 ∧ p' = 0) ∨ (0 < u ∧ v < u ∧ 1 ≤ q ∧ q' ≤ q)
  vz : 0 ≤ v
theorem Eu.start {u v : Int} (h : 0 ≤ v) : Eu u v 1 0 0 1 1 u v := ⟨by omega, by omega, by omega, .inl rfl, by omega, by omega, .inl ⟨rfl, rfl, rfl, rfl⟩, h⟩
theorem Eu.next {u0 v0 p p' q q' e u v : Int} (h : Eu u0 v0 p p' q q' e u v) (hv : 0 < v) : Eu u0 v0 (u / v * p + p') p (u / v * q + q') q (-e) v (u - u / v * v) := by
  have b := rest_lt (n := u) hv
  have t1 : v < u → 1 ≤ u / v := fun hh => Int.le_ediv_of_mul_le hv (by omega)
  have h1 := h.hu; have h2 := h.hv; have h3 := h.det; have h4 := h.qz; have h5 := h.qz'
  have h6 := h.st
  have h7 := h.e1
  generalize u / v = t at *
  have m : v < u → q ≤ t * q := fun hh => by
    have := Int.mul_le_mul_of_nonneg_right (t1 hh) h4
    omega
  refine ⟨by rw [h1]; grind, by rw [h2]; grind, by rw [← h3]; grind, by omega, ?_, h4, .inr ⟨hv, b.2, ?_⟩, b.1⟩
  · rcases h6 with ⟨a1, a2, a3, a4⟩ | ⟨a1, a2, a3, a4⟩
    · subst a1; omega
    · have := m a2; omega
  · rcases h6 with ⟨a1, a2, a3, a4⟩ | ⟨a1, a2, a3, a4⟩
    · subst a1; omega
    · have := m a2; omega
theorem pq_bd {p v0 M : Int} (h0 : 0 < v0) (h : -(M * v0) ≤ p * v0 ∧ p * v0 ≤ M * v0) : -M ≤ p ∧ p ≤ M := by
  constructor
  · rcases Int.lt_or_le p (-M) with g | g
    · have := Int.mul_lt_mul_of_pos_right g h0
      rw [Int.neg_mul] at this; omega
    · exact g
  · rcases Int.lt_or_le M p with g | g
    · have := Int.mul_lt_mul_of_pos_right g h0
      omega
    · exact g
/-- The convergents' bounds. -/
theorem Eu.bd {u0 v0 p p' q q' e u v U V : Int} (h : Eu u0 v0 p p' q q' e u v) (hU : -U ≤ u0 ∧ u0 ≤ U) (h1 : 1 ≤ V) (hV : v0 ≤ V) : (0 ≤ q ∧ q ≤ V) ∧ (0 ≤ q' ∧ q' ≤ V) ∧ (-(U + 1) ≤ p ∧ p ≤ U + 1) ∧ (-(U + 1) ≤ p' ∧ p' ≤ U + 1) := by
  have h2 := h.hu; have h3 := h.hv; have h4 := h.det; have h5 := h.qz; have h6 := h.qz'; have h7 := h.vz; have h8 := h.e1
  rcases h.st with ⟨rfl, rfl, rfl, rfl⟩ | ⟨a1, a2, a3, a4⟩
  · omega
  · have m1 := Int.mul_le_mul_of_nonneg_left (show 1 ≤ u by omega) h5
    have m2 := Int.mul_nonneg h6 h7
    have m3 := Int.mul_le_mul_of_nonneg_right a3 (show 0 ≤ u by omega)
    have hq : q ≤ v0 := by omega
    have hu : u ≤ v0 := by omega
    have k1 : p * v0 = q * u0 + e * v := by rw [h2, h3, ← h4]; grind
    have k2 : p' * v0 = q' * u0 - e * u := by rw [h2, h3, ← h4]; grind
    have b1 := Int.mul_le_mul_of_nonneg_left hU.2 h5
    have b2 := Int.mul_le_mul_of_nonneg_left hU.1 h5
    have b3 := Int.mul_le_mul_of_nonneg_left hU.2 h6
    have b4 := Int.mul_le_mul_of_nonneg_left hU.1 h6
    have c1 := Int.mul_le_mul_of_nonneg_right hq (show 0 ≤ U by omega)
    have c2 := Int.mul_le_mul_of_nonneg_right (show q' ≤ v0 by omega) (show 0 ≤ U by omega)
    have d1 : (U + 1) * v0 = v0 * U + v0 := by grind
    have d2 : q * -U = -(q * U) := Int.mul_neg _ _
    have d3 : q' * -U = -(q' * U) := Int.mul_neg _ _
    have ev : -v ≤ e * v ∧ e * v ≤ v := by rcases h8 with k | k <;> rw [k] <;> omega
    have eu : -u ≤ e * u ∧ e * u ≤ u := by rcases h8 with k | k <;> rw [k] <;> omega
    refine ⟨by omega, by omega, pq_bd (v0 := v0) (by omega) ?_, pq_bd (v0 := v0) (by omega) ?_⟩
    · rw [d1, k1]; omega
    · rw [d1, k2]; omega
theorem Eu.last {u0 v0 p p' q q' e u : Int} (h : Eu u0 v0 p p' q q' e u 0) (h0 : 0 < v0) (hg : gcdI u0 v0 = 1) : u = 1 := by
  rcases h.st with ⟨rfl, rfl, rfl, rfl⟩ | ⟨a1, a2, a3, a4⟩
  · have := h.hv; omega
  · have h1 := h.hu; have h2 := h.hv
    have d1 : u ∣ u0 := ⟨p, by rw [h1]; grind⟩
    have d2 : u ∣ v0 := ⟨q, by rw [h2]; grind⟩
    have : u ∣ gcdI u0 v0 := Int.dvd_coe_gcd d1 d2
    rw [hg] at this
    have := Int.le_of_dvd (by omega) this
    omega

/-- The state, from the first one and both convergents. -/
structure Mx (s0 s : St) (p p' q q' P P' Q Q' e : Int) : Prop where
  ha : s.a = e * (Q' * (s0.a * p + s0.b * q) - P' * (s0.c * p + s0.d * q))
  hb : s.b = e * (Q' * (s0.a * p' + s0.b * q') - P' * (s0.c * p' + s0.d * q'))
  hc : s.c = e * (P * (s0.c * p + s0.d * q) - Q * (s0.a * p + s0.b * q))
  hd : s.d = e * (P * (s0.c * p' + s0.d * q') - Q * (s0.a * p' + s0.b * q'))
theorem Mx.start (s0 : St) : Mx s0 s0 1 0 0 1 1 0 0 1 1 := ⟨by grind, by grind, by grind, by grind⟩
theorem Mx.fed {s0 s : St} {p p' q q' P P' Q Q' e : Int} (h : Mx s0 s p p' q q' P P' Q Q' e) (t : Int) : Mx s0 (fedF s t) (t * p + p') p (t * q + q') q P P' Q Q' e := by
  refine ⟨?_, ?_, ?_, ?_⟩ <;> simp only [fedF]
  · rw [h.ha, h.hb]; grind
  · rw [h.ha]
  · rw [h.hc, h.hd]; grind
  · rw [h.hc]
theorem Mx.em {s0 s : St} {p p' q q' P P' Q Q' e : Int} (h : Mx s0 s p p' q q' P P' Q Q' e) (t : Int) : Mx s0 (emF s t) p p' q q' (t * P + P') P (t * Q + Q') Q (-e) := by
  refine ⟨?_, ?_, ?_, ?_⟩ <;> simp only [emF]
  · rw [h.hc]; grind
  · rw [h.hd]; grind
  · rw [h.ha, h.hc]; grind
  · rw [h.hb, h.hd]; grind
theorem mulU {x y X Y : Int} (hX : 0 ≤ X) (h1 : -X ≤ x ∧ x ≤ X) (h2 : -Y ≤ y ∧ y ≤ Y) : -(X * Y) ≤ x * y ∧ x * y ≤ X * Y := by
  have a := Int.mul_nonneg (show 0 ≤ X + x by omega) (show 0 ≤ Y + y by omega)
  have b := Int.mul_nonneg (show 0 ≤ X - x by omega) (show 0 ≤ Y - y by omega)
  have c := Int.mul_nonneg (show 0 ≤ X + x by omega) (show 0 ≤ Y - y by omega)
  have d := Int.mul_nonneg (show 0 ≤ X - x by omega) (show 0 ≤ Y + y by omega)
  have e1 : (X + x) * (Y + y) = X * Y + X * y + x * Y + x * y := by grind
  have e2 : (X - x) * (Y - y) = X * Y - X * y - x * Y + x * y := by grind
  have e3 : (X + x) * (Y - y) = X * Y - X * y + x * Y - x * y := by grind
  have e4 : (X - x) * (Y + y) = X * Y + X * y - x * Y - x * y := by grind
  constructor <;> omega
theorem ent_bd {e R X S Z M L : Int} (h : e = 1 ∨ e = -1) (hM : 0 ≤ M) (hR : -M ≤ R ∧ R ≤ M) (hS : -M ≤ S ∧ S ≤ M) (hX : -L ≤ X ∧ X ≤ L) (hZ : -L ≤ Z ∧ Z ≤ L) (hb : 2 * (M * L) ≤ 1000000000) : -1000000000 ≤ e * (R * X - S * Z) ∧ e * (R * X - S * Z) ≤ 1000000000 := by
  have a := mulU hM hR hX
  have b := mulU hM hS hZ
  rcases h with k | k <;> rw [k] <;> omega
theorem lin_bd {a b x y K L M : Int} (hK : 0 ≤ K) (ha : -K ≤ a ∧ a ≤ K) (hb : -K ≤ b ∧ b ≤ K) (hx : -L ≤ x ∧ x ≤ L) (hy : -L ≤ y ∧ y ≤ L) (hM : 2 * (K * L) ≤ M) : -M ≤ a * x + b * y ∧ a * x + b * y ≤ M := by
  have p := mulU hK ha hx
  have q := mulU hK hb hy
  constructor <;> omega
/-- The bounds of the run: K of the state's numbers, L of x's convergents, M of those of the value. -/
structure Sz (s0 : St) (N0 D0 u0 v0 : Int) : Prop where
  x : ∃ K L M : Int, 0 ≤ K ∧ 0 ≤ M ∧ (-K ≤ s0.a ∧ s0.a ≤ K) ∧ (-K ≤ s0.b ∧ s0.b ≤ K) ∧ (-K ≤ s0.c ∧ s0.c ≤ K) ∧ (-K ≤ s0.d ∧ s0.d ≤ K) ∧ (1 ≤ D0 ∧ D0 ≤ L) ∧ (-L + 1 ≤ N0 ∧ N0 ≤ L - 1) ∧ (1 ≤ M ∧ v0 ≤ M) ∧ (-M + 1 ≤ u0 ∧ u0 ≤ M - 1) ∧ 2 * (M * (2 * (K * L))) ≤ 1000000000
  v1 : v0 ≤ 1000000000
theorem Sz.bds {s0 s : St} {N0 D0 u0 v0 p p' q q' ex N D P P' Q Q' e u v : Int} (h : Sz s0 N0 D0 u0 v0) (hx : Eu N0 D0 p p' q q' ex N D) (hy : Eu u0 v0 P P' Q Q' e u v) (hm : Mx s0 s p p' q q' P P' Q Q' e) : bdS s = true := by
  obtain ⟨K, L, M, k1, k2, k3, k4, k5, k6, k7, k8, k9, k10, k11⟩ := h.x
  have a := hx.bd (U := L - 1) (V := L) (by omega) (by omega) (by omega)
  have b := hy.bd (U := M - 1) (V := M) (by omega) (by omega) (by omega)
  have x1 := lin_bd (M := 2 * (K * L)) (L := L) k1 k3 k4 (x := p) (y := q) (by omega) (by omega) (by omega)
  have x2 := lin_bd (M := 2 * (K * L)) (L := L) k1 k3 k4 (x := p') (y := q') (by omega) (by omega) (by omega)
  have x3 := lin_bd (M := 2 * (K * L)) (L := L) k1 k5 k6 (x := p) (y := q) (by omega) (by omega) (by omega)
  have x4 := lin_bd (M := 2 * (K * L)) (L := L) k1 k5 k6 (x := p') (y := q') (by omega) (by omega) (by omega)
  refine bdS_iff.2 ⟨?_, ?_, ?_, ?_⟩
  · rw [hm.ha]; exact ent_bd hy.e1 k2 (by omega) (by omega) x1 x3 k11
  · rw [hm.hb]; exact ent_bd hy.e1 k2 (by omega) (by omega) x2 x4 k11
  · rw [hm.hc]; exact ent_bd hy.e1 k2 (by omega) (by omega) x3 x1 k11
  · rw [hm.hd]; exact ent_bd hy.e1 k2 (by omega) (by omega) x4 x2 k11

/-- All that holds along a run. -/
structure Rv (s0 : St) (N0 D0 u0 v0 : Int) (s : St) (out : List Int) (N D u v : Int) : Prop where
  m : ∃ p p' q q' ex P P' Q Q' e, Eu N0 D0 p p' q q' ex N D ∧ Eu u0 v0 P P' Q Q' e u v ∧ Mx s0 s p p' q q' P P' Q Q' e
  fu : s.a * N + s.b * D = u
  fv : s.c * N + s.d * D = v
  tl : out ++ termsF u v = termsF u0 v0
theorem Rv.vz {s0 s : St} {N0 D0 u0 v0 N D u v : Int} {out : List Int} (h : Rv s0 N0 D0 u0 v0 s out N D u v) : 0 ≤ v ∧ 0 ≤ D := by
  obtain ⟨p, p', q, q', ex, P, P', Q, Q', e, h1, h2, h3⟩ := h.m
  exact ⟨h2.vz, h1.vz⟩
theorem Rv.start {s0 : St} {N D u v : Int} (hD : 0 ≤ D) (hv : 0 ≤ v) (h1 : s0.a * N + s0.b * D = u) (h2 : s0.c * N + s0.d * D = v) : Rv s0 N D u v s0 [] N D u v :=
  ⟨⟨_, _, _, _, _, _, _, _, _, _, Eu.start hD, Eu.start hv, Mx.start s0⟩, h1, h2, rfl⟩
theorem Rv.bds {s0 s : St} {N0 D0 u0 v0 N D u v : Int} {out : List Int} (h : Rv s0 N0 D0 u0 v0 s out N D u v) (hz : Sz s0 N0 D0 u0 v0) : bdS s = true := by
  obtain ⟨p, p', q, q', ex, P, P', Q, Q', e, h1, h2, h3⟩ := h.m
  exact hz.bds h1 h2 h3
theorem Rv.fed {s0 s : St} {N0 D0 u0 v0 N D u v : Int} {out : List Int} (h : Rv s0 N0 D0 u0 v0 s out N D u v) (hD : 0 < D) : Rv s0 N0 D0 u0 v0 (fedF s (N / D)) out D (N - N / D * D) u v := by
  obtain ⟨p, p', q, q', ex, P, P', Q, Q', e, h1, h2, h3⟩ := h.m
  refine ⟨⟨_, _, _, _, _, _, _, _, _, _, h1.next hD, h2, h3.fed _⟩, ?_, ?_, h.tl⟩
  · have := h.fu
    simp only [fedF]
    rw [← this]; grind
  · have := h.fv
    simp only [fedF]
    rw [← this]; grind
/-- The term that is known is the value's floor. -/
theorem Rv.known {s0 s : St} {N0 D0 u0 v0 N D u v t : Int} {out : List Int} (h : Rv s0 N0 D0 u0 v0 s out N D u v) (hN : 0 < N ∧ D < N) (hk : knF s = some t) : 0 < v ∧ t = u / v := by
  have hz := h.vz
  obtain ⟨o1, o2, o3⟩ := knF_some hk
  obtain ⟨c1, c2, c3⟩ := opS_no o1
  have r1 := fdv_rest (n := s.a) c1
  have r2 := fdv_rest (n := s.a + s.b) c2
  rw [o3] at r1
  rw [o2] at r2
  have ev : v = s.c * (N - D) + (s.c + s.d) * D := by rw [← h.fv]; grind
  have eu : u - t * v = (s.a - t * s.c) * (N - D) + (s.a + s.b - t * (s.c + s.d)) * D := by rw [← h.fu, ← h.fv]; grind
  have hc : 0 < s.c := by
    rcases Int.lt_or_le 0 s.c with g | g
    · exact g
    · exfalso
      have k1 : s.c < 0 := by omega
      have k2 := c3.1 k1
      have m1 := Int.mul_le_mul_of_nonneg_right (show s.c ≤ -1 by omega) (show 0 ≤ N - D by omega)
      have m2 := Int.mul_le_mul_of_nonneg_right (show s.c + s.d ≤ 0 by omega) hz.2
      omega
  have hc2 : 0 < s.c + s.d := by
    rcases Int.lt_trichotomy (s.c + s.d) 0 with g | g | g
    · have := c3.2 g; omega
    · exact absurd g c2
    · exact g
  have r1 := r1.1 hc
  have r2 := r2.1 hc2
  have n1 := Int.mul_nonneg r1.1 (show 0 ≤ N - D by omega)
  have n2 := Int.mul_nonneg r2.1 hz.2
  have n3 := Int.mul_lt_mul_of_pos_right r1.2 (show 0 < N - D by omega)
  have n4 := Int.mul_le_mul_of_nonneg_right (Int.le_of_lt r2.2) hz.2
  have hv : 0 < v := by omega
  refine ⟨hv, ?_⟩
  have e1 : t ≤ u / v := (Int.le_ediv_iff_mul_le hv).2 (by omega)
  have e2 : u / v < t + 1 := (Int.ediv_lt_iff_lt_mul hv).2 (by rw [Int.add_mul]; omega)
  omega
theorem Rv.em {s0 s : St} {N0 D0 u0 v0 N D u v : Int} {out : List Int} (h : Rv s0 N0 D0 u0 v0 s out N D u v) (hv : 0 < v) : Rv s0 N0 D0 u0 v0 (emF s (u / v)) (out ++ [u / v]) N D v (u - u / v * v) := by
  obtain ⟨p, p', q, q', ex, P, P', Q, Q', e, h1, h2, h3⟩ := h.m
  refine ⟨⟨_, _, _, _, _, _, _, _, _, _, h1, h2.next hv, h3.em _⟩, ?_, ?_, ?_⟩
  · exact h.fv
  · simp only [emF]
    rw [← h.fu]
    generalize u / v = t
    rw [← h.fv]; grind
  · rw [List.append_assoc, List.singleton_append, ← termsF_step hv]; exact h.tl
theorem Rv.room {s0 s : St} {N0 D0 u0 v0 N D u v : Int} {out : List Int} (h : Rv s0 N0 D0 u0 v0 s out N D u v) (hz : Sz s0 N0 D0 u0 v0) (h0 : 0 ≤ v0) : out.length ≤ 60 ∧ (0 < v → out.length < 60) := by
  have a := termsF_60 (n := u0) h0 hz.v1
  rw [← h.tl, List.length_append] at a
  refine ⟨by omega, fun hv => ?_⟩
  have := termsF_pos (n := u) hv
  omega
theorem Rv.emit {s0 : St} {N0 D0 u0 v0 N D : Int} (hz : Sz s0 N0 D0 u0 v0) (h0 : 0 ≤ v0) (hN : 0 < N ∧ D < N) (k : Nat) : ∀ (s : St) (out : List Int) (u v : Int), 60 - out.length ≤ k → Rv s0 N0 D0 u0 v0 s out N D u v → ∃ s' out' u' v', emitF 1073741824 s out = some (s', out') ∧ Rv s0 N0 D0 u0 v0 s' out' N D u' v' := by
  induction k with
  | zero =>
    intro s out u v hk h
    have hr := h.room hz h0
    cases hq : knF s with
    | none => exact ⟨s, out, u, v, emit_none hr.1 hq, h⟩
    | some t =>
      have := hr.2 (h.known hN hq).1
      omega
  | succ k ih =>
    intro s out u v hk h
    have hr := h.room hz h0
    cases hq : knF s with
    | none => exact ⟨s, out, u, v, emit_none hr.1 hq, h⟩
    | some t =>
      obtain ⟨hv, rfl⟩ := h.known hN hq
      have hl := hr.2 hv
      have h2 := h.em hv
      obtain ⟨s', out', u', v', e, h3⟩ := ih _ _ _ _ (by simp; omega) h2
      exact ⟨s', out', u', v', by rw [emit_step hl (by omega) hq (h2.bds hz)]; exact e, h3⟩
theorem Rv.feed {s0 s : St} {N0 D0 u0 v0 N D u v : Int} {out : List Int} (hz : Sz s0 N0 D0 u0 v0) (h0 : 0 ≤ v0) (h : Rv s0 N0 D0 u0 v0 s out N D u v) (hD : 0 < D) : ∃ s' out' u' v', feedR s out (N / D) = some (s', out') ∧ Rv s0 N0 D0 u0 v0 s' out' D (N - N / D * D) u' v' := by
  have h1 := h.fed hD
  obtain ⟨s', out', u', v', e, h2⟩ := Rv.emit hz h0 (N := D) (D := N - N / D * D) ⟨hD, (rest_lt hD).2⟩ 60 _ _ _ _ (by omega) h1
  exact ⟨s', out', u', v', by rw [feedR_yes (h1.bds hz)]; exact e, h2⟩
theorem Rv.run {s0 : St} {N0 D0 u0 v0 : Int} (hz : Sz s0 N0 D0 u0 v0) (h0 : 0 ≤ v0) (k : Nat) : ∀ (s : St) (out : List Int) (N D u v : Int), D < k → Rv s0 N0 D0 u0 v0 s out N D u v → ∃ s' out' N' u' v', runG (termsF N D) s out = some (s', out') ∧ Rv s0 N0 D0 u0 v0 s' out' N' 0 u' v' := by
  induction k with
  | zero =>
    intro s out N D u v hk h
    have := h.vz; omega
  | succ k ih =>
    intro s out N D u v hk h
    have hd := h.vz
    rcases Int.lt_or_le 0 D with hD | hD
    · obtain ⟨s1, o1, u1, v1, e1, h1⟩ := Rv.feed hz h0 h hD
      have b := rest_lt (n := N) hD
      obtain ⟨s', out', N', u', v', e, h2⟩ := ih s1 o1 D _ u1 v1 (by omega) h1
      refine ⟨s', out', N', u', v', ?_, h2⟩
      rw [termsF_step hD, runG, e1]
      exact e
    · have : D = 0 := by omega
      subst this
      exact ⟨s, out, N, u, v, by rw [termsF_zero, runG], h⟩
theorem full_pos {u v : Int} (hv : 0 < v ∧ v ≤ 1000000000) (hu : -1000000000 ≤ u ∧ u ≤ 1000000000) : fullF u v = ((lowF u v).1, (lowF u v).2, 0) := by
  have hg := gcdI_pos u v (by omega)
  have b1 := ediv_bd u (gcdI u v) 1000000000 hg hu (by omega)
  have b2 := ediv_bd v (gcdI u v) 1000000000 hg (by omega) (by omega)
  have hd : 0 < v / gcdI u v := Int.ediv_pos_of_pos_of_dvd hv.1 (by omega) (gcdI_dvd_right u v)
  have h1 : okF (lowF u v).1 (lowF u v).2 = true := by
    refine okF_iff.2 ⟨?_, ?_, ?_⟩
    · exact ⟨by show 1 ≤ v / gcdI u v; omega, b2.2⟩
    · exact b1
    · have e := Int.gcd_ediv_gcd_ediv_gcd (i := u) (j := v) (by unfold gcdI at hg; omega)
      show ((Int.gcd (u / (u.gcd v : Int)) (v / (u.gcd v : Int)) : Nat) : Int) = 1
      rw [e]; rfl
  rw [fullF_eq u v _ _ (by rw [if_neg (by omega)]), if_pos h1]
theorem full_okV {u v p q : Int} (h : fullF u v = (p, q, 0)) : okF p q = true := by
  have := full_code (a := u) (c := v) (by rw [h])
  rw [h] at this
  exact this

/-! The other sign. -/
def ngS (s : St) : St := ⟨-s.a, -s.b, -s.c, -s.d⟩
theorem fdv_ng {n d : Int} (hd : d ≠ 0) : fdv (-n) (-d) = fdv n d := by
  unfold fdv
  rcases Int.lt_or_le d 0 with h | h
  · rw [if_neg (by omega), if_pos h]
  · rw [if_pos (by omega), if_neg (by omega), Int.neg_neg, Int.neg_neg]
theorem knF_ng (s : St) : knF (ngS s) = knF s := by
  unfold knF knV
  have e : opS (ngS s).c (ngS s).d = opS s.c s.d := by
    show opS (-s.c) (-s.d) = opS s.c s.d
    cases h : opS s.c s.d with
    | false =>
      obtain ⟨a, b, c⟩ := opS_no h
      refine opS_good (by omega) (by omega) ?_
      omega
    | true =>
      cases h2 : opS (-s.c) (-s.d) with
      | true => rfl
      | false =>
        obtain ⟨a, b, c⟩ := opS_no h2
        have : opS s.c s.d = false := opS_good (by omega) (by omega) (by omega)
        rw [this] at h; exact h
  rw [e]
  cases h : opS s.c s.d with
  | true => rfl
  | false =>
    obtain ⟨a, b, c⟩ := opS_no h
    have e1 : fdv (ngS s).a (ngS s).c = fdv s.a s.c := fdv_ng a
    have e2 : fdv ((ngS s).a + (ngS s).b) ((ngS s).c + (ngS s).d) = fdv (s.a + s.b) (s.c + s.d) := by
      show fdv (-s.a + -s.b) (-s.c + -s.d) = _
      rw [← Int.neg_add, ← Int.neg_add, fdv_ng b]
    rw [e1, e2]
theorem fed_ng (s : St) (t : Int) : fedF (ngS s) t = ngS (fedF s t) := by
  unfold fedF ngS
  simp only [St.mk.injEq]
  refine ⟨?_, trivial, ?_, trivial⟩ <;> rw [Int.neg_mul, Int.neg_add]
theorem em_ng (s : St) (t : Int) : emF (ngS s) t = ngS (emF s t) := by
  unfold emF ngS
  simp only [St.mk.injEq]
  refine ⟨trivial, trivial, ?_, ?_⟩ <;> rw [Int.mul_neg] <;> omega
theorem bdS_ng (s : St) : bdS (ngS s) = bdS s := by
  have key : bdS (ngS s) = true ↔ bdS s = true := by
    rw [bdS_iff, bdS_iff]
    unfold ngS
    simp only
    constructor <;> intro h <;> omega
  cases h : bdS s with
  | true => exact key.2 h
  | false =>
    cases h2 : bdS (ngS s) with
    | false => rfl
    | true => rw [key.1 h2] at h; exact h
def ngR : Option (St × List Int) → Option (St × List Int) := Option.map fun r => (ngS r.1, r.2)
theorem emitM_ng (most : Nat) (f : Nat) : ∀ s out, emitM most f (ngS s) out = ngR (emitM most f s out) := by
  induction f with
  | zero => intro s out; rfl
  | succ f ih =>
    intro s out
    rw [emitM, emitM, knF_ng]
    split
    · rfl
    · cases knF s with
      | none => rfl
      | some q =>
        simp only
        rw [em_ng, bdS_ng, ih]
        split
        · rfl
        · split
          · rfl
          · split
            · rfl
            · rfl
theorem feedR_ng (s : St) (out : List Int) (t : Int) : feedR (ngS s) out t = ngR (feedR s out t) := by
  unfold feedR
  rw [fed_ng, bdS_ng]
  split
  · exact emitM_ng _ _ _ _
  · rfl
theorem runG_ng (xs : List Int) : ∀ s out, runG xs (ngS s) out = ngR (runG xs s out) := by
  induction xs with
  | nil => intro s out; rfl
  | cons t xs ih =>
    intro s out
    rw [runG, runG, feedR_ng]
    cases feedR s out t with
    | none => rfl
    | some r => exact ih r.1 r.2
theorem full_ng {a c : Int} (hc : c ≠ 0) : fullF (-a) (-c) = fullF a c := by
  unfold fullF
  have e : (if -c < 0 then lowF (- -a) (- -c) else lowF (-a) (-c)) = (if c < 0 then lowF (-a) (-c) else lowF a c) := by
    rcases Int.lt_or_le c 0 with h | h
    · rw [if_neg (by omega), if_pos h]
    · rw [if_pos (by omega), if_neg (by omega), Int.neg_neg, Int.neg_neg]
  rw [e]
theorem endF_ng (s : St) (out : List Int) : endF (ngS s) out = endF s out := by
  unfold endF
  show (if -s.c = 0 then (if -s.a = 0 ∨ out.length = 0 then _ else _) else _) = _
  by_cases hc : s.c = 0
  · rw [if_pos (by omega), if_pos hc]
    by_cases ha : s.a = 0 ∨ out.length = 0
    · rw [if_pos (by omega), if_pos ha]
    · rw [if_neg (by omega), if_neg ha]
  · rw [if_neg (by omega), if_neg hc]
    have e : fullF (ngS s).a (ngS s).c = fullF s.a s.c := full_ng hc
    rw [e]
theorem okS_ng (s : St) : okS (ngS s) = okS s := by
  have key : okS (ngS s) = true ↔ okS s = true := by
    rw [okS_iff, okS_iff, bdS_ng]
    unfold Det ngS
    simp only [Int.neg_mul_neg]
  cases h : okS s with
  | true => exact key.2 h
  | false =>
    cases h2 : okS (ngS s) with
    | false => rfl
    | true => rw [key.1 h2] at h; exact h
theorem runR_ng (r : Option (St × List Int)) : runR (ngR r) = runR r := by
  cases r with
  | none => rfl
  | some r => exact endF_ng r.1 r.2

/-- The end of a run, where the value's denominator is not negative. -/
theorem Rv.fin {s0 s : St} {N0 D0 u0 v0 N u v : Int} {out : List Int} (h : Rv s0 N0 D0 u0 v0 s out N 0 u v) (hz : Sz s0 N0 D0 u0 v0) (h0 : 0 ≤ v0) (hu0 : -1000000000 ≤ u0 ∧ u0 ≤ 1000000000) (hD0 : 0 < D0) (hg : gcdI N0 D0 = 1) (hn : u0 ≠ 0 ∨ v0 ≠ 0) :
    (v0 = 0 → endF s out = ([], 6)) ∧ (0 < v0 → endF s out = (termsF u0 v0, 0)) := by
  have hb := bdS_iff.1 (h.bds hz)
  have hz1 := hz.v1
  obtain ⟨p, p', q, q', ex, P, P', Q, Q', e, h1, h2, h3⟩ := h.m
  have hN := h1.last hD0 hg
  subst hN
  have fu := h.fu; have fv := h.fv; have tl := h.tl
  have eu : u = s.a := by omega
  have ev : v = s.c := by omega
  have gu := h2.hu; have gv := h2.hv
  subst eu ev
  have ok : 0 < v0 → shortL (termsF u0 v0) = termsF u0 v0 ∧ termsP (termsF u0 v0) = true := fun g => ⟨shortL_termsV g, terms_okV hu0 ⟨by omega, hz1⟩⟩
  refine ⟨fun g => ?_, fun g => ?_⟩
  · have e1 : termsF u0 v0 = [] := by rw [g, termsF_zero]
    rw [e1] at tl
    obtain ⟨t1, t2⟩ := List.append_eq_nil_iff.1 tl
    have hc : s.c = 0 := by
      have := h2.vz
      rcases Int.lt_or_le 0 s.c with k | k
      · have := termsF_pos (n := s.a) k
        rw [t2] at this; simp at this
      · omega
    exact end_inf hc (.inr (by rw [t1]; rfl))
  · obtain ⟨o1, o2⟩ := ok g
    by_cases hc : s.c = 0
    · have t : out = termsF u0 v0 := by rw [hc, termsF_zero, List.append_nil] at tl; exact tl
      rw [← t] at o1 o2
      have hl := termsF_pos (n := u0) g
      rw [← t] at hl
      rw [← t]
      have ha : s.a ≠ 0 := by
        intro ha
        rw [ha, hc] at gu gv
        omega
      have := end_inf_ok hc (out := out) (s := s) (by omega) (by rw [o1]; exact o2)
      rw [this, o1]
    · have hc1 : 0 < s.c := by have := h2.vz; omega
      have f := full_pos (u := s.a) (v := s.c) ⟨hc1, by omega⟩ (by omega)
      have t : out ++ termsF (lowF s.a s.c).1 (lowF s.a s.c).2 = termsF u0 v0 := by rw [termsF_low hc1]; exact tl
      have := end_ok (out := out) (s := s) hc f (by rw [t, o1]; exact o2)
      rw [this, t, o1]
/-- A run's result where the value's denominator is not negative. -/
theorem run_posV {s : St} {N D u v : Int} (hz : Sz s N D u v) (hs : okS s = true) (hx : okF N D = true) (hu : s.a * N + s.b * D = u) (hv : s.c * N + s.d * D = v) (h0 : 0 ≤ v) (hub : -1000000000 ≤ u ∧ u ≤ 1000000000) :
    ∃ r, runG (termsF N D) s [] = some r ∧ (v = 0 → endF r.1 r.2 = ([], 6)) ∧ (0 < v → endF r.1 r.2 = (termsF u v, 0)) := by
  have ho := okF_iff.1 hx
  have hd := (okS_iff.1 hs).2
  have hn : u ≠ 0 ∨ v ≠ 0 := by
    refine Classical.byContradiction fun hc => ?_
    have hu0 : u = 0 := by omega
    have hv0 : v = 0 := by omega
    have k : (s.a * s.d - s.b * s.c) * D = s.a * v - s.c * u := by rw [← hu, ← hv]; grind
    rw [hu0, hv0, Int.mul_zero, Int.mul_zero] at k
    rcases Int.mul_eq_zero.1 (show (s.a * s.d - s.b * s.c) * D = 0 by omega) with z | z
    · exact hd (by omega)
    · omega
  obtain ⟨s', out', N', u', v', e, h2⟩ := Rv.run hz h0 (D.toNat + 1) s [] N D u v (by omega) (Rv.start (by omega) h0 hu hv)
  exact ⟨_, e, h2.fin hz h0 hub (by omega) ho.2.2 hn⟩
/-- The value law: a small state of a small fraction. -/
theorem run_law {a b c d N D : Int} (ha : -9 ≤ a ∧ a ≤ 9) (hb : -9 ≤ b ∧ b ≤ 9) (hc : -9 ≤ c ∧ c ≤ 9) (hd : -9 ≤ d ∧ d ≤ 9) (hs : okS ⟨a, b, c, d⟩ = true) (hx : okF N D = true) (hN : -300 ≤ N ∧ N ≤ 300) (hD : D ≤ 300) :
    (∃ r, runG (termsF N D) ⟨a, b, c, d⟩ [] = some r) ∧ (c * N + d * D = 0 → runF a b c d (termsF N D) = ([], 6)) ∧
    (c * N + d * D ≠ 0 → ∃ p q, fullF (a * N + b * D) (c * N + d * D) = (p, q, 0) ∧ okF p q = true ∧ runF a b c d (termsF N D) = (termsF p q, 0)) := by
  have ho := okF_iff.1 hx
  have ht : termsP (termsF N D) = true := terms_okV ho.2.1 ho.1
  have bu := lin_bd (K := 9) (L := 300) (M := 5400) (by omega) ha hb hN (show -300 ≤ D ∧ D ≤ 300 by omega) (by omega)
  have bv := lin_bd (K := 9) (L := 300) (M := 5400) (by omega) hc hd hN (show -300 ≤ D ∧ D ≤ 300 by omega) (by omega)
  have hrun : runF a b c d (termsF N D) = runR (runG (termsF N D) ⟨a, b, c, d⟩ []) := by
    rw [runF, if_pos hs, if_pos ht]
  rw [hrun]
  generalize hu : a * N + b * D = u at bu ⊢
  generalize hv : c * N + d * D = v at bv ⊢
  rcases Int.lt_or_le v 0 with g | g
  · have hs2 : okS (ngS ⟨a, b, c, d⟩) = true := by rw [okS_ng]; exact hs
    obtain ⟨r, h1, h2, h3⟩ := run_posV (s := ngS ⟨a, b, c, d⟩) (N := N) (D := D) (u := -u) (v := -v) ⟨⟨9, 301, 5401, by omega, by omega, by show -9 ≤ -a ∧ -a ≤ 9; omega, by show -9 ≤ -b ∧ -b ≤ 9; omega, by show -9 ≤ -c ∧ -c ≤ 9; omega, by show -9 ≤ -d ∧ -d ≤ 9; omega, by omega, by omega, by omega, by omega, by omega⟩, by omega⟩ hs2 hx (by show -a * N + -b * D = -u; rw [← hu, Int.neg_mul, Int.neg_mul]; omega) (by show -c * N + -d * D = -v; rw [← hv, Int.neg_mul, Int.neg_mul]; omega) (by omega) (by omega)
    rw [runG_ng] at h1
    have h3 := h3 (by omega)
    refine ⟨?_, fun k => by omega, fun _ => ?_⟩
    · cases hr : runG (termsF N D) ⟨a, b, c, d⟩ [] with
      | none => rw [hr] at h1; cases h1
      | some r => exact ⟨r, rfl⟩
    · have f := full_pos (u := -u) (v := -v) (by omega) (by omega)
      have f2 := full_ng (a := u) (c := v) (by omega)
      rw [f] at f2
      refine ⟨_, _, f2.symm, full_okV f2.symm, ?_⟩
      rw [← runR_ng, h1]
      show endF r.1 r.2 = _
      rw [h3, termsF_low (by omega)]
  · obtain ⟨r, h1, h2, h3⟩ := run_posV (s := ⟨a, b, c, d⟩) (N := N) (D := D) (u := u) (v := v) ⟨⟨9, 301, 5401, by omega, by omega, ha, hb, hc, hd, by omega, by omega, by omega, by omega, by omega⟩, by omega⟩ hs hx hu hv g (by omega)
    refine ⟨⟨r, h1⟩, fun k => ?_, fun k => ?_⟩
    · rw [h1]; exact h2 k
    · have f := full_pos (u := u) (v := v) (by omega) (by omega)
      refine ⟨_, _, f, full_okV f, ?_⟩
      rw [h1]
      show endF r.1 r.2 = _
      rw [h3 (by omega), termsF_low (by omega)]

/-! How many terms are needed. -/
theorem feeds_ok {m : Int} (xs : List Int) : ∀ (n : Nat) (s : St) (out : List Int) (r : St × List Int), runG xs s out = some r → ((feedsG m xs n s out).2 = 0 ∧ (n : Int) ≤ (feedsG m xs n s out).1 ∧ (feedsG m xs n s out).1 ≤ n + xs.length) ∨ (feedsG m xs n s out).2 = 3 := by
  induction xs with
  | nil =>
    intro n s out r h
    rw [feedsG]
    split
    · exact .inr rfl
    · exact .inl ⟨rfl, by simp, by simp⟩
  | cons t xs ih =>
    intro n s out r h
    rw [runG] at h
    rw [feedsG]
    split
    · cases hf : feedR s out t with
      | none => rw [hf] at h; cases h
      | some r1 =>
        rw [hf] at h
        simp only at h ⊢
        rcases ih (n + 1) r1.1 r1.2 r h with ⟨k1, k2, k3⟩ | k
        · exact .inl ⟨k1, by omega, by simp; omega⟩
        · exact .inr k
    · exact .inl ⟨rfl, by simp, by simp; omega⟩
theorem feeds_mono {m k : Int} (hmk : m ≤ k) (xs : List Int) : ∀ (n : Nat) (s : St) (out : List Int), (feedsG k xs n s out).2 = 0 → (feedsG m xs n s out).2 = 0 ∧ (feedsG m xs n s out).1 ≤ (feedsG k xs n s out).1 := by
  have low : ∀ (xs : List Int) (n : Nat) (s : St) (out : List Int), (feedsG k xs n s out).2 = 0 → (n : Int) ≤ (feedsG k xs n s out).1 := by
    intro xs
    induction xs with
    | nil =>
      intro n s out h
      rw [feedsG] at h ⊢
      split at h
      · simp at h
      · rename_i g; rw [if_neg g]; simp
    | cons t xs ih =>
      intro n s out h
      rw [feedsG] at h ⊢
      split at h
      · rename_i g
        rw [if_pos g]
        cases hf : feedR s out t with
        | none => rw [hf] at h; simp at h
        | some r1 =>
          rw [hf] at h
          simp only at h ⊢
          have := ih (n + 1) r1.1 r1.2 h
          omega
      · rename_i g; rw [if_neg g]; simp
  induction xs with
  | nil =>
    intro n s out h
    rw [feedsG] at h ⊢
    rw [feedsG]
    split at h
    · simp at h
    · rename_i g
      rw [if_neg (by omega), if_neg g]; simp
  | cons t xs ih =>
    intro n s out h
    by_cases g : (out.length : Int) < m
    · rw [feedsG, if_pos (by omega)] at h
      rw [feedsG, if_pos g, feedsG, if_pos (by omega)]
      cases hf : feedR s out t with
      | none => rw [hf] at h; simp at h
      | some r1 =>
        rw [hf] at h
        exact ih (n + 1) r1.1 r1.2 h
    · have h2 := low _ _ _ _ h
      rw [feeds_done g]
      exact ⟨rfl, h2⟩

end Go.Proofs.YtgkelemfbmmgnaaGreat

/- Small walks for laws on states: what is drawn, the value of a state, equal lists. Each theorem names its conditions. -/
namespace Go.Proofs.YtgkelemfbmmgnaaGreat
open Go.RowKit
set_option linter.unusedVariables false
set_option linter.unusedSimpArgs false


def StD (w0 w : World) (p N : Nat) (e : Ending) (w' : World) : Prop :=
  ∃ a b c d : Int, e = .returned (.agg #[.int .i64 a, .int .i64 b, .int .i64 c, .int .i64 d]) ∧ ((-9 ≤ a ∧ a ≤ 9) ∧ (-9 ≤ b ∧ b ≤ 9) ∧ (-9 ≤ c ∧ c ≤ 9) ∧ (-9 ≤ d ∧ d ≤ 9)) ∧ okS ⟨a, b, c, d⟩ = true ∧ SrcD w0 w' p (N + 50) ∧ Upd w w' p
set_option maxRecDepth 100000 in
set_option maxHeartbeats 3200000 in
theorem drawS_any {w0 w : World} {p N : Nat} (h : SrcD w0 w p N) (hN : N ≤ 700000000) :
    Calls Tryz.prog 79 #[.pointer (some ⟨p, 0, none⟩)] w (StD w0 w p N) := by
  have hp := h.out
  go_enter Tryz.func79, Tryz.ntmps79
  go_wp2_with fail
  have xR : Bx (w.alloc (.cells #[.int .i64 0, .int .i64 0, .int .i64 0, .int .i64 0] 40)) w.heap.size #[.int .i64 0, .int .i64 0, .int .i64 0, .int .i64 0] := Bx.new (b := w.heap.size) _ _ _ rfl
  have hA := h.below (bl_alloc (bl_refl w) (.cells #[.int .i64 0, .int .i64 0, .int .i64 0, .int .i64 0] 40))
  have uA : Upd w (w.alloc (.cells #[.int .i64 0, .int .i64 0, .int .i64 0, .int .i64 0] 40)) p := upd_bl (upd_refl _ _) (bl_alloc (bl_refl w) _)
  have zA : w.heap.size + 1 ≤ (w.alloc (.cells #[.int .i64 0, .int .i64 0, .int .i64 0, .int .i64 0] 40)).heap.size := by simp
  generalize w.alloc (.cells #[.int .i64 0, .int .i64 0, .int .i64 0, .int .i64 0] 40) = wa at *
  go_loopw [3] (fun s3 wr => ∃ k : Nat, k ≤ 5 ∧ s3 = .int .i64 k ∧ SrcD w0 wr p (N + 8 * k) ∧ Upd w wr p ∧ Bx wr w.heap.size #[.int .i64 0, .int .i64 0, .int .i64 0, .int .i64 0] ∧ w.heap.size + 1 ≤ wr.heap.size) (fun s3 _ => 5 - (intOf s3).toNat)
  case atStart => exact ⟨0, by omega, rfl, hA, uA, xR, zA⟩
  case round =>
    obtain ⟨k, hk, rfl, hS0, hU0, x0, z0⟩ := hrel
    clear hA uA xR zA
    by_cases hlt : k < 5
    · go_wp2_with fail
      refine (dpick_any hS0 (by omega) (by omega)).mono ?_
      rintro e w1 ⟨r1, rfl, r0, r1', hS1, hU1⟩
      obtain ⟨a, ha⟩ : ∃ q, q = r1 - 9 := ⟨_, rfl⟩
      have HQ1 := Lib.hid ha
      have hab : -9 ≤ a ∧ a ≤ 9 := by omega
      have hwa : IntKind.i64.wrap (r1 - 9) = a := by rw [IntKind.wrap_i64]; omega
      have z1 : w.heap.size + 1 ≤ w1.heap.size := Nat.le_trans z0 hU1.size
      have x1 := x0.upd hU1 (by omega)
      have u1 := upd_trans hU0 hU1
      clear ha
      go_wp2_with fail
      have xS : Bx (w1.alloc (.cells #[.int .i64 a, .int .i64 0, .int .i64 0, .int .i64 0] 40)) w1.heap.size #[.int .i64 a, .int .i64 0, .int .i64 0, .int .i64 0] := Bx.new (b := w1.heap.size) _ _ _ rfl
      have xR := x1.alloc (.cells #[.int .i64 a, .int .i64 0, .int .i64 0, .int .i64 0] 40)
      have hB := hS1.below (bl_alloc (bl_refl w1) (.cells #[.int .i64 a, .int .i64 0, .int .i64 0, .int .i64 0] 40))
      have uB : Upd w (w1.alloc (.cells #[.int .i64 a, .int .i64 0, .int .i64 0, .int .i64 0] 40)) p := upd_bl u1 (bl_alloc (bl_refl w1) _)
      have zB : w1.heap.size + 1 ≤ (w1.alloc (.cells #[.int .i64 a, .int .i64 0, .int .i64 0, .int .i64 0] 40)).heap.size := by simp
      generalize (w1.alloc (.cells #[.int .i64 a, .int .i64 0, .int .i64 0, .int .i64 0] 40)) = wb at *
      refine (dpick_any hB (by omega) (by omega)).mono ?_
      rintro e w2 ⟨r2, rfl, q0, q1, hS2, hU2⟩
      have b9 : -9 ≤ r2 - 9 ∧ r2 - 9 ≤ 9 := by omega
      obtain ⟨b, hb⟩ : ∃ q, q = r2 - 9 := ⟨_, rfl⟩
      have HQ2 := Lib.hid hb
      rw [← hb] at b9
      have hwb : IntKind.i64.wrap (r2 - 9) = b := by rw [IntKind.wrap_i64]; omega
      clear hb q0 q1
      have xS2 := xS.upd hU2 (by have := hp.2.1; omega)
      have xR2 := xR.upd hU2 (by have := hp.2.1; omega)
      have u2 := upd_trans uB hU2
      have z2 := Nat.le_trans zB hU2.size
      obtain ⟨cS2, fS2, zS2⟩ := xS2.out
      go_wp2_with fail
      have ys2 := xS2.set 1 (.int .i64 b)
      have yr2 := xR2.far (p := ⟨w1.heap.size, 1, none⟩) (by simp; omega) (.int .i64 b)
      have yh2 := hS2.far (q := ⟨w1.heap.size, 1, none⟩) (by have := hp.2.2.size; have := h.out; simp; omega) (by have := hp.2.1; simp; omega) (.int .i64 b)
      have yu2 := upd_far u2 (q := ⟨w1.heap.size, 1, none⟩) (by simp; omega) (.int .i64 b)
      have yz2 : w1.heap.size + 1 ≤ (w2.setCell ⟨w1.heap.size, 1, none⟩ (.int .i64 b)).heap.size := by simpa using z2
      clear cS2 fS2 zS2
      generalize (w2.setCell ⟨w1.heap.size, 1, none⟩ (.int .i64 b)) = v2 at *
      refine (dpick_any yh2 (by omega) (by omega)).mono ?_
      rintro e w3 ⟨r3, rfl, q0, q1, hS3, hU3⟩
      have c9 : -9 ≤ r3 - 9 ∧ r3 - 9 ≤ 9 := by omega
      obtain ⟨c, hc⟩ : ∃ q, q = r3 - 9 := ⟨_, rfl⟩
      have HQ3 := Lib.hid hc
      rw [← hc] at c9
      have hwc : IntKind.i64.wrap (r3 - 9) = c := by rw [IntKind.wrap_i64]; omega
      clear hc q0 q1
      have xS3 := ys2.upd hU3 (by have := hp.2.1; omega)
      have xR3 := yr2.upd hU3 (by have := hp.2.1; omega)
      have u3 := upd_trans yu2 hU3
      have z3 := Nat.le_trans yz2 hU3.size
      obtain ⟨cS3, fS3, zS3⟩ := xS3.out
      go_wp2_with fail
      have ys3 := xS3.set 2 (.int .i64 c)
      have yr3 := xR3.far (p := ⟨w1.heap.size, 2, none⟩) (by simp; omega) (.int .i64 c)
      have yh3 := hS3.far (q := ⟨w1.heap.size, 2, none⟩) (by have := hp.2.2.size; have := h.out; simp; omega) (by have := hp.2.1; simp; omega) (.int .i64 c)
      have yu3 := upd_far u3 (q := ⟨w1.heap.size, 2, none⟩) (by simp; omega) (.int .i64 c)
      have yz3 : w1.heap.size + 1 ≤ (w3.setCell ⟨w1.heap.size, 2, none⟩ (.int .i64 c)).heap.size := by simpa using z3
      clear cS3 fS3 zS3
      generalize (w3.setCell ⟨w1.heap.size, 2, none⟩ (.int .i64 c)) = v3 at *
      refine (dpick_any yh3 (by omega) (by omega)).mono ?_
      rintro e w4 ⟨r4, rfl, q0, q1, hS4, hU4⟩
      have d9 : -9 ≤ r4 - 9 ∧ r4 - 9 ≤ 9 := by omega
      obtain ⟨d, hd⟩ : ∃ q, q = r4 - 9 := ⟨_, rfl⟩
      have HQ4 := Lib.hid hd
      rw [← hd] at d9
      have hwd : IntKind.i64.wrap (r4 - 9) = d := by rw [IntKind.wrap_i64]; omega
      clear hd q0 q1
      have xS4 := ys3.upd hU4 (by have := hp.2.1; omega)
      have xR4 := yr3.upd hU4 (by have := hp.2.1; omega)
      have u4 := upd_trans yu3 hU4
      have z4 := Nat.le_trans yz3 hU4.size
      obtain ⟨cS4, fS4, zS4⟩ := xS4.out
      go_wp2_with fail
      refine (sok_any ⟨a, b, c, d⟩ _).mono ?_
      rintro e w9 ⟨rfl, hb9⟩
      have xS9 := (xS4.set 3 (.int .i64 d)).below hb9
      have xR9 := (xR4.far (p := ⟨w1.heap.size, 3, none⟩) (by simp; omega) (.int .i64 d)).below hb9
      have S9 := (hS4.far (q := ⟨w1.heap.size, 3, none⟩) (by have := hp.2.2.size; have := h.out; simp; omega) (by have := hp.2.1; simp; omega) (.int .i64 d)).below hb9
      have U9 := upd_bl (upd_far u4 (q := ⟨w1.heap.size, 3, none⟩) (by simp; omega) (.int .i64 d)) hb9
      have z9 : w1.heap.size + 1 ≤ w9.heap.size := by have := hb9.size; simp at this; omega
      clear cS4 fS4 zS4
      obtain ⟨cS9, fS9, zS9⟩ := xS9.out
      obtain ⟨cR9, fR9, zR9⟩ := xR9.out
      cases hq : okS (⟨a, b, c, d⟩ : St) with
      | true =>
        go_wp2
        refine bodyPost_ret (v := .agg #[.int .i64 a, .int .i64 b, .int .i64 c, .int .i64 d]) (by simp only [results, Tryz.results79]; go_simp) rfl ?_
        exact ⟨a, b, c, d, rfl, ⟨hab, b9, c9, d9⟩, hq, ((((S9.far (q := ⟨w.heap.size, 0, none⟩) (by have := hp.2.2.size; simpa using this) (by simp; omega) _).far (q := ⟨w.heap.size, 1, none⟩) (by have := hp.2.2.size; simpa using this) (by simp; omega) _).far (q := ⟨w.heap.size, 2, none⟩) (by have := hp.2.2.size; simpa using this) (by simp; omega) _).far (q := ⟨w.heap.size, 3, none⟩) (by have := hp.2.2.size; simpa using this) (by simp; omega) _).more (by omega), upd_far (upd_far (upd_far (upd_far U9 (q := ⟨w.heap.size, 0, none⟩) (by simp) _) (q := ⟨w.heap.size, 1, none⟩) (by simp) _) (q := ⟨w.heap.size, 2, none⟩) (by simp) _) (q := ⟨w.heap.size, 3, none⟩) (by simp) _⟩
      | false =>
        go_wp2
        go_roundw
        case rel => exact ⟨k + 1, by omega, by go_num, S9.more (by omega), U9, xR9, by omega⟩
        case measure => simp only [intOf]; omega
    · obtain ⟨cR0, fR0, zR0⟩ := x0.out
      go_wp2
      refine bodyPost_ret (v := .agg #[.int .i64 1, .int .i64 1, .int .i64 0, .int .i64 2]) (by simp only [results, Tryz.results79]; go_simp) rfl ?_
      exact ⟨1, 1, 0, 2, rfl, ⟨by omega, by omega, by omega, by omega⟩, by decide, ((((hS0.far (q := ⟨w.heap.size, 0, none⟩) (by have := hp.2.2.size; simpa using this) (by simp; omega) _).far (q := ⟨w.heap.size, 1, none⟩) (by have := hp.2.2.size; simpa using this) (by simp; omega) _).far (q := ⟨w.heap.size, 2, none⟩) (by have := hp.2.2.size; simpa using this) (by simp; omega) _).far (q := ⟨w.heap.size, 3, none⟩) (by have := hp.2.2.size; simpa using this) (by simp; omega) _).more (by omega), upd_far (upd_far (upd_far (upd_far hU0 (q := ⟨w.heap.size, 0, none⟩) (by simp) _) (q := ⟨w.heap.size, 1, none⟩) (by simp) _) (q := ⟨w.heap.size, 2, none⟩) (by simp) _) (q := ⟨w.heap.size, 3, none⟩) (by simp) _⟩

def StateQ (w : World) (e : Ending) (w' : World) : Prop :=
  ∃ a b c d : Int, e = .returned (.agg #[.int .i64 a, .int .i64 b, .int .i64 c, .int .i64 d]) ∧ ((-9 ≤ a ∧ a ≤ 9) ∧ (-9 ≤ b ∧ b ≤ 9) ∧ (-9 ≤ c ∧ c ≤ 9) ∧ (-9 ≤ d ∧ d ≤ 9)) ∧ okS ⟨a, b, c, d⟩ = true ∧ Bl w w'
def FracsQ (w : World) (e : Ending) (w' : World) : Prop :=
  ∃ n1 d1 n2 d2 n3 d3 : Int, e = .returned (.tuple #[.agg #[.int .i64 n1, .int .i64 d1], .agg #[.int .i64 n2, .int .i64 d2], .agg #[.int .i64 n3, .int .i64 d3]]) ∧ (gcdI n1 d1 = 1 ∧ (1 ≤ d1 ∧ d1 ≤ 300) ∧ (-300 ≤ n1 ∧ n1 ≤ 300)) ∧ (gcdI n2 d2 = 1 ∧ (1 ≤ d2 ∧ d2 ≤ 300) ∧ (-300 ≤ n2 ∧ n2 ≤ 300)) ∧ (gcdI n3 d3 = 1 ∧ (1 ≤ d3 ∧ d3 ≤ 300) ∧ (-300 ≤ n3 ∧ n3 ≤ 300)) ∧ Bl w w'
/-- The value of a state. -/
def stAtF (a b c d N D : Int) : Int × Int × Int := if c * N + d * D = 0 then (0, 0, 6) else fullF (a * N + b * D) (c * N + d * D)
theorem okR_eq {n d : Int} {b : Bool} (h : okF n d = b) (w : World) : Calls Tryz.prog 30 #[.agg #[.int .i64 n, .int .i64 d]] w fun e w' => e = .returned (.bool b) ∧ Bl w w' := h ▸ ok_any n d w
end Go.Proofs.YtgkelemfbmmgnaaGreat

