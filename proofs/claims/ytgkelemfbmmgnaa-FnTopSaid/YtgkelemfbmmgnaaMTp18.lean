/- Some of the texts of this claim, joined in one file: RsV, DbV. -/
import Derived.Test.YtgkelemfbmmgnaaMTp16
import Derived.Test.YtgkelemfbmmgnaaMTp17
/- The value law of RunState: the terms of a small state of a small fraction are those of its value, and nothing grows too great. Each theorem names its conditions. -/
namespace Go.Proofs.Ytgkelemfbmmgnaa
set_option linter.unusedVariables false
set_option linter.unusedSimpArgs false

/-- Euclid's algorithm: after some steps u0 / v0 = (p u + p' v) / (q u + q' v). -/
structure Eu (u0 v0 p p' q q' e u v : Int) : Prop where
  hu : u0 = p * u + p' * v
  hv : v0 = q * u + q' * v
  det : p * q' - p' * q = e
  e1 : e = 1 ∨ e = -1
  qz : 0 ≤ q
  qz' : 0 ≤ q'
  st : (q = 0 ∧ q' = 1 ∧ p = 1 ∧ p' = 0) ∨ (0 < u ∧ v < u ∧ 1 ≤ q ∧ q' ≤ q)
  vz : 0 ≤ v
theorem Eu.start {u v : Int} (h : 0 ≤ v) : Eu u v 1 0 0 1 1 u v := ⟨by omega, by omega, by omega, .inl rfl, by omega, by omega, .inl ⟨rfl, rfl, rfl, rfl⟩, h⟩
theorem Eu.next {u0 v0 p p' q q' e u v : Int} (h : Eu u0 v0 p p' q q' e u v) (hv : 0 < v) : Eu u0 v0 (u / v * p + p') p (u / v * q + q') q (-e) v (u - u / v * v) := by
  have b := rest_lt (n := u) hv
  have t1 : v < u → 1 ≤ u / v := fun hh => Int.le_ediv_of_mul_le hv (by omega)
  have h1 := h.hu; have h2 := h.hv; have h3 := h.det; have h4 := h.qz; have h5 := h.qz'
  have h6 := h.st
  have h7 := h.e1
  generalize u / v = t at *
  have m : v < u → q ≤ t * q := fun hh => by
    have := Int.mul_le_mul_of_nonneg_right (t1 hh) h4
    omega
  refine ⟨by rw [h1]; grind, by rw [h2]; grind, by rw [← h3]; grind, by omega, ?_, h4, .inr ⟨hv, b.2, ?_⟩, b.1⟩
  · rcases h6 with ⟨a1, a2, a3, a4⟩ | ⟨a1, a2, a3, a4⟩
    · subst a1; omega
    · have := m a2; omega
  · rcases h6 with ⟨a1, a2, a3, a4⟩ | ⟨a1, a2, a3, a4⟩
    · subst a1; omega
    · have := m a2; omega
theorem pq_bd {p v0 M : Int} (h0 : 0 < v0) (h : -(M * v0) ≤ p * v0 ∧ p * v0 ≤ M * v0) : -M ≤ p ∧ p ≤ M := by
  constructor
  · rcases Int.lt_or_le p (-M) with g | g
    · have := Int.mul_lt_mul_of_pos_right g h0
      rw [Int.neg_mul] at this; omega
    · exact g
  · rcases Int.lt_or_le M p with g | g
    · have := Int.mul_lt_mul_of_pos_right g h0
      omega
    · exact g
/-- The convergents' bounds. -/
theorem Eu.bd {u0 v0 p p' q q' e u v U V : Int} (h : Eu u0 v0 p p' q q' e u v) (hU : -U ≤ u0 ∧ u0 ≤ U) (h1 : 1 ≤ V) (hV : v0 ≤ V) : (0 ≤ q ∧ q ≤ V) ∧ (0 ≤ q' ∧ q' ≤ V) ∧ (-(U + 1) ≤ p ∧ p ≤ U + 1) ∧ (-(U + 1) ≤ p' ∧ p' ≤ U + 1) := by
  have h2 := h.hu; have h3 := h.hv; have h4 := h.det; have h5 := h.qz; have h6 := h.qz'; have h7 := h.vz; have h8 := h.e1
  rcases h.st with ⟨rfl, rfl, rfl, rfl⟩ | ⟨a1, a2, a3, a4⟩
  · omega
  · have m1 := Int.mul_le_mul_of_nonneg_left (show 1 ≤ u by omega) h5
    have m2 := Int.mul_nonneg h6 h7
    have m3 := Int.mul_le_mul_of_nonneg_right a3 (show 0 ≤ u by omega)
    have hq : q ≤ v0 := by omega
    have hu : u ≤ v0 := by omega
    have k1 : p * v0 = q * u0 + e * v := by rw [h2, h3, ← h4]; grind
    have k2 : p' * v0 = q' * u0 - e * u := by rw [h2, h3, ← h4]; grind
    have b1 := Int.mul_le_mul_of_nonneg_left hU.2 h5
    have b2 := Int.mul_le_mul_of_nonneg_left hU.1 h5
    have b3 := Int.mul_le_mul_of_nonneg_left hU.2 h6
    have b4 := Int.mul_le_mul_of_nonneg_left hU.1 h6
    have c1 := Int.mul_le_mul_of_nonneg_right hq (show 0 ≤ U by omega)
    have c2 := Int.mul_le_mul_of_nonneg_right (show q' ≤ v0 by omega) (show 0 ≤ U by omega)
    have d1 : (U + 1) * v0 = v0 * U + v0 := by grind
    have d2 : q * -U = -(q * U) := Int.mul_neg _ _
    have d3 : q' * -U = -(q' * U) := Int.mul_neg _ _
    have ev : -v ≤ e * v ∧ e * v ≤ v := by rcases h8 with k | k <;> rw [k] <;> omega
    have eu : -u ≤ e * u ∧ e * u ≤ u := by rcases h8 with k | k <;> rw [k] <;> omega
    refine ⟨by omega, by omega, pq_bd (v0 := v0) (by omega) ?_, pq_bd (v0 := v0) (by omega) ?_⟩
    · rw [d1, k1]; omega
    · rw [d1, k2]; omega
theorem Eu.last {u0 v0 p p' q q' e u : Int} (h : Eu u0 v0 p p' q q' e u 0) (h0 : 0 < v0) (hg : gcdI u0 v0 = 1) : u = 1 := by
  rcases h.st with ⟨rfl, rfl, rfl, rfl⟩ | ⟨a1, a2, a3, a4⟩
  · have := h.hv; omega
  · have h1 := h.hu; have h2 := h.hv
    have d1 : u ∣ u0 := ⟨p, by rw [h1]; grind⟩
    have d2 : u ∣ v0 := ⟨q, by rw [h2]; grind⟩
    have : u ∣ gcdI u0 v0 := Int.dvd_coe_gcd d1 d2
    rw [hg] at this
    have := Int.le_of_dvd (by omega) this
    omega

/-- The state, from the first one and both convergents. -/
structure Mx (s0 s : St) (p p' q q' P P' Q Q' e : Int) : Prop where
  ha : s.a = e * (Q' * (s0.a * p + s0.b * q) - P' * (s0.c * p + s0.d * q))
  hb : s.b = e * (Q' * (s0.a * p' + s0.b * q') - P' * (s0.c * p' + s0.d * q'))
  hc : s.c = e * (P * (s0.c * p + s0.d * q) - Q * (s0.a * p + s0.b * q))
  hd : s.d = e * (P * (s0.c * p' + s0.d * q') - Q * (s0.a * p' + s0.b * q'))
theorem Mx.start (s0 : St) : Mx s0 s0 1 0 0 1 1 0 0 1 1 := ⟨by grind, by grind, by grind, by grind⟩
theorem Mx.fed {s0 s : St} {p p' q q' P P' Q Q' e : Int} (h : Mx s0 s p p' q q' P P' Q Q' e) (t : Int) : Mx s0 (fedF s t) (t * p + p') p (t * q + q') q P P' Q Q' e := by
  refine ⟨?_, ?_, ?_, ?_⟩ <;> simp only [fedF]
  · rw [h.ha, h.hb]; grind
  · rw [h.ha]
  · rw [h.hc, h.hd]; grind
  · rw [h.hc]
theorem Mx.em {s0 s : St} {p p' q q' P P' Q Q' e : Int} (h : Mx s0 s p p' q q' P P' Q Q' e) (t : Int) : Mx s0 (emF s t) p p' q q' (t * P + P') P (t * Q + Q') Q (-e) := by
  refine ⟨?_, ?_, ?_, ?_⟩ <;> simp only [emF]
  · rw [h.hc]; grind
  · rw [h.hd]; grind
  · rw [h.ha, h.hc]; grind
  · rw [h.hb, h.hd]; grind
theorem mulU {x y X Y : Int} (hX : 0 ≤ X) (h1 : -X ≤ x ∧ x ≤ X) (h2 : -Y ≤ y ∧ y ≤ Y) : -(X * Y) ≤ x * y ∧ x * y ≤ X * Y := by
  have a := Int.mul_nonneg (show 0 ≤ X + x by omega) (show 0 ≤ Y + y by omega)
  have b := Int.mul_nonneg (show 0 ≤ X - x by omega) (show 0 ≤ Y - y by omega)
  have c := Int.mul_nonneg (show 0 ≤ X + x by omega) (show 0 ≤ Y - y by omega)
  have d := Int.mul_nonneg (show 0 ≤ X - x by omega) (show 0 ≤ Y + y by omega)
  have e1 : (X + x) * (Y + y) = X * Y + X * y + x * Y + x * y := by grind
  have e2 : (X - x) * (Y - y) = X * Y - X * y - x * Y + x * y := by grind
  have e3 : (X + x) * (Y - y) = X * Y - X * y + x * Y - x * y := by grind
  have e4 : (X - x) * (Y + y) = X * Y + X * y - x * Y - x * y := by grind
  constructor <;> omega
theorem ent_bd {e R X S Z M L : Int} (h : e = 1 ∨ e = -1) (hM : 0 ≤ M) (hR : -M ≤ R ∧ R ≤ M) (hS : -M ≤ S ∧ S ≤ M) (hX : -L ≤ X ∧ X ≤ L) (hZ : -L ≤ Z ∧ Z ≤ L) (hb : 2 * (M * L) ≤ 1000000000) : -1000000000 ≤ e * (R * X - S * Z) ∧ e * (R * X - S * Z) ≤ 1000000000 := by
  have a := mulU hM hR hX
  have b := mulU hM hS hZ
  rcases h with k | k <;> rw [k] <;> omega
theorem lin_bd {a b x y K L M : Int} (hK : 0 ≤ K) (ha : -K ≤ a ∧ a ≤ K) (hb : -K ≤ b ∧ b ≤ K) (hx : -L ≤ x ∧ x ≤ L) (hy : -L ≤ y ∧ y ≤ L) (hM : 2 * (K * L) ≤ M) : -M ≤ a * x + b * y ∧ a * x + b * y ≤ M := by
  have p := mulU hK ha hx
  have q := mulU hK hb hy
  constructor <;> omega
/-- The bounds of the run: K of the state's numbers, L of x's convergents, M of those of the value. -/
structure Sz (s0 : St) (N0 D0 u0 v0 : Int) : Prop where
  x : ∃ K L M : Int, 0 ≤ K ∧ 0 ≤ M ∧ (-K ≤ s0.a ∧ s0.a ≤ K) ∧ (-K ≤ s0.b ∧ s0.b ≤ K) ∧ (-K ≤ s0.c ∧ s0.c ≤ K) ∧ (-K ≤ s0.d ∧ s0.d ≤ K) ∧ (1 ≤ D0 ∧ D0 ≤ L) ∧ (-L + 1 ≤ N0 ∧ N0 ≤ L - 1) ∧ (1 ≤ M ∧ v0 ≤ M) ∧ (-M + 1 ≤ u0 ∧ u0 ≤ M - 1) ∧ 2 * (M * (2 * (K * L))) ≤ 1000000000
  v1 : v0 ≤ 1000000000
theorem Sz.bds {s0 s : St} {N0 D0 u0 v0 p p' q q' ex N D P P' Q Q' e u v : Int} (h : Sz s0 N0 D0 u0 v0) (hx : Eu N0 D0 p p' q q' ex N D) (hy : Eu u0 v0 P P' Q Q' e u v) (hm : Mx s0 s p p' q q' P P' Q Q' e) : bdS s = true := by
  obtain ⟨K, L, M, k1, k2, k3, k4, k5, k6, k7, k8, k9, k10, k11⟩ := h.x
  have a := hx.bd (U := L - 1) (V := L) (by omega) (by omega) (by omega)
  have b := hy.bd (U := M - 1) (V := M) (by omega) (by omega) (by omega)
  have x1 := lin_bd (M := 2 * (K * L)) (L := L) k1 k3 k4 (x := p) (y := q) (by omega) (by omega) (by omega)
  have x2 := lin_bd (M := 2 * (K * L)) (L := L) k1 k3 k4 (x := p') (y := q') (by omega) (by omega) (by omega)
  have x3 := lin_bd (M := 2 * (K * L)) (L := L) k1 k5 k6 (x := p) (y := q) (by omega) (by omega) (by omega)
  have x4 := lin_bd (M := 2 * (K * L)) (L := L) k1 k5 k6 (x := p') (y := q') (by omega) (by omega) (by omega)
  refine bdS_iff.2 ⟨?_, ?_, ?_, ?_⟩
  · rw [hm.ha]; exact ent_bd hy.e1 k2 (by omega) (by omega) x1 x3 k11
  · rw [hm.hb]; exact ent_bd hy.e1 k2 (by omega) (by omega) x2 x4 k11
  · rw [hm.hc]; exact ent_bd hy.e1 k2 (by omega) (by omega) x3 x1 k11
  · rw [hm.hd]; exact ent_bd hy.e1 k2 (by omega) (by omega) x4 x2 k11

/-- All that holds along a run. -/
structure Rv (s0 : St) (N0 D0 u0 v0 : Int) (s : St) (out : List Int) (N D u v : Int) : Prop where
  m : ∃ p p' q q' ex P P' Q Q' e, Eu N0 D0 p p' q q' ex N D ∧ Eu u0 v0 P P' Q Q' e u v ∧ Mx s0 s p p' q q' P P' Q Q' e
  fu : s.a * N + s.b * D = u
  fv : s.c * N + s.d * D = v
  tl : out ++ termsF u v = termsF u0 v0
theorem Rv.vz {s0 s : St} {N0 D0 u0 v0 N D u v : Int} {out : List Int} (h : Rv s0 N0 D0 u0 v0 s out N D u v) : 0 ≤ v ∧ 0 ≤ D := by
  obtain ⟨p, p', q, q', ex, P, P', Q, Q', e, h1, h2, h3⟩ := h.m
  exact ⟨h2.vz, h1.vz⟩
theorem Rv.start {s0 : St} {N D u v : Int} (hD : 0 ≤ D) (hv : 0 ≤ v) (h1 : s0.a * N + s0.b * D = u) (h2 : s0.c * N + s0.d * D = v) : Rv s0 N D u v s0 [] N D u v :=
  ⟨⟨_, _, _, _, _, _, _, _, _, _, Eu.start hD, Eu.start hv, Mx.start s0⟩, h1, h2, rfl⟩
theorem Rv.bds {s0 s : St} {N0 D0 u0 v0 N D u v : Int} {out : List Int} (h : Rv s0 N0 D0 u0 v0 s out N D u v) (hz : Sz s0 N0 D0 u0 v0) : bdS s = true := by
  obtain ⟨p, p', q, q', ex, P, P', Q, Q', e, h1, h2, h3⟩ := h.m
  exact hz.bds h1 h2 h3
theorem Rv.fed {s0 s : St} {N0 D0 u0 v0 N D u v : Int} {out : List Int} (h : Rv s0 N0 D0 u0 v0 s out N D u v) (hD : 0 < D) : Rv s0 N0 D0 u0 v0 (fedF s (N / D)) out D (N - N / D * D) u v := by
  obtain ⟨p, p', q, q', ex, P, P', Q, Q', e, h1, h2, h3⟩ := h.m
  refine ⟨⟨_, _, _, _, _, _, _, _, _, _, h1.next hD, h2, h3.fed _⟩, ?_, ?_, h.tl⟩
  · have := h.fu
    simp only [fedF]
    rw [← this]; grind
  · have := h.fv
    simp only [fedF]
    rw [← this]; grind
/-- The term that is known is the value's floor. -/
theorem Rv.known {s0 s : St} {N0 D0 u0 v0 N D u v t : Int} {out : List Int} (h : Rv s0 N0 D0 u0 v0 s out N D u v) (hN : 0 < N ∧ D < N) (hk : knF s = some t) : 0 < v ∧ t = u / v := by
  have hz := h.vz
  obtain ⟨o1, o2, o3⟩ := knF_some hk
  obtain ⟨c1, c2, c3⟩ := opS_no o1
  have r1 := fdv_rest (n := s.a) c1
  have r2 := fdv_rest (n := s.a + s.b) c2
  rw [o3] at r1
  rw [o2] at r2
  have ev : v = s.c * (N - D) + (s.c + s.d) * D := by rw [← h.fv]; grind
  have eu : u - t * v = (s.a - t * s.c) * (N - D) + (s.a + s.b - t * (s.c + s.d)) * D := by rw [← h.fu, ← h.fv]; grind
  have hc : 0 < s.c := by
    rcases Int.lt_or_le 0 s.c with g | g
    · exact g
    · exfalso
      have k1 : s.c < 0 := by omega
      have k2 := c3.1 k1
      have m1 := Int.mul_le_mul_of_nonneg_right (show s.c ≤ -1 by omega) (show 0 ≤ N - D by omega)
      have m2 := Int.mul_le_mul_of_nonneg_right (show s.c + s.d ≤ 0 by omega) hz.2
      omega
  have hc2 : 0 < s.c + s.d := by
    rcases Int.lt_trichotomy (s.c + s.d) 0 with g | g | g
    · have := c3.2 g; omega
    · exact absurd g c2
    · exact g
  have r1 := r1.1 hc
  have r2 := r2.1 hc2
  have n1 := Int.mul_nonneg r1.1 (show 0 ≤ N - D by omega)
  have n2 := Int.mul_nonneg r2.1 hz.2
  have n3 := Int.mul_lt_mul_of_pos_right r1.2 (show 0 < N - D by omega)
  have n4 := Int.mul_le_mul_of_nonneg_right (Int.le_of_lt r2.2) hz.2
  have hv : 0 < v := by omega
  refine ⟨hv, ?_⟩
  have e1 : t ≤ u / v := (Int.le_ediv_iff_mul_le hv).2 (by omega)
  have e2 : u / v < t + 1 := (Int.ediv_lt_iff_lt_mul hv).2 (by rw [Int.add_mul]; omega)
  omega
theorem Rv.em {s0 s : St} {N0 D0 u0 v0 N D u v : Int} {out : List Int} (h : Rv s0 N0 D0 u0 v0 s out N D u v) (hv : 0 < v) : Rv s0 N0 D0 u0 v0 (emF s (u / v)) (out ++ [u / v]) N D v (u - u / v * v) := by
  obtain ⟨p, p', q, q', ex, P, P', Q, Q', e, h1, h2, h3⟩ := h.m
  refine ⟨⟨_, _, _, _, _, _, _, _, _, _, h1, h2.next hv, h3.em _⟩, ?_, ?_, ?_⟩
  · exact h.fv
  · simp only [emF]
    rw [← h.fu]
    generalize u / v = t
    rw [← h.fv]; grind
  · rw [List.append_assoc, List.singleton_append, ← termsF_step hv]; exact h.tl
theorem Rv.room {s0 s : St} {N0 D0 u0 v0 N D u v : Int} {out : List Int} (h : Rv s0 N0 D0 u0 v0 s out N D u v) (hz : Sz s0 N0 D0 u0 v0) (h0 : 0 ≤ v0) : out.length ≤ 60 ∧ (0 < v → out.length < 60) := by
  have a := termsF_60 (n := u0) h0 hz.v1
  rw [← h.tl, List.length_append] at a
  refine ⟨by omega, fun hv => ?_⟩
  have := termsF_pos (n := u) hv
  omega
theorem Rv.emit {s0 : St} {N0 D0 u0 v0 N D : Int} (hz : Sz s0 N0 D0 u0 v0) (h0 : 0 ≤ v0) (hN : 0 < N ∧ D < N) (k : Nat) : ∀ (s : St) (out : List Int) (u v : Int), 60 - out.length ≤ k → Rv s0 N0 D0 u0 v0 s out N D u v → ∃ s' out' u' v', emitF 1073741824 s out = some (s', out') ∧ Rv s0 N0 D0 u0 v0 s' out' N D u' v' := by
  induction k with
  | zero =>
    intro s out u v hk h
    have hr := h.room hz h0
    cases hq : knF s with
    | none => exact ⟨s, out, u, v, emit_none hr.1 hq, h⟩
    | some t =>
      have := hr.2 (h.known hN hq).1
      omega
  | succ k ih =>
    intro s out u v hk h
    have hr := h.room hz h0
    cases hq : knF s with
    | none => exact ⟨s, out, u, v, emit_none hr.1 hq, h⟩
    | some t =>
      obtain ⟨hv, rfl⟩ := h.known hN hq
      have hl := hr.2 hv
      have h2 := h.em hv
      obtain ⟨s', out', u', v', e, h3⟩ := ih _ _ _ _ (by simp; omega) h2
      exact ⟨s', out', u', v', by rw [emit_step hl (by omega) hq (h2.bds hz)]; exact e, h3⟩
theorem Rv.feed {s0 s : St} {N0 D0 u0 v0 N D u v : Int} {out : List Int} (hz : Sz s0 N0 D0 u0 v0) (h0 : 0 ≤ v0) (h : Rv s0 N0 D0 u0 v0 s out N D u v) (hD : 0 < D) : ∃ s' out' u' v', feedR s out (N / D) = some (s', out') ∧ Rv s0 N0 D0 u0 v0 s' out' D (N - N / D * D) u' v' := by
  have h1 := h.fed hD
  obtain ⟨s', out', u', v', e, h2⟩ := Rv.emit hz h0 (N := D) (D := N - N / D * D) ⟨hD, (rest_lt hD).2⟩ 60 _ _ _ _ (by omega) h1
  exact ⟨s', out', u', v', by rw [feedR_yes (h1.bds hz)]; exact e, h2⟩
theorem Rv.run {s0 : St} {N0 D0 u0 v0 : Int} (hz : Sz s0 N0 D0 u0 v0) (h0 : 0 ≤ v0) (k : Nat) : ∀ (s : St) (out : List Int) (N D u v : Int), D < k → Rv s0 N0 D0 u0 v0 s out N D u v → ∃ s' out' N' u' v', runG (termsF N D) s out = some (s', out') ∧ Rv s0 N0 D0 u0 v0 s' out' N' 0 u' v' := by
  induction k with
  | zero =>
    intro s out N D u v hk h
    have := h.vz; omega
  | succ k ih =>
    intro s out N D u v hk h
    have hd := h.vz
    rcases Int.lt_or_le 0 D with hD | hD
    · obtain ⟨s1, o1, u1, v1, e1, h1⟩ := Rv.feed hz h0 h hD
      have b := rest_lt (n := N) hD
      obtain ⟨s', out', N', u', v', e, h2⟩ := ih s1 o1 D _ u1 v1 (by omega) h1
      refine ⟨s', out', N', u', v', ?_, h2⟩
      rw [termsF_step hD, runG, e1]
      exact e
    · have : D = 0 := by omega
      subst this
      exact ⟨s, out, N, u, v, by rw [termsF_zero, runG], h⟩
theorem full_pos {u v : Int} (hv : 0 < v ∧ v ≤ 1000000000) (hu : -1000000000 ≤ u ∧ u ≤ 1000000000) : fullF u v = ((lowF u v).1, (lowF u v).2, 0) := by
  have hg := gcdI_pos u v (by omega)
  have b1 := ediv_bd u (gcdI u v) 1000000000 hg hu (by omega)
  have b2 := ediv_bd v (gcdI u v) 1000000000 hg (by omega) (by omega)
  have hd : 0 < v / gcdI u v := Int.ediv_pos_of_pos_of_dvd hv.1 (by omega) (gcdI_dvd_right u v)
  have h1 : okF (lowF u v).1 (lowF u v).2 = true := by
    refine okF_iff.2 ⟨?_, ?_, ?_⟩
    · exact ⟨by show 1 ≤ v / gcdI u v; omega, b2.2⟩
    · exact b1
    · have e := Int.gcd_ediv_gcd_ediv_gcd (i := u) (j := v) (by unfold gcdI at hg; omega)
      show ((Int.gcd (u / (u.gcd v : Int)) (v / (u.gcd v : Int)) : Nat) : Int) = 1
      rw [e]; rfl
  rw [fullF_eq u v _ _ (by rw [if_neg (by omega)]), if_pos h1]
theorem full_okV {u v p q : Int} (h : fullF u v = (p, q, 0)) : okF p q = true := by
  have := full_code (a := u) (c := v) (by rw [h])
  rw [h] at this
  exact this

/-! The other sign. -/
def ngS (s : St) : St := ⟨-s.a, -s.b, -s.c, -s.d⟩
theorem fdv_ng {n d : Int} (hd : d ≠ 0) : fdv (-n) (-d) = fdv n d := by
  unfold fdv
  rcases Int.lt_or_le d 0 with h | h
  · rw [if_neg (by omega), if_pos h]
  · rw [if_pos (by omega), if_neg (by omega), Int.neg_neg, Int.neg_neg]
theorem knF_ng (s : St) : knF (ngS s) = knF s := by
  unfold knF knV
  have e : opS (ngS s).c (ngS s).d = opS s.c s.d := by
    show opS (-s.c) (-s.d) = opS s.c s.d
    cases h : opS s.c s.d with
    | false =>
      obtain ⟨a, b, c⟩ := opS_no h
      refine opS_good (by omega) (by omega) ?_
      omega
    | true =>
      cases h2 : opS (-s.c) (-s.d) with
      | true => rfl
      | false =>
        obtain ⟨a, b, c⟩ := opS_no h2
        have : opS s.c s.d = false := opS_good (by omega) (by omega) (by omega)
        rw [this] at h; exact h
  rw [e]
  cases h : opS s.c s.d with
  | true => rfl
  | false =>
    obtain ⟨a, b, c⟩ := opS_no h
    have e1 : fdv (ngS s).a (ngS s).c = fdv s.a s.c := fdv_ng a
    have e2 : fdv ((ngS s).a + (ngS s).b) ((ngS s).c + (ngS s).d) = fdv (s.a + s.b) (s.c + s.d) := by
      show fdv (-s.a + -s.b) (-s.c + -s.d) = _
      rw [← Int.neg_add, ← Int.neg_add, fdv_ng b]
    rw [e1, e2]
theorem fed_ng (s : St) (t : Int) : fedF (ngS s) t = ngS (fedF s t) := by
  unfold fedF ngS
  simp only [St.mk.injEq]
  refine ⟨?_, trivial, ?_, trivial⟩ <;> rw [Int.neg_mul, Int.neg_add]
theorem em_ng (s : St) (t : Int) : emF (ngS s) t = ngS (emF s t) := by
  unfold emF ngS
  simp only [St.mk.injEq]
  refine ⟨trivial, trivial, ?_, ?_⟩ <;> rw [Int.mul_neg] <;> omega
theorem bdS_ng (s : St) : bdS (ngS s) = bdS s := by
  have key : bdS (ngS s) = true ↔ bdS s = true := by
    rw [bdS_iff, bdS_iff]
    unfold ngS
    simp only
    constructor <;> intro h <;> omega
  cases h : bdS s with
  | true => exact key.2 h
  | false =>
    cases h2 : bdS (ngS s) with
    | false => rfl
    | true => rw [key.1 h2] at h; exact h
def ngR : Option (St × List Int) → Option (St × List Int) := Option.map fun r => (ngS r.1, r.2)
theorem emitM_ng (most : Nat) (f : Nat) : ∀ s out, emitM most f (ngS s) out = ngR (emitM most f s out) := by
  induction f with
  | zero => intro s out; rfl
  | succ f ih =>
    intro s out
    rw [emitM, emitM, knF_ng]
    split
    · rfl
    · cases knF s with
      | none => rfl
      | some q =>
        simp only
        rw [em_ng, bdS_ng, ih]
        split
        · rfl
        · split
          · rfl
          · split
            · rfl
            · rfl
theorem feedR_ng (s : St) (out : List Int) (t : Int) : feedR (ngS s) out t = ngR (feedR s out t) := by
  unfold feedR
  rw [fed_ng, bdS_ng]
  split
  · exact emitM_ng _ _ _ _
  · rfl
theorem runG_ng (xs : List Int) : ∀ s out, runG xs (ngS s) out = ngR (runG xs s out) := by
  induction xs with
  | nil => intro s out; rfl
  | cons t xs ih =>
    intro s out
    rw [runG, runG, feedR_ng]
    cases feedR s out t with
    | none => rfl
    | some r => exact ih r.1 r.2
theorem full_ng {a c : Int} (hc : c ≠ 0) : fullF (-a) (-c) = fullF a c := by
  unfold fullF
  have e : (if -c < 0 then lowF (- -a) (- -c) else lowF (-a) (-c)) = (if c < 0 then lowF (-a) (-c) else lowF a c) := by
    rcases Int.lt_or_le c 0 with h | h
    · rw [if_neg (by omega), if_pos h]
    · rw [if_pos (by omega), if_neg (by omega), Int.neg_neg, Int.neg_neg]
  rw [e]
theorem endF_ng (s : St) (out : List Int) : endF (ngS s) out = endF s out := by
  unfold endF
  show (if -s.c = 0 then (if -s.a = 0 ∨ out.length = 0 then _ else _) else _) = _
  by_cases hc : s.c = 0
  · rw [if_pos (by omega), if_pos hc]
    by_cases ha : s.a = 0 ∨ out.length = 0
    · rw [if_pos (by omega), if_pos ha]
    · rw [if_neg (by omega), if_neg ha]
  · rw [if_neg (by omega), if_neg hc]
    have e : fullF (ngS s).a (ngS s).c = fullF s.a s.c := full_ng hc
    rw [e]
theorem okS_ng (s : St) : okS (ngS s) = okS s := by
  have key : okS (ngS s) = true ↔ okS s = true := by
    rw [okS_iff, okS_iff, bdS_ng]
    unfold Det ngS
    simp only [Int.neg_mul_neg]
  cases h : okS s with
  | true => exact key.2 h
  | false =>
    cases h2 : okS (ngS s) with
    | false => rfl
    | true => rw [key.1 h2] at h; exact h
theorem runR_ng (r : Option (St × List Int)) : runR (ngR r) = runR r := by
  cases r with
  | none => rfl
  | some r => exact endF_ng r.1 r.2

/-- The end of a run, where the value's denominator is not negative. -/
theorem Rv.fin {s0 s : St} {N0 D0 u0 v0 N u v : Int} {out : List Int} (h : Rv s0 N0 D0 u0 v0 s out N 0 u v) (hz : Sz s0 N0 D0 u0 v0) (h0 : 0 ≤ v0) (hu0 : -1000000000 ≤ u0 ∧ u0 ≤ 1000000000) (hD0 : 0 < D0) (hg : gcdI N0 D0 = 1) (hn : u0 ≠ 0 ∨ v0 ≠ 0) :
    (v0 = 0 → endF s out = ([], 6)) ∧ (0 < v0 → endF s out = (termsF u0 v0, 0)) := by
  have hb := bdS_iff.1 (h.bds hz)
  have hz1 := hz.v1
  obtain ⟨p, p', q, q', ex, P, P', Q, Q', e, h1, h2, h3⟩ := h.m
  have hN := h1.last hD0 hg
  subst hN
  have fu := h.fu; have fv := h.fv; have tl := h.tl
  have eu : u = s.a := by omega
  have ev : v = s.c := by omega
  have gu := h2.hu; have gv := h2.hv
  subst eu ev
  have ok : 0 < v0 → shortL (termsF u0 v0) = termsF u0 v0 ∧ termsP (termsF u0 v0) = true := fun g => ⟨shortL_termsV g, terms_okV hu0 ⟨by omega, hz1⟩⟩
  refine ⟨fun g => ?_, fun g => ?_⟩
  · have e1 : termsF u0 v0 = [] := by rw [g, termsF_zero]
    rw [e1] at tl
    obtain ⟨t1, t2⟩ := List.append_eq_nil_iff.1 tl
    have hc : s.c = 0 := by
      have := h2.vz
      rcases Int.lt_or_le 0 s.c with k | k
      · have := termsF_pos (n := s.a) k
        rw [t2] at this; simp at this
      · omega
    exact end_inf hc (.inr (by rw [t1]; rfl))
  · obtain ⟨o1, o2⟩ := ok g
    by_cases hc : s.c = 0
    · have t : out = termsF u0 v0 := by rw [hc, termsF_zero, List.append_nil] at tl; exact tl
      rw [← t] at o1 o2
      have hl := termsF_pos (n := u0) g
      rw [← t] at hl
      rw [← t]
      have ha : s.a ≠ 0 := by
        intro ha
        rw [ha, hc] at gu gv
        omega
      have := end_inf_ok hc (out := out) (s := s) (by omega) (by rw [o1]; exact o2)
      rw [this, o1]
    · have hc1 : 0 < s.c := by have := h2.vz; omega
      have f := full_pos (u := s.a) (v := s.c) ⟨hc1, by omega⟩ (by omega)
      have t : out ++ termsF (lowF s.a s.c).1 (lowF s.a s.c).2 = termsF u0 v0 := by rw [termsF_low hc1]; exact tl
      have := end_ok (out := out) (s := s) hc f (by rw [t, o1]; exact o2)
      rw [this, t, o1]
/-- A run's result where the value's denominator is not negative. -/
theorem run_posV {s : St} {N D u v : Int} (hz : Sz s N D u v) (hs : okS s = true) (hx : okF N D = true) (hu : s.a * N + s.b * D = u) (hv : s.c * N + s.d * D = v) (h0 : 0 ≤ v) (hub : -1000000000 ≤ u ∧ u ≤ 1000000000) :
    ∃ r, runG (termsF N D) s [] = some r ∧ (v = 0 → endF r.1 r.2 = ([], 6)) ∧ (0 < v → endF r.1 r.2 = (termsF u v, 0)) := by
  have ho := okF_iff.1 hx
  have hd := (okS_iff.1 hs).2
  have hn : u ≠ 0 ∨ v ≠ 0 := by
    refine Classical.byContradiction fun hc => ?_
    have hu0 : u = 0 := by omega
    have hv0 : v = 0 := by omega
    have k : (s.a * s.d - s.b * s.c) * D = s.a * v - s.c * u := by rw [← hu, ← hv]; grind
    rw [hu0, hv0, Int.mul_zero, Int.mul_zero] at k
    rcases Int.mul_eq_zero.1 (show (s.a * s.d - s.b * s.c) * D = 0 by omega) with z | z
    · exact hd (by omega)
    · omega
  obtain ⟨s', out', N', u', v', e, h2⟩ := Rv.run hz h0 (D.toNat + 1) s [] N D u v (by omega) (Rv.start (by omega) h0 hu hv)
  exact ⟨_, e, h2.fin hz h0 hub (by omega) ho.2.2 hn⟩
/-- The value law: a small state of a small fraction. -/
theorem run_law {a b c d N D : Int} (ha : -9 ≤ a ∧ a ≤ 9) (hb : -9 ≤ b ∧ b ≤ 9) (hc : -9 ≤ c ∧ c ≤ 9) (hd : -9 ≤ d ∧ d ≤ 9) (hs : okS ⟨a, b, c, d⟩ = true) (hx : okF N D = true) (hN : -300 ≤ N ∧ N ≤ 300) (hD : D ≤ 300) :
    (∃ r, runG (termsF N D) ⟨a, b, c, d⟩ [] = some r) ∧ (c * N + d * D = 0 → runF a b c d (termsF N D) = ([], 6)) ∧
    (c * N + d * D ≠ 0 → ∃ p q, fullF (a * N + b * D) (c * N + d * D) = (p, q, 0) ∧ okF p q = true ∧ runF a b c d (termsF N D) = (termsF p q, 0)) := by
  have ho := okF_iff.1 hx
  have ht : termsP (termsF N D) = true := terms_okV ho.2.1 ho.1
  have bu := lin_bd (K := 9) (L := 300) (M := 5400) (by omega) ha hb hN (show -300 ≤ D ∧ D ≤ 300 by omega) (by omega)
  have bv := lin_bd (K := 9) (L := 300) (M := 5400) (by omega) hc hd hN (show -300 ≤ D ∧ D ≤ 300 by omega) (by omega)
  have hrun : runF a b c d (termsF N D) = runR (runG (termsF N D) ⟨a, b, c, d⟩ []) := by
    rw [runF, if_pos hs, if_pos ht]
  rw [hrun]
  generalize hu : a * N + b * D = u at bu ⊢
  generalize hv : c * N + d * D = v at bv ⊢
  rcases Int.lt_or_le v 0 with g | g
  · have hs2 : okS (ngS ⟨a, b, c, d⟩) = true := by rw [okS_ng]; exact hs
    obtain ⟨r, h1, h2, h3⟩ := run_posV (s := ngS ⟨a, b, c, d⟩) (N := N) (D := D) (u := -u) (v := -v) ⟨⟨9, 301, 5401, by omega, by omega, by show -9 ≤ -a ∧ -a ≤ 9; omega, by show -9 ≤ -b ∧ -b ≤ 9; omega, by show -9 ≤ -c ∧ -c ≤ 9; omega, by show -9 ≤ -d ∧ -d ≤ 9; omega, by omega, by omega, by omega, by omega, by omega⟩, by omega⟩ hs2 hx (by show -a * N + -b * D = -u; rw [← hu, Int.neg_mul, Int.neg_mul]; omega) (by show -c * N + -d * D = -v; rw [← hv, Int.neg_mul, Int.neg_mul]; omega) (by omega) (by omega)
    rw [runG_ng] at h1
    have h3 := h3 (by omega)
    refine ⟨?_, fun k => by omega, fun _ => ?_⟩
    · cases hr : runG (termsF N D) ⟨a, b, c, d⟩ [] with
      | none => rw [hr] at h1; cases h1
      | some r => exact ⟨r, rfl⟩
    · have f := full_pos (u := -u) (v := -v) (by omega) (by omega)
      have f2 := full_ng (a := u) (c := v) (by omega)
      rw [f] at f2
      refine ⟨_, _, f2.symm, full_okV f2.symm, ?_⟩
      rw [← runR_ng, h1]
      show endF r.1 r.2 = _
      rw [h3, termsF_low (by omega)]
  · obtain ⟨r, h1, h2, h3⟩ := run_posV (s := ⟨a, b, c, d⟩) (N := N) (D := D) (u := u) (v := v) ⟨⟨9, 301, 5401, by omega, by omega, ha, hb, hc, hd, by omega, by omega, by omega, by omega, by omega⟩, by omega⟩ hs hx hu hv g (by omega)
    refine ⟨⟨r, h1⟩, fun k => ?_, fun k => ?_⟩
    · rw [h1]; exact h2 k
    · have f := full_pos (u := u) (v := v) (by omega) (by omega)
      refine ⟨_, _, f, full_okV f, ?_⟩
      rw [h1]
      show endF r.1 r.2 = _
      rw [h3 (by omega), termsF_low (by omega)]

/-! How many terms are needed. -/
theorem feeds_ok {m : Int} (xs : List Int) : ∀ (n : Nat) (s : St) (out : List Int) (r : St × List Int), runG xs s out = some r → ((feedsG m xs n s out).2 = 0 ∧ (n : Int) ≤ (feedsG m xs n s out).1 ∧ (feedsG m xs n s out).1 ≤ n + xs.length) ∨ (feedsG m xs n s out).2 = 3 := by
  induction xs with
  | nil =>
    intro n s out r h
    rw [feedsG]
    split
    · exact .inr rfl
    · exact .inl ⟨rfl, by simp, by simp⟩
  | cons t xs ih =>
    intro n s out r h
    rw [runG] at h
    rw [feedsG]
    split
    · cases hf : feedR s out t with
      | none => rw [hf] at h; cases h
      | some r1 =>
        rw [hf] at h
        simp only at h ⊢
        rcases ih (n + 1) r1.1 r1.2 r h with ⟨k1, k2, k3⟩ | k
        · exact .inl ⟨k1, by omega, by simp; omega⟩
        · exact .inr k
    · exact .inl ⟨rfl, by simp, by simp; omega⟩
theorem feeds_mono {m k : Int} (hmk : m ≤ k) (xs : List Int) : ∀ (n : Nat) (s : St) (out : List Int), (feedsG k xs n s out).2 = 0 → (feedsG m xs n s out).2 = 0 ∧ (feedsG m xs n s out).1 ≤ (feedsG k xs n s out).1 := by
  have low : ∀ (xs : List Int) (n : Nat) (s : St) (out : List Int), (feedsG k xs n s out).2 = 0 → (n : Int) ≤ (feedsG k xs n s out).1 := by
    intro xs
    induction xs with
    | nil =>
      intro n s out h
      rw [feedsG] at h ⊢
      split at h
      · simp at h
      · rename_i g; rw [if_neg g]; simp
    | cons t xs ih =>
      intro n s out h
      rw [feedsG] at h ⊢
      split at h
      · rename_i g
        rw [if_pos g]
        cases hf : feedR s out t with
        | none => rw [hf] at h; simp at h
        | some r1 =>
          rw [hf] at h
          simp only at h ⊢
          have := ih (n + 1) r1.1 r1.2 h
          omega
      · rename_i g; rw [if_neg g]; simp
  induction xs with
  | nil =>
    intro n s out h
    rw [feedsG] at h ⊢
    rw [feedsG]
    split at h
    · simp at h
    · rename_i g
      rw [if_neg (by omega), if_neg g]; simp
  | cons t xs ih =>
    intro n s out h
    by_cases g : (out.length : Int) < m
    · rw [feedsG, if_pos (by omega)] at h
      rw [feedsG, if_pos g, feedsG, if_pos (by omega)]
      cases hf : feedR s out t with
      | none => rw [hf] at h; simp at h
      | some r1 =>
        rw [hf] at h
        exact ih (n + 1) r1.1 r1.2 h
    · have h2 := low _ _ _ _ h
      rw [feeds_done g]
      exact ⟨rfl, h2⟩

end Go.Proofs.Ytgkelemfbmmgnaa

/- The value law of RunDouble: the terms of a small function of two small fractions are those of its value, and nothing grows too great. Each theorem names its conditions. -/
namespace Go.Proofs.Ytgkelemfbmmgnaa
set_option linter.unusedVariables false
set_option linter.unusedSimpArgs false

/-- What a known term of a state is. -/
theorem knS_val {s : St} {N D u v t : Int} (hu : s.a * N + s.b * D = u) (hv : s.c * N + s.d * D = v) (h0 : 0 ≤ v) (hD : 0 ≤ D) (hN : 0 < N ∧ D < N) (hk : knF s = some t) : 0 < v ∧ t = u / v := by
  obtain ⟨o1, o2, o3⟩ := knF_some hk
  obtain ⟨c1, c2, c3⟩ := opS_no o1
  have r1 := fdv_rest (n := s.a) c1
  have r2 := fdv_rest (n := s.a + s.b) c2
  rw [o3] at r1
  rw [o2] at r2
  have ev : v = s.c * (N - D) + (s.c + s.d) * D := by rw [← hv]; grind
  have eu : u - t * v = (s.a - t * s.c) * (N - D) + (s.a + s.b - t * (s.c + s.d)) * D := by rw [← hu, ← hv]; grind
  have hc : 0 < s.c := by
    rcases Int.lt_or_le 0 s.c with g | g
    · exact g
    · exfalso
      have k1 : s.c < 0 := by omega
      have k2 := c3.1 k1
      have m1 := Int.mul_le_mul_of_nonneg_right (show s.c ≤ -1 by omega) (show 0 ≤ N - D by omega)
      have m2 := Int.mul_le_mul_of_nonneg_right (show s.c + s.d ≤ 0 by omega) hD
      omega
  have hc2 : 0 < s.c + s.d := by
    rcases Int.lt_trichotomy (s.c + s.d) 0 with g | g | g
    · have := c3.2 g; omega
    · exact absurd g c2
    · exact g
  have r1 := r1.1 hc
  have r2 := r2.1 hc2
  have n1 := Int.mul_nonneg r1.1 (show 0 ≤ N - D by omega)
  have n2 := Int.mul_nonneg r2.1 hD
  have n3 := Int.mul_lt_mul_of_pos_right r1.2 (show 0 < N - D by omega)
  have n4 := Int.mul_le_mul_of_nonneg_right (Int.le_of_lt r2.2) hD
  have hv : 0 < v := by omega
  refine ⟨hv, ?_⟩
  have e1 : t ≤ u / v := (Int.le_ediv_iff_mul_le hv).2 (by omega)
  have e2 : u / v < t + 1 := (Int.ediv_lt_iff_lt_mul hv).2 (by rw [Int.add_mul]; omega)
  omega
/-- What a known term of a function is. -/
theorem knD_val {d : Db} {XN XD YN YD u v t : Int} (hu : d.a * XN * YN + d.b * XN * YD + d.c * XD * YN + d.d * XD * YD = u) (hv : d.e * XN * YN + d.f * XN * YD + d.g * XD * YN + d.h * XD * YD = v) (h0 : 0 ≤ v) (hX : 0 < XN ∧ XD < XN ∧ 0 ≤ XD) (hY : 0 < YN ∧ YD < YN ∧ 0 ≤ YD) (hk : knD d = some t) : 0 < v ∧ t = u / v := by
  obtain ⟨o1, o2, o3, o4, o5⟩ := knD_some hk
  obtain ⟨c1, ⟨c2, s2⟩, ⟨c3, s3⟩, ⟨c4, s4⟩⟩ := opD_no o1
  have r1 := fdv_rest (n := d.a) c1
  have r2 := fdv_rest (n := d.a + d.b) c2
  have r3 := fdv_rest (n := d.a + d.c) c3
  have r4 := fdv_rest (n := d.a + d.b + d.c + d.d) c4
  rw [o2] at r1
  rw [o3] at r2
  rw [o4] at r3
  rw [o5] at r4
  have w1 : 0 < (XN - XD) * (YN - YD) := Int.mul_pos (by omega) (by omega)
  have w2 : 0 ≤ (XN - XD) * YD := Int.mul_nonneg (by omega) (by omega)
  have w3 : 0 ≤ XD * (YN - YD) := Int.mul_nonneg (by omega) (by omega)
  have w4 : 0 ≤ XD * YD := Int.mul_nonneg (by omega) (by omega)
  have ev : v = d.e * ((XN - XD) * (YN - YD)) + (d.e + d.f) * ((XN - XD) * YD) + (d.e + d.g) * (XD * (YN - YD)) + (d.e + d.f + d.g + d.h) * (XD * YD) := by rw [← hv]; grind
  have eu : u - t * v = (d.a - t * d.e) * ((XN - XD) * (YN - YD)) + (d.a + d.b - t * (d.e + d.f)) * ((XN - XD) * YD) + (d.a + d.c - t * (d.e + d.g)) * (XD * (YN - YD)) + (d.a + d.b + d.c + d.d - t * (d.e + d.f + d.g + d.h)) * (XD * YD) := by rw [← hu, ← hv]; grind
  generalize (XN - XD) * (YN - YD) = z1 at *
  generalize (XN - XD) * YD = z2 at *
  generalize XD * (YN - YD) = z3 at *
  generalize XD * YD = z4 at *
  clear hu hv
  have he : 0 < d.e := by
    rcases Int.lt_or_le 0 d.e with g | g
    · exact g
    · exfalso
      have k1 : d.e < 0 := by omega
      have m1 := Int.mul_le_mul_of_nonneg_right (show d.e ≤ -1 by omega) (Int.le_of_lt w1)
      have m2 := Int.mul_le_mul_of_nonneg_right (show d.e + d.f ≤ 0 by have := s2.2 k1; omega) w2
      have m3 := Int.mul_le_mul_of_nonneg_right (show d.e + d.g ≤ 0 by have := s3.2 k1; omega) w3
      have m4 := Int.mul_le_mul_of_nonneg_right (show d.e + d.f + d.g + d.h ≤ 0 by have := s4.2 k1; omega) w4
      omega
  have he2 : 0 < d.e + d.f := by
    rcases Int.lt_trichotomy (d.e + d.f) 0 with g | g | g
    · have := s2.1 g; omega
    · exact absurd g c2
    · exact g
  have he3 : 0 < d.e + d.g := by
    rcases Int.lt_trichotomy (d.e + d.g) 0 with g | g | g
    · have := s3.1 g; omega
    · exact absurd g c3
    · exact g
  have he4 : 0 < d.e + d.f + d.g + d.h := by
    rcases Int.lt_trichotomy (d.e + d.f + d.g + d.h) 0 with g | g | g
    · have := s4.1 g; omega
    · exact absurd g c4
    · exact g
  have r1 := r1.1 he
  have r2 := r2.1 he2
  have r3 := r3.1 he3
  have r4 := r4.1 he4
  have n1 := Int.mul_nonneg r1.1 (Int.le_of_lt w1)
  have n2 := Int.mul_nonneg r2.1 w2
  have n3 := Int.mul_nonneg r3.1 w3
  have n4 := Int.mul_nonneg r4.1 w4
  have p1 := Int.mul_lt_mul_of_pos_right r1.2 w1
  have p2 := Int.mul_le_mul_of_nonneg_right (Int.le_of_lt r2.2) w2
  have p3 := Int.mul_le_mul_of_nonneg_right (Int.le_of_lt r3.2) w3
  have p4 := Int.mul_le_mul_of_nonneg_right (Int.le_of_lt r4.2) w4
  have hv : 0 < v := by
    have q1 := Int.mul_pos he w1
    have q2 := Int.mul_nonneg (Int.le_of_lt he2) w2
    have q3 := Int.mul_nonneg (Int.le_of_lt he3) w3
    have q4 := Int.mul_nonneg (Int.le_of_lt he4) w4
    omega
  refine ⟨hv, ?_⟩
  have e1 : t ≤ u / v := (Int.le_ediv_iff_mul_le hv).2 (by omega)
  have e2 : u / v < t + 1 := (Int.ediv_lt_iff_lt_mul hv).2 (by rw [Int.add_mul]; omega)
  omega

/-- A bilinear form at p / q and r / s. -/
def bil (a b c d p q r s : Int) : Int := a * (p * r) + b * (p * s) + c * (q * r) + d * (q * s)
theorem bil_x (a b c d p q p' q' r s t : Int) : bil a b c d (t * p + p') (t * q + q') r s = t * bil a b c d p q r s + bil a b c d p' q' r s := by unfold bil; grind
theorem bil_y (a b c d p q r s r' s' t : Int) : bil a b c d p q (t * r + r') (t * s + s') = t * bil a b c d p q r s + bil a b c d p q r' s' := by unfold bil; grind
theorem bil_bd {a b c d p q r s : Int} (ha : -4 ≤ a ∧ a ≤ 4) (hb : -4 ≤ b ∧ b ≤ 4) (hc : -4 ≤ c ∧ c ≤ 4) (hd : -4 ≤ d ∧ d ≤ 4) (hp : -301 ≤ p ∧ p ≤ 301) (hq : -301 ≤ q ∧ q ≤ 301) (hr : -301 ≤ r ∧ r ≤ 301) (hs : -301 ≤ s ∧ s ≤ 301) : -1449616 ≤ bil a b c d p q r s ∧ bil a b c d p q r s ≤ 1449616 := by
  unfold bil
  have m1 := mulU (by omega) ha (mulU (by omega) hp hr)
  have m2 := mulU (by omega) hb (mulU (by omega) hp hs)
  have m3 := mulU (by omega) hc (mulU (by omega) hq hr)
  have m4 := mulU (by omega) hd (mulU (by omega) hq hs)
  omega

/-- The function, from the first one and the convergents of x, of y and of the value. -/
structure Mz (d0 d : Db) (p p' q q' r r' s s' P P' Q Q' : Int) : Prop where
  n1 : bil d0.a d0.b d0.c d0.d p q r s = P * d.a + P' * d.e
  n2 : bil d0.a d0.b d0.c d0.d p q r' s' = P * d.b + P' * d.f
  n3 : bil d0.a d0.b d0.c d0.d p' q' r s = P * d.c + P' * d.g
  n4 : bil d0.a d0.b d0.c d0.d p' q' r' s' = P * d.d + P' * d.h
  m1 : bil d0.e d0.f d0.g d0.h p q r s = Q * d.a + Q' * d.e
  m2 : bil d0.e d0.f d0.g d0.h p q r' s' = Q * d.b + Q' * d.f
  m3 : bil d0.e d0.f d0.g d0.h p' q' r s = Q * d.c + Q' * d.g
  m4 : bil d0.e d0.f d0.g d0.h p' q' r' s' = Q * d.d + Q' * d.h
theorem Mz.start (d0 : Db) : Mz d0 d0 1 0 0 1 1 0 0 1 1 0 0 1 := by
  refine ⟨?_, ?_, ?_, ?_, ?_, ?_, ?_, ?_⟩ <;> unfold bil <;> omega
theorem Mz.fdX {d0 d : Db} {p p' q q' r r' s s' P P' Q Q' : Int} (h : Mz d0 d p p' q q' r r' s s' P P' Q Q') (t : Int) : Mz d0 (fdX d t) (t * p + p') p (t * q + q') q r r' s s' P P' Q Q' := by
  refine ⟨?_, ?_, ?_, ?_, ?_, ?_, ?_, ?_⟩ <;> simp only [Go.Proofs.Ytgkelemfbmmgnaa.fdX]
  · rw [bil_x, h.n1, h.n3]; grind
  · rw [bil_x, h.n2, h.n4]; grind
  · exact h.n1
  · exact h.n2
  · rw [bil_x, h.m1, h.m3]; grind
  · rw [bil_x, h.m2, h.m4]; grind
  · exact h.m1
  · exact h.m2
theorem Mz.fdY {d0 d : Db} {p p' q q' r r' s s' P P' Q Q' : Int} (h : Mz d0 d p p' q q' r r' s s' P P' Q Q') (t : Int) : Mz d0 (fdY d t) p p' q q' (t * r + r') r (t * s + s') s P P' Q Q' := by
  refine ⟨?_, ?_, ?_, ?_, ?_, ?_, ?_, ?_⟩ <;> simp only [Go.Proofs.Ytgkelemfbmmgnaa.fdY]
  · rw [bil_y, h.n1, h.n2]; grind
  · exact h.n1
  · rw [bil_y, h.n3, h.n4]; grind
  · exact h.n3
  · rw [bil_y, h.m1, h.m2]; grind
  · exact h.m1
  · rw [bil_y, h.m3, h.m4]; grind
  · exact h.m3
theorem Mz.em {d0 d : Db} {p p' q q' r r' s s' P P' Q Q' : Int} (h : Mz d0 d p p' q q' r r' s s' P P' Q Q') (t : Int) : Mz d0 (emD d t) p p' q q' r r' s s' (t * P + P') P (t * Q + Q') Q := by
  refine ⟨?_, ?_, ?_, ?_, ?_, ?_, ?_, ?_⟩ <;> simp only [emD]
  · rw [h.n1]; grind
  · rw [h.n2]; grind
  · rw [h.n3]; grind
  · rw [h.n4]; grind
  · rw [h.m1]; grind
  · rw [h.m2]; grind
  · rw [h.m3]; grind
  · rw [h.m4]; grind
/-- What is small. -/
structure Sm (d0 : Db) : Prop where
  a : -4 ≤ d0.a ∧ d0.a ≤ 4
  b : -4 ≤ d0.b ∧ d0.b ≤ 4
  c : -4 ≤ d0.c ∧ d0.c ≤ 4
  d : -4 ≤ d0.d ∧ d0.d ≤ 4
  e : -4 ≤ d0.e ∧ d0.e ≤ 4
  f : -4 ≤ d0.f ∧ d0.f ≤ 4
  g : -4 ≤ d0.g ∧ d0.g ≤ 4
  h : -4 ≤ d0.h ∧ d0.h ≤ 4
/-- Nothing has been emitted, or something has. -/
def Em0 (out : List Int) (P P' Q Q' : Int) : Prop := (out = [] ∧ P = 1 ∧ P' = 0 ∧ Q = 0 ∧ Q' = 1) ∨ (out ≠ [] ∧ 1 ≤ Q ∧ 0 ≤ Q')
/-- A top is at most the form's value. -/
theorem topV_bd {Q Q' t b E L : Int} (h : E = Q * t + Q' * b) (hQ : 1 ≤ Q) (hQ' : 0 ≤ Q') (hc : (0 ≤ b ∧ b < t) ∨ (b ≤ 0 ∧ t < b)) (hE : -L ≤ E ∧ E ≤ L) : (-L ≤ t ∧ t ≤ L) ∧ (-L ≤ b ∧ b ≤ L) := by
  rcases hc with ⟨h1, h2⟩ | ⟨h1, h2⟩
  · have m1 := Int.mul_le_mul_of_nonneg_right hQ (show 0 ≤ t by omega)
    have m2 := Int.mul_nonneg hQ' h1
    omega
  · have m1 := Int.mul_le_mul_of_nonneg_right hQ (show 0 ≤ -t by omega)
    have m2 := Int.mul_nonneg hQ' (show 0 ≤ -b by omega)
    rw [Int.mul_neg] at m1 m2
    rw [Int.mul_neg] at m1
    omega
theorem Mz.bds {d0 d : Db} {p p' q q' r r' s s' P P' Q Q' : Int} {out : List Int} (h : Mz d0 d p p' q q' r r' s s' P P' Q Q') (hz : Sm d0) (hp : -301 ≤ p ∧ p ≤ 301) (hp' : -301 ≤ p' ∧ p' ≤ 301) (hq : -301 ≤ q ∧ q ≤ 301) (hq' : -301 ≤ q' ∧ q' ≤ 301) (hr : -301 ≤ r ∧ r ≤ 301) (hr' : -301 ≤ r' ∧ r' ≤ 301) (hs : -301 ≤ s ∧ s ≤ 301) (hs' : -301 ≤ s' ∧ s' ≤ 301) (he : Em0 out P P' Q Q') (hc : out = [] ∨ ConD d) : bdD d = true := by
  have a1 := bil_bd hz.a hz.b hz.c hz.d hp hq hr hs
  have a2 := bil_bd hz.a hz.b hz.c hz.d hp hq hr' hs'
  have a3 := bil_bd hz.a hz.b hz.c hz.d hp' hq' hr hs
  have a4 := bil_bd hz.a hz.b hz.c hz.d hp' hq' hr' hs'
  have b1 := bil_bd hz.e hz.f hz.g hz.h hp hq hr hs
  have b2 := bil_bd hz.e hz.f hz.g hz.h hp hq hr' hs'
  have b3 := bil_bd hz.e hz.f hz.g hz.h hp' hq' hr hs
  have b4 := bil_bd hz.e hz.f hz.g hz.h hp' hq' hr' hs'
  rw [h.n1] at a1
  rw [h.n2] at a2
  rw [h.n3] at a3
  rw [h.n4] at a4
  rw [h.m1] at b1
  rw [h.m2] at b2
  rw [h.m3] at b3
  rw [h.m4] at b4
  rcases he with ⟨_, rfl, rfl, rfl, rfl⟩ | ⟨h0, h1, h2⟩
  · refine bdD_iff.2 ⟨?_, ?_, ?_, ?_, ?_, ?_, ?_, ?_⟩ <;> omega
  · have hc := hc.resolve_left h0
    have t1 := topV_bd (t := d.a) (b := d.e) rfl h1 h2 (hc.imp (fun z => ⟨z.1, z.2.2.2.2.1⟩) (fun z => ⟨z.1, z.2.2.2.2.1⟩)) b1
    have t2 := topV_bd (L := 2 * 1449616) (t := d.a + d.b) (b := d.e + d.f) rfl h1 h2 (hc.imp (fun z => ⟨z.2.1, z.2.2.2.2.2.1⟩) (fun z => ⟨z.2.1, z.2.2.2.2.2.1⟩)) (by rw [Int.mul_add, Int.mul_add]; omega)
    have t3 := topV_bd (L := 2 * 1449616) (t := d.a + d.c) (b := d.e + d.g) rfl h1 h2 (hc.imp (fun z => ⟨z.2.2.1, z.2.2.2.2.2.2.1⟩) (fun z => ⟨z.2.2.1, z.2.2.2.2.2.2.1⟩)) (by rw [Int.mul_add, Int.mul_add]; omega)
    have t4 := topV_bd (L := 4 * 1449616) (t := d.a + d.b + d.c + d.d) (b := d.e + d.f + d.g + d.h) rfl h1 h2 (hc.imp (fun z => ⟨z.2.2.2.1, z.2.2.2.2.2.2.2⟩) (fun z => ⟨z.2.2.2.1, z.2.2.2.2.2.2.2⟩)) (by rw [Int.mul_add, Int.mul_add, Int.mul_add, Int.mul_add, Int.mul_add, Int.mul_add]; omega)
    refine bdD_iff.2 ⟨?_, ?_, ?_, ?_, ?_, ?_, ?_, ?_⟩ <;> omega
/-- The convergents of a small fraction. -/
theorem Eu.small {N0 D0 p p' q q' e N D : Int} (h : Eu N0 D0 p p' q q' e N D) (hN : -300 ≤ N0 ∧ N0 ≤ 300) (hD : 1 ≤ D0 ∧ D0 ≤ 300) : (-301 ≤ p ∧ p ≤ 301) ∧ (-301 ≤ p' ∧ p' ≤ 301) ∧ (-301 ≤ q ∧ q ≤ 301) ∧ (-301 ≤ q' ∧ q' ≤ 301) := by
  have := h.bd (U := 300) (V := 300) hN (by omega) hD.2
  omega

/-- What does not change along a run. -/
structure Fx (d0 : Db) (XN0 XD0 YN0 YD0 u0 v0 : Int) : Prop where
  sm : Sm d0
  xn : -300 ≤ XN0 ∧ XN0 ≤ 300
  xd : 1 ≤ XD0 ∧ XD0 ≤ 300
  yn : -300 ≤ YN0 ∧ YN0 ≤ 300
  yd : 1 ≤ YD0 ∧ YD0 ≤ 300
  vn : 0 ≤ v0
  v1 : v0 ≤ 1000000000
  u1 : -1000000000 ≤ u0 ∧ u0 ≤ 1000000000
  gx : gcdI XN0 XD0 = 1
  gy : gcdI YN0 YD0 = 1
structure Dv (d0 : Db) (XN0 XD0 YN0 YD0 u0 v0 : Int) (d : Db) (out : List Int) (XN XD YN YD u v : Int) : Prop where
  m : ∃ p p' q q' ex r r' s s' ey P P' Q Q' e, Eu XN0 XD0 p p' q q' ex XN XD ∧ Eu YN0 YD0 r r' s s' ey YN YD ∧ Eu u0 v0 P P' Q Q' e u v ∧ Mz d0 d p p' q q' r r' s s' P P' Q Q' ∧ Em0 out P P' Q Q'
  fu : d.a * XN * YN + d.b * XN * YD + d.c * XD * YN + d.d * XD * YD = u
  fv : d.e * XN * YN + d.f * XN * YD + d.g * XD * YN + d.h * XD * YD = v
  tl : out ++ termsF u v = termsF u0 v0
  em : EmD d out
theorem Em0.next {out : List Int} {P P' Q Q' t : Int} (h : Em0 out P P' Q Q') (hq : out = [] ∨ 1 ≤ t) : Em0 (out ++ [t]) (t * P + P') P (t * Q + Q') Q := by
  right
  rcases h with ⟨h1, h2, h3, h4, h5⟩ | ⟨h1, h2, h3⟩
  · subst h2 h3 h4 h5
    exact ⟨by simp, by omega, by omega⟩
  · have m := Int.mul_le_mul_of_nonneg_right (hq.resolve_left h1) (show 0 ≤ Q by omega)
    exact ⟨by simp, by omega, by omega⟩
theorem Eu.term {u0 v0 p p' q q' e u v : Int} (h : Eu u0 v0 p p' q q' e u v) (h1 : 1 ≤ q) (hv : 0 < v) : 1 ≤ u / v := by
  rcases h.st with ⟨rfl, _⟩ | ⟨a1, a2, _⟩
  · omega
  · exact Int.le_ediv_of_mul_le hv (by omega)
section
variable {d0 : Db} {XN0 XD0 YN0 YD0 u0 v0 : Int}
theorem Dv.nn {d : Db} {out : List Int} {XN XD YN YD u v : Int} (h : Dv d0 XN0 XD0 YN0 YD0 u0 v0 d out XN XD YN YD u v) : 0 ≤ v ∧ 0 ≤ XD ∧ 0 ≤ YD := by
  obtain ⟨p, p', q, q', ex, r, r', s, s', ey, P, P', Q, Q', e, h1, h2, h3, h4, h5⟩ := h.m
  exact ⟨h3.vz, h1.vz, h2.vz⟩
theorem Dv.bds (hf : Fx d0 XN0 XD0 YN0 YD0 u0 v0) {d : Db} {out : List Int} {XN XD YN YD u v : Int} (h : Dv d0 XN0 XD0 YN0 YD0 u0 v0 d out XN XD YN YD u v) : bdD d = true := by
  obtain ⟨p, p', q, q', ex, r, r', s, s', ey, P, P', Q, Q', e, h1, h2, h3, h4, h5⟩ := h.m
  have a := h1.small hf.xn hf.xd
  have b := h2.small hf.yn hf.yd
  exact h4.bds hf.sm a.1 a.2.1 a.2.2.1 a.2.2.2 b.1 b.2.1 b.2.2.1 b.2.2.2 h5 h.em.cone
theorem Dv.start (hf : Fx d0 XN0 XD0 YN0 YD0 u0 v0) (hu : d0.a * XN0 * YN0 + d0.b * XN0 * YD0 + d0.c * XD0 * YN0 + d0.d * XD0 * YD0 = u0) (hv : d0.e * XN0 * YN0 + d0.f * XN0 * YD0 + d0.g * XD0 * YN0 + d0.h * XD0 * YD0 = v0) : Dv d0 XN0 XD0 YN0 YD0 u0 v0 d0 [] XN0 XD0 YN0 YD0 u0 v0 :=
  ⟨⟨_, _, _, _, _, _, _, _, _, _, _, _, _, _, _, Eu.start (by have := hf.xd; omega), Eu.start (by have := hf.yd; omega), Eu.start hf.vn, Mz.start d0, .inl ⟨rfl, rfl, rfl, rfl, rfl⟩⟩, hu, hv, rfl, EmD.nil _⟩
theorem Dv.fdX {d : Db} {out : List Int} {XN XD YN YD u v : Int} (h : Dv d0 XN0 XD0 YN0 YD0 u0 v0 d out XN XD YN YD u v) (hD : 0 < XD) (ho : out = [] ∨ XD < XN) : Dv d0 XN0 XD0 YN0 YD0 u0 v0 (fdX d (XN / XD)) out XD (XN - XN / XD * XD) YN YD u v := by
  obtain ⟨p, p', q, q', ex, r, r', s, s', ey, P, P', Q, Q', e, h1, h2, h3, h4, h5⟩ := h.m
  refine ⟨⟨_, _, _, _, _, _, _, _, _, _, _, _, _, _, _, h1.next hD, h2, h3, h4.fdX _, h5⟩, ?_, ?_, h.tl, h.em.fdX (ho.imp id fun g => Int.le_ediv_of_mul_le hD (by omega))⟩
  · have := h.fu
    simp only [Go.Proofs.Ytgkelemfbmmgnaa.fdX]
    rw [← this]; grind
  · have := h.fv
    simp only [Go.Proofs.Ytgkelemfbmmgnaa.fdX]
    rw [← this]; grind
theorem Dv.fdY {d : Db} {out : List Int} {XN XD YN YD u v : Int} (h : Dv d0 XN0 XD0 YN0 YD0 u0 v0 d out XN XD YN YD u v) (hD : 0 < YD) (ho : out = [] ∨ YD < YN) : Dv d0 XN0 XD0 YN0 YD0 u0 v0 (fdY d (YN / YD)) out XN XD YD (YN - YN / YD * YD) u v := by
  obtain ⟨p, p', q, q', ex, r, r', s, s', ey, P, P', Q, Q', e, h1, h2, h3, h4, h5⟩ := h.m
  refine ⟨⟨_, _, _, _, _, _, _, _, _, _, _, _, _, _, _, h1, h2.next hD, h3, h4.fdY _, h5⟩, ?_, ?_, h.tl, h.em.fdY (ho.imp id fun g => Int.le_ediv_of_mul_le hD (by omega))⟩
  · have := h.fu
    simp only [Go.Proofs.Ytgkelemfbmmgnaa.fdY]
    rw [← this]; grind
  · have := h.fv
    simp only [Go.Proofs.Ytgkelemfbmmgnaa.fdY]
    rw [← this]; grind
theorem room_of {out : List Int} {u v : Int} (tl : out ++ termsF u v = termsF u0 v0) (h0 : 0 ≤ v0) (h1 : v0 ≤ 1000000000) : out.length ≤ 60 ∧ (0 < v → out.length < 60) := by
  have a := termsF_60 (n := u0) h0 h1
  rw [← tl, List.length_append] at a
  refine ⟨by omega, fun hv => ?_⟩
  have := termsF_pos (n := u) hv
  omega
theorem Dv.emit1 (hf : Fx d0 XN0 XD0 YN0 YD0 u0 v0) {d : Db} {out : List Int} {XN XD YN YD u v : Int} (h : Dv d0 XN0 XD0 YN0 YD0 u0 v0 d out XN XD YN YD u v) (hv : 0 < v) (hk : knD d = some (u / v)) : Dv d0 XN0 XD0 YN0 YD0 u0 v0 (emD d (u / v)) (out ++ [u / v]) XN XD YN YD v (u - u / v * v) := by
  have hb := h.bds hf
  have hr := (room_of h.tl hf.vn hf.v1).2 hv
  obtain ⟨p, p', q, q', ex, r, r', s, s', ey, P, P', Q, Q', e, h1, h2, h3, h4, h5⟩ := h.m
  have ht : out = [] ∨ 1 ≤ u / v := by
    rcases h5 with ⟨g, _⟩ | ⟨_, g, _⟩
    · exact .inl g
    · exact .inr (h3.term g hv)
  refine ⟨⟨_, _, _, _, _, _, _, _, _, _, _, _, _, _, _, h1, h2, h3.next hv, h4.em _, h5.next ht⟩, h.fv, ?_, ?_, h.em.em hb hr hk⟩
  · simp only [emD]
    rw [← h.fu]
    generalize u / v = t
    rw [← h.fv]; grind
  · rw [List.append_assoc, List.singleton_append, ← termsF_step hv]; exact h.tl
theorem Dv.emit (hf : Fx d0 XN0 XD0 YN0 YD0 u0 v0) {XN XD YN YD : Int} (hX : 0 < XN ∧ XD < XN) (hY : 0 < YN ∧ YD < YN) (k : Nat) : ∀ (d : Db) (out : List Int) (u v : Int), 60 - out.length ≤ k → enD d = false → Dv d0 XN0 XD0 YN0 YD0 u0 v0 d out XN XD YN YD u v →
    ∃ d' out' b u' v', emitDF d out = some (d', out', b) ∧ Dv d0 XN0 XD0 YN0 YD0 u0 v0 d' out' XN XD YN YD u' v' ∧ (b = true → v' = 0 ∧ out' ≠ []) ∧ (b = false → enD d' = false) := by
  induction k with
  | zero =>
    intro d out u v hk he h
    have hn := h.nn
    have hr := room_of h.tl hf.vn hf.v1
    cases hq : knD d with
    | none => exact ⟨d, out, false, u, v, emd_none hr.1 hq, h, (fun z => by cases z), fun _ => he⟩
    | some t =>
      have := hr.2 (knD_val h.fu h.fv hn.1 ⟨hX.1, hX.2, hn.2.1⟩ ⟨hY.1, hY.2, hn.2.2⟩ hq).1
      omega
  | succ k ih =>
    intro d out u v hk he h
    have hn := h.nn
    have hr := room_of h.tl hf.vn hf.v1
    cases hq : knD d with
    | none => exact ⟨d, out, false, u, v, emd_none hr.1 hq, h, (fun z => by cases z), fun _ => he⟩
    | some t =>
      obtain ⟨hv, rfl⟩ := knD_val h.fu h.fv hn.1 ⟨hX.1, hX.2, hn.2.1⟩ ⟨hY.1, hY.2, hn.2.2⟩ hq
      have hl := hr.2 hv
      have h2 := h.emit1 hf hv hq
      have hb2 := h2.bds hf
      cases hen : enD (emD d (u / v)) with
      | true =>
        refine ⟨_, _, true, _, _, emd_done hl hq hb2 hen, h2, fun _ => ⟨?_, by simp⟩, fun z => by cases z⟩
        obtain ⟨z1, z2, z3, z4⟩ := enD_iff.1 hen
        have := h2.fv
        rw [z1, z2, z3, z4] at this
        simp only [Int.zero_mul, Int.add_zero] at this
        exact this.symm
      | false =>
        obtain ⟨d', out', b, u', v', e, h3, h4, h5⟩ := ih _ _ _ _ (by simp; omega) hen h2
        exact ⟨d', out', b, u', v', by rw [emd_step hl hq hb2 hen]; exact e, h3, h4, h5⟩
end

/-! What is left when x or y has ended: a state. -/
structure My (s0 s : St) (p p' q q' P P' Q Q' : Int) : Prop where
  n1 : s0.a * p + s0.b * q = P * s.a + P' * s.c
  n2 : s0.a * p' + s0.b * q' = P * s.b + P' * s.d
  m1 : s0.c * p + s0.d * q = Q * s.a + Q' * s.c
  m2 : s0.c * p' + s0.d * q' = Q * s.b + Q' * s.d
theorem My.fed {s0 s : St} {p p' q q' P P' Q Q' : Int} (h : My s0 s p p' q q' P P' Q Q') (t : Int) : My s0 (fedF s t) (t * p + p') p (t * q + q') q P P' Q Q' := by
  have a1 := h.n1; have a2 := h.n2; have a3 := h.m1; have a4 := h.m2
  refine ⟨?_, ?_, ?_, ?_⟩ <;> simp only [fedF]
  · have : s0.a * (t * p + p') + s0.b * (t * q + q') = t * (s0.a * p + s0.b * q) + (s0.a * p' + s0.b * q') := by grind
    rw [this, a1, a2]; grind
  · exact a1
  · have : s0.c * (t * p + p') + s0.d * (t * q + q') = t * (s0.c * p + s0.d * q) + (s0.c * p' + s0.d * q') := by grind
    rw [this, a3, a4]; grind
  · exact a3
theorem My.em {s0 s : St} {p p' q q' P P' Q Q' : Int} (h : My s0 s p p' q q' P P' Q Q') (t : Int) : My s0 (emF s t) p p' q q' (t * P + P') P (t * Q + Q') Q := by
  refine ⟨?_, ?_, ?_, ?_⟩ <;> simp only [emF]
  · rw [h.n1]; grind
  · rw [h.n2]; grind
  · rw [h.m1]; grind
  · rw [h.m2]; grind
/-- The state's numbers are bounded. -/
def Sb (s0 : St) : Prop := (-2408 ≤ s0.a ∧ s0.a ≤ 2408) ∧ (-2408 ≤ s0.b ∧ s0.b ≤ 2408) ∧ (-2408 ≤ s0.c ∧ s0.c ≤ 2408) ∧ (-2408 ≤ s0.d ∧ s0.d ≤ 2408)
theorem My.bds {s0 s : St} {p p' q q' P P' Q Q' : Int} {out : List Int} (h : My s0 s p p' q q' P P' Q Q') (hz : Sb s0) (hp : -301 ≤ p ∧ p ≤ 301) (hp' : -301 ≤ p' ∧ p' ≤ 301) (hq : -301 ≤ q ∧ q ≤ 301) (hq' : -301 ≤ q' ∧ q' ≤ 301) (he : Em0 out P P' Q Q') (hc : out = [] ∨ Cone s) : bdS s = true := by
  obtain ⟨z1, z2, z3, z4⟩ := hz
  have a1 := lin_bd (M := 1449616) (L := 301) (by omega) z1 z2 hp hq (by omega)
  have a2 := lin_bd (M := 1449616) (L := 301) (by omega) z1 z2 hp' hq' (by omega)
  have b1 := lin_bd (M := 1449616) (L := 301) (by omega) z3 z4 hp hq (by omega)
  have b2 := lin_bd (M := 1449616) (L := 301) (by omega) z3 z4 hp' hq' (by omega)
  rw [h.n1] at a1
  rw [h.n2] at a2
  rw [h.m1] at b1
  rw [h.m2] at b2
  rcases he with ⟨_, rfl, rfl, rfl, rfl⟩ | ⟨h0, h1, h2⟩
  · refine bdS_iff.2 ⟨?_, ?_, ?_, ?_⟩ <;> omega
  · have hc := hc.resolve_left h0
    have t1 := topV_bd (t := s.a) (b := s.c) rfl h1 h2 (hc.imp (fun z => ⟨z.1, z.2.2.1⟩) (fun z => ⟨z.1, z.2.2.1⟩)) b1
    have t2 := topV_bd (L := 2 * 1449616) (t := s.a + s.b) (b := s.c + s.d) rfl h1 h2 (hc.imp (fun z => ⟨z.2.1, z.2.2.2⟩) (fun z => ⟨z.2.1, z.2.2.2⟩)) (by rw [Int.mul_add, Int.mul_add]; omega)
    refine bdS_iff.2 ⟨?_, ?_, ?_, ?_⟩ <;> omega
structure Fs (s0 : St) (N0 D0 u0 v0 : Int) : Prop where
  sb : Sb s0
  n : -300 ≤ N0 ∧ N0 ≤ 300
  d : 1 ≤ D0 ∧ D0 ≤ 300
  vn : 0 ≤ v0
  v1 : v0 ≤ 1000000000
  u1 : -1000000000 ≤ u0 ∧ u0 ≤ 1000000000
  g : gcdI N0 D0 = 1
structure Sv (s0 : St) (N0 D0 u0 v0 : Int) (s : St) (out : List Int) (N D u v : Int) : Prop where
  m : ∃ p p' q q' ex P P' Q Q' e, Eu N0 D0 p p' q q' ex N D ∧ Eu u0 v0 P P' Q Q' e u v ∧ My s0 s p p' q q' P P' Q Q' ∧ Em0 out P P' Q Q'
  fu : s.a * N + s.b * D = u
  fv : s.c * N + s.d * D = v
  tl : out ++ termsF u v = termsF u0 v0
  em : EmJ s out
section
variable {s0 : St} {N0 D0 u0 v0 : Int}
theorem Sv.nn {s : St} {out : List Int} {N D u v : Int} (h : Sv s0 N0 D0 u0 v0 s out N D u v) : 0 ≤ v ∧ 0 ≤ D := by
  obtain ⟨p, p', q, q', ex, P, P', Q, Q', e, h1, h2, h3, h4⟩ := h.m
  exact ⟨h2.vz, h1.vz⟩
theorem Sv.bds (hf : Fs s0 N0 D0 u0 v0) {s : St} {out : List Int} {N D u v : Int} (h : Sv s0 N0 D0 u0 v0 s out N D u v) : bdS s = true := by
  obtain ⟨p, p', q, q', ex, P, P', Q, Q', e, h1, h2, h3, h4⟩ := h.m
  have a := h1.small hf.n hf.d
  exact h3.bds hf.sb a.1 a.2.1 a.2.2.1 a.2.2.2 h4 h.em.cone
theorem Sv.fed {s : St} {out : List Int} {N D u v : Int} (h : Sv s0 N0 D0 u0 v0 s out N D u v) (hD : 0 < D) (ho : out = [] ∨ D < N) : Sv s0 N0 D0 u0 v0 (fedF s (N / D)) out D (N - N / D * D) u v := by
  obtain ⟨p, p', q, q', ex, P, P', Q, Q', e, h1, h2, h3, h4⟩ := h.m
  refine ⟨⟨_, _, _, _, _, _, _, _, _, _, h1.next hD, h2, h3.fed _, h4⟩, ?_, ?_, h.tl, h.em.fed (ho.imp id fun g => Int.le_ediv_of_mul_le hD (by omega))⟩
  · have := h.fu
    simp only [fedF]
    rw [← this]; grind
  · have := h.fv
    simp only [fedF]
    rw [← this]; grind
theorem Sv.emit1 (hf : Fs s0 N0 D0 u0 v0) {s : St} {out : List Int} {N D u v : Int} (h : Sv s0 N0 D0 u0 v0 s out N D u v) (hv : 0 < v) (hk : knF s = some (u / v)) : Sv s0 N0 D0 u0 v0 (emF s (u / v)) (out ++ [u / v]) N D v (u - u / v * v) := by
  have hb := h.bds hf
  have hr := (room_of h.tl hf.vn hf.v1).2 hv
  obtain ⟨p, p', q, q', ex, P, P', Q, Q', e, h1, h2, h3, h4⟩ := h.m
  have ht : out = [] ∨ 1 ≤ u / v := by
    rcases h4 with ⟨g, _⟩ | ⟨_, g, _⟩
    · exact .inl g
    · exact .inr (h2.term g hv)
  refine ⟨⟨_, _, _, _, _, _, _, _, _, _, h1, h2.next hv, h3.em _, h4.next ht⟩, h.fv, ?_, ?_, h.em.em hb hr hk⟩
  · simp only [emF]
    rw [← h.fu]
    generalize u / v = t
    rw [← h.fv]; grind
  · rw [List.append_assoc, List.singleton_append, ← termsF_step hv]; exact h.tl
theorem Sv.emit (hf : Fs s0 N0 D0 u0 v0) {N D : Int} (hN : 0 < N ∧ D < N) (k : Nat) : ∀ (s : St) (out : List Int) (u v : Int), 60 - out.length ≤ k → Sv s0 N0 D0 u0 v0 s out N D u v → ∃ s' out' u' v', emitF 1073741824 s out = some (s', out') ∧ Sv s0 N0 D0 u0 v0 s' out' N D u' v' := by
  induction k with
  | zero =>
    intro s out u v hk h
    have hr := room_of h.tl hf.vn hf.v1
    cases hq : knF s with
    | none => exact ⟨s, out, u, v, emit_none hr.1 hq, h⟩
    | some t =>
      have := hr.2 (knS_val h.fu h.fv h.nn.1 h.nn.2 hN hq).1
      omega
  | succ k ih =>
    intro s out u v hk h
    have hr := room_of h.tl hf.vn hf.v1
    cases hq : knF s with
    | none => exact ⟨s, out, u, v, emit_none hr.1 hq, h⟩
    | some t =>
      obtain ⟨hv, rfl⟩ := knS_val h.fu h.fv h.nn.1 h.nn.2 hN hq
      have hl := hr.2 hv
      have h2 := h.emit1 hf hv hq
      obtain ⟨s', out', u', v', e, h3⟩ := ih _ _ _ _ (by simp; omega) h2
      exact ⟨s', out', u', v', by rw [emit_step hl (by omega) hq (h2.bds hf)]; exact e, h3⟩
theorem Sv.run (hf : Fs s0 N0 D0 u0 v0) (k : Nat) : ∀ (s : St) (out : List Int) (N D u v : Int), D < k → 0 < N ∧ D < N → Sv s0 N0 D0 u0 v0 s out N D u v → ∃ s' out' N' u' v', runG (termsF N D) s out = some (s', out') ∧ Sv s0 N0 D0 u0 v0 s' out' N' 0 u' v' := by
  induction k with
  | zero =>
    intro s out N D u v hk hN h
    have := h.nn; omega
  | succ k ih =>
    intro s out N D u v hk hN h
    have hd := h.nn
    rcases Int.lt_or_le 0 D with hD | hD
    · have b := rest_lt (n := N) hD
      have h1 := h.fed hD (.inr hN.2)
      obtain ⟨s1, o1, u1, v1, e1, h2⟩ := Sv.emit hf (N := D) (D := N - N / D * D) ⟨hD, b.2⟩ 60 _ _ _ _ (by omega) h1
      have e1 : feedR s out (N / D) = some (s1, o1) := by rw [feedR_yes (h1.bds hf)]; exact e1
      obtain ⟨s', out', N', u', v', e, h3⟩ := ih s1 o1 D _ u1 v1 (by omega) ⟨hD, b.2⟩ h2
      refine ⟨s', out', N', u', v', ?_, h3⟩
      rw [termsF_step hD, runG, e1]
      exact e
    · have : D = 0 := by omega
      subst this
      exact ⟨s, out, N, u, v, by rw [termsF_zero, runG], h⟩
/-- The result of a value with denominator v, not negative. -/
noncomputable def valR (u v : Int) : List Int × Int := if v = 0 then ([], 6) else (termsF u v, 0)
theorem Sv.fin (hf : Fs s0 N0 D0 u0 v0) {s : St} {out : List Int} {N u v : Int} (h : Sv s0 N0 D0 u0 v0 s out N 0 u v) : endF s out = valR u0 v0 := by
  have hb := bdS_iff.1 (h.bds hf)
  have hz1 := hf.v1
  have h0 := hf.vn
  obtain ⟨p, p', q, q', ex, P, P', Q, Q', e, h1, h2, h3, h4⟩ := h.m
  have hN := h1.last (by have := hf.d; omega) hf.g
  subst hN
  have fu := h.fu; have fv := h.fv; have tl := h.tl
  have eu : u = s.a := by omega
  have ev : v = s.c := by omega
  have gu := h2.hu; have gv := h2.hv
  subst eu ev
  unfold valR
  rcases Int.lt_or_le 0 v0 with g | g
  · rw [if_neg (by omega)]
    have o1 := shortL_termsV (n := u0) g
    have o2 := terms_okV hf.u1 (show 1 ≤ v0 ∧ v0 ≤ 1000000000 by omega)
    by_cases hc : s.c = 0
    · have t : out = termsF u0 v0 := by rw [hc, termsF_zero, List.append_nil] at tl; exact tl
      rw [← t] at o1 o2
      have hl := termsF_pos (n := u0) g
      rw [← t] at hl
      rw [← t]
      have ha : s.a ≠ 0 := by
        intro ha
        rw [ha, hc] at gu gv
        omega
      have := end_inf_ok hc (out := out) (s := s) (by omega) (by rw [o1]; exact o2)
      rw [this, o1]
    · have hc1 : 0 < s.c := by have := h2.vz; omega
      have f := full_pos (u := s.a) (v := s.c) ⟨hc1, by omega⟩ (by omega)
      have t : out ++ termsF (lowF s.a s.c).1 (lowF s.a s.c).2 = termsF u0 v0 := by rw [termsF_low hc1]; exact tl
      have := end_ok (out := out) (s := s) hc f (by rw [t, o1]; exact o2)
      rw [this, t, o1]
  · have g : v0 = 0 := by omega
    rw [if_pos g]
    have e1 : termsF u0 v0 = [] := by rw [g, termsF_zero]
    rw [e1] at tl
    obtain ⟨t1, t2⟩ := List.append_eq_nil_iff.1 tl
    have hc : s.c = 0 := by
      have := h2.vz
      rcases Int.lt_or_le 0 s.c with k | k
      · have := termsF_pos (n := s.a) k
        rw [t2] at this; simp at this
      · omega
    exact end_inf hc (.inr (by rw [t1]; rfl))
theorem Sv.rest (hf : Fs s0 N0 D0 u0 v0) {s : St} {out : List Int} {N D u v : Int} (hN : 0 < N ∧ D < N) (h : Sv s0 N0 D0 u0 v0 s out N D u v) : restF s out (termsF N D) = valR u0 v0 := by
  obtain ⟨s1, o1, u1, v1, e1, h1⟩ := Sv.emit hf hN 60 _ _ _ _ (by omega) h
  obtain ⟨s2, o2, N', u2, v2, e2, h2⟩ := Sv.run hf (D.toNat + 1) s1 o1 N D u1 v1 (by have := h.nn; omega) hN h1
  rw [restF, e1]
  show runR (runG (termsF N D) s1 o1) = _
  rw [e2]
  exact h2.fin hf
end
section
variable {d0 : Db} {XN0 XD0 YN0 YD0 u0 v0 : Int}
theorem Dv.leX (hf : Fx d0 XN0 XD0 YN0 YD0 u0 v0) {d : Db} {out : List Int} {XN YN YD u v : Int} (h : Dv d0 XN0 XD0 YN0 YD0 u0 v0 d out XN 0 YN YD u v) : ∃ s0, Fs s0 YN0 YD0 u0 v0 ∧ Sv s0 YN0 YD0 u0 v0 (leX d) out YN YD u v := by
  obtain ⟨p, p', q, q', ex, r, r', s, s', ey, P, P', Q, Q', e, h1, h2, h3, h4, h5⟩ := h.m
  have hN := h1.last (by have := hf.xd; omega) hf.gx
  subst hN
  have a := h1.small hf.xn hf.xd
  have z := hf.sm
  have l := fun (x y : Int) (hx : -4 ≤ x ∧ x ≤ 4) (hy : -4 ≤ y ∧ y ≤ 4) => lin_bd (K := 4) (L := 301) (M := 2408) (by omega) hx hy a.1 a.2.2.1 (by omega)
  refine ⟨⟨d0.a * p + d0.c * q, d0.b * p + d0.d * q, d0.e * p + d0.g * q, d0.f * p + d0.h * q⟩, ⟨⟨l _ _ z.a z.c, l _ _ z.b z.d, l _ _ z.e z.g, l _ _ z.f z.h⟩, hf.yn, hf.yd, hf.vn, hf.v1, hf.u1, hf.gy⟩, ⟨⟨_, _, _, _, _, _, _, _, _, _, h2, h3, ⟨?_, ?_, ?_, ?_⟩, h5⟩, ?_, ?_, h.tl, h.em.leX⟩⟩
  · show (d0.a * p + d0.c * q) * r + (d0.b * p + d0.d * q) * s = P * d.a + P' * d.e
    rw [← h4.n1]; unfold bil; grind
  · show (d0.a * p + d0.c * q) * r' + (d0.b * p + d0.d * q) * s' = P * d.b + P' * d.f
    rw [← h4.n2]; unfold bil; grind
  · show (d0.e * p + d0.g * q) * r + (d0.f * p + d0.h * q) * s = Q * d.a + Q' * d.e
    rw [← h4.m1]; unfold bil; grind
  · show (d0.e * p + d0.g * q) * r' + (d0.f * p + d0.h * q) * s' = Q * d.b + Q' * d.f
    rw [← h4.m2]; unfold bil; grind
  · show d.a * YN + d.b * YD = u
    rw [← h.fu]; grind
  · show d.e * YN + d.f * YD = v
    rw [← h.fv]; grind
theorem Dv.leY (hf : Fx d0 XN0 XD0 YN0 YD0 u0 v0) {d : Db} {out : List Int} {XN XD YN u v : Int} (h : Dv d0 XN0 XD0 YN0 YD0 u0 v0 d out XN XD YN 0 u v) : ∃ s0, Fs s0 XN0 XD0 u0 v0 ∧ Sv s0 XN0 XD0 u0 v0 (leY d) out XN XD u v := by
  obtain ⟨p, p', q, q', ex, r, r', s, s', ey, P, P', Q, Q', e, h1, h2, h3, h4, h5⟩ := h.m
  have hN := h2.last (by have := hf.yd; omega) hf.gy
  subst hN
  have a := h2.small hf.yn hf.yd
  have z := hf.sm
  have l := fun (x y : Int) (hx : -4 ≤ x ∧ x ≤ 4) (hy : -4 ≤ y ∧ y ≤ 4) => lin_bd (K := 4) (L := 301) (M := 2408) (by omega) hx hy a.1 a.2.2.1 (by omega)
  refine ⟨⟨d0.a * r + d0.b * s, d0.c * r + d0.d * s, d0.e * r + d0.f * s, d0.g * r + d0.h * s⟩, ⟨⟨l _ _ z.a z.b, l _ _ z.c z.d, l _ _ z.e z.f, l _ _ z.g z.h⟩, hf.xn, hf.xd, hf.vn, hf.v1, hf.u1, hf.gx⟩, ⟨⟨_, _, _, _, _, _, _, _, _, _, h1, h3, ⟨?_, ?_, ?_, ?_⟩, h5⟩, ?_, ?_, h.tl, h.em.leY⟩⟩
  · show (d0.a * r + d0.b * s) * p + (d0.c * r + d0.d * s) * q = P * d.a + P' * d.e
    rw [← h4.n1]; unfold bil; grind
  · show (d0.a * r + d0.b * s) * p' + (d0.c * r + d0.d * s) * q' = P * d.c + P' * d.g
    rw [← h4.n3]; unfold bil; grind
  · show (d0.e * r + d0.f * s) * p + (d0.g * r + d0.h * s) * q = Q * d.a + Q' * d.e
    rw [← h4.m1]; unfold bil; grind
  · show (d0.e * r + d0.f * s) * p' + (d0.g * r + d0.h * s) * q' = Q * d.c + Q' * d.g
    rw [← h4.m3]; unfold bil; grind
  · show d.a * XN + d.c * XD = u
    rw [← h.fu]; grind
  · show d.e * XN + d.g * XD = v
    rw [← h.fv]; grind
theorem drop_consD {xs : List Int} {k : Nat} {t : Int} {ts : List Int} (h : xs.drop k = t :: ts) : xs[k]? = some t ∧ xs.drop (k + 1) = ts := by
  have hk : k < xs.length := by
    rcases Nat.lt_or_ge k xs.length with g | g
    · exact g
    · rw [List.drop_of_length_le g] at h; cases h
  rw [List.drop_eq_getElem_cons hk] at h
  injection h with h1 h2
  exact ⟨by rw [List.getElem?_eq_getElem hk, h1], h2⟩
theorem drop_nil_len {xs : List Int} {k : Nat} (h : xs.drop k = []) : ¬ k < xs.length := by
  intro g
  have := congrArg List.length h
  simp at this
  omega
theorem enX {d : Db} {t : Int} (h : enD d = false) : enD (fdX d t) = false := by
  cases e : enD (fdX d t) with
  | false => rfl
  | true =>
    obtain ⟨h1, h2, h3, h4⟩ := enD_iff.1 e
    simp only [fdX] at h1 h2 h3 h4
    rw [h3] at h1
    rw [h4] at h2
    have : enD d = true := enD_iff.2 ⟨h3, h4, by omega, by omega⟩
    rw [this] at h; cases h
theorem enY {d : Db} {t : Int} (h : enD d = false) : enD (fdY d t) = false := by
  cases e : enD (fdY d t) with
  | false => rfl
  | true =>
    obtain ⟨h1, h2, h3, h4⟩ := enD_iff.1 e
    simp only [fdY] at h1 h2 h3 h4
    rw [h2] at h1
    rw [h4] at h3
    have : enD d = true := enD_iff.2 ⟨h2, by omega, h4, by omega⟩
    rw [this] at h; cases h
theorem okD_of {d : Db} (h1 : bdD d = true) (h2 : enD d = false) : okD d = true := by unfold okD; rw [h1, h2]; rfl
/-- A whole run. -/
theorem Dv.run (hf : Fx d0 XN0 XD0 YN0 YD0 u0 v0) {xs ys : List Int} (k : Nat) : ∀ (i : Nat) (d : Db) (out : List Int) (XN XD YN YD u v : Int), 2 * xs.length - i ≤ k → i ≤ 2 * xs.length → enD d = false → (i ≤ 1 → out = []) → (1 ≤ i → 0 < XN ∧ XD < XN) → (2 ≤ i → 0 < YN ∧ YD < YN) → (i = 0 → 0 < XD) → (i ≤ 1 → 0 < YD) → xs.drop ((i + 1) / 2) = termsF XN XD → ys.drop (i / 2) = termsF YN YD →
    Dv d0 XN0 XD0 YN0 YD0 u0 v0 d out XN XD YN YD u v → runDF xs ys i d out = valR u0 v0 := by
  have fin : ∀ {out : List Int} {u : Int}, out ++ termsF u 0 = termsF u0 v0 → out ≠ [] → (shortL out, (0 : Int)) = valR u0 v0 := by
    intro out u tl hne
    rw [termsF_zero, List.append_nil] at tl
    have hv : 0 < v0 := by
      rcases Int.lt_or_le 0 v0 with g | g
      · exact g
      · have : v0 = 0 := by have := hf.vn; omega
        rw [this, termsF_zero] at tl
        exact absurd tl hne
    rw [valR, if_neg (by omega), tl, shortL_termsV hv]
  induction k with
  | zero =>
    intro i d out XN XD YN YD u v hk hi he ho hX hY hx0 hy1 hdx hdy h
    have hi2 : i = 2 * xs.length := by omega
    have hxl : ¬ (i / 2) < xs.length := by omega
    have e1 : (i + 1) / 2 = i / 2 := by omega
    rw [e1, List.drop_of_length_le (by omega)] at hdx
    have hXD : XD = 0 := by
      rcases Int.lt_or_le 0 XD with g | g
      · have := termsF_pos (n := XN) g
        rw [← hdx] at this; simp at this
      · have := h.nn; omega
    rcases Nat.eq_zero_or_pos i with hz | hz
    · have := hx0 hz; omega
    subst hXD
    have hX' := hX hz
    obtain ⟨s0, f, hs⟩ := h.leX hf
    rw [rund_xend hi (by omega) hxl, hdy]
    exact Sv.rest f (hY (by omega)) hs
  | succ k ih =>
    intro i d out XN XD YN YD u v hk hi he ho hX hY hx0 hy1 hdx hdy h
    have hn := h.nn
    by_cases h2 : i % 2 = 0
    · have e1 : (i + 1) / 2 = i / 2 := by omega
      rw [e1] at hdx
      rcases Int.lt_or_le 0 XD with g | g
      · rw [termsF_step g] at hdx
        obtain ⟨ht, hd2⟩ := drop_consD hdx
        have hlt : i / 2 < xs.length := (List.getElem?_eq_some_iff.1 ht).1
        have b := rest_lt (n := XN) g
        have h1 := h.fdX g (by
          rcases Nat.eq_zero_or_pos i with z | z
          · exact .inl (ho (by omega))
          · exact .inr (hX z).2)
        have he1 := enX (t := XN / XD) he
        have hok := okD_of (h1.bds hf) he1
        rw [rund_x hi h2 ht]
        rcases Nat.eq_zero_or_pos i with z | z
        · rw [stepd_0 hok z]
          refine ih (i + 1) _ out XD _ YN YD u v (by omega) (by omega) he1 (fun _ => ho (by omega)) (fun _ => ⟨g, b.2⟩) (fun q => by omega) (fun q => by omega) (fun _ => hy1 (by omega)) (by rw [show (i + 1 + 1) / 2 = i / 2 + 1 by omega]; exact hd2) (by rw [show (i + 1) / 2 = i / 2 by omega]; exact hdy) h1
        · obtain ⟨d', out', bb, u', v', e, h3, h4, h5⟩ := Dv.emit hf (XN := XD) (XD := XN - XN / XD * XD) ⟨g, b.2⟩ (hY (by omega)) 60 _ _ _ _ (by omega) he1 h1
          cases bb with
          | true =>
            obtain ⟨q1, q2⟩ := h4 rfl
            subst q1
            rw [stepd_done hok (by omega) e]
            exact fin h3.tl q2
          | false =>
            rw [stepd_on hok (by omega) e]
            exact ih (i + 1) _ _ XD _ YN YD u' v' (by omega) (by omega) (h5 rfl) (fun q => by omega) (fun _ => ⟨g, b.2⟩) (fun _ => hY (by omega)) (fun q => by omega) (fun q => by omega) (by rw [show (i + 1 + 1) / 2 = i / 2 + 1 by omega]; exact hd2) (by rw [show (i + 1) / 2 = i / 2 by omega]; exact hdy) h3
      · have hXD : XD = 0 := by omega
        subst hXD
        rcases Nat.eq_zero_or_pos i with hz | hz
        · have := hx0 hz; omega
        rw [termsF_zero] at hdx
        obtain ⟨s0, f, hs⟩ := h.leX hf
        rw [rund_xend hi h2 (drop_nil_len hdx), hdy]
        exact Sv.rest f (hY (by omega)) hs
    · have e1 : (i + 1) / 2 = i / 2 + 1 := by omega
      rw [e1] at hdx
      rcases Int.lt_or_le 0 YD with g | g
      · rw [termsF_step g] at hdy
        obtain ⟨ht, hd2⟩ := drop_consD hdy
        have b := rest_lt (n := YN) g
        have h1 := h.fdY g (by
          by_cases z : i = 1
          · exact .inl (ho (by omega))
          · exact .inr (hY (by omega)).2)
        have he1 := enY (t := YN / YD) he
        have hok := okD_of (h1.bds hf) he1
        rw [rund_y hi h2 ht]
        obtain ⟨d', out', bb, u', v', e, h3, h4, h5⟩ := Dv.emit hf (hX (by omega)) (YN := YD) (YD := YN - YN / YD * YD) ⟨g, b.2⟩ 60 _ _ _ _ (by omega) he1 h1
        cases bb with
        | true =>
          obtain ⟨q1, q2⟩ := h4 rfl
          subst q1
          rw [stepd_done hok (by omega) e]
          exact fin h3.tl q2
        | false =>
          rw [stepd_on hok (by omega) e]
          exact ih (i + 1) _ _ XN XD YD _ u' v' (by omega) (by omega) (h5 rfl) (fun q => by omega) (fun _ => hX (by omega)) (fun _ => ⟨g, b.2⟩) (fun q => by omega) (fun q => by omega) (by rw [show (i + 1 + 1) / 2 = i / 2 + 1 by omega]; exact hdx) (by rw [show (i + 1) / 2 = i / 2 + 1 by omega]; exact hd2) h3
      · have hYD : YD = 0 := by omega
        subst hYD
        by_cases hz : i = 1
        · have := hy1 (by omega); omega
        rw [termsF_zero] at hdy
        obtain ⟨s0, f, hs⟩ := h.leY hf
        rw [rund_yend hi h2 (drop_nil_len hdy), hdx]
        exact Sv.rest f (hX (by omega)) hs
end


/-! The other sign. -/
def ngD (d : Db) : Db := ⟨-d.a, -d.b, -d.c, -d.d, -d.e, -d.f, -d.g, -d.h⟩
theorem opD_good {d : Db} (h : d.e ≠ 0 ∧ (d.e + d.f ≠ 0 ∧ (d.e + d.f < 0 ↔ d.e < 0)) ∧ (d.e + d.g ≠ 0 ∧ (d.e + d.g < 0 ↔ d.e < 0)) ∧ (d.e + d.f + d.g + d.h ≠ 0 ∧ (d.e + d.f + d.g + d.h < 0 ↔ d.e < 0))) : opD d = false := by
  obtain ⟨h1, ⟨h2, k2⟩, ⟨h3, k3⟩, ⟨h4, k4⟩⟩ := h
  simp only [opD, botD, List.any_cons, List.any_nil, Bool.or_false, Bool.or_eq_false_iff, decide_eq_false_iff_not]
  have key : ∀ x : Int, (x < 0 ↔ d.e < 0) → (decide (x < 0) != decide (d.e < 0)) = false := by
    intro x hx
    by_cases p : x < 0 <;> by_cases q : d.e < 0 <;> simp [p, q] at hx ⊢
  exact ⟨⟨h1, key _ Iff.rfl⟩, ⟨h2, key _ k2⟩, ⟨h3, key _ k3⟩, ⟨h4, key _ k4⟩⟩
theorem opD_ng (d : Db) : opD (ngD d) = opD d := by
  cases h : opD d with
  | false =>
    have := opD_no h
    refine opD_good ?_
    show -d.e ≠ 0 ∧ (-d.e + -d.f ≠ 0 ∧ (-d.e + -d.f < 0 ↔ -d.e < 0)) ∧ (-d.e + -d.g ≠ 0 ∧ (-d.e + -d.g < 0 ↔ -d.e < 0)) ∧ (-d.e + -d.f + -d.g + -d.h ≠ 0 ∧ (-d.e + -d.f + -d.g + -d.h < 0 ↔ -d.e < 0))
    omega
  | true =>
    cases h2 : opD (ngD d) with
    | true => rfl
    | false =>
      have h3 := opD_no h2
      have h3 : -d.e ≠ 0 ∧ (-d.e + -d.f ≠ 0 ∧ (-d.e + -d.f < 0 ↔ -d.e < 0)) ∧ (-d.e + -d.g ≠ 0 ∧ (-d.e + -d.g < 0 ↔ -d.e < 0)) ∧ (-d.e + -d.f + -d.g + -d.h ≠ 0 ∧ (-d.e + -d.f + -d.g + -d.h < 0 ↔ -d.e < 0)) := h3
      have : opD d = false := opD_good (by omega)
      rw [this] at h; exact h
theorem knD_ng (d : Db) : knD (ngD d) = knD d := by
  unfold knD
  rw [opD_ng]
  cases h : opD d with
  | true => rfl
  | false =>
    obtain ⟨c1, ⟨c2, _⟩, ⟨c3, _⟩, ⟨c4, _⟩⟩ := opD_no h
    have e1 : fdv (ngD d).a (ngD d).e = fdv d.a d.e := fdv_ng c1
    have e2 : fdv ((ngD d).a + (ngD d).b) ((ngD d).e + (ngD d).f) = fdv (d.a + d.b) (d.e + d.f) := by
      show fdv (-d.a + -d.b) (-d.e + -d.f) = _
      rw [show -d.a + -d.b = -(d.a + d.b) by omega, show -d.e + -d.f = -(d.e + d.f) by omega, fdv_ng c2]
    have e3 : fdv ((ngD d).a + (ngD d).c) ((ngD d).e + (ngD d).g) = fdv (d.a + d.c) (d.e + d.g) := by
      show fdv (-d.a + -d.c) (-d.e + -d.g) = _
      rw [show -d.a + -d.c = -(d.a + d.c) by omega, show -d.e + -d.g = -(d.e + d.g) by omega, fdv_ng c3]
    have e4 : fdv ((ngD d).a + (ngD d).b + (ngD d).c + (ngD d).d) ((ngD d).e + (ngD d).f + (ngD d).g + (ngD d).h) = fdv (d.a + d.b + d.c + d.d) (d.e + d.f + d.g + d.h) := by
      show fdv (-d.a + -d.b + -d.c + -d.d) (-d.e + -d.f + -d.g + -d.h) = _
      rw [show -d.a + -d.b + -d.c + -d.d = -(d.a + d.b + d.c + d.d) by omega, show -d.e + -d.f + -d.g + -d.h = -(d.e + d.f + d.g + d.h) by omega, fdv_ng c4]
    rw [e1, e2, e3, e4]
theorem fdX_ng (d : Db) (t : Int) : fdX (ngD d) t = ngD (fdX d t) := by
  unfold fdX ngD
  simp only [Db.mk.injEq]
  refine ⟨?_, ?_, trivial, trivial, ?_, ?_, trivial, trivial⟩ <;> rw [Int.neg_mul, Int.neg_add]
theorem fdY_ng (d : Db) (t : Int) : fdY (ngD d) t = ngD (fdY d t) := by
  unfold fdY ngD
  simp only [Db.mk.injEq]
  refine ⟨?_, trivial, ?_, trivial, ?_, trivial, ?_, trivial⟩ <;> rw [Int.neg_mul, Int.neg_add]
theorem emD_ng (d : Db) (t : Int) : emD (ngD d) t = ngD (emD d t) := by
  unfold emD ngD
  simp only [Db.mk.injEq]
  refine ⟨trivial, trivial, trivial, trivial, ?_, ?_, ?_, ?_⟩ <;> rw [Int.mul_neg] <;> omega
theorem bdD_ng (d : Db) : bdD (ngD d) = bdD d := by
  have key : bdD (ngD d) = true ↔ bdD d = true := by
    rw [bdD_iff, bdD_iff]
    unfold ngD
    simp only
    constructor <;> rintro ⟨h1, h2, h3, h4, h5, h6, h7, h8⟩ <;> refine ⟨?_, ?_, ?_, ?_, ?_, ?_, ?_, ?_⟩ <;> omega
  cases h : bdD d with
  | true => exact key.2 h
  | false =>
    cases h2 : bdD (ngD d) with
    | false => rfl
    | true => rw [key.1 h2] at h; exact h
theorem enD_ng (d : Db) : enD (ngD d) = enD d := by
  have key : enD (ngD d) = true ↔ enD d = true := by
    rw [enD_iff, enD_iff]
    unfold ngD
    simp only
    constructor <;> rintro ⟨h1, h2, h3, h4⟩ <;> refine ⟨?_, ?_, ?_, ?_⟩ <;> omega
  cases h : enD d with
  | true => exact key.2 h
  | false =>
    cases h2 : enD (ngD d) with
    | false => rfl
    | true => rw [key.1 h2] at h; exact h
theorem okD_ng (d : Db) : okD (ngD d) = okD d := by unfold okD; rw [bdD_ng, enD_ng]
theorem emitDN_ng (f : Nat) : ∀ d out, emitDN f (ngD d) out = (emitDN f d out).map fun r => (ngD r.1, r.2) := by
  induction f with
  | zero => intro d out; rfl
  | succ f ih =>
    intro d out
    rw [emitDN, emitDN, knD_ng]
    cases knD d with
    | none => rfl
    | some q =>
      simp only
      rw [emD_ng, bdD_ng, enD_ng, ih]
      split
      · rfl
      · split
        · split
          · rfl
          · rfl
        · rfl
theorem restF_ng (s : St) (out ts : List Int) : restF (ngS s) out ts = restF s out ts := by
  unfold restF
  have e : emitF 1073741824 (ngS s) out = ngR (emitF 1073741824 s out) := emitM_ng _ _ _ _
  rw [e]
  cases emitF 1073741824 s out with
  | none => rfl
  | some r =>
    show runR (runG ts (ngS r.1) r.2) = runR (runG ts r.1 r.2)
    rw [runG_ng, runR_ng]
theorem runDN_ng (xs ys : List Int) (f : Nat) : ∀ i d out, runDN xs ys f i (ngD d) out = runDN xs ys f i d out := by
  induction f with
  | zero => intro i d out; rfl
  | succ f ih =>
    intro i d out
    rw [runDN, runDN]
    have e1 : leX (ngD d) = ngS (leX d) := rfl
    have e2 : leY (ngD d) = ngS (leY d) := rfl
    have step : ∀ d' : Db, (if okD (ngD d') then (if i = 0 then runDN xs ys f (i + 1) (ngD d') out else match emitDF (ngD d') out with
        | none => ([], 5)
        | some r => if r.2.2 then (shortL r.2.1, 0) else runDN xs ys f (i + 1) r.1 r.2.1) else ([], (5 : Int))) = (if okD d' then (if i = 0 then runDN xs ys f (i + 1) d' out else match emitDF d' out with
        | none => ([], 5)
        | some r => if r.2.2 then (shortL r.2.1, 0) else runDN xs ys f (i + 1) r.1 r.2.1) else ([], 5)) := by
      intro d'
      have e3 : emitDF (ngD d') out = (emitDF d' out).map fun r => (ngD r.1, r.2) := emitDN_ng _ _ _
      rw [okD_ng, e3, ih]
      cases emitDF d' out with
      | none => rfl
      | some r =>
        simp only [Option.map_some]
        rw [ih]
    simp only []
    split
    · cases xs[i / 2]? with
      | none =>
        simp only []
        rw [e1, restF_ng]
      | some t =>
        simp only []
        rw [fdX_ng]
        exact step _
    · cases ys[i / 2]? with
      | none =>
        simp only []
        rw [e2, restF_ng]
      | some t =>
        simp only []
        rw [fdY_ng]
        exact step _
/-- The value law: a small function of two small fractions. -/
theorem dbl_law {d : Db} {xn xd yn yd u v : Int} (hs : Sm d) (he : enD d = false) (hx : okF xn xd = true) (hy : okF yn yd = true) (bx : -300 ≤ xn ∧ xn ≤ 300) (bX : xd ≤ 300) (by' : -300 ≤ yn ∧ yn ≤ 300) (bY : yd ≤ 300)
    (hu : d.a * xn * yn + d.b * xn * yd + d.c * xd * yn + d.d * xd * yd = u) (hv : d.e * xn * yn + d.f * xn * yd + d.g * xd * yn + d.h * xd * yd = v) :
    ((-1449616 ≤ u ∧ u ≤ 1449616) ∧ (-1449616 ≤ v ∧ v ≤ 1449616)) ∧ (v = 0 → runDF (termsF xn xd) (termsF yn yd) 0 d [] = ([], 6)) ∧
    (v ≠ 0 → ∃ p q, fullF u v = (p, q, 0) ∧ okF p q = true ∧ runDF (termsF xn xd) (termsF yn yd) 0 d [] = (termsF p q, 0)) := by
  have ox := okF_iff.1 hx
  have oy := okF_iff.1 hy
  have bu : -1449616 ≤ u ∧ u ≤ 1449616 := by
    have := bil_bd (p := xn) (q := xd) (r := yn) (s := yd) hs.a hs.b hs.c hs.d (by omega) (by omega) (by omega) (by omega)
    have e : bil d.a d.b d.c d.d xn xd yn yd = u := by unfold bil; rw [← hu]; grind
    rw [e] at this; exact this
  have bv : -1449616 ≤ v ∧ v ≤ 1449616 := by
    have := bil_bd (p := xn) (q := xd) (r := yn) (s := yd) hs.e hs.f hs.g hs.h (by omega) (by omega) (by omega) (by omega)
    have e : bil d.e d.f d.g d.h xn xd yn yd = v := by unfold bil; rw [← hv]; grind
    rw [e] at this; exact this
  have main : ∀ (d : Db) (u v : Int), Sm d → enD d = false → d.a * xn * yn + d.b * xn * yd + d.c * xd * yn + d.d * xd * yd = u → d.e * xn * yn + d.f * xn * yd + d.g * xd * yn + d.h * xd * yd = v → 0 ≤ v → (v ≤ 1000000000) → (-1000000000 ≤ u ∧ u ≤ 1000000000) → runDF (termsF xn xd) (termsF yn yd) 0 d [] = valR u v := by
    intro d u v hs he hu hv h0 h1 h2
    have hf : Fx d xn xd yn yd u v := ⟨hs, bx, ⟨ox.1.1, bX⟩, by', ⟨oy.1.1, bY⟩, h0, h1, h2, ox.2.2, oy.2.2⟩
    exact Dv.run hf (2 * (termsF xn xd).length) 0 d [] xn xd yn yd u v (by omega) (by omega) he (fun _ => rfl) (fun q => by omega) (fun q => by omega) (fun _ => by omega) (fun _ => by omega) rfl rfl (Dv.start hf hu hv)
  refine ⟨⟨bu, bv⟩, ?_⟩
  rcases Int.lt_or_le v 0 with g | g
  · have m := main (ngD d) (-u) (-v) ⟨by show -4 ≤ -d.a ∧ -d.a ≤ 4; have := hs.a; omega, by show -4 ≤ -d.b ∧ -d.b ≤ 4; have := hs.b; omega, by show -4 ≤ -d.c ∧ -d.c ≤ 4; have := hs.c; omega, by show -4 ≤ -d.d ∧ -d.d ≤ 4; have := hs.d; omega, by show -4 ≤ -d.e ∧ -d.e ≤ 4; have := hs.e; omega, by show -4 ≤ -d.f ∧ -d.f ≤ 4; have := hs.f; omega, by show -4 ≤ -d.g ∧ -d.g ≤ 4; have := hs.g; omega, by show -4 ≤ -d.h ∧ -d.h ≤ 4; have := hs.h; omega⟩ (by rw [enD_ng]; exact he) (by show -d.a * xn * yn + -d.b * xn * yd + -d.c * xd * yn + -d.d * xd * yd = -u; rw [← hu]; grind) (by show -d.e * xn * yn + -d.f * xn * yd + -d.g * xd * yn + -d.h * xd * yd = -v; rw [← hv]; grind) (by omega) (by omega) (by omega)
    unfold runDF at m ⊢
    rw [runDN_ng] at m
    rw [m]
    refine ⟨fun k => by omega, fun _ => ?_⟩
    have f := full_pos (u := -u) (v := -v) (by omega) (by omega)
    have f2 := full_ng (a := u) (c := v) (by omega)
    rw [f] at f2
    refine ⟨_, _, f2.symm, full_okV f2.symm, ?_⟩
    rw [valR, if_neg (by omega), termsF_low (by omega)]
  · have m := main d u v hs he hu hv g (by omega) (by omega)
    rw [m]
    refine ⟨fun k => by rw [valR, if_pos k], fun k => ?_⟩
    have f := full_pos (u := u) (v := v) (by omega) (by omega)
    refine ⟨_, _, f, full_okV f, ?_⟩
    rw [valR, if_neg (by omega), termsF_low (by omega)]

end Go.Proofs.Ytgkelemfbmmgnaa

