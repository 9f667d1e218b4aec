/- FnDoubleSteps: the plain law. No condition but what each theorem names. -/
import Derived.Test.YtbncinbngmfamaaDbO
namespace Go.Proofs.Ytbncinbngmfamaa
open Go.RowKit
set_option linter.unusedVariables false
set_option linter.unusedSimpArgs false

def atN (d : Db) (xn xd yn yd : Int) : Int := d.a * xn * yn + d.b * xn * yd + d.c * xd * yn + d.d * xd * yd
def atD (d : Db) (xn xd yn yd : Int) : Int := d.e * xn * yn + d.f * xn * yd + d.g * xd * yn + d.h * xd * yd
theorem at_fed (d : Db) (s t U V : Int) : atN (fdY (fdX d s) t) U 1 V 1 = atN d (s * U + 1) U (t * V + 1) V ∧ atD (fdY (fdX d s) t) U 1 V 1 = atD d (s * U + 1) U (t * V + 1) V := by
  unfold atN atD fdY fdX
  constructor <;> grind
theorem at_mix (a b c d U V : Int) : a * U * V + b * U * 1 + c * 1 * V + d * 1 * 1 = (a + b + c + d) + (a + b) * (U - 1) + (a + c) * (V - 1) + a * ((U - 1) * (V - 1)) := by grind
theorem mulS {x y X Y : Int} (h1 : -X ≤ x ∧ x ≤ X) (h2 : 0 ≤ y ∧ y ≤ Y) : -(X * Y) ≤ x * y ∧ x * y ≤ X * Y := by
  have a1 := Int.mul_le_mul_of_nonneg_left h2.2 (show 0 ≤ X by omega)
  have a2 := Int.mul_le_mul_of_nonneg_right h1.1 h2.1
  have a3 := Int.mul_le_mul_of_nonneg_right h1.2 h2.1
  rw [Int.neg_mul] at a2
  omega
/-- The floor of a mean of fractions with one floor. -/
theorem mix_floor {T0 T1 T2 T3 B0 B1 B2 B3 q u v : Int} (hu : 0 ≤ u) (hv : 0 ≤ v) (b0 : 0 < B0) (b1 : 0 < B1) (b2 : 0 < B2) (b3 : 0 < B3)
    (f0 : T0 / B0 = q) (f1 : T1 / B1 = q) (f2 : T2 / B2 = q) (f3 : T3 / B3 = q) : (T3 + T1 * u + T2 * v + T0 * (u * v)) / (B3 + B1 * u + B2 * v + B0 * (u * v)) = q := by
  have huv : 0 ≤ u * v := Int.mul_nonneg hu hv
  have key : ∀ {T B : Int}, 0 < B → T / B = q → 0 ≤ T - q * B ∧ T - q * B < B := by
    intro T B hB h
    subst h
    have h1 := Int.mul_ediv_add_emod T B
    have h2 := Int.emod_nonneg T (show B ≠ 0 by omega)
    have h3 := Int.emod_lt_of_pos T hB
    have h4 : T / B * B = B * (T / B) := Int.mul_comm _ _
    omega
  have k0 := key b0 f0
  have k1 := key b1 f1
  have k2 := key b2 f2
  have k3 := key b3 f3
  have m0 := Int.mul_nonneg k0.1 huv
  have m1 := Int.mul_nonneg k1.1 hu
  have m2 := Int.mul_nonneg k2.1 hv
  have n0 := Int.mul_le_mul_of_nonneg_right (show T0 - q * B0 ≤ B0 by omega) huv
  have n1 := Int.mul_le_mul_of_nonneg_right (show T1 - q * B1 ≤ B1 by omega) hu
  have n2 := Int.mul_le_mul_of_nonneg_right (show T2 - q * B2 ≤ B2 by omega) hv
  have p0 := Int.mul_nonneg (show 0 ≤ B0 by omega) huv
  have p1 := Int.mul_nonneg (show 0 ≤ B1 by omega) hu
  have p2 := Int.mul_nonneg (show 0 ≤ B2 by omega) hv
  have e : (T3 + T1 * u + T2 * v + T0 * (u * v)) - q * (B3 + B1 * u + B2 * v + B0 * (u * v)) = (T3 - q * B3) + (T1 - q * B1) * u + (T2 - q * B2) * v + (T0 - q * B0) * (u * v) := by grind
  have hlo : 0 ≤ (T3 + T1 * u + T2 * v + T0 * (u * v)) - q * (B3 + B1 * u + B2 * v + B0 * (u * v)) := by rw [e]; omega
  have hhi : (T3 + T1 * u + T2 * v + T0 * (u * v)) - q * (B3 + B1 * u + B2 * v + B0 * (u * v)) < (B3 + B1 * u + B2 * v + B0 * (u * v)) := by rw [e]; omega
  have hpos : 0 < B3 + B1 * u + B2 * v + B0 * (u * v) := by omega
  generalize T3 + T1 * u + T2 * v + T0 * (u * v) = N at hlo hhi ⊢
  generalize B3 + B1 * u + B2 * v + B0 * (u * v) = D at hlo hhi hpos ⊢
  have h1 : q ≤ N / D := (Int.le_ediv_iff_mul_le hpos).2 (by omega)
  have hq1 : (q + 1) * D = q * D + D := by grind
  have h2 : N / D < q + 1 := Int.ediv_lt_of_lt_mul hpos (by omega)
  omega
/-- What the law needs of the function behind two terms. -/
structure StepP (op s t U V : Int) (y : Db) : Prop where
  o1 : okD (forD op) = true
  o2 : okD (fdX (forD op) s) = true
  o3 : okD y = true
  sm1 : ∀ x ∈ [(forD op).a, (forD op).b, (forD op).c, (forD op).d, (forD op).e, (forD op).f, (forD op).g, (forD op).h], -1000 ≤ x ∧ x ≤ 1000
  sm2 : ∀ x ∈ [y.a, y.b, y.c, y.d, y.e, y.f, y.g, y.h], -1000 ≤ x ∧ x ≤ 1000
  pos : 0 < y.e ∧ 0 < y.e + y.f ∧ 0 < y.e + y.g ∧ 0 < y.e + y.f + y.g + y.h
  lin : y.b = 1 ∧ y.f = 0 ∨ y.b = -1 ∧ y.f = 0 ∨ y.d = 1 ∧ y.h = 0 ∨ y.c = 1 ∧ y.g = 0
theorem bd_of {d : Db} (h : ∀ x ∈ [d.a, d.b, d.c, d.d, d.e, d.f, d.g, d.h], -1000 ≤ x ∧ x ≤ 1000) : bdD d = true := by
  simp only [List.mem_cons, List.not_mem_nil, or_false, forall_eq_or_imp, forall_eq] at h
  exact bdD_iff.2 (by omega)
theorem ok_of {d : Db} (h : ∀ x ∈ [d.a, d.b, d.c, d.d, d.e, d.f, d.g, d.h], -1000 ≤ x ∧ x ≤ 1000) (h2 : d.e ≠ 0 ∨ d.f ≠ 0 ∨ d.g ≠ 0 ∨ d.h ≠ 0) : okD d = true := by
  unfold okD
  rw [bd_of h]
  cases e : enD d with
  | false => rfl
  | true => have := enD_iff.1 e; omega
theorem step_of {op s t U V : Int} (hop : 1 ≤ op ∧ op ≤ 4) (hs : 1 ≤ s ∧ s ≤ 30) (ht : 1 ≤ t ∧ t ≤ 30) : StepP op s t U V (fdY (fdX (forD op) s) t) := by
  have hst := mulS (x := s) (y := t) (X := 30) (Y := 30) (by omega) (by omega)
  rcases (show op = 1 ∨ op = 2 ∨ op = 3 ∨ op = 4 by omega) with rfl | rfl | rfl | rfl <;> refine ⟨ok_of ?_ ?_, ok_of ?_ ?_, ok_of ?_ ?_, ?_, ?_, ?_, ?_⟩ <;> simp [forD, fdX, fdY] <;> omega
theorem step_kn {op s t U V : Int} {y : Db} (h : StepP op s t U V y) {q : Int} (hU : 1 ≤ U) (hV : 1 ≤ V) (hq : knD y = some q) : okD (emD y q) = true ∧ q = atN y U 1 V 1 / atD y U 1 V 1 := by
  obtain ⟨_, f0, f1, f2, f3⟩ := knD_some hq
  obtain ⟨b0, b1, b2, b3⟩ := h.pos
  rw [← fdv_pos (by omega)] at f0 f1 f2 f3
  have key : ∀ {T B : Int}, 0 < B → T / B = q → 0 ≤ T - q * B ∧ T - q * B < B := by
    intro T B hB h
    subst h
    have h1 := Int.mul_ediv_add_emod T B
    have h2 := Int.emod_nonneg T (show B ≠ 0 by omega)
    have h3 := Int.emod_lt_of_pos T hB
    have h4 : T / B * B = B * (T / B) := Int.mul_comm _ _
    omega
  have k0 := key b0 f0
  have k1 := key b1 f1
  have k2 := key b2 f2
  have k3 := key b3 f3
  have e1 : q * (y.e + y.f) = q * y.e + q * y.f := Int.mul_add _ _ _
  have e2 : q * (y.e + y.g) = q * y.e + q * y.g := Int.mul_add _ _ _
  have e3 : q * (y.e + y.f + y.g + y.h) = q * y.e + q * y.f + q * y.g + q * y.h := by grind
  have hsm := h.sm2
  simp only [List.mem_cons, List.not_mem_nil, or_false, forall_eq_or_imp, forall_eq] at hsm
  refine ⟨?_, ?_⟩
  · have hb : bdD (emD y q) = true := bdD_iff.2 (by unfold emD; simp only; omega)
    unfold okD
    rw [hb]
    cases e : enD (emD y q) with
    | false => rfl
    | true =>
      have he := enD_iff.1 e
      unfold emD at he
      simp only at he
      rcases h.lin with ⟨l1, l2⟩ | ⟨l1, l2⟩ | ⟨l1, l2⟩ | ⟨l1, l2⟩ <;> rw [l1, l2] at he <;> omega
  · unfold atN atD
    rw [at_mix, at_mix]
    exact (mix_floor (by omega) (by omega) b0 b1 b2 b3 f0 f1 f2 f3).symm
theorem step_bd {op s t U V : Int} {y : Db} (h : StepP op s t U V y) (hU : 1 ≤ U ∧ U ≤ 40) (hV : 1 ≤ V ∧ V ≤ 40) : (-10000000 ≤ atN y U 1 V 1 ∧ atN y U 1 V 1 ≤ 10000000) ∧ 1 ≤ atD y U 1 V 1 ∧ atD y U 1 V 1 ≤ 10000000 := by
  obtain ⟨b0, b1, b2, b3⟩ := h.pos
  have hsm := h.sm2
  simp only [List.mem_cons, List.not_mem_nil, or_false, forall_eq_or_imp, forall_eq] at hsm
  unfold atN atD
  rw [at_mix, at_mix]
  have huv := mulS (x := U - 1) (y := V - 1) (X := 39) (Y := 39) (by omega) (by omega)
  have hz : 0 ≤ (U - 1) * (V - 1) := Int.mul_nonneg (by omega) (by omega)
  have m1 := mulS (x := y.a + y.b) (y := U - 1) (X := 2000) (Y := 39) (by omega) (by omega)
  have m2 := mulS (x := y.a + y.c) (y := V - 1) (X := 2000) (Y := 39) (by omega) (by omega)
  have m3 := mulS (x := y.a) (y := (U - 1) * (V - 1)) (X := 1000) (Y := 1521) (by omega) (by omega)
  have m4 := mulS (x := y.e + y.f) (y := U - 1) (X := 2000) (Y := 39) (by omega) (by omega)
  have m5 := mulS (x := y.e + y.g) (y := V - 1) (X := 2000) (Y := 39) (by omega) (by omega)
  have m6 := mulS (x := y.e) (y := (U - 1) * (V - 1)) (X := 1000) (Y := 1521) (by omega) (by omega)
  have n4 := Int.mul_nonneg (show 0 ≤ y.e + y.f by omega) (show 0 ≤ U - 1 by omega)
  have n5 := Int.mul_nonneg (show 0 ≤ y.e + y.g by omega) (show 0 ≤ V - 1 by omega)
  have n6 := Int.mul_nonneg (show 0 ≤ y.e by omega) hz
  omega
/-- s + 1 / U in lowest terms. -/
theorem gcd_one {s U : Int} (hU : 1 ≤ U) : gcdI (s * U + 1) U = 1 := by
  have g1 := gcdI_dvd_left (s * U + 1) U
  have g2 := gcdI_dvd_right (s * U + 1) U
  have e2 : gcdI (s * U + 1) U ∣ s * U := Int.dvd_trans g2 (Int.dvd_mul_left _ _)
  have e3 : gcdI (s * U + 1) U ∣ 1 := by
    have := Int.dvd_sub g1 e2
    rwa [show s * U + 1 - s * U = 1 by omega] at this
  exact Int.eq_one_of_dvd_one (by unfold gcdI; omega) e3

end Go.Proofs.Ytbncinbngmfamaa
