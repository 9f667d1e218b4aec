/- Some of the texts of this claim, joined in one file: CvV, TpM. -/
import Derived.Test.YtgkelemfbmmgnaaMTp18
import Derived.Test.YtgkelemfbmmgnaaMTp30
import Derived.Test.YtgkelemfbmmgnaaMTp24
import Derived.Test.YtgkelemfbmmgnaaMTp29
/- The last convergent of a fraction's terms is the fraction itself, and all of them are plain. Each theorem names its conditions. -/
namespace Go.Proofs.Ytgkelemfbmmgnaa
set_option linter.unusedVariables false
set_option linter.unusedSimpArgs false

theorem gcd_detV {p q x y : Int} (hq : 1 ≤ q) (h : p * y - x * q = 1 ∨ p * y - x * q = -1) : gcdI p q = 1 := by
  have d1 : (Int.gcd p q : Int) ∣ p := Int.gcd_dvd_left ..
  have d2 : (Int.gcd p q : Int) ∣ q := Int.gcd_dvd_right ..
  have d3 : (Int.gcd p q : Int) ∣ p * y - x * q := Int.dvd_sub (Int.dvd_mul_of_dvd_left d1) (Int.dvd_mul_of_dvd_right d2)
  have hp : 0 < (Int.gcd p q : Int) := by
    have : (Int.gcd p q : Int) ≠ 0 := by
      intro e
      rw [e] at d2
      have := Int.zero_dvd.1 d2
      omega
    omega
  show (Int.gcd p q : Int) = 1
  rcases h with e | e
  · rw [e] at d3
    have := Int.le_of_dvd (by omega) d3
    omega
  · rw [e] at d3
    have := Int.le_of_dvd (by omega) (Int.dvd_neg.1 (show (Int.gcd p q : Int) ∣ -(1 : Int) from d3))
    omega
/-- One step: the next convergent is plain. -/
theorem Eu.plainV {n d p p' q q' e u v : Int} (h : Eu n d p p' q q' e u v) (ok : okF n d = true) (hq : 0 < u) (h1 : 1 ≤ q) : okF p q = true := by
  obtain ⟨⟨o1, o2⟩, ⟨o3, o4⟩, o5⟩ := okF_iff.1 ok
  have e1 := h.hu; have e2 := h.hv; have dt := h.det; have q0 := h.qz'; have v0 := h.vz
  have hdet : p * q' - p' * q = 1 ∨ p * q' - p' * q = -1 := by rw [dt]; exact h.e1
  have hg := gcd_detV h1 hdet
  have m1 := Int.mul_le_mul_of_nonneg_left (show 1 ≤ u by omega) (show 0 ≤ q by omega)
  have m2 := Int.mul_nonneg q0 v0
  have hqd : q ≤ d := by omega
  by_cases hv : v = 0
  · subst hv
    have hu := h.last (by omega) o5
    subst hu
    refine okF_iff.2 ⟨by omega, ?_, hg⟩
    omega
  · rcases h.st with ⟨s1, _, _, _⟩ | ⟨s1, s2, s3, s4⟩
    · omega
    · have m3 := Int.mul_le_mul_of_nonneg_left (show 2 ≤ u by omega) (show 0 ≤ q by omega)
      have m4 := Int.mul_le_mul_of_nonneg_right h1 (show 0 ≤ u by omega)
      have k1 : p * d = q * n + e * v := by rw [e1, e2, ← dt]; grind
      have ev : -v ≤ e * v ∧ e * v ≤ v := by rcases h.e1 with k | k <;> rw [k] <;> omega
      have b1 := Int.mul_le_mul_of_nonneg_left o4 (show 0 ≤ q by omega)
      have b2 := Int.mul_le_mul_of_nonneg_left o3 (show 0 ≤ q by omega)
      have bp := pq_bd (p := p) (v0 := d) (M := 1000000000) (by omega) (by omega)
      exact okF_iff.2 ⟨by omega, by omega, hg⟩
theorem conv_valG {n d : Int} (ok : okF n d = true) (f : Nat) : ∀ (p p' q q' e u v : Int), v < f → 0 < v → Eu n d p p' q q' e u v → ∃ fs, convG (termsF u v) p q p' q' = some fs ∧ fs.getLast? = some (n, d) := by
  induction f with
  | zero => intro p p' q q' e u v h1 h2 h; omega
  | succ f ih =>
    intro p p' q q' e u v h1 h2 h
    have hx := h.next h2
    have b := rest_lt (n := u) h2
    have hq1 : 1 ≤ u / v * q + q' := by
      rcases h.st with ⟨t1, t2, _, _⟩ | ⟨t0, t1, t3, t4⟩
      · rw [t1, t2]; simp
      · have t5 : 1 ≤ u / v := Int.le_ediv_of_mul_le h2 (by omega)
        have := Int.mul_le_mul_of_nonneg_right t5 (show 0 ≤ q by omega)
        have := h.qz'
        omega
    have hp := hx.plainV ok h2 hq1
    rw [termsF_step h2, convG, if_pos hp]
    by_cases hr : u - u / v * v = 0
    · rw [hr, termsF_zero]
      rw [hr] at hx
      obtain ⟨⟨o1, _⟩, _, o5⟩ := okF_iff.1 ok
      have hv1 := hx.last (by omega) o5
      have e1 := hx.hu; have e2 := hx.hv
      rw [hv1] at e1 e2
      refine ⟨_, rfl, ?_⟩
      simp only [List.getLast?_singleton, Option.some.injEq, Prod.mk.injEq]
      rw [hv1]
      constructor <;> omega
    · obtain ⟨fs, h5, h6⟩ := ih _ _ _ _ _ _ _ (by omega) (by omega) hx
      refine ⟨_, by rw [h5]; rfl, ?_⟩
      have hne : fs ≠ [] := by intro e; rw [e] at h6; simp at h6
      rw [List.getLast?_cons_of_ne_nil hne]
      exact h6
/-- The value of a plain fraction's terms is the fraction. -/
theorem conv_val {n d : Int} (ok : okF n d = true) : ∃ fs, convL (termsF n d) = some fs ∧ fs.getLast? = some (n, d) := by
  obtain ⟨⟨o1, o2⟩, _, _⟩ := okF_iff.1 ok
  exact conv_valG ok (d.toNat + 1) 1 0 0 1 1 n d (by omega) (by omega) (Eu.start (by omega))

end Go.Proofs.Ytgkelemfbmmgnaa

/- FnTop: plain: the operations' values, and the nearest fraction. Each theorem names its conditions. -/
namespace Go.Proofs.Ytgkelemfbmmgnaa
open Go.RowKit
set_option linter.unusedVariables false
set_option linter.unusedSimpArgs false

/-- The exact result of an operation, and a code. -/
def arF (op a b c d : Int) : Int × Int × Int :=
  if op = 1 then fullF (a * d + c * b) (b * d)
  else if op = 2 then fullF (a * d - c * b) (b * d)
  else if op = 3 then fullF (a * c) (b * d)
  else if c = 0 then (0, 0, 6) else fullF (a * d) (b * c)
theorem ne_mul {x y : Int} (hx : x ≠ 0) (hy : y ≠ 0) : x * y ≠ 0 := by
  intro h
  rcases Int.mul_eq_zero.1 h with e | e
  · exact hx e
  · exact hy e
theorem op_law {op xn xd yn yd : Int} (hop : 1 ≤ op ∧ op ≤ 4) (hx : okF xn xd = true) (hy : okF yn yd = true) (bx : -300 ≤ xn ∧ xn ≤ 300) (bX : xd ≤ 300) (by' : -300 ≤ yn ∧ yn ≤ 300) (bY : yd ≤ 300) :
    (arF op xn xd yn yd = (0, 0, 6) ∧ opF op (termsF xn xd) (termsF yn yd) = ([], 6)) ∨ ∃ p q, arF op xn xd yn yd = (p, q, 0) ∧ okF p q = true ∧ opF op (termsF xn xd) (termsF yn yd) = (termsF p q, 0) := by
  have ox := okF_iff.1 hx
  have oy := okF_iff.1 hy
  have er : opF op (termsF xn xd) (termsF yn yd) = runDF (termsF xn xd) (termsF yn yd) 0 (forD op) [] := by
    rw [opF, if_pos (terms_okV ox.2.1 ox.1), if_pos (terms_okV oy.2.1 oy.1), if_pos (inB_iff.2 hop)]
  rw [er]
  have key : ∀ (d : Db) (u v : Int), forD op = d → Sm d → enD d = false → d.a * xn * yn + d.b * xn * yd + d.c * xd * yn + d.d * xd * yd = u → d.e * xn * yn + d.f * xn * yd + d.g * xd * yn + d.h * xd * yd = v → ((v = 0 → arF op xn xd yn yd = (0, 0, 6)) ∧ (v ≠ 0 → arF op xn xd yn yd = fullF u v)) →
      (arF op xn xd yn yd = (0, 0, 6) ∧ runDF (termsF xn xd) (termsF yn yd) 0 (forD op) [] = ([], 6)) ∨ ∃ p q, arF op xn xd yn yd = (p, q, 0) ∧ okF p q = true ∧ runDF (termsF xn xd) (termsF yn yd) 0 (forD op) [] = (termsF p q, 0) := by
    intro d u v hf hs he hu hv ha
    obtain ⟨_, l1, l2⟩ := dbl_law hs he hx hy bx bX by' bY hu hv
    rw [hf]
    by_cases hz : v = 0
    · exact .inl ⟨ha.1 hz, l1 hz⟩
    · obtain ⟨p, q, h1, h2, h3⟩ := l2 hz
      exact .inr ⟨p, q, (ha.2 hz).trans h1, h2, h3⟩
  have hbd : xd * yd ≠ 0 := ne_mul (by omega) (by omega)
  rcases (show op = 1 ∨ op = 2 ∨ op = 3 ∨ op = 4 by omega) with e | e | e | e
  · refine key ⟨0, 1, 1, 0, 0, 0, 0, 1⟩ (xn * yd + yn * xd) (xd * yd) (by rw [forD, if_pos e]) ⟨by simp, by simp, by simp, by simp, by simp, by simp, by simp, by simp⟩ ?_ (by simp; grind) (by simp) ⟨fun z => absurd z hbd, fun _ => by rw [arF, if_pos e]⟩
    cases q : enD ⟨0, 1, 1, 0, 0, 0, 0, 1⟩ with
    | false => rfl
    | true => have := (enD_iff.1 q).2.2.2; simp at this
  · refine key ⟨0, 1, -1, 0, 0, 0, 0, 1⟩ (xn * yd - yn * xd) (xd * yd) (by rw [forD, if_neg (by omega), if_pos e]) ⟨by simp, by simp, by simp, by simp, by simp, by simp, by simp, by simp⟩ ?_ (by simp; grind) (by simp) ⟨fun z => absurd z hbd, fun _ => by rw [arF, if_neg (by omega), if_pos e]⟩
    cases q : enD ⟨0, 1, -1, 0, 0, 0, 0, 1⟩ with
    | false => rfl
    | true => have := (enD_iff.1 q).2.2.2; simp at this
  · refine key ⟨1, 0, 0, 0, 0, 0, 0, 1⟩ (xn * yn) (xd * yd) (by rw [forD, if_neg (by omega), if_neg (by omega), if_pos e]) ⟨by simp, by simp, by simp, by simp, by simp, by simp, by simp, by simp⟩ ?_ (by simp) (by simp) ⟨fun z => absurd z hbd, fun _ => by rw [arF, if_neg (by omega), if_neg (by omega), if_pos e]⟩
    cases q : enD ⟨1, 0, 0, 0, 0, 0, 0, 1⟩ with
    | false => rfl
    | true => have := (enD_iff.1 q).2.2.2; simp at this
  · refine key ⟨0, 1, 0, 0, 0, 0, 1, 0⟩ (xn * yd) (xd * yn) (by rw [forD, if_neg (by omega), if_neg (by omega), if_neg (by omega)]) ⟨by simp, by simp, by simp, by simp, by simp, by simp, by simp, by simp⟩ ?_ (by simp) (by simp) ⟨fun z => ?_, fun z => ?_⟩
    · cases q : enD ⟨0, 1, 0, 0, 0, 0, 1, 0⟩ with
      | false => rfl
      | true => have := enD_iff.1 q; simp at this
    · have hy0 : yn = 0 := by
        rcases Int.mul_eq_zero.1 z with g | g
        · omega
        · exact g
      rw [arF, if_neg (by omega), if_neg (by omega), if_neg (by omega), if_pos hy0]
    · have hy0 : yn ≠ 0 := fun g => z (by rw [g]; simp)
      rw [arF, if_neg (by omega), if_neg (by omega), if_neg (by omega), if_neg hy0]
theorem cmpF_le {a b : Int} (h : a ≤ b) : cmpF a b ≤ 0 := by unfold cmpF; split <;> (try split) <;> omega
theorem le_cmpF {a b : Int} (h : ¬ 0 < cmpF a b) : a ≤ b := by unfold cmpF at h; split at h <;> (try split at h) <;> omega
theorem cmpF_ge {a b : Int} (h : 0 < cmpF a b ∨ cmpF a b = 0) : b ≤ a := by unfold cmpF at h; split at h <;> (try split at h) <;> omega
/-- No fraction with a denominator up to m is nearer than the told one. -/
theorem near_min {n d m x y u v : Int} (ok : okF n d = true) (hm : 1 ≤ m) (hr : nearestF n d m = (x, y)) (hv : 1 ≤ v ∧ v ≤ m) : cmpErrF n d x y u v ≤ 0 := by
  obtain ⟨⟨o1, o2⟩, _, o5⟩ := okF_iff.1 ok
  unfold cmpErrF
  refine cmpF_le ?_
  by_cases hmd : d ≤ m
  · rw [nearestF_eq (sidesF_own hmd)] at hr
    have hr' : (n, d) = (x, y) := by split at hr <;> exact hr
    simp only [Prod.mk.injEq] at hr'
    obtain ⟨rfl, rfl⟩ := hr'
    have : offF n d n d = 0 := by unfold offF; rw [show n * d - n * d = 0 by omega]; rfl
    rw [this, Int.zero_mul]
    exact Int.mul_nonneg (offF_nonneg _ _ _ _) (by omega)
  · obtain ⟨a, b, c, e, hs, x1, hx, p1, p2⟩ := second_sides o5 hm (show m < d by omega)
    rw [nearestF_eq hs] at hr
    have k1 := x1.hb; have k2 := x1.hd; have k5 := x1.lo; have k6 := x1.hi; have dt := x1.det
    have side : u * b ≤ a * v ∨ c * v ≤ u * e := by
      rcases Int.lt_or_le (a * v) (u * b) with g | g
      · right
        rcases Int.lt_or_le (u * e) (c * v) with q | q
        · exfalso
          have m1 := Int.mul_le_mul_of_nonneg_left (show 1 ≤ c * v - u * e by omega) (show 0 ≤ b by omega)
          have m2 := Int.mul_le_mul_of_nonneg_left (show 1 ≤ u * b - a * v by omega) (show 0 ≤ e by omega)
          have : b * (c * v - u * e) + e * (u * b - a * v) = (c * b - a * e) * v := by grind
          rw [dt] at this
          omega
        · exact q
      · exact .inl g
    have far : offF n d a b * v ≤ offF n d u v * b ∨ offF n d c e * v ≤ offF n d u v * e := by
      have hab : n * v - u * d ≤ offF n d u v ∧ -(n * v - u * d) ≤ offF n d u v := by unfold offF ab; omega
      rcases side with g | g
      · left
        have m1 := Int.mul_le_mul_of_nonneg_right hab.1 (show 0 ≤ b by omega)
        have m2 := Int.mul_le_mul_of_nonneg_right g (show 0 ≤ d by omega)
        have e1 : (n * v - u * d) * b = n * b * v - u * b * d := by grind
        have e2 : (n * b - a * d) * v = n * b * v - a * v * d := by grind
        rw [p1, e2]; omega
      · right
        have m1 := Int.mul_le_mul_of_nonneg_right hab.2 (show 0 ≤ e by omega)
        have m2 := Int.mul_le_mul_of_nonneg_right g (show 0 ≤ d by omega)
        have e1 : -(n * v - u * d) * e = u * e * d - n * e * v := by grind
        have e2 : (c * d - n * e) * v = c * v * d - n * e * v := by grind
        rw [p2, e2]; omega
    have tr : ∀ {A B x y : Int}, 1 ≤ x → 0 ≤ v → offF n d A B * x ≤ y * B → 1 ≤ B → y * v ≤ offF n d u v * x → offF n d A B * v ≤ offF n d u v * B := by
      intro A B x y hx hv h1 hB h2
      have m1 := Int.mul_le_mul_of_nonneg_right h1 hv
      have m2 := Int.mul_le_mul_of_nonneg_right h2 (show 0 ≤ B by omega)
      have e1 : offF n d A B * x * v = (offF n d A B * v) * x := by grind
      have e2 : y * B * v = y * v * B := by grind
      have e3 : offF n d u v * x * B = (offF n d u v * B) * x := by grind
      exact Int.le_of_mul_le_mul_right (by omega) (show 0 < x by omega)
    unfold cmpErrF at hr
    split at hr
    · rename_i hc
      simp only [Prod.mk.injEq] at hr
      obtain ⟨rfl, rfl⟩ := hr
      have hce : offF n d c e * b ≤ offF n d a b * e := cmpF_ge (by rcases hc with hc | hc; exact .inl hc; exact .inr hc.1)
      rcases far with f | f
      · exact tr k1 (by omega) hce k2 f
      · exact f
    · rename_i hc
      simp only [Prod.mk.injEq] at hr
      obtain ⟨rfl, rfl⟩ := hr
      have hce : offF n d a b * e ≤ offF n d c e * b := le_cmpF (fun z => hc (.inl z))
      rcases far with f | f
      · exact f
      · exact tr k2 (by omega) hce k1 f
theorem sp_smallT {n d m a b c e : Int} (x : SP n d m a b c e) (hm : m < d) (hn : -2000 ≤ n ∧ n ≤ 2000) : (-2001 ≤ a ∧ a ≤ 2001) ∧ (-2001 ≤ c ∧ c ≤ 2001) := by
  have q1 := x.hb; have q2 := x.hd; have q3 := x.bm; have q4 := x.dm
  have e1 := x.lo; have e2 := x.lo'; have e3 := x.hi; have e4 := x.hi'
  have bd : ∀ t s : Int, 1 ≤ s → s < d → -d ≤ n * s - t * d → n * s - t * d ≤ d → -2001 ≤ t ∧ t ≤ 2001 := by
    intro t s h1 h2 h3 h4
    have m1 := mulU (x := n) (y := s) (X := 2000) (Y := d) (by omega) hn (by omega)
    constructor
    · rcases Int.lt_or_le t (-2001) with g | g
      · have := Int.mul_le_mul_of_nonneg_right (show t ≤ -2002 by omega) (show 0 ≤ d by omega)
        omega
      · exact g
    · rcases Int.lt_or_le 2001 t with g | g
      · have := Int.mul_le_mul_of_nonneg_right (show 2002 ≤ t by omega) (show 0 ≤ d by omega)
        omega
      · exact g
  exact ⟨bd a b q1 (by omega) (by omega) (by omega), bd c e q2 (by omega) (by omega) (by omega)⟩
theorem smP_of {n d : Int} (hn : -1000000 ≤ n ∧ n ≤ 1000000) (hd : d ≤ 1000000) : smP (n, d) = true := by
  have : inB n (-1000000) 1000000 = true := inB_iff.2 hn
  simp [smP, this]; omega
theorem near_facts {n d m : Int} (ok : okF n d = true) (hn : -2000 ≤ n ∧ n ≤ 2000) (hd : d ≤ 2000) (hm : 1 ≤ m ∧ m ≤ 60) :
    ∃ x y, nearFrF n d m = ((x, y), 0) ∧ okF x y = true ∧ (1 ≤ y ∧ y ≤ m) ∧ ∀ u v, okF u v = true → 1 ≤ v ∧ v ≤ m → (-1000000 ≤ u ∧ u ≤ 1000000) → ∃ c, compErrF n d x y u v = (c, 0) ∧ c ≤ 0 := by
  obtain ⟨⟨o1, o2⟩, ⟨o3, o4⟩, o5⟩ := okF_iff.1 ok
  obtain ⟨⟨x, y⟩, hxy⟩ : ∃ r, nearestF n d m = r := ⟨_, rfl⟩
  have mc : mostC n d m = 0 := by
    have a1 : inB m 1 1000000 = true := inB_iff.2 (by omega)
    simp [mostC, bestC, okP, ok, a1, smP_of (n := n) (d := d) (by omega) (by omega)]
  have hx : okF x y = true ∧ (1 ≤ y ∧ y ≤ m) ∧ (-2001 ≤ x ∧ x ≤ 2001) := by
    by_cases hmd : d ≤ m
    · rw [nearestF_eq (sidesF_own hmd)] at hxy
      have hr' : (n, d) = (x, y) := by split at hxy <;> exact hxy
      simp only [Prod.mk.injEq] at hr'
      obtain ⟨rfl, rfl⟩ := hr'
      exact ⟨ok, by omega, by omega⟩
    · obtain ⟨a, b, c, e, hs, x1, _, _, _⟩ := second_sides o5 hm.1 (show m < d by omega)
      have sm := sp_smallT x1 (by omega) hn
      have k1 := x1.hb; have k2 := x1.hd; have k3 := x1.bm; have k4 := x1.dm; have dt := x1.det
      rw [nearestF_eq hs] at hxy
      split at hxy
      · simp only [Prod.mk.injEq] at hxy
        obtain ⟨rfl, rfl⟩ := hxy
        exact ⟨okF_iff.2 ⟨by omega, by omega, gcd_detV (x := a) (y := b) k2 (.inl (by omega))⟩, by omega, sm.2⟩
      · simp only [Prod.mk.injEq] at hxy
        obtain ⟨rfl, rfl⟩ := hxy
        exact ⟨okF_iff.2 ⟨by omega, by omega, gcd_detV (x := c) (y := e) k1 (.inr (by omega))⟩, by omega, sm.1⟩
  refine ⟨x, y, by rw [nearFrF, if_pos mc, hxy], hx.1, hx.2.1, fun u v hu hv hb => ⟨cmpErrF n d x y u v, ?_, near_min ok hm.1 hxy hv⟩⟩
  have hc : bestC true [(n, d), (x, y), (u, v)] = 0 := by
    simp [bestC, okP, ok, hx.1, hu, smP_of (n := n) (d := d) (by omega) (by omega), smP_of (n := x) (d := y) (by omega) (by omega), smP_of (n := u) (d := v) hb (by omega)]
  rw [compErrF, if_pos hc]

end Go.Proofs.Ytgkelemfbmmgnaa

