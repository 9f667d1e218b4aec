/- Some of the texts of this claim, joined in one file: CvV, VoT. -/
import Derived.Test.YtgkelemfbmmgnaaGreatMSv29
import Derived.Test.YtgkelemfbmmgnaaGreatMSv21
import Derived.Test.YtgkelemfbmmgnaaGreatMSv25
/- The last convergent of a fraction's terms is the fraction itself, and all of them are plain. Each theorem names its conditions. -/
namespace Go.Proofs.YtgkelemfbmmgnaaGreat
set_option linter.unusedVariables false
set_option linter.unusedSimpArgs false

theorem gcd_detV {p q x y : Int} (hq : 1 ≤ q) (h : p * y - x * q = 1 ∨ p * y - x * q = -1) : gcdI p q = 1 := by
  have d1 : (Int.gcd p q : Int) ∣ p := Int.gcd_dvd_left ..
  have d2 : (Int.gcd p q : Int) ∣ q := Int.gcd_dvd_right ..
  have d3 : (Int.gcd p q : Int) ∣ p * y - x * q := Int.dvd_sub (Int.dvd_mul_of_dvd_left d1) (Int.dvd_mul_of_dvd_right d2)
  have hp : 0 < (Int.gcd p q : Int) := by
    have : (Int.gcd p q : Int) ≠ 0 := by
      intro e
      rw [e] at d2
      have := Int.zero_dvd.1 d2
      omega
    omega
  show (Int.gcd p q : Int) = 1
  rcases h with e | e
  · rw [e] at d3
    have := Int.le_of_dvd (by omega) d3
    omega
  · rw [e] at d3
    have := Int.le_of_dvd (by omega) (Int.dvd_neg.1 (show (Int.gcd p q : Int) ∣ -(1 : Int) from d3))
    omega
/-- One step: the next convergent is plain. -/
theorem Eu.plainV {n d p p' q q' e u v : Int} (h : Eu n d p p' q q' e u v) (ok : okF n d = true) (hq : 0 < u) (h1 : 1 ≤ q) : okF p q = true := by
  obtain ⟨⟨o1, o2⟩, ⟨o3, o4⟩, o5⟩ := okF_iff.1 ok
  have e1 := h.hu; have e2 := h.hv; have dt := h.det; have q0 := h.qz'; have v0 := h.vz
  have hdet : p * q' - p' * q = 1 ∨ p * q' - p' * q = -1 := by rw [dt]; exact h.e1
  have hg := gcd_detV h1 hdet
  have m1 := Int.mul_le_mul_of_nonneg_left (show 1 ≤ u by omega) (show 0 ≤ q by omega)
  have m2 := Int.mul_nonneg q0 v0
  have hqd : q ≤ d := by omega
  by_cases hv : v = 0
  · subst hv
    have hu := h.last (by omega) o5
    subst hu
    refine okF_iff.2 ⟨by omega, ?_, hg⟩
    omega
  · rcases h.st with ⟨s1, _, _, _⟩ | ⟨s1, s2, s3, s4⟩
    · omega
    · have m3 := Int.mul_le_mul_of_nonneg_left (show 2 ≤ u by omega) (show 0 ≤ q by omega)
      have m4 := Int.mul_le_mul_of_nonneg_right h1 (show 0 ≤ u by omega)
      have k1 : p * d = q * n + e * v := by rw [e1, e2, ← dt]; grind
      have ev : -v ≤ e * v ∧ e * v ≤ v := by rcases h.e1 with k | k <;> rw [k] <;> omega
      have b1 := Int.mul_le_mul_of_nonneg_left o4 (show 0 ≤ q by omega)
      have b2 := Int.mul_le_mul_of_nonneg_left o3 (show 0 ≤ q by omega)
      have bp := pq_bd (p := p) (v0 := d) (M := 1000000000) (by omega) (by omega)
      exact okF_iff.2 ⟨by omega, by omega, hg⟩
theorem conv_valG {n d : Int} (ok : okF n d = true) (f : Nat) : ∀ (p p' q q' e u v : Int), v < f → 0 < v → Eu n d p p' q q' e u v → ∃ fs, convG (termsF u v) p q p' q' = some fs ∧ fs.getLast? = some (n, d) := by
  induction f with
  | zero => intro p p' q q' e u v h1 h2 h; omega
  | succ f ih =>
    intro p p' q q' e u v h1 h2 h
    have hx := h.next h2
    have b := rest_lt (n := u) h2
    have hq1 : 1 ≤ u / v * q + q' := by
      rcases h.st with ⟨t1, t2, _, _⟩ | ⟨t0, t1, t3, t4⟩
      · rw [t1, t2]; simp
      · have t5 : 1 ≤ u / v := Int.le_ediv_of_mul_le h2 (by omega)
        have := Int.mul_le_mul_of_nonneg_right t5 (show 0 ≤ q by omega)
        have := h.qz'
        omega
    have hp := hx.plainV ok h2 hq1
    rw [termsF_step h2, convG, if_pos hp]
    by_cases hr : u - u / v * v = 0
    · rw [hr, termsF_zero]
      rw [hr] at hx
      obtain ⟨⟨o1, _⟩, _, o5⟩ := okF_iff.1 ok
      have hv1 := hx.last (by omega) o5
      have e1 := hx.hu; have e2 := hx.hv
      rw [hv1] at e1 e2
      refine ⟨_, rfl, ?_⟩
      simp only [List.getLast?_singleton, Option.some.injEq, Prod.mk.injEq]
      rw [hv1]
      constructor <;> omega
    · obtain ⟨fs, h5, h6⟩ := ih _ _ _ _ _ _ _ (by omega) (by omega) hx
      refine ⟨_, by rw [h5]; rfl, ?_⟩
      have hne : fs ≠ [] := by intro e; rw [e] at h6; simp at h6
      rw [List.getLast?_cons_of_ne_nil hne]
      exact h6
/-- The value of a plain fraction's terms is the fraction. -/
theorem conv_val {n d : Int} (ok : okF n d = true) : ∃ fs, convL (termsF n d) = some fs ∧ fs.getLast? = some (n, d) := by
  obtain ⟨⟨o1, o2⟩, _, _⟩ := okF_iff.1 ok
  exact conv_valG ok (d.toNat + 1) 1 0 0 1 1 n d (by omega) (by omega) (Eu.start (by omega))

end Go.Proofs.YtgkelemfbmmgnaaGreat

/- The value of a plain fraction's terms: the program's ValueOfTerms. Each theorem names its conditions. -/
namespace Go.Proofs.YtgkelemfbmmgnaaGreat
open Go.RowKit
set_option linter.unusedVariables false
set_option linter.unusedSimpArgs false

theorem ivalT_eqV {va : Value} {xs : List Int} {b : Bool} (h : termsP xs = b) (w : World) (ha : Sl w va xs) (hl : xs.length ≤ 1048576) : Calls Tryz.prog 85 #[va] w fun e w' => e = .returned (.bool b) ∧ Bl w w' := h ▸ ivalT_any va xs w ha hl
set_option maxRecDepth 100000 in
set_option maxHeartbeats 3200000 in
theorem iconvOf_ok {va : Value} {xs : List Int} {fs : List (Int × Int)} (w : World) (ha : Sl w va xs) (hT : termsP xs = true) (hc : convL xs = some fs) :
    Calls Tryz.prog 62 #[va] w fun e w' => ∃ a c, e = .returned (.tuple #[.slice a fs.length c, .int .i64 0]) ∧ OwnF w' w.heap.size (.slice a fs.length c) fs ∧ Bl w w' := by
  have hl := (termsP_iff.1 hT).1
  have hb : ∀ x ∈ xs, -1000000000 ≤ x ∧ x ≤ 1000000000 := fun x hx => by
    obtain ⟨i, hi⟩ := List.getElem?_of_mem hx
    have := inB_iff.1 ((termsP_iff.1 hT).2 i x hi)
    unfold lowT at this
    split at this <;> omega
  have HT := Lib.hid hT
  have HC := Lib.hid hc
  have HA := Lib.hid ha
  have HB := Lib.hid hb
  obtain ⟨av, cv, rfl, hcv⟩ := ha.form
  clear hT hc ha hb
  go_enter Tryz.func62, Tryz.ntmps62
  go_wp2_with fail
  refine (ivalT_eqV HT.out _ HA.out (by omega)).mono ?_
  rintro e w1 ⟨rfl, hb1⟩
  have B1 : Bl w w1 := bl_call (bl_refl _) hb1
  go_wp2_with fail
  refine (convI_any _ xs _ (HA.out.below B1) (by omega) HB.out).mono ?_
  rintro e w2 ⟨a, k, c, rfl, HO, hb2⟩
  have B2 : Bl w w2 := bl_call B1 hb2
  rw [HC.out] at HO
  rw [HC.out]
  obtain ⟨a9, c9, e9, _⟩ := (show OwnF w2 w1.heap.size (.slice a k c) fs from HO).form
  obtain ⟨rfl, rfl, rfl⟩ : a = a9 ∧ k = fs.length ∧ c = c9 := by simpa using e9
  have HO := Lib.hid (show OwnF w2 w1.heap.size (.slice a fs.length c) fs from HO)
  clear e9
  go_wp2
  go_ret2
  exact ⟨a, c, rfl, HO.out.mono B1.size, B2⟩
set_option maxRecDepth 100000 in
set_option maxHeartbeats 3200000 in
theorem ivalue_ok {va : Value} {n d : Int} (w : World) (ha : Sl w va (termsF n d)) (ok : okF n d = true) :
    Calls Tryz.prog 23 #[va] w fun e w' => e = .returned (.tuple #[.agg #[.int .i64 n, .int .i64 d], .int .i64 0]) ∧ Bl w w' := by
  obtain ⟨⟨o1, o2⟩, ⟨o3, o4⟩, _⟩ := okF_iff.1 ok
  have hT := terms_okV (n := n) (d := d) (by omega) (by omega)
  obtain ⟨fs, hc, hlast⟩ := conv_val ok
  have hlen : 0 < fs.length := by
    rcases Nat.eq_zero_or_pos fs.length with e | e
    · rw [List.length_eq_zero_iff.1 e] at hlast; simp at hlast
    · exact e
  have hx : fs[fs.length - 1]? = some (n, d) := by rw [← List.getLast?_eq_getElem?]; exact hlast
  have hll : fs.length ≤ 60 := by
    have h1 := convG_len hc
    have h2 := termsF_60 (n := n) (d := d) (by omega) (by omega)
    omega
  have HT := Lib.hid hT
  have HC := Lib.hid hc
  have HA := Lib.hid ha
  have HX := Lib.hid hx
  obtain ⟨av, cv, hav, hcv⟩ := ha.form
  subst hav
  clear hT hc ha hx hlast
  go_enter Tryz.func23, Tryz.ntmps23
  go_wp2_with fail
  have B0 : Bl w (w.alloc (.cells #[.int .i64 0, .int .i64 0] 25)) := bl_alloc (bl_refl _) _
  have xR : Bx (w.alloc (.cells #[.int .i64 0, .int .i64 0] 25)) w.heap.size #[.int .i64 0, .int .i64 0] := Bx.new (b := w.heap.size) w _ _ rfl
  generalize w.alloc (.cells #[.int .i64 0, .int .i64 0] 25) = w0 at *
  refine (iconvOf_ok _ (HA.out.below B0) HT.out HC.out).mono ?_
  rintro e w1 ⟨a, c, rfl, HO, hb1⟩
  have B1 : Bl w w1 := bl_call B0 hb1
  have xR := xR.below hb1
  obtain ⟨cR, fR, zR⟩ := xR.out
  obtain ⟨b, o, rfl, n1, d1, hx1, c1, c2⟩ := HO.slF.cellAt (bl_refl _) (k := fs.length - 1) (by omega)
  obtain ⟨rfl, rfl⟩ : n1 = n ∧ d1 = d := by have := hx1.symm.trans HX.out; simpa using this
  clear hx1
  have hli : ((fs.length : Int) - 1) = ((fs.length - 1 : Nat) : Int) := by omega
  go_wp2
  refine bodyPost_ret (v := .tuple #[.agg #[.int .i64 n1, .int .i64 d1], .int .i64 0]) (by simp only [results, Tryz.results23]; go_simp) rfl ?_
  exact ⟨rfl, bl_set (bl_set B1 (by simp) _) (by simp) _⟩

end Go.Proofs.YtgkelemfbmmgnaaGreat

