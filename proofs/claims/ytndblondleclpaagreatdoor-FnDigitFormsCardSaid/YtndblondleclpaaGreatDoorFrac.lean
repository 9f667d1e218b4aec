/- Fractions in lowest terms: making them, comparing them. Each theorem names its conditions. -/
import Derived.Test.YtndblondleclpaaGreatDoorOk
namespace Go.Proofs.YtndblondleclpaaGreatDoor
open Go.RowKit
set_option linter.unusedVariables false
set_option linter.unusedSimpArgs false

theorem gcdI_pos (a b : Int) (h : b ≠ 0) : 0 < gcdI a b := by
  unfold gcdI
  have : Int.gcd a b ≠ 0 := by rw [Ne, Int.gcd_eq_zero_iff]; exact fun q => h q.2
  omega
theorem gcdI_dvd_left (a b : Int) : gcdI a b ∣ a := Int.gcd_dvd_left a b
theorem gcdI_dvd_right (a b : Int) : gcdI a b ∣ b := Int.gcd_dvd_right a b
theorem gcdI_neg (a b : Int) : gcdI (-a) (-b) = gcdI a b := by simp [gcdI]
theorem gcdI_le (a b : Int) (h : 0 < b) : gcdI a b ≤ b := Int.le_of_dvd h (gcdI_dvd_right a b)
theorem quo_exact (a g : Int) (hg : 0 < g) (h : g ∣ a) : a.tdiv g = a / g := by
  rw [Int.tdiv_eq_ediv_of_dvd h]
theorem ediv_bd (a g m : Int) (hg : 0 < g) (h : -m ≤ a ∧ a ≤ m) (hm : 0 ≤ m) : -m ≤ a / g ∧ a / g ≤ m := by
  constructor
  · rw [Int.le_ediv_iff_mul_le hg]
    have : m * 1 ≤ m * g := Int.mul_le_mul_of_nonneg_left (by omega) hm
    have e : -m * g = -(m * g) := Int.neg_mul _ _
    omega
  · exact Int.le_trans (Int.ediv_le_ediv hg h.2) (Int.ediv_le_self _ hm)

/-- The fraction in lowest terms; den is positive. -/
def lowF (num den : Int) : Int × Int := (num / gcdI num den, den / gcdI num den)
/-- The plain fraction of two numbers and a code; den is not 0. -/
def fullF (num den : Int) : Int × Int × Int :=
  let x := if den < 0 then lowF (-num) (-den) else lowF num den
  if okF x.1 x.2 then (x.1, x.2, 0) else (0, 0, 5)
theorem fullF_eq (num den : Int) (n d : Int) (h : (if den < 0 then lowF (-num) (-den) else lowF num den) = (n, d)) : fullF num den = if okF n d then (n, d, 0) else (0, 0, 5) := by
  unfold fullF; rw [h]

set_option maxHeartbeats 400000 in
theorem lowF_any (num den : Int) (w : World) (hn : -9223372036854775808 < num) (hn' : num ≤ 9223372036854775807) (hd : 0 < den) (hd' : den ≤ 9223372036854775807) :
    Calls Tryz.prog 75 #[.int .i64 num, .int .i64 den] w fun e w' => e = .returned (.agg #[.int .i64 (lowF num den).1, .int .i64 (lowF num den).2]) ∧ Below w.heap.size w w' := by
  have ha := ab_nonneg num
  have hgp := gcdI_pos (ab num) den (by omega)
  have hgl := gcdI_le (ab num) den hd
  have hge : gcdI (ab num) den = gcdI num den := by rw [← gcdI_ab num den, ab_pos (show 0 ≤ den by omega)]
  have e1 : IntKind.i64.wrap (num.tdiv (gcdI (ab num) den)) = (lowF num den).1 := by
    rw [hge, quo_exact _ _ (by omega) (gcdI_dvd_left _ _)]
    have := ediv_bd num (gcdI num den) 9223372036854775807 (by omega) (by omega) (by omega)
    exact IntWalk.i64_in _ (by omega)
  have e2 : IntKind.i64.wrap (den.tdiv (gcdI (ab num) den)) = (lowF num den).2 := by
    rw [hge, quo_exact _ _ (by omega) (gcdI_dvd_right _ _)]
    have := ediv_bd den (gcdI num den) 9223372036854775807 (by omega) (by omega) (by omega)
    exact IntWalk.i64_in _ (by omega)
  have hz : (gcdI (ab num) den == 0) = false := by simp; omega
  have h01 : 0 ≤ den := by omega
  clear hge
  go_enter Tryz.func75, Tryz.ntmps75
  go_wp2_with (first | (go_at_call 123; refine (size_any _ _ (by omega)).mono ?_; rintro e w' ⟨rfl, rfl⟩) | (go_at_call 84; refine (lgcd_any _ _ _ (by omega) (by omega) (by omega)).mono ?_; rintro e w' ⟨rfl, rfl⟩))
  go_region
  all_goals go_wp2
  all_goals refine bodyPost_ret (v := .agg #[.int .i64 (lowF num den).1, .int .i64 (lowF num den).2]) (by simp only [results, Tryz.results75]; go_simp) rfl ⟨rfl, ?_⟩
  all_goals exact (((Below.refl _ _).alloc (Nat.le_refl _) _).drew)

theorem lowF_neg (num den : Int) : lowF (-num) (-den) = (-num / gcdI num den, -den / gcdI num den) := by simp [lowF, gcdI_neg]

set_option maxHeartbeats 800000 in
theorem full_any (num den : Int) (w : World) (hn : -9223372036854775808 < num) (hn' : num ≤ 9223372036854775807) (hd : den ≠ 0) (hd1 : -9223372036854775808 < den) (hd' : den ≤ 9223372036854775807) :
    Calls Tryz.prog 92 #[.int .i64 num, .int .i64 den] w fun e w' => e = .returned (.tuple #[.agg #[.int .i64 (fullF num den).1, .int .i64 (fullF num den).2.1], .int .i64 (fullF num den).2.2]) ∧ Bl w w' := by
  obtain ⟨n, d, hnd, HF⟩ : ∃ n d, (if den < 0 then lowF (-num) (-den) else lowF num den) = (n, d) ∧ Hid (fullF num den = if okF n d then (n, d, 0) else (0, 0, 5)) :=
    ⟨_, _, rfl, Lib.hid (fullF_eq num den _ _ rfl)⟩
  by_cases c : den < 0
  · rw [if_pos c] at hnd
    have E1 : (lowF (-num) (-den)).1 = n := by rw [hnd]
    have E2 : (lowF (-num) (-den)).2 = d := by rw [hnd]
    cases ho : okF n d with
    | false =>
      have HR := Lib.hid (show fullF num den = (0, 0, 5) by rw [HF.out, ho]; rfl)
      clear HF hnd
      go_enter Tryz.func92, Tryz.ntmps92
      go_wp2_with fail
      refine (lowF_any _ _ _ (by omega) (by omega) (by omega) (by omega)).mono ?_
      rintro e w1 ⟨rfl, hb1⟩
      have B1 : Bl w w1 := bl_call (bl_alloc (bl_refl _) _) hb1
      have xR_1 : Bx w1 (w.heap.size) #[.int .i64 0, .int .i64 0] := (Bx.new (b := w.heap.size) _ #[.int .i64 0, .int .i64 0] 45 (by simp)).below hb1
      obtain ⟨cR_1, fR_1, zR_1⟩ := xR_1.out
      go_wp2_with fail
      refine (ok_any _ _ _).mono ?_
      rintro e w2 ⟨rfl, hb2⟩
      have B2 : Bl w w2 := bl_call (bl_alloc B1 _) hb2
      have xR_2 : Bx w2 (w.heap.size) #[.int .i64 0, .int .i64 0] := (xR_1.alloc _).below hb2
      have xF_2 : Bx w2 (w1.heap.size) #[.int .i64 n, .int .i64 d] := (Bx.new (b := w1.heap.size) _ #[.int .i64 n, .int .i64 d] 45 (by simp)).below hb2
      clear cR_1 fR_1 zR_1
      obtain ⟨cR_2, fR_2, zR_2⟩ := xR_2.out
      obtain ⟨cF_2, fF_2, zF_2⟩ := xF_2.out
      go_wp2
      refine bodyPost_ret (v := .tuple #[.agg #[.int .i64 0, .int .i64 0], .int .i64 5]) (by simp only [results, Tryz.results92]; go_simp) rfl ?_
      exact ⟨by rw [HR.out], bl_set (bl_set B2 (by simp) _) (by simp) _⟩
    | true =>
      have HR := Lib.hid (show fullF num den = (n, d, 0) by rw [HF.out, ho]; rfl)
      clear HF hnd
      go_enter Tryz.func92, Tryz.ntmps92
      go_wp2_with fail
      refine (lowF_any _ _ _ (by omega) (by omega) (by omega) (by omega)).mono ?_
      rintro e w1 ⟨rfl, hb1⟩
      have B1 : Bl w w1 := bl_call (bl_alloc (bl_refl _) _) hb1
      have xR_1 : Bx w1 (w.heap.size) #[.int .i64 0, .int .i64 0] := (Bx.new (b := w.heap.size) _ #[.int .i64 0, .int .i64 0] 45 (by simp)).below hb1
      obtain ⟨cR_1, fR_1, zR_1⟩ := xR_1.out
      go_wp2_with fail
      refine (ok_any _ _ _).mono ?_
      rintro e w2 ⟨rfl, hb2⟩
      have B2 : Bl w w2 := bl_call (bl_alloc B1 _) hb2
      have xR_2 : Bx w2 (w.heap.size) #[.int .i64 0, .int .i64 0] := (xR_1.alloc _).below hb2
      have xF_2 : Bx w2 (w1.heap.size) #[.int .i64 n, .int .i64 d] := (Bx.new (b := w1.heap.size) _ #[.int .i64 n, .int .i64 d] 45 (by simp)).below hb2
      clear cR_1 fR_1 zR_1
      obtain ⟨cR_2, fR_2, zR_2⟩ := xR_2.out
      obtain ⟨cF_2, fF_2, zF_2⟩ := xF_2.out
      go_wp2
      refine bodyPost_ret (v := .tuple #[.agg #[.int .i64 n, .int .i64 d], .int .i64 0]) (by simp only [results, Tryz.results92]; go_simp) rfl ?_
      exact ⟨by rw [HR.out], bl_set (bl_set B2 (by simp) _) (by simp) _⟩
  · rw [if_neg c] at hnd
    have E1 : (lowF num den).1 = n := by rw [hnd]
    have E2 : (lowF num den).2 = d := by rw [hnd]
    cases ho : okF n d with
    | false =>
      have HR := Lib.hid (show fullF num den = (0, 0, 5) by rw [HF.out, ho]; rfl)
      clear HF hnd
      go_enter Tryz.func92, Tryz.ntmps92
      go_wp2_with fail
      refine (lowF_any _ _ _ (by omega) (by omega) (by omega) (by omega)).mono ?_
      rintro e w1 ⟨rfl, hb1⟩
      have B1 : Bl w w1 := bl_call (bl_alloc (bl_refl _) _) hb1
      have xR_1 : Bx w1 (w.heap.size) #[.int .i64 0, .int .i64 0] := (Bx.new (b := w.heap.size) _ #[.int .i64 0, .int .i64 0] 45 (by simp)).below hb1
      obtain ⟨cR_1, fR_1, zR_1⟩ := xR_1.out
      go_wp2_with fail
      refine (ok_any _ _ _).mono ?_
      rintro e w2 ⟨rfl, hb2⟩
      have B2 : Bl w w2 := bl_call (bl_alloc B1 _) hb2
      have xR_2 : Bx w2 (w.heap.size) #[.int .i64 0, .int .i64 0] := (xR_1.alloc _).below hb2
      have xF_2 : Bx w2 (w1.heap.size) #[.int .i64 n, .int .i64 d] := (Bx.new (b := w1.heap.size) _ #[.int .i64 n, .int .i64 d] 45 (by simp)).below hb2
      clear cR_1 fR_1 zR_1
      obtain ⟨cR_2, fR_2, zR_2⟩ := xR_2.out
      obtain ⟨cF_2, fF_2, zF_2⟩ := xF_2.out
      go_wp2
      refine bodyPost_ret (v := .tuple #[.agg #[.int .i64 0, .int .i64 0], .int .i64 5]) (by simp only [results, Tryz.results92]; go_simp) rfl ?_
      exact ⟨by rw [HR.out], bl_set (bl_set B2 (by simp) _) (by simp) _⟩
    | true =>
      have HR := Lib.hid (show fullF num den = (n, d, 0) by rw [HF.out, ho]; rfl)
      clear HF hnd
      go_enter Tryz.func92, Tryz.ntmps92
      go_wp2_with fail
      refine (lowF_any _ _ _ (by omega) (by omega) (by omega) (by omega)).mono ?_
      rintro e w1 ⟨rfl, hb1⟩
      have B1 : Bl w w1 := bl_call (bl_alloc (bl_refl _) _) hb1
      have xR_1 : Bx w1 (w.heap.size) #[.int .i64 0, .int .i64 0] := (Bx.new (b := w.heap.size) _ #[.int .i64 0, .int .i64 0] 45 (by simp)).below hb1
      obtain ⟨cR_1, fR_1, zR_1⟩ := xR_1.out
      go_wp2_with fail
      refine (ok_any _ _ _).mono ?_
      rintro e w2 ⟨rfl, hb2⟩
      have B2 : Bl w w2 := bl_call (bl_alloc B1 _) hb2
      have xR_2 : Bx w2 (w.heap.size) #[.int .i64 0, .int .i64 0] := (xR_1.alloc _).below hb2
      have xF_2 : Bx w2 (w1.heap.size) #[.int .i64 n, .int .i64 d] := (Bx.new (b := w1.heap.size) _ #[.int .i64 n, .int .i64 d] 45 (by simp)).below hb2
      clear cR_1 fR_1 zR_1
      obtain ⟨cR_2, fR_2, zR_2⟩ := xR_2.out
      obtain ⟨cF_2, fF_2, zF_2⟩ := xF_2.out
      go_wp2
      refine bodyPost_ret (v := .tuple #[.agg #[.int .i64 n, .int .i64 d], .int .i64 0]) (by simp only [results, Tryz.results92]; go_simp) rfl ?_
      exact ⟨by rw [HR.out], bl_set (bl_set B2 (by simp) _) (by simp) _⟩

end Go.Proofs.YtndblondleclpaaGreatDoor
