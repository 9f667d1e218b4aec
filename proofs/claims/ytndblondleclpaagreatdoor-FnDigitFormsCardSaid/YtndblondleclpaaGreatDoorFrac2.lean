/- The program's fraction in lowest terms. Each theorem names its conditions. -/
import Derived.Test.YtndblondleclpaaGreatDoorFrac
namespace Go.Proofs.YtndblondleclpaaGreatDoor
open Go.RowKit
set_option linter.unusedVariables false
set_option linter.unusedSimpArgs false

theorem gcdB_any (a b : Int) (w : World) (ha : -9223372036854775808 < a) (hb : -9223372036854775808 < b) (hb' : b ≤ 9223372036854775807) :
    Calls Tryz.prog 124 #[.int .i64 a, .int .i64 b] w fun e w' => e = .returned (.int .i64 (gcdI a b)) ∧ Bl w w' :=
  (gcd_any a b w ha hb hb').mono fun _ _ h => ⟨h.1, h.2.below _⟩

theorem quo_neg (a g : Int) (hg : 0 < g) (h : g ∣ a) : a.tdiv (-g) = -a / g := by
  rw [Int.tdiv_neg, ← Int.neg_tdiv]
  exact quo_exact _ _ hg (Int.dvd_neg.2 h)

set_option maxHeartbeats 800000 in
theorem plain_any (num den : Int) (w : World) (hn : -9223372036854775808 < num) (hn' : num ≤ 9223372036854775807) (hd : den ≠ 0) (hd1 : -9223372036854775808 < den) (hd' : den ≤ 9223372036854775807) :
    Calls Tryz.prog 89 #[.int .i64 num, .int .i64 den] w fun e w' => e = .returned (.tuple #[.agg #[.int .i64 (fullF num den).1, .int .i64 (fullF num den).2.1], .int .i64 (fullF num den).2.2]) ∧ Bl w w' := by
  obtain ⟨n, d, hnd, HF⟩ : ∃ n d, (if den < 0 then lowF (-num) (-den) else lowF num den) = (n, d) ∧ Hid (fullF num den = if okF n d then (n, d, 0) else (0, 0, 5)) :=
    ⟨_, _, rfl, Lib.hid (fullF_eq num den _ _ rfl)⟩
  have hgp := gcdI_pos num den hd
  have hgl : gcdI num den ≤ 9223372036854775807 := by
    by_cases c : den < 0
    · have := gcdI_le (-num) (-den) (by omega); rw [gcdI_neg] at this; omega
    · have := gcdI_le num den (by omega); omega
  have b1 := ediv_bd num (gcdI num den) 9223372036854775807 hgp (by omega) (by omega)
  have b2 := ediv_bd den (gcdI num den) 9223372036854775807 hgp (by omega) (by omega)
  have b3 := ediv_bd (-num) (gcdI num den) 9223372036854775807 hgp (by omega) (by omega)
  have b4 := ediv_bd (-den) (gcdI num den) 9223372036854775807 hgp (by omega) (by omega)
  by_cases c : den < 0
  · rw [if_pos c] at hnd
    rw [lowF_neg] at hnd
    have e1 : IntKind.i64.wrap (-num.tdiv (gcdI num den)) = n := by
      rw [← Int.tdiv_neg, quo_neg _ _ hgp (gcdI_dvd_left _ _), IntWalk.i64_in _ (by omega)]; exact (Prod.mk.inj hnd).1
    have e2 : IntKind.i64.wrap (-den.tdiv (gcdI num den)) = d := by
      rw [← Int.tdiv_neg, quo_neg _ _ hgp (gcdI_dvd_right _ _), IntWalk.i64_in _ (by omega)]; exact (Prod.mk.inj hnd).2
    have hz : (-gcdI num den == 0) = false := by simp; omega
    have hz' : (gcdI num den == 0) = false := by simp; omega
    clear hnd b1 b2 b3 b4
    cases ho : okF n d with
    | false =>
      have HR := Lib.hid (show fullF num den = (0, 0, 5) by rw [HF.out, ho]; rfl)
      clear HF
      go_enter Tryz.func89, Tryz.ntmps89
      go_wp2_with fail
      refine (gcdB_any _ _ _ (by omega) (by omega) (by omega)).mono ?_
      rintro e w1 ⟨rfl, hb1⟩
      have B1 : Bl w w1 := bl_call (bl_alloc (bl_refl _) _) hb1
      have xR_1 : Bx w1 (w.heap.size) #[.int .i64 0, .int .i64 0] := (Bx.new (b := w.heap.size) _ #[.int .i64 0, .int .i64 0] 45 (by first | rfl | simp)).below hb1
      obtain ⟨cR_1, fR_1, zR_1⟩ := xR_1.out
      go_wp2
      go_region
      go_wp2_with fail
      refine (validF_any _ _ _).mono ?_
      rintro e w2 ⟨rfl, hb2⟩
      have B2 : Bl w w2 := bl_call (bl_drew (bl_alloc B1 _)) hb2
      have xR_2 : Bx w2 (w.heap.size) #[.int .i64 0, .int .i64 0] := (xR_1.alloc _).drew.below hb2
      have xF_2 : Bx w2 (w1.heap.size) #[.int .i64 n, .int .i64 d] := (Bx.new (b := w1.heap.size) _ #[.int .i64 n, .int .i64 d] 45 (by first | rfl | simp)).drew.below hb2
      clear cR_1 fR_1 zR_1
      obtain ⟨cR_2, fR_2, zR_2⟩ := xR_2.out
      obtain ⟨cF_2, fF_2, zF_2⟩ := xF_2.out
      go_wp2
      refine bodyPost_ret (v := .tuple #[.agg #[.int .i64 0, .int .i64 0], .int .i64 5]) (by simp only [results, Tryz.results89]; go_simp) rfl ?_
      exact ⟨by rw [HR.out], bl_set (bl_set B2 (by first | exact Nat.le_refl _ | (simp; done) | (simp; omega)) _) (by first | exact Nat.le_refl _ | (simp; done) | (simp; omega)) _⟩
    | true =>
      have HR := Lib.hid (show fullF num den = (n, d, 0) by rw [HF.out, ho]; rfl)
      clear HF
      go_enter Tryz.func89, Tryz.ntmps89
      go_wp2_with fail
      refine (gcdB_any _ _ _ (by omega) (by omega) (by omega)).mono ?_
      rintro e w1 ⟨rfl, hb1⟩
      have B1 : Bl w w1 := bl_call (bl_alloc (bl_refl _) _) hb1
      have xR_1 : Bx w1 (w.heap.size) #[.int .i64 0, .int .i64 0] := (Bx.new (b := w.heap.size) _ #[.int .i64 0, .int .i64 0] 45 (by first | rfl | simp)).below hb1
      obtain ⟨cR_1, fR_1, zR_1⟩ := xR_1.out
      go_wp2
      go_region
      go_wp2_with fail
      refine (validF_any _ _ _).mono ?_
      rintro e w2 ⟨rfl, hb2⟩
      have B2 : Bl w w2 := bl_call (bl_drew (bl_alloc B1 _)) hb2
      have xR_2 : Bx w2 (w.heap.size) #[.int .i64 0, .int .i64 0] := (xR_1.alloc _).drew.below hb2
      have xF_2 : Bx w2 (w1.heap.size) #[.int .i64 n, .int .i64 d] := (Bx.new (b := w1.heap.size) _ #[.int .i64 n, .int .i64 d] 45 (by first | rfl | simp)).drew.below hb2
      clear cR_1 fR_1 zR_1
      obtain ⟨cR_2, fR_2, zR_2⟩ := xR_2.out
      obtain ⟨cF_2, fF_2, zF_2⟩ := xF_2.out
      go_wp2
      refine bodyPost_ret (v := .tuple #[.agg #[.int .i64 n, .int .i64 d], .int .i64 0]) (by simp only [results, Tryz.results89]; go_simp) rfl ?_
      exact ⟨by rw [HR.out], bl_set (bl_set B2 (by first | exact Nat.le_refl _ | (simp; done) | (simp; omega)) _) (by first | exact Nat.le_refl _ | (simp; done) | (simp; omega)) _⟩
  · rw [if_neg c] at hnd
    have e1 : IntKind.i64.wrap (num.tdiv (gcdI num den)) = n := by
      rw [quo_exact _ _ hgp (gcdI_dvd_left _ _), IntWalk.i64_in _ (by omega)]; exact (Prod.mk.inj hnd).1
    have e2 : IntKind.i64.wrap (den.tdiv (gcdI num den)) = d := by
      rw [quo_exact _ _ hgp (gcdI_dvd_right _ _), IntWalk.i64_in _ (by omega)]; exact (Prod.mk.inj hnd).2
    have hz : (gcdI num den == 0) = false := by simp; omega
    clear hnd b1 b2 b3 b4
    cases ho : okF n d with
    | false =>
      have HR := Lib.hid (show fullF num den = (0, 0, 5) by rw [HF.out, ho]; rfl)
      clear HF
      go_enter Tryz.func89, Tryz.ntmps89
      go_wp2_with fail
      refine (gcdB_any _ _ _ (by omega) (by omega) (by omega)).mono ?_
      rintro e w1 ⟨rfl, hb1⟩
      have B1 : Bl w w1 := bl_call (bl_alloc (bl_refl _) _) hb1
      have xR_1 : Bx w1 (w.heap.size) #[.int .i64 0, .int .i64 0] := (Bx.new (b := w.heap.size) _ #[.int .i64 0, .int .i64 0] 45 (by first | rfl | simp)).below hb1
      obtain ⟨cR_1, fR_1, zR_1⟩ := xR_1.out
      go_wp2
      go_region
      go_wp2_with fail
      refine (validF_any _ _ _).mono ?_
      rintro e w2 ⟨rfl, hb2⟩
      have B2 : Bl w w2 := bl_call (bl_drew (bl_alloc B1 _)) hb2
      have xR_2 : Bx w2 (w.heap.size) #[.int .i64 0, .int .i64 0] := (xR_1.alloc _).drew.below hb2
      have xF_2 : Bx w2 (w1.heap.size) #[.int .i64 n, .int .i64 d] := (Bx.new (b := w1.heap.size) _ #[.int .i64 n, .int .i64 d] 45 (by first | rfl | simp)).drew.below hb2
      clear cR_1 fR_1 zR_1
      obtain ⟨cR_2, fR_2, zR_2⟩ := xR_2.out
      obtain ⟨cF_2, fF_2, zF_2⟩ := xF_2.out
      go_wp2
      refine bodyPost_ret (v := .tuple #[.agg #[.int .i64 0, .int .i64 0], .int .i64 5]) (by simp only [results, Tryz.results89]; go_simp) rfl ?_
      exact ⟨by rw [HR.out], bl_set (bl_set B2 (by first | exact Nat.le_refl _ | (simp; done) | (simp; omega)) _) (by first | exact Nat.le_refl _ | (simp; done) | (simp; omega)) _⟩
    | true =>
      have HR := Lib.hid (show fullF num den = (n, d, 0) by rw [HF.out, ho]; rfl)
      clear HF
      go_enter Tryz.func89, Tryz.ntmps89
      go_wp2_with fail
      refine (gcdB_any _ _ _ (by omega) (by omega) (by omega)).mono ?_
      rintro e w1 ⟨rfl, hb1⟩
      have B1 : Bl w w1 := bl_call (bl_alloc (bl_refl _) _) hb1
      have xR_1 : Bx w1 (w.heap.size) #[.int .i64 0, .int .i64 0] := (Bx.new (b := w.heap.size) _ #[.int .i64 0, .int .i64 0] 45 (by first | rfl | simp)).below hb1
      obtain ⟨cR_1, fR_1, zR_1⟩ := xR_1.out
      go_wp2
      go_region
      go_wp2_with fail
      refine (validF_any _ _ _).mono ?_
      rintro e w2 ⟨rfl, hb2⟩
      have B2 : Bl w w2 := bl_call (bl_drew (bl_alloc B1 _)) hb2
      have xR_2 : Bx w2 (w.heap.size) #[.int .i64 0, .int .i64 0] := (xR_1.alloc _).drew.below hb2
      have xF_2 : Bx w2 (w1.heap.size) #[.int .i64 n, .int .i64 d] := (Bx.new (b := w1.heap.size) _ #[.int .i64 n, .int .i64 d] 45 (by first | rfl | simp)).drew.below hb2
      clear cR_1 fR_1 zR_1
      obtain ⟨cR_2, fR_2, zR_2⟩ := xR_2.out
      obtain ⟨cF_2, fF_2, zF_2⟩ := xF_2.out
      go_wp2
      refine bodyPost_ret (v := .tuple #[.agg #[.int .i64 n, .int .i64 d], .int .i64 0]) (by simp only [results, Tryz.results89]; go_simp) rfl ?_
      exact ⟨by rw [HR.out], bl_set (bl_set B2 (by first | exact Nat.le_refl _ | (simp; done) | (simp; omega)) _) (by first | exact Nat.le_refl _ | (simp; done) | (simp; omega)) _⟩

end Go.Proofs.YtndblondleclpaaGreatDoor
