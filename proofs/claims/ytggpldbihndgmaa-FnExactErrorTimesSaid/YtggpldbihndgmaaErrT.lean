/- ErrorTimes: the program and the reference give the same. No condition. -/
import Derived.Test.YtggpldbihndgmaaCmp
namespace Go.Proofs.Ytggpldbihndgmaa
open Go.RowKit
set_option linter.unusedVariables false
set_option linter.unusedSimpArgs false

/-- The error times a denominator, and a code. -/
def errTimesF (n d m e : Int) : (Int × Int) × Int :=
  if okF n d && okF m e then (((fullF (offF n d m e) d).1, (fullF (offF n d m e) d).2.1), (fullF (offF n d m e) d).2.2) else ((0, 0), 1)
theorem ret_fi {r : (Int × Int) × Int} {x y c : Int} (h : r = ((x, y), c)) : Ending.returned (.tuple #[.agg #[.int .i64 x, .int .i64 y], .int .i64 c]) = .returned (.tuple #[.agg #[.int .i64 r.1.1, .int .i64 r.1.2], .int .i64 r.2]) := by subst h; rfl
theorem ok_prods {n d m e : Int} (h1 : okF n d = true) (h2 : okF m e = true) : (1 ≤ d ∧ d ≤ 1000000000) ∧ (-1000000000000000000 ≤ n * e ∧ n * e ≤ 1000000000000000000) ∧ (-1000000000000000000 ≤ m * d ∧ m * d ≤ 1000000000000000000) ∧ (0 ≤ offF n d m e ∧ offF n d m e ≤ 2000000000000000000) := by
  obtain ⟨⟨a1, a2⟩, ⟨a3, a4⟩, _⟩ := okF_iff.1 h1
  obtain ⟨⟨b1, b2⟩, ⟨b3, b4⟩, _⟩ := okF_iff.1 h2
  have p1 := mul_bd (X := 1000000000) (Y := 1000000000) a3 a4 (by omega) b2
  have p2 := mul_bd (X := 1000000000) (Y := 1000000000) b3 b4 (by omega) a2
  exact ⟨⟨a1, a2⟩, by omega, by omega, offF_nonneg _ _ _ _, ab_le (by omega)⟩
theorem sizeB_any (n : Int) (w : World) (h : -9223372036854775808 < n) : Calls Try.prog 56 #[.int .i64 n] w fun e w' => e = .returned (.int .i64 (ab n)) ∧ Bl w w' :=
  (size_any n w h).mono fun _ _ h => ⟨h.1, by rw [← h.2]; exact bl_refl w⟩

set_option maxRecDepth 100000 in
set_option maxHeartbeats 1600000 in
theorem impl_ErrorTimes (n d m e : Int) (w : World) :
    Calls Try.prog 26 #[.agg #[.int .i64 n, .int .i64 d], .agg #[.int .i64 m, .int .i64 e]] w fun r w' => r = .returned (.tuple #[.agg #[.int .i64 (errTimesF n d m e).1.1, .int .i64 (errTimesF n d m e).1.2], .int .i64 (errTimesF n d m e).2]) ∧ Bl w w' := by
  cases e1 : okF n d with
  | false =>
    have HR := Lib.hid (show errTimesF n d m e = ((0, 0), 1) by simp [errTimesF, e1])
    go_enter Try.func26, Try.ntmps26
    go_wp2_with fail
    refine (validF_any n d _).mono ?_
    rintro e w1 ⟨rfl, hb1⟩
    have B1 : Bl w w1 := bl_call (bl_alloc (bl_alloc (bl_alloc (bl_refl _) _) _) _) hb1
    have xF_1 : Bx w1 (w.heap.size) #[.int .i64 n, .int .i64 d] := (((Bx.new (b := w.heap.size) _ #[.int .i64 n, .int .i64 d] 35 (by first | rfl | simp)).alloc _).alloc _).below hb1
    have xX_1 : Bx w1 (w.heap.size + 1) #[.int .i64 m, .int .i64 e] := ((Bx.new (b := w.heap.size + 1) _ #[.int .i64 m, .int .i64 e] 35 (by first | rfl | simp)).alloc _).below hb1
    have xR_1 : Bx w1 (w.heap.size + 1 + 1) #[.int .i64 0, .int .i64 0] := (Bx.new (b := w.heap.size + 1 + 1) _ #[.int .i64 0, .int .i64 0] 35 (by first | rfl | simp)).below hb1
    obtain ⟨cF_1, fF_1, zF_1⟩ := xF_1.out
    obtain ⟨cX_1, fX_1, zX_1⟩ := xX_1.out
    obtain ⟨cR_1, fR_1, zR_1⟩ := xR_1.out
    go_wp2
    refine bodyPost_ret (v := .tuple #[.agg #[.int .i64 0, .int .i64 0], .int .i64 1]) (by simp only [results, Try.results26]; go_simp) rfl ?_
    exact ⟨ret_fi HR.out, bl_set (bl_set B1 (by first | exact Nat.le_refl _ | (simp; done) | (simp; omega)) _) (by first | exact Nat.le_refl _ | (simp; done) | (simp; omega)) _⟩
  | true =>
    cases e2 : okF m e with
    | false =>
      have HR := Lib.hid (show errTimesF n d m e = ((0, 0), 1) by simp [errTimesF, e1, e2])
      go_enter Try.func26, Try.ntmps26
      go_wp2_with fail
      refine (validF_any n d _).mono ?_
      rintro e w1 ⟨rfl, hb1⟩
      have B1 : Bl w w1 := bl_call (bl_alloc (bl_alloc (bl_alloc (bl_refl _) _) _) _) hb1
      have xF_1 : Bx w1 (w.heap.size) #[.int .i64 n, .int .i64 d] := (((Bx.new (b := w.heap.size) _ #[.int .i64 n, .int .i64 d] 35 (by first | rfl | simp)).alloc _).alloc _).below hb1
      have xX_1 : Bx w1 (w.heap.size + 1) #[.int .i64 m, .int .i64 e] := ((Bx.new (b := w.heap.size + 1) _ #[.int .i64 m, .int .i64 e] 35 (by first | rfl | simp)).alloc _).below hb1
      have xR_1 : Bx w1 (w.heap.size + 1 + 1) #[.int .i64 0, .int .i64 0] := (Bx.new (b := w.heap.size + 1 + 1) _ #[.int .i64 0, .int .i64 0] 35 (by first | rfl | simp)).below hb1
      obtain ⟨cF_1, fF_1, zF_1⟩ := xF_1.out
      obtain ⟨cX_1, fX_1, zX_1⟩ := xX_1.out
      obtain ⟨cR_1, fR_1, zR_1⟩ := xR_1.out
      go_wp2_with fail
      refine (validF_any m e _).mono ?_
      rintro e w2 ⟨rfl, hb2⟩
      have B2 : Bl w w2 := bl_call B1 hb2
      have xF_2 : Bx w2 (w.heap.size) #[.int .i64 n, .int .i64 d] := xF_1.below hb2
      have xX_2 : Bx w2 (w.heap.size + 1) #[.int .i64 m, .int .i64 e] := xX_1.below hb2
      have xR_2 : Bx w2 (w.heap.size + 1 + 1) #[.int .i64 0, .int .i64 0] := xR_1.below hb2
      clear cF_1 fF_1 zF_1 cX_1 fX_1 zX_1 cR_1 fR_1 zR_1
      obtain ⟨cF_2, fF_2, zF_2⟩ := xF_2.out
      obtain ⟨cX_2, fX_2, zX_2⟩ := xX_2.out
      obtain ⟨cR_2, fR_2, zR_2⟩ := xR_2.out
      go_wp2
      refine bodyPost_ret (v := .tuple #[.agg #[.int .i64 0, .int .i64 0], .int .i64 1]) (by simp only [results, Try.results26]; go_simp) rfl ?_
      exact ⟨ret_fi HR.out, bl_set (bl_set B2 (by first | exact Nat.le_refl _ | (simp; done) | (simp; omega)) _) (by first | exact Nat.le_refl _ | (simp; done) | (simp; omega)) _⟩
    | true =>
      have HR := Lib.hid (show errTimesF n d m e = (((fullF (offF n d m e) d).1, (fullF (offF n d m e) d).2.1), (fullF (offF n d m e) d).2.2) by simp [errTimesF, e1, e2])
      obtain ⟨⟨q1, q2⟩, ⟨q3, q4⟩, ⟨q5, q6⟩, ⟨q7, q8⟩⟩ := ok_prods e1 e2
      go_enter Try.func26, Try.ntmps26
      go_wp2_with fail
      refine (validF_any n d _).mono ?_
      rintro e w1 ⟨rfl, hb1⟩
      have B1 : Bl w w1 := bl_call (bl_alloc (bl_alloc (bl_alloc (bl_refl _) _) _) _) hb1
      have xF_1 : Bx w1 (w.heap.size) #[.int .i64 n, .int .i64 d] := (((Bx.new (b := w.heap.size) _ #[.int .i64 n, .int .i64 d] 35 (by first | rfl | simp)).alloc _).alloc _).below hb1
      have xX_1 : Bx w1 (w.heap.size + 1) #[.int .i64 m, .int .i64 e] := ((Bx.new (b := w.heap.size + 1) _ #[.int .i64 m, .int .i64 e] 35 (by first | rfl | simp)).alloc _).below hb1
      have xR_1 : Bx w1 (w.heap.size + 1 + 1) #[.int .i64 0, .int .i64 0] := (Bx.new (b := w.heap.size + 1 + 1) _ #[.int .i64 0, .int .i64 0] 35 (by first | rfl | simp)).below hb1
      obtain ⟨cF_1, fF_1, zF_1⟩ := xF_1.out
      obtain ⟨cX_1, fX_1, zX_1⟩ := xX_1.out
      obtain ⟨cR_1, fR_1, zR_1⟩ := xR_1.out
      go_wp2_with fail
      refine (validF_any m e _).mono ?_
      rintro e w2 ⟨rfl, hb2⟩
      have B2 : Bl w w2 := bl_call B1 hb2
      have xF_2 : Bx w2 (w.heap.size) #[.int .i64 n, .int .i64 d] := xF_1.below hb2
      have xX_2 : Bx w2 (w.heap.size + 1) #[.int .i64 m, .int .i64 e] := xX_1.below hb2
      have xR_2 : Bx w2 (w.heap.size + 1 + 1) #[.int .i64 0, .int .i64 0] := xR_1.below hb2
      clear cF_1 fF_1 zF_1 cX_1 fX_1 zX_1 cR_1 fR_1 zR_1
      obtain ⟨cF_2, fF_2, zF_2⟩ := xF_2.out
      obtain ⟨cX_2, fX_2, zX_2⟩ := xX_2.out
      obtain ⟨cR_2, fR_2, zR_2⟩ := xR_2.out
      go_wp2_with fail
      go_region_held3 (fun w' => w'.cell? ⟨w.heap.size, 0, none⟩ = some (.int .i64 n) ∧ w'.cell? ⟨w.heap.size, 1, none⟩ = some (.int .i64 d) ∧ w'.cell? ⟨w.heap.size + 1, 0, none⟩ = some (.int .i64 m) ∧ w'.cell? ⟨w.heap.size + 1, 1, none⟩ = some (.int .i64 e)) (first | (simp [*]; done) | (go_simp; done) | go_keep)
        (first | (go_at_call 59; go_must (refine (ioff_any n d m e _ (by omega) (by omega) (by omega) (by omega)).mono ?_; rintro e w3 ⟨rfl, hb3⟩; have B3 : Bl w w3 := bl_call (bl_drew B2) hb3; have xF_3 : Bx w3 (w.heap.size) #[.int .i64 n, .int .i64 d] := xF_2.drew.below hb3; have xX_3 : Bx w3 (w.heap.size + 1) #[.int .i64 m, .int .i64 e] := xX_2.drew.below hb3; have xR_3 : Bx w3 (w.heap.size + 1 + 1) #[.int .i64 0, .int .i64 0] := xR_2.drew.below hb3; clear cF_2 fF_2 zF_2 cX_2 fX_2 zX_2 cR_2 fR_2 zR_2; obtain ⟨cF_3, fF_3, zF_3⟩ := xF_3.out; obtain ⟨cX_3, fX_3, zX_3⟩ := xX_3.out; obtain ⟨cR_3, fR_3, zR_3⟩ := xR_3.out)) | (go_at_call 58; go_must (refine (plain_any (offF n d m e) d _ (by omega) (by omega) (by omega) (by omega) (by omega)).mono ?_; rintro e w4 ⟨rfl, hb4⟩; have B4 : Bl w w4 := bl_call B3 hb4; have xF_4 : Bx w4 (w.heap.size) #[.int .i64 n, .int .i64 d] := xF_3.below hb4; have xX_4 : Bx w4 (w.heap.size + 1) #[.int .i64 m, .int .i64 e] := xX_3.below hb4; have xR_4 : Bx w4 (w.heap.size + 1 + 1) #[.int .i64 0, .int .i64 0] := xR_3.below hb4; clear cF_3 fF_3 zF_3 cX_3 fX_3 zX_3 cR_3 fR_3 zR_3; obtain ⟨cF_4, fF_4, zF_4⟩ := xF_4.out; obtain ⟨cX_4, fX_4, zX_4⟩ := xX_4.out; obtain ⟨cR_4, fR_4, zR_4⟩ := xR_4.out)))
      go_wp2
      refine bodyPost_ret (v := .tuple #[.agg #[.int .i64 (fullF (offF n d m e) d).1, .int .i64 (fullF (offF n d m e) d).2.1], .int .i64 (fullF (offF n d m e) d).2.2]) (by simp only [results, Try.results26]; go_simp) rfl ?_
      exact ⟨ret_fi HR.out, bl_set (bl_set B4 (by first | exact Nat.le_refl _ | (simp; done) | (simp; omega)) _) (by first | exact Nat.le_refl _ | (simp; done) | (simp; omega)) _⟩

/-- The code of two fractions. -/
def twoC (n d m e : Int) : Int := if okF n d && okF m e then 0 else 1
set_option maxHeartbeats 800000 in
theorem two_any (n d m e : Int) (w : World) :
    Calls Try.prog 53 #[.agg #[.int .i64 n, .int .i64 d], .agg #[.int .i64 m, .int .i64 e]] w fun r w' => r = .returned (.int .i64 (twoC n d m e)) ∧ Bl w w' := by
  cases e1 : okF n d with
  | false =>
    have HR := Lib.hid (show (1 : Int) = twoC n d m e by simp [twoC, e1])
    go_enter Try.func53, Try.ntmps53
    go_wp2_with fail
    refine (ok_any n d _).mono ?_
    rintro e w1 ⟨rfl, hb1⟩
    have B1 : Bl w w1 := bl_call (bl_alloc (bl_alloc (bl_refl _) _) _) hb1
    have xF_1 : Bx w1 (w.heap.size) #[.int .i64 n, .int .i64 d] := ((Bx.new (b := w.heap.size) _ #[.int .i64 n, .int .i64 d] 35 (by first | rfl | simp)).alloc _).below hb1
    have xX_1 : Bx w1 (w.heap.size + 1) #[.int .i64 m, .int .i64 e] := (Bx.new (b := w.heap.size + 1) _ #[.int .i64 m, .int .i64 e] 35 (by first | rfl | simp)).below hb1
    obtain ⟨cF_1, fF_1, zF_1⟩ := xF_1.out
    obtain ⟨cX_1, fX_1, zX_1⟩ := xX_1.out
    go_wp2
    go_ret
    exact ⟨ret_int HR.out, B1⟩
  | true =>
    cases e2 : okF m e with
    | false =>
      have HR := Lib.hid (show (1 : Int) = twoC n d m e by simp [twoC, e1, e2])
      go_enter Try.func53, Try.ntmps53
      go_wp2_with fail
      refine (ok_any n d _).mono ?_
      rintro e w1 ⟨rfl, hb1⟩
      have B1 : Bl w w1 := bl_call (bl_alloc (bl_alloc (bl_refl _) _) _) hb1
      have xF_1 : Bx w1 (w.heap.size) #[.int .i64 n, .int .i64 d] := ((Bx.new (b := w.heap.size) _ #[.int .i64 n, .int .i64 d] 35 (by first | rfl | simp)).alloc _).below hb1
      have xX_1 : Bx w1 (w.heap.size + 1) #[.int .i64 m, .int .i64 e] := (Bx.new (b := w.heap.size + 1) _ #[.int .i64 m, .int .i64 e] 35 (by first | rfl | simp)).below hb1
      obtain ⟨cF_1, fF_1, zF_1⟩ := xF_1.out
      obtain ⟨cX_1, fX_1, zX_1⟩ := xX_1.out
      go_wp2_with fail
      refine (ok_any m e _).mono ?_
      rintro e w2 ⟨rfl, hb2⟩
      have B2 : Bl w w2 := bl_call B1 hb2
      have xF_2 : Bx w2 (w.heap.size) #[.int .i64 n, .int .i64 d] := xF_1.below hb2
      have xX_2 : Bx w2 (w.heap.size + 1) #[.int .i64 m, .int .i64 e] := xX_1.below hb2
      clear cF_1 fF_1 zF_1 cX_1 fX_1 zX_1
      obtain ⟨cF_2, fF_2, zF_2⟩ := xF_2.out
      obtain ⟨cX_2, fX_2, zX_2⟩ := xX_2.out
      go_wp2
      go_ret
      exact ⟨ret_int HR.out, B2⟩
    | true =>
      have HR := Lib.hid (show (0 : Int) = twoC n d m e by simp [twoC, e1, e2])
      go_enter Try.func53, Try.ntmps53
      go_wp2_with fail
      refine (ok_any n d _).mono ?_
      rintro e w1 ⟨rfl, hb1⟩
      have B1 : Bl w w1 := bl_call (bl_alloc (bl_alloc (bl_refl _) _) _) hb1
      have xF_1 : Bx w1 (w.heap.size) #[.int .i64 n, .int .i64 d] := ((Bx.new (b := w.heap.size) _ #[.int .i64 n, .int .i64 d] 35 (by first | rfl | simp)).alloc _).below hb1
      have xX_1 : Bx w1 (w.heap.size + 1) #[.int .i64 m, .int .i64 e] := (Bx.new (b := w.heap.size + 1) _ #[.int .i64 m, .int .i64 e] 35 (by first | rfl | simp)).below hb1
      obtain ⟨cF_1, fF_1, zF_1⟩ := xF_1.out
      obtain ⟨cX_1, fX_1, zX_1⟩ := xX_1.out
      go_wp2_with fail
      refine (ok_any m e _).mono ?_
      rintro e w2 ⟨rfl, hb2⟩
      have B2 : Bl w w2 := bl_call B1 hb2
      have xF_2 : Bx w2 (w.heap.size) #[.int .i64 n, .int .i64 d] := xF_1.below hb2
      have xX_2 : Bx w2 (w.heap.size + 1) #[.int .i64 m, .int .i64 e] := xX_1.below hb2
      clear cF_1 fF_1 zF_1 cX_1 fX_1 zX_1
      obtain ⟨cF_2, fF_2, zF_2⟩ := xF_2.out
      obtain ⟨cX_2, fX_2, zX_2⟩ := xX_2.out
      go_wp2
      go_ret
      exact ⟨ret_int HR.out, B2⟩

set_option maxHeartbeats 800000 in
theorem big_any (a b : Int) (w : World) (h1 : -1000000000 ≤ a) (h2 : a ≤ 1000000000) (h3 : -1000000000 ≤ b) (h4 : b ≤ 1000000000) :
    Calls Try.prog 54 #[.int .i64 a, .int .i64 b] w fun r w' => r = .returned (.bool true) ∧ w = w' := by
  by_cases h0 : a = 0
  · subst h0
    go_enter Try.func54, Try.ntmps54
    go_wp2
    go_ret
    exact ⟨rfl, rfl⟩
  · have hz : (a == 0) = false := by simp [h0]
    have ha1 : 1 ≤ ab a := by unfold ab; omega
    have ha2 : ab a ≤ 1000000000 := ab_le (by omega)
    have hb2 : ab b ≤ 1000000000 := ab_le (by omega)
    have hq : 1000000000 ≤ 1000000000000000000 / ab a := by
      rw [Int.le_ediv_iff_mul_le (by omega)]
      omega
    have hle : decide (ab b ≤ 1000000000000000000 / ab a) = true := by simp; omega
    have hz' : (ab a == 0) = false := by simp; omega
    clear h0
    go_enter Try.func54, Try.ntmps54
    go_wp2_with (go_at_call 56; refine (size_any _ _ (by omega)).mono ?_; rintro e w' ⟨rfl, rfl⟩)
    go_ret
    exact ⟨rfl, rfl⟩

set_option maxRecDepth 100000 in
set_option maxHeartbeats 1600000 in
theorem spec_ErrorTimes (n d m e : Int) (w : World) :
    Calls Try.prog 24 #[.agg #[.int .i64 n, .int .i64 d], .agg #[.int .i64 m, .int .i64 e]] w fun r w' => r = .returned (.tuple #[.agg #[.int .i64 (errTimesF n d m e).1.1, .int .i64 (errTimesF n d m e).1.2], .int .i64 (errTimesF n d m e).2]) ∧ Bl w w' := by
  cases e1 : okF n d && okF m e with
  | false =>
    have HR := Lib.hid (show errTimesF n d m e = ((0, 0), 1) by simp [errTimesF, e1])
    have HT : twoC n d m e = 1 := by simp [twoC, e1]
    have HT := Lib.hid HT
    clear e1
    go_enter Try.func24, Try.ntmps24
    go_wp2_with fail
    refine (two_any n d m e _).mono ?_
    rintro e w1 ⟨rfl, hb1⟩
    have B1 : Bl w w1 := bl_call (bl_alloc (bl_alloc (bl_alloc (bl_refl _) _) _) _) hb1
    have xF_1 : Bx w1 (w.heap.size) #[.int .i64 n, .int .i64 d] := (((Bx.new (b := w.heap.size) _ #[.int .i64 n, .int .i64 d] 35 (by first | rfl | simp)).alloc _).alloc _).below hb1
    have xX_1 : Bx w1 (w.heap.size + 1) #[.int .i64 m, .int .i64 e] := ((Bx.new (b := w.heap.size + 1) _ #[.int .i64 m, .int .i64 e] 35 (by first | rfl | simp)).alloc _).below hb1
    have xR_1 : Bx w1 (w.heap.size + 1 + 1) #[.int .i64 0, .int .i64 0] := (Bx.new (b := w.heap.size + 1 + 1) _ #[.int .i64 0, .int .i64 0] 35 (by first | rfl | simp)).below hb1
    obtain ⟨cF_1, fF_1, zF_1⟩ := xF_1.out
    obtain ⟨cX_1, fX_1, zX_1⟩ := xX_1.out
    obtain ⟨cR_1, fR_1, zR_1⟩ := xR_1.out
    rw [HT.out]
    go_wp2
    refine bodyPost_ret (v := .tuple #[.agg #[.int .i64 0, .int .i64 0], .int .i64 1]) (by simp only [results, Try.results24]; go_simp) rfl ?_
    exact ⟨ret_fi HR.out, bl_set (bl_set B1 (by first | exact Nat.le_refl _ | (simp; done) | (simp; omega)) _) (by first | exact Nat.le_refl _ | (simp; done) | (simp; omega)) _⟩
  | true =>
    have HR := Lib.hid (show errTimesF n d m e = (((fullF (offF n d m e) d).1, (fullF (offF n d m e) d).2.1), (fullF (offF n d m e) d).2.2) by simp [errTimesF, e1])
    have HT : twoC n d m e = 0 := by simp [twoC, e1]
    have HT := Lib.hid HT
    obtain ⟨e2, e3⟩ : okF n d = true ∧ okF m e = true := by simpa using e1
    obtain ⟨⟨q1, q2⟩, ⟨q3, q4⟩, ⟨q5, q6⟩, ⟨q7, q8⟩⟩ := ok_prods e2 e3
    have HOK1 := Lib.hid (okF_iff.1 e2)
    have HOK2 := Lib.hid (okF_iff.1 e3)
    clear e2 e3
    have W1 : IntKind.i64.wrap (n * e) = n * e := IntWalk.i64_in _ (by omega)
    have W2 : IntKind.i64.wrap (m * d) = m * d := IntWalk.i64_in _ (by omega)
    have W3 : IntKind.i64.wrap (n * e - m * d) = n * e - m * d := IntWalk.i64_in _ (by omega)
    clear e1
    go_enter Try.func24, Try.ntmps24
    go_wp2_with fail
    refine (two_any n d m e _).mono ?_
    rintro e w1 ⟨rfl, hb1⟩
    have B1 : Bl w w1 := bl_call (bl_alloc (bl_alloc (bl_alloc (bl_refl _) _) _) _) hb1
    have xF_1 : Bx w1 (w.heap.size) #[.int .i64 n, .int .i64 d] := (((Bx.new (b := w.heap.size) _ #[.int .i64 n, .int .i64 d] 35 (by first | rfl | simp)).alloc _).alloc _).below hb1
    have xX_1 : Bx w1 (w.heap.size + 1) #[.int .i64 m, .int .i64 e] := ((Bx.new (b := w.heap.size + 1) _ #[.int .i64 m, .int .i64 e] 35 (by first | rfl | simp)).alloc _).below hb1
    have xR_1 : Bx w1 (w.heap.size + 1 + 1) #[.int .i64 0, .int .i64 0] := (Bx.new (b := w.heap.size + 1 + 1) _ #[.int .i64 0, .int .i64 0] 35 (by first | rfl | simp)).below hb1
    obtain ⟨cF_1, fF_1, zF_1⟩ := xF_1.out
    obtain ⟨cX_1, fX_1, zX_1⟩ := xX_1.out
    obtain ⟨cR_1, fR_1, zR_1⟩ := xR_1.out
    rw [HT.out]
    go_wp2_with fail
    refine (big_any n e _ (by have := HOK1.out; omega) (by have := HOK1.out; omega) (by have := HOK2.out; omega) (by have := HOK2.out; omega)).mono ?_
    rintro _ _ ⟨rfl, rfl⟩
    go_wp2_with fail
    refine (big_any m d _ (by have := HOK2.out; omega) (by have := HOK2.out; omega) (by have := HOK1.out; omega) (by have := HOK1.out; omega)).mono ?_
    rintro _ _ ⟨rfl, rfl⟩
    go_wp2_with fail
    go_region_held3 (fun w' => w'.cell? ⟨w.heap.size, 0, none⟩ = some (.int .i64 n) ∧ w'.cell? ⟨w.heap.size, 1, none⟩ = some (.int .i64 d) ∧ w'.cell? ⟨w.heap.size + 1, 0, none⟩ = some (.int .i64 m) ∧ w'.cell? ⟨w.heap.size + 1, 1, none⟩ = some (.int .i64 e)) (first | (simp [*]; done) | (go_simp; done) | go_keep)
      (first | (go_at_call 56; go_must (refine ((sizeB_any (n * e - m * d) _ (by omega))).mono ?_; rintro e w2 ⟨rfl, hb2⟩; have B2 : Bl w w2 := bl_call (bl_drew B1) hb2; have xF_2 : Bx w2 (w.heap.size) #[.int .i64 n, .int .i64 d] := xF_1.drew.below hb2; have xX_2 : Bx w2 (w.heap.size + 1) #[.int .i64 m, .int .i64 e] := xX_1.drew.below hb2; have xR_2 : Bx w2 (w.heap.size + 1 + 1) #[.int .i64 0, .int .i64 0] := xR_1.drew.below hb2; clear cF_1 fF_1 zF_1 cX_1 fX_1 zX_1 cR_1 fR_1 zR_1; obtain ⟨cF_2, fF_2, zF_2⟩ := xF_2.out; obtain ⟨cX_2, fX_2, zX_2⟩ := xX_2.out; obtain ⟨cR_2, fR_2, zR_2⟩ := xR_2.out)) | (go_at_call 55; go_must (refine (full_any (offF n d m e) d _ (by omega) (by omega) (by omega) (by omega) (by omega)).mono ?_; rintro e w3 ⟨rfl, hb3⟩; have B3 : Bl w w3 := bl_call B2 hb3; have xF_3 : Bx w3 (w.heap.size) #[.int .i64 n, .int .i64 d] := xF_2.below hb3; have xX_3 : Bx w3 (w.heap.size + 1) #[.int .i64 m, .int .i64 e] := xX_2.below hb3; have xR_3 : Bx w3 (w.heap.size + 1 + 1) #[.int .i64 0, .int .i64 0] := xR_2.below hb3; clear cF_2 fF_2 zF_2 cX_2 fX_2 zX_2 cR_2 fR_2 zR_2; obtain ⟨cF_3, fF_3, zF_3⟩ := xF_3.out; obtain ⟨cX_3, fX_3, zX_3⟩ := xX_3.out; obtain ⟨cR_3, fR_3, zR_3⟩ := xR_3.out)))
    go_wp2
    refine bodyPost_ret (v := .tuple #[.agg #[.int .i64 (fullF (offF n d m e) d).1, .int .i64 (fullF (offF n d m e) d).2.1], .int .i64 (fullF (offF n d m e) d).2.2]) (by simp only [results, Try.results24]; go_simp) rfl ?_
    exact ⟨ret_fi HR.out, bl_set (bl_set B3 (by first | exact Nat.le_refl _ | (simp; done) | (simp; omega)) _) (by first | exact Nat.le_refl _ | (simp; done) | (simp; omega)) _⟩

end Go.Proofs.Ytggpldbihndgmaa
