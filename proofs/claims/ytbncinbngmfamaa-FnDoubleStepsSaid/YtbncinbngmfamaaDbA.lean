/- The reference: the value at a point. Each theorem names its conditions. -/
import Derived.Test.YtbncinbngmfamaaStepM
import Derived.Test.YtbncinbngmfamaaDbW
namespace Go.Proofs.Ytbncinbngmfamaa
open Go.RowKit
set_option linter.unusedVariables false
set_option linter.unusedSimpArgs false


theorem small_eq {n : Int} (h : inB n (-10000) 10000 = true) (w : World) : Calls Try.prog 71 #[.int .i64 n] w fun e w' => e = .returned (.bool true) ∧ w = w' := by
  have H := Lib.hid h
  clear h
  go_enter Try.func71, Try.ntmps71
  go_wp2_with fail
  refine (in_any n _ _ _).mono ?_
  rintro e w9 ⟨rfl, hw⟩
  rw [H.out]
  go_wp2
  go_ret
  exact ⟨rfl, hw⟩
theorem mul3 {x y z : Int} (h1 : -10000 ≤ x ∧ x ≤ 10000) (h2 : -10000 ≤ y ∧ y ≤ 10000) (h3 : -10000 ≤ z ∧ z ≤ 10000) : (-100000000 ≤ x * y ∧ x * y ≤ 100000000) ∧ (-1000000000000 ≤ x * y * z ∧ x * y * z ≤ 1000000000000) := by
  have key : ∀ {x y X Y : Int}, -X ≤ x ∧ x ≤ X → -Y ≤ y ∧ y ≤ Y → -(X * Y) ≤ x * y ∧ x * y ≤ X * Y := by
    intro x y X Y h1 h2
    rcases Int.le_total 0 y with hy | hy
    · exact mulS h1 ⟨hy, h2.2⟩
    · have := mulS (x := x) (y := -y) (X := X) (Y := Y) h1 ⟨by omega, by omega⟩
      rw [Int.mul_neg] at this
      omega
  have a1 := key (X := 10000) (Y := 10000) h1 h2
  have a2 := key (x := x * y) (y := z) (X := 100000000) (Y := 10000) (by omega) h3
  constructor <;> omega

set_option maxRecDepth 100000 in
set_option maxHeartbeats 12800000 in
theorem sat_any (d : Db) (xn xd yn yd : Int) (w : World) (e1 : okD d = true) (e2 : okF xn xd = true) (e3 : okF yn yd = true) (sm : ∀ x ∈ [d.a, d.b, d.c, d.d, d.e, d.f, d.g, d.h, xn, xd, yn, yd], -10000 ≤ x ∧ x ≤ 10000) (hD : atD d xn xd yn yd ≠ 0) :
    Calls Try.prog 20 #[.agg #[.int .i64 d.a, .int .i64 d.b, .int .i64 d.c, .int .i64 d.d, .int .i64 d.e, .int .i64 d.f, .int .i64 d.g, .int .i64 d.h], .agg #[.int .i64 xn, .int .i64 xd], .agg #[.int .i64 yn, .int .i64 yd]] w fun e w' => e = .returned (.tuple #[.agg #[.int .i64 (fullF (atN d xn xd yn yd) (atD d xn xd yn yd)).1, .int .i64 (fullF (atN d xn xd yn yd) (atD d xn xd yn yd)).2.1], .int .i64 (fullF (atN d xn xd yn yd) (atD d xn xd yn yd)).2.2]) ∧ Bl w w' := by
  show Calls Try.prog 20 #[.agg #[.int .i64 d.a, .int .i64 d.b, .int .i64 d.c, .int .i64 d.d, .int .i64 d.e, .int .i64 d.f, .int .i64 d.g, .int .i64 d.h], .agg #[.int .i64 xn, .int .i64 xd], .agg #[.int .i64 yn, .int .i64 yd]] w fun e w' => e = .returned (.tuple #[.agg #[.int .i64 (fullF (d.a * xn * yn + d.b * xn * yd + d.c * xd * yn + d.d * xd * yd) (d.e * xn * yn + d.f * xn * yd + d.g * xd * yn + d.h * xd * yd)).1, .int .i64 (fullF (d.a * xn * yn + d.b * xn * yd + d.c * xd * yn + d.d * xd * yd) (d.e * xn * yn + d.f * xn * yd + d.g * xd * yn + d.h * xd * yd)).2.1], .int .i64 (fullF (d.a * xn * yn + d.b * xn * yd + d.c * xd * yn + d.d * xd * yd) (d.e * xn * yn + d.f * xn * yd + d.g * xd * yn + d.h * xd * yd)).2.2]) ∧ Bl w w'
  replace hD : d.e * xn * yn + d.f * xn * yd + d.g * xd * yn + d.h * xd * yd ≠ 0 := hD
  have E1 := Lib.hid e1
  have E2 := Lib.hid e2
  have E3 := Lib.hid e3
  obtain ⟨xs, hxs⟩ : ∃ xs, xs = [d.a, d.b, d.c, d.d, d.e, d.f, d.g, d.h, xn, xd, yn, yd] := ⟨_, rfl⟩
  have HX := Lib.hid hxs
  rw [← hxs] at sm
  have HS := Lib.hid (show ∀ k, k < 12 → inB (xs.getD k 0) (-10000) 10000 = true from fun k hk => inB_iff.2 (sm _ (by
    rw [List.getD_eq_getElem?_getD, List.getElem?_eq_getElem (show k < xs.length by rw [hxs]; exact hk)]
    exact List.getElem_mem _)))
  rw [hxs] at sm
  simp only [List.mem_cons, List.not_mem_nil, or_false, forall_eq_or_imp, forall_eq] at sm
  obtain ⟨s0, s1, s2, s3, s4, s5, s6, s7, s8, s9, s10, s11⟩ := sm
  clear e1 e2 e3 hxs
  have HD := Lib.hid hD
  clear hD
  go_enter Try.func20, Try.ntmps20
  go_wp2_with fail
  have B1 : Bl w ((((w.alloc (.cells #[.int .i64 d.a, .int .i64 d.b, .int .i64 d.c, .int .i64 d.d, .int .i64 d.e, .int .i64 d.f, .int .i64 d.g, .int .i64 d.h] 26)).alloc (.cells #[.int .i64 xn, .int .i64 xd] 32)).alloc (.cells #[.int .i64 yn, .int .i64 yd] 32)).alloc (.cells #[.int .i64 0, .int .i64 0] 32)) := (bl_alloc (bl_alloc (bl_alloc (bl_alloc (bl_refl _) _) _) _) _)
  have xS_1 : Bx ((((w.alloc (.cells #[.int .i64 d.a, .int .i64 d.b, .int .i64 d.c, .int .i64 d.d, .int .i64 d.e, .int .i64 d.f, .int .i64 d.g, .int .i64 d.h] 26)).alloc (.cells #[.int .i64 xn, .int .i64 xd] 32)).alloc (.cells #[.int .i64 yn, .int .i64 yd] 32)).alloc (.cells #[.int .i64 0, .int .i64 0] 32)) (w.heap.size) #[.int .i64 d.a, .int .i64 d.b, .int .i64 d.c, .int .i64 d.d, .int .i64 d.e, .int .i64 d.f, .int .i64 d.g, .int .i64 d.h] := ((((Bx.new (b := w.heap.size) _ #[.int .i64 d.a, .int .i64 d.b, .int .i64 d.c, .int .i64 d.d, .int .i64 d.e, .int .i64 d.f, .int .i64 d.g, .int .i64 d.h] 26 (by first | rfl | simp)).alloc _).alloc _).alloc _)
  have xX_1 : Bx ((((w.alloc (.cells #[.int .i64 d.a, .int .i64 d.b, .int .i64 d.c, .int .i64 d.d, .int .i64 d.e, .int .i64 d.f, .int .i64 d.g, .int .i64 d.h] 26)).alloc (.cells #[.int .i64 xn, .int .i64 xd] 32)).alloc (.cells #[.int .i64 yn, .int .i64 yd] 32)).alloc (.cells #[.int .i64 0, .int .i64 0] 32)) (w.heap.size + 1) #[.int .i64 xn, .int .i64 xd] := (((Bx.new (b := w.heap.size + 1) _ #[.int .i64 xn, .int .i64 xd] 32 (by first | rfl | simp)).alloc _).alloc _)
  have xY_1 : Bx ((((w.alloc (.cells #[.int .i64 d.a, .int .i64 d.b, .int .i64 d.c, .int .i64 d.d, .int .i64 d.e, .int .i64 d.f, .int .i64 d.g, .int .i64 d.h] 26)).alloc (.cells #[.int .i64 xn, .int .i64 xd] 32)).alloc (.cells #[.int .i64 yn, .int .i64 yd] 32)).alloc (.cells #[.int .i64 0, .int .i64 0] 32)) (w.heap.size + 1 + 1) #[.int .i64 yn, .int .i64 yd] := ((Bx.new (b := w.heap.size + 1 + 1) _ #[.int .i64 yn, .int .i64 yd] 32 (by first | rfl | simp)).alloc _)
  have xR_1 : Bx ((((w.alloc (.cells #[.int .i64 d.a, .int .i64 d.b, .int .i64 d.c, .int .i64 d.d, .int .i64 d.e, .int .i64 d.f, .int .i64 d.g, .int .i64 d.h] 26)).alloc (.cells #[.int .i64 xn, .int .i64 xd] 32)).alloc (.cells #[.int .i64 yn, .int .i64 yd] 32)).alloc (.cells #[.int .i64 0, .int .i64 0] 32)) (w.heap.size + 1 + 1 + 1) #[.int .i64 0, .int .i64 0] := (Bx.new (b := w.heap.size + 1 + 1 + 1) _ #[.int .i64 0, .int .i64 0] 32 (by first | rfl | simp))
  have zz1 : w.heap.size + 4 ≤ ((((w.alloc (.cells #[.int .i64 d.a, .int .i64 d.b, .int .i64 d.c, .int .i64 d.d, .int .i64 d.e, .int .i64 d.f, .int .i64 d.g, .int .i64 d.h] 26)).alloc (.cells #[.int .i64 xn, .int .i64 xd] 32)).alloc (.cells #[.int .i64 yn, .int .i64 yd] 32)).alloc (.cells #[.int .i64 0, .int .i64 0] 32)).heap.size := (by simp)
  generalize ((((w.alloc (.cells #[.int .i64 d.a, .int .i64 d.b, .int .i64 d.c, .int .i64 d.d, .int .i64 d.e, .int .i64 d.f, .int .i64 d.g, .int .i64 d.h] 26)).alloc (.cells #[.int .i64 xn, .int .i64 xd] 32)).alloc (.cells #[.int .i64 yn, .int .i64 yd] 32)).alloc (.cells #[.int .i64 0, .int .i64 0] 32)) = w1 at *
  obtain ⟨cS_1, fS_1, zS_1⟩ := xS_1.out
  obtain ⟨cX_1, fX_1, zX_1⟩ := xX_1.out
  obtain ⟨cY_1, fY_1, zY_1⟩ := xY_1.out
  obtain ⟨cR_1, fR_1, zR_1⟩ := xR_1.out
  refine (sokD_eq E1.out _).mono ?_
  rintro e w2 ⟨rfl, hb2⟩
  have B2 : Bl w w2 := bl_call B1 hb2
  have xS_2 : Bx w2 (w.heap.size) #[.int .i64 d.a, .int .i64 d.b, .int .i64 d.c, .int .i64 d.d, .int .i64 d.e, .int .i64 d.f, .int .i64 d.g, .int .i64 d.h] := xS_1.below hb2
  have xX_2 : Bx w2 (w.heap.size + 1) #[.int .i64 xn, .int .i64 xd] := xX_1.below hb2
  have xY_2 : Bx w2 (w.heap.size + 1 + 1) #[.int .i64 yn, .int .i64 yd] := xY_1.below hb2
  have xR_2 : Bx w2 (w.heap.size + 1 + 1 + 1) #[.int .i64 0, .int .i64 0] := xR_1.below hb2
  clear cS_1 fS_1 zS_1 cX_1 fX_1 zX_1 cY_1 fY_1 zY_1 cR_1 fR_1 zR_1
  obtain ⟨cS_2, fS_2, zS_2⟩ := xS_2.out
  obtain ⟨cX_2, fX_2, zX_2⟩ := xX_2.out
  obtain ⟨cY_2, fY_2, zY_2⟩ := xY_2.out
  obtain ⟨cR_2, fR_2, zR_2⟩ := xR_2.out
  go_wp2_with fail
  refine (okW_eq E2.out _).mono ?_
  rintro e w3 ⟨rfl, hb3⟩
  have B3 : Bl w w3 := bl_call B2 hb3
  have xS_3 : Bx w3 (w.heap.size) #[.int .i64 d.a, .int .i64 d.b, .int .i64 d.c, .int .i64 d.d, .int .i64 d.e, .int .i64 d.f, .int .i64 d.g, .int .i64 d.h] := xS_2.below hb3
  have xX_3 : Bx w3 (w.heap.size + 1) #[.int .i64 xn, .int .i64 xd] := xX_2.below hb3
  have xY_3 : Bx w3 (w.heap.size + 1 + 1) #[.int .i64 yn, .int .i64 yd] := xY_2.below hb3
  have xR_3 : Bx w3 (w.heap.size + 1 + 1 + 1) #[.int .i64 0, .int .i64 0] := xR_2.below hb3
  clear cS_2 fS_2 zS_2 cX_2 fX_2 zX_2 cY_2 fY_2 zY_2 cR_2 fR_2 zR_2
  obtain ⟨cS_3, fS_3, zS_3⟩ := xS_3.out
  obtain ⟨cX_3, fX_3, zX_3⟩ := xX_3.out
  obtain ⟨cY_3, fY_3, zY_3⟩ := xY_3.out
  obtain ⟨cR_3, fR_3, zR_3⟩ := xR_3.out
  go_wp2_with fail
  refine (okW_eq E3.out _).mono ?_
  rintro e w4 ⟨rfl, hb4⟩
  have B4 : Bl w w4 := bl_call B3 hb4
  have xS_4 : Bx w4 (w.heap.size) #[.int .i64 d.a, .int .i64 d.b, .int .i64 d.c, .int .i64 d.d, .int .i64 d.e, .int .i64 d.f, .int .i64 d.g, .int .i64 d.h] := xS_3.below hb4
  have xX_4 : Bx w4 (w.heap.size + 1) #[.int .i64 xn, .int .i64 xd] := xX_3.below hb4
  have xY_4 : Bx w4 (w.heap.size + 1 + 1) #[.int .i64 yn, .int .i64 yd] := xY_3.below hb4
  have xR_4 : Bx w4 (w.heap.size + 1 + 1 + 1) #[.int .i64 0, .int .i64 0] := xR_3.below hb4
  clear cS_3 fS_3 zS_3 cX_3 fX_3 zX_3 cY_3 fY_3 zY_3 cR_3 fR_3 zR_3
  obtain ⟨cS_4, fS_4, zS_4⟩ := xS_4.out
  obtain ⟨cX_4, fX_4, zX_4⟩ := xX_4.out
  obtain ⟨cY_4, fY_4, zY_4⟩ := xY_4.out
  obtain ⟨cR_4, fR_4, zR_4⟩ := xR_4.out
  go_wp2_with fail
  have B5 : Bl w (w4.alloc (.cells #[.int .i64 d.a, .int .i64 d.b, .int .i64 d.c, .int .i64 d.d, .int .i64 d.e, .int .i64 d.f, .int .i64 d.g, .int .i64 d.h, .int .i64 xn, .int .i64 xd, .int .i64 yn, .int .i64 yd] 2)) := (bl_alloc B4 _)
  have xS_5 : Bx (w4.alloc (.cells #[.int .i64 d.a, .int .i64 d.b, .int .i64 d.c, .int .i64 d.d, .int .i64 d.e, .int .i64 d.f, .int .i64 d.g, .int .i64 d.h, .int .i64 xn, .int .i64 xd, .int .i64 yn, .int .i64 yd] 2)) (w.heap.size) #[.int .i64 d.a, .int .i64 d.b, .int .i64 d.c, .int .i64 d.d, .int .i64 d.e, .int .i64 d.f, .int .i64 d.g, .int .i64 d.h] := (xS_4.alloc _)
  have xX_5 : Bx (w4.alloc (.cells #[.int .i64 d.a, .int .i64 d.b, .int .i64 d.c, .int .i64 d.d, .int .i64 d.e, .int .i64 d.f, .int .i64 d.g, .int .i64 d.h, .int .i64 xn, .int .i64 xd, .int .i64 yn, .int .i64 yd] 2)) (w.heap.size + 1) #[.int .i64 xn, .int .i64 xd] := (xX_4.alloc _)
  have xY_5 : Bx (w4.alloc (.cells #[.int .i64 d.a, .int .i64 d.b, .int .i64 d.c, .int .i64 d.d, .int .i64 d.e, .int .i64 d.f, .int .i64 d.g, .int .i64 d.h, .int .i64 xn, .int .i64 xd, .int .i64 yn, .int .i64 yd] 2)) (w.heap.size + 1 + 1) #[.int .i64 yn, .int .i64 yd] := (xY_4.alloc _)
  have xR_5 : Bx (w4.alloc (.cells #[.int .i64 d.a, .int .i64 d.b, .int .i64 d.c, .int .i64 d.d, .int .i64 d.e, .int .i64 d.f, .int .i64 d.g, .int .i64 d.h, .int .i64 xn, .int .i64 xd, .int .i64 yn, .int .i64 yd] 2)) (w.heap.size + 1 + 1 + 1) #[.int .i64 0, .int .i64 0] := (xR_4.alloc _)
  have xL_5 : Bx (w4.alloc (.cells #[.int .i64 d.a, .int .i64 d.b, .int .i64 d.c, .int .i64 d.d, .int .i64 d.e, .int .i64 d.f, .int .i64 d.g, .int .i64 d.h, .int .i64 xn, .int .i64 xd, .int .i64 yn, .int .i64 yd] 2)) (w4.heap.size) #[.int .i64 d.a, .int .i64 d.b, .int .i64 d.c, .int .i64 d.d, .int .i64 d.e, .int .i64 d.f, .int .i64 d.g, .int .i64 d.h, .int .i64 xn, .int .i64 xd, .int .i64 yn, .int .i64 yd] := (Bx.new (b := w4.heap.size) _ #[.int .i64 d.a, .int .i64 d.b, .int .i64 d.c, .int .i64 d.d, .int .i64 d.e, .int .i64 d.f, .int .i64 d.g, .int .i64 d.h, .int .i64 xn, .int .i64 xd, .int .i64 yn, .int .i64 yd] 2 (by first | rfl | simp))
  have zz5 : w4.heap.size + 1 ≤ (w4.alloc (.cells #[.int .i64 d.a, .int .i64 d.b, .int .i64 d.c, .int .i64 d.d, .int .i64 d.e, .int .i64 d.f, .int .i64 d.g, .int .i64 d.h, .int .i64 xn, .int .i64 xd, .int .i64 yn, .int .i64 yd] 2)).heap.size := (by simp)
  clear cS_4 fS_4 zS_4 cX_4 fX_4 zX_4 cY_4 fY_4 zY_4 cR_4 fR_4 zR_4
  generalize (w4.alloc (.cells #[.int .i64 d.a, .int .i64 d.b, .int .i64 d.c, .int .i64 d.d, .int .i64 d.e, .int .i64 d.f, .int .i64 d.g, .int .i64 d.h, .int .i64 xn, .int .i64 xd, .int .i64 yn, .int .i64 yd] 2)) = w5 at *
  obtain ⟨cS_5, fS_5, zS_5⟩ := xS_5.out
  obtain ⟨cX_5, fX_5, zX_5⟩ := xX_5.out
  obtain ⟨cY_5, fY_5, zY_5⟩ := xY_5.out
  obtain ⟨cR_5, fR_5, zR_5⟩ := xR_5.out
  obtain ⟨cL_5, fL_5, zL_5⟩ := xL_5.out
  go_loopw [9] (fun i wr => ∃ k : Nat, i = .int .i64 k ∧ k ≤ 12 ∧ wr = w5) (fun i _ => 12 - (intOf i).toNat)
  case atStart => exact ⟨0, rfl, by omega, rfl⟩
  case round =>
    obtain ⟨k, rfl, hk, hwr⟩ := hrel
    subst hwr
    by_cases hk12 : k < 12
    · have hkI : (k : Int) < 12 := by omega
      have hc : wr.cell? ⟨w4.heap.size, k, none⟩ = some (.int .i64 (xs.getD k 0)) := by
        rw [xL_5.out.1 k, HX.out]
        rcases (show k = 0 ∨ k = 1 ∨ k = 2 ∨ k = 3 ∨ k = 4 ∨ k = 5 ∨ k = 6 ∨ k = 7 ∨ k = 8 ∨ k = 9 ∨ k = 10 ∨ k = 11 by omega) with rfl | rfl | rfl | rfl | rfl | rfl | rfl | rfl | rfl | rfl | rfl | rfl <;> rfl
      have HK := Lib.hid (HS.out k hk12)
      obtain ⟨x, hx⟩ : ∃ x, xs.getD k 0 = x := ⟨_, rfl⟩
      rw [hx] at hc HK
      clear hx cS_5 fS_5 zS_5 cX_5 fX_5 zX_5 cY_5 fY_5 zY_5 cR_5 fR_5 zR_5 cL_5 fL_5 zL_5
      go_wp2_with fail
      refine (small_eq HK.out _).mono ?_
      rintro e w9 ⟨rfl, rfl⟩
      go_wp2
      go_roundw
      case rel => exact ⟨k + 1, by go_num, by omega, (by first | rfl | trivial)⟩
      case measure => simp only [intOf, Int.toNat_natCast]; omega
    · have hkI : ¬ (k : Int) < 12 := by omega
      have hk0 : k = 12 := by omega
      clear hk hk12
      have q0 := mul3 s0 s8 s10
      obtain ⟨u0, v0⟩ := q0
      have q1 := mul3 s1 s8 s11
      obtain ⟨u1, v1⟩ := q1
      have q2 := mul3 s2 s9 s10
      obtain ⟨u2, v2⟩ := q2
      have q3 := mul3 s3 s9 s11
      obtain ⟨u3, v3⟩ := q3
      have q4 := mul3 s4 s8 s10
      obtain ⟨u4, v4⟩ := q4
      have q5 := mul3 s5 s8 s11
      obtain ⟨u5, v5⟩ := q5
      have q6 := mul3 s6 s9 s10
      obtain ⟨u6, v6⟩ := q6
      have q7 := mul3 s7 s9 s11
      obtain ⟨u7, v7⟩ := q7
      have c0 : (d.e * xn * yn + d.f * xn * yd + d.g * xd * yn + d.h * xd * yd == 0) = false := by rw [beq_eq_false_iff_ne]; exact HD.out
      go_wp2_with fail
      refine (full_any (d.a * xn * yn + d.b * xn * yd + d.c * xd * yn + d.d * xd * yd) (d.e * xn * yn + d.f * xn * yd + d.g * xd * yn + d.h * xd * yd) _ (by omega) (by omega) HD.out (by omega) (by omega)).mono ?_
      rintro e w8 ⟨rfl, hb8⟩
      have xR8 := xR_5.below hb8
      have B8 := bl_call B5 hb8
      clear cS_5 fS_5 zS_5 cX_5 fX_5 zX_5 cY_5 fY_5 zY_5 cR_5 fR_5 zR_5 cL_5 fL_5 zL_5
      obtain ⟨cR8, fR8, zR8⟩ := xR8.out
      have hs8 := hb8.size
      go_wp2
      refine bodyPost_ret (v := .tuple #[.agg #[.int .i64 (fullF (d.a * xn * yn + d.b * xn * yd + d.c * xd * yn + d.d * xd * yd) (d.e * xn * yn + d.f * xn * yd + d.g * xd * yn + d.h * xd * yd)).1, .int .i64 (fullF (d.a * xn * yn + d.b * xn * yd + d.c * xd * yn + d.d * xd * yd) (d.e * xn * yn + d.f * xn * yd + d.g * xd * yn + d.h * xd * yd)).2.1], .int .i64 (fullF (d.a * xn * yn + d.b * xn * yd + d.c * xd * yn + d.d * xd * yd) (d.e * xn * yn + d.f * xn * yd + d.g * xd * yn + d.h * xd * yd)).2.2]) (by simp only [results, Try.results20]; go_simp) rfl ⟨rfl, ?_⟩
      repeat first | (with_reducible exact B8) | (with_reducible exact bl_refl _) | (with_reducible refine bl_alloc ?_ _) | (with_reducible refine bl_set ?_ (by first | exact Nat.le_refl _ | omega | (simp; done) | (simp; omega)) _)

end Go.Proofs.Ytbncinbngmfamaa
