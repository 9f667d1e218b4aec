/- Some of the texts of this claim, joined in one file: SdG, SdH. -/
import Derived.Test.YtgkelemfbmmgnaaGreatMSv19
import Derived.Test.YtgkelemfbmmgnaaGreatMSv29
import Derived.Test.YtgkelemfbmmgnaaGreatMSv22
/- Draws of surds and states that are seldom not plain. Each theorem names its conditions. -/
namespace Go.Proofs.YtgkelemfbmmgnaaGreat
open Go.RowKit
set_option linter.unusedVariables false
set_option linter.unusedSimpArgs false

theorem sud_set {w0 w w1 : World} {p N M : Nat} {x y z : Int} (S : SrcD w0 w1 p M) (U : Upd w w1 p) (hp : p < w.heap.size) (hM : M ≤ N + 120) :
    SudD w0 w p N 120 (.returned (.agg #[.int .i64 x, .int .i64 y, .int .i64 z])) (((w1.setCell ⟨w.heap.size, 0, none⟩ (.int .i64 x)).setCell ⟨w.heap.size, 1, none⟩ (.int .i64 y)).setCell ⟨w.heap.size, 2, none⟩ (.int .i64 z)) := by
  have h0 : w0.heap.size ≤ w.heap.size := by have := S.out.1; omega
  exact ⟨x, y, z, rfl, (((S.far (q := ⟨w.heap.size, 0, none⟩) (by simpa using h0) (by simp; omega) _).far (q := ⟨w.heap.size, 1, none⟩) (by simpa using h0) (by simp; omega) _).far (q := ⟨w.heap.size, 2, none⟩) (by simpa using h0) (by simp; omega) _).more hM, upd_far (upd_far (upd_far U (q := ⟨w.heap.size, 0, none⟩) (by simp) _) (q := ⟨w.heap.size, 1, none⟩) (by simp) _) (q := ⟨w.heap.size, 2, none⟩) (by simp) _⟩
def StB (w0 w : World) (p N : Nat) (e : Ending) (w' : World) : Prop := ∃ a b c d : Int, e = .returned (.agg #[.int .i64 a, .int .i64 b, .int .i64 c, .int .i64 d]) ∧ SrcD w0 w' p (N + 120) ∧ Upd w w' p
theorem stb_set {w0 w w1 : World} {p N M : Nat} {a b c d : Int} (S : SrcD w0 w1 p M) (U : Upd w w1 p) (hp : p < w.heap.size) (hM : M ≤ N + 120) :
    StB w0 w p N (.returned (.agg #[.int .i64 a, .int .i64 b, .int .i64 c, .int .i64 d])) ((((w1.setCell ⟨w.heap.size, 0, none⟩ (.int .i64 a)).setCell ⟨w.heap.size, 1, none⟩ (.int .i64 b)).setCell ⟨w.heap.size, 2, none⟩ (.int .i64 c)).setCell ⟨w.heap.size, 3, none⟩ (.int .i64 d)) := by
  have h0 : w0.heap.size ≤ w.heap.size := by have := S.out.1; omega
  exact ⟨a, b, c, d, rfl, ((((S.far (q := ⟨w.heap.size, 0, none⟩) (by simpa using h0) (by simp; omega) _).far (q := ⟨w.heap.size, 1, none⟩) (by simpa using h0) (by simp; omega) _).far (q := ⟨w.heap.size, 2, none⟩) (by simpa using h0) (by simp; omega) _).far (q := ⟨w.heap.size, 3, none⟩) (by simpa using h0) (by simp; omega) _).more hM, upd_far (upd_far (upd_far (upd_far U (q := ⟨w.heap.size, 0, none⟩) (by simp) _) (q := ⟨w.heap.size, 1, none⟩) (by simp) _) (q := ⟨w.heap.size, 2, none⟩) (by simp) _) (q := ⟨w.heap.size, 3, none⟩) (by simp) _⟩
set_option maxRecDepth 100000 in
set_option maxHeartbeats 6400000 in
theorem sbent7_any {w0 w : World} {p N : Nat} (h : SrcD w0 w p N) (hN : N ≤ 500000000) :
    Calls Tryz.prog 32 #[.pointer (some ⟨p, 0, none⟩)] w (SudD w0 w p N 120) := by
  have hp := h.out.2.1
  have hw0 : w0.heap.size ≤ w.heap.size := by have := h.out; omega
  go_enter Tryz.func32, Tryz.ntmps32
  go_wp2_with fail
  have xR : Bx (w.alloc (.cells #[.int .i64 0, .int .i64 0, .int .i64 0] 33)) w.heap.size #[.int .i64 0, .int .i64 0, .int .i64 0] := Bx.new (b := w.heap.size) _ _ _ rfl
  have hA := h.below (bl_alloc (bl_refl w) (.cells #[.int .i64 0, .int .i64 0, .int .i64 0] 33))
  have uA : Upd w (w.alloc (.cells #[.int .i64 0, .int .i64 0, .int .i64 0] 33)) p := upd_bl (upd_refl _ _) (bl_alloc (bl_refl w) _)
  generalize w.alloc (.cells #[.int .i64 0, .int .i64 0, .int .i64 0] 33) = wa at *
  refine (sdraw7_any hA (by omega)).mono ?_
  rintro e w1 ⟨px, dx, qx, rfl, hS1, hU1⟩
  have xR1 := (xR.upd hU1 (by omega)).alloc (.cells #[.int .i64 px, .int .i64 dx, .int .i64 qx] 33)
  have zR1 := (xR.upd hU1 (by omega)).out.2.2
  have xX1 : Bx (w1.alloc (.cells #[.int .i64 px, .int .i64 dx, .int .i64 qx] 33)) w1.heap.size #[.int .i64 px, .int .i64 dx, .int .i64 qx] := Bx.new (b := w1.heap.size) _ _ _ rfl
  have S1 := hS1.below (bl_alloc (bl_refl w1) (.cells #[.int .i64 px, .int .i64 dx, .int .i64 qx] 33))
  have U1 := upd_bl (upd_trans uA hU1) (bl_alloc (bl_refl w1) (.cells #[.int .i64 px, .int .i64 dx, .int .i64 qx] 33))
  clear xR hA uA hS1 hU1 h
  go_wp2_with fail
  obtain ⟨bX, hbX⟩ : ∃ bX, bX = w1.heap.size := ⟨_, rfl⟩
  rw [← hbX] at xX1 ⊢
  have zX : w.heap.size < bX := by omega
  generalize w1.alloc (.cells #[.int .i64 px, .int .i64 dx, .int .i64 qx] 33) = w2 at *
  clear hbX zR1
  refine (dpick_any S1 (by omega) (by omega)).mono ?_
  rintro e w3 ⟨x0, rfl, xx0, xx1, S3, hU3⟩
  have xR3 := xR1.upd hU3 (by omega)
  have xX3 := xX1.upd hU3 (by omega)
  have U3 := upd_trans U1 hU3
  have hp3 := S3.out.2.1
  have zX3 := xX3.out.2.2
  clear xR1 xX1 S1 U1 hU3
  by_cases c0 : x0 = 0
  · subst c0
    go_wp2_with fail
    refine (samong_any (b := w3.heap.size) (cs := #[.int .i64 (-1000001), .int .i64 (-1000000), .int .i64 1000000, .int .i64 1000001, .int .i64 (-9223372036854775808)]) (S3.below (bl_alloc (bl_refl _) (.cells #[.int .i64 (-1000001), .int .i64 (-1000000), .int .i64 1000000, .int .i64 1000001, .int .i64 (-9223372036854775808)] 2))) (by omega) (Bx.new (b := w3.heap.size) _ _ _ rfl) (by omega) (by omega) (by omega) (fun i hi => by rcases (show i = 0 ∨ i = 1 ∨ i = 2 ∨ i = 3 ∨ i = 4 by omega) with rfl | rfl | rfl | rfl | rfl <;> exact ⟨_, rfl, by unfold R64; omega⟩)).mono ?_
    rintro e w4 ⟨yy, rfl, hy, S4, hU4⟩
    have xR4 := (xR3.alloc (.cells #[.int .i64 (-1000001), .int .i64 (-1000000), .int .i64 1000000, .int .i64 1000001, .int .i64 (-9223372036854775808)] 2)).upd hU4 (by omega)
    have xX4 := (xX3.alloc (.cells #[.int .i64 (-1000001), .int .i64 (-1000000), .int .i64 1000000, .int .i64 1000001, .int .i64 (-9223372036854775808)] 2)).upd hU4 (by omega)
    have U4 := upd_trans (upd_bl U3 (bl_alloc (bl_refl _) (.cells #[.int .i64 (-1000001), .int .i64 (-1000000), .int .i64 1000000, .int .i64 1000001, .int .i64 (-9223372036854775808)] 2))) hU4
    have S5 := ((S4.far (q := ⟨bX, 0, none⟩) (by simp; omega) (by simp; omega) (.int .i64 yy)).far (q := ⟨bX, 2, none⟩) (by simp; omega) (by simp; omega) (.int .i64 1))
    have U5 := (upd_far (upd_far U4 (q := ⟨bX, 0, none⟩) (by simp; omega) (.int .i64 yy)) (q := ⟨bX, 2, none⟩) (by simp; omega) (.int .i64 1))
    obtain ⟨cR, fR, zR⟩ := xR4.out
    obtain ⟨cX, fX, zX4⟩ := xX4.out
    go_wp2
    refine bodyPost_ret (v := .agg #[.int .i64 yy, .int .i64 dx, .int .i64 1]) (by simp only [results, Tryz.results32]; go_simp) rfl ?_
    exact sud_set S5 U5 hp (by omega)
  · have e0 : (x0 == 0) = false := by simp [c0]
    by_cases c1 : x0 = 1
    · subst c1
      clear c0
      go_wp2_with fail
      refine (samong_any (b := w3.heap.size) (cs := #[.int .i64 0, .int .i64 1, .int .i64 2, .int .i64 4, .int .i64 999999, .int .i64 1000000, .int .i64 1000001, .int .i64 (-5)]) (S3.below (bl_alloc (bl_refl _) (.cells #[.int .i64 0, .int .i64 1, .int .i64 2, .int .i64 4, .int .i64 999999, .int .i64 1000000, .int .i64 1000001, .int .i64 (-5)] 2))) (by omega) (Bx.new (b := w3.heap.size) _ _ _ rfl) (by omega) (by omega) (by omega) (fun i hi => by rcases (show i = 0 ∨ i = 1 ∨ i = 2 ∨ i = 3 ∨ i = 4 ∨ i = 5 ∨ i = 6 ∨ i = 7 by omega) with rfl | rfl | rfl | rfl | rfl | rfl | rfl | rfl <;> exact ⟨_, rfl, by unfold R64; omega⟩)).mono ?_
      rintro e w4 ⟨yy, rfl, hy, S4, hU4⟩
      have xR4 := (xR3.alloc (.cells #[.int .i64 0, .int .i64 1, .int .i64 2, .int .i64 4, .int .i64 999999, .int .i64 1000000, .int .i64 1000001, .int .i64 (-5)] 2)).upd hU4 (by omega)
      have xX4 := (xX3.alloc (.cells #[.int .i64 0, .int .i64 1, .int .i64 2, .int .i64 4, .int .i64 999999, .int .i64 1000000, .int .i64 1000001, .int .i64 (-5)] 2)).upd hU4 (by omega)
      have U4 := upd_trans (upd_bl U3 (bl_alloc (bl_refl _) (.cells #[.int .i64 0, .int .i64 1, .int .i64 2, .int .i64 4, .int .i64 999999, .int .i64 1000000, .int .i64 1000001, .int .i64 (-5)] 2))) hU4
      have S5 := (S4.far (q := ⟨bX, 1, none⟩) (by simp; omega) (by simp; omega) (.int .i64 yy))
      have U5 := (upd_far U4 (q := ⟨bX, 1, none⟩) (by simp; omega) (.int .i64 yy))
      obtain ⟨cR, fR, zR⟩ := xR4.out
      obtain ⟨cX, fX, zX4⟩ := xX4.out
      go_wp2
      refine bodyPost_ret (v := .agg #[.int .i64 px, .int .i64 yy, .int .i64 qx]) (by simp only [results, Tryz.results32]; go_simp) rfl ?_
      exact sud_set S5 U5 hp (by omega)
    · have e1 : (x0 == 1) = false := by simp [c1]
      by_cases c2 : x0 = 2
      · subst c2
        clear c0 c1
        go_wp2_with fail
        refine (samong_any (b := w3.heap.size) (cs := #[.int .i64 0, .int .i64 1, .int .i64 (-1), .int .i64 1000000, .int .i64 1000001, .int .i64 (-9223372036854775808)]) (S3.below (bl_alloc (bl_refl _) (.cells #[.int .i64 0, .int .i64 1, .int .i64 (-1), .int .i64 1000000, .int .i64 1000001, .int .i64 (-9223372036854775808)] 2))) (by omega) (Bx.new (b := w3.heap.size) _ _ _ rfl) (by omega) (by omega) (by omega) (fun i hi => by rcases (show i = 0 ∨ i = 1 ∨ i = 2 ∨ i = 3 ∨ i = 4 ∨ i = 5 by omega) with rfl | rfl | rfl | rfl | rfl | rfl <;> exact ⟨_, rfl, by unfold R64; omega⟩)).mono ?_
        rintro e w4 ⟨yy, rfl, hy, S4, hU4⟩
        have xR4 := (xR3.alloc (.cells #[.int .i64 0, .int .i64 1, .int .i64 (-1), .int .i64 1000000, .int .i64 1000001, .int .i64 (-9223372036854775808)] 2)).upd hU4 (by omega)
        have xX4 := (xX3.alloc (.cells #[.int .i64 0, .int .i64 1, .int .i64 (-1), .int .i64 1000000, .int .i64 1000001, .int .i64 (-9223372036854775808)] 2)).upd hU4 (by omega)
        have U4 := upd_trans (upd_bl U3 (bl_alloc (bl_refl _) (.cells #[.int .i64 0, .int .i64 1, .int .i64 (-1), .int .i64 1000000, .int .i64 1000001, .int .i64 (-9223372036854775808)] 2))) hU4
        have S5 := (S4.far (q := ⟨bX, 2, none⟩) (by simp; omega) (by simp; omega) (.int .i64 yy))
        have U5 := (upd_far U4 (q := ⟨bX, 2, none⟩) (by simp; omega) (.int .i64 yy))
        obtain ⟨cR, fR, zR⟩ := xR4.out
        obtain ⟨cX, fX, zX4⟩ := xX4.out
        go_wp2
        refine bodyPost_ret (v := .agg #[.int .i64 px, .int .i64 dx, .int .i64 yy]) (by simp only [results, Tryz.results32]; go_simp) rfl ?_
        exact sud_set S5 U5 hp (by omega)
      · have e2 : (x0 == 2) = false := by simp [c2]
        by_cases c3 : x0 = 3
        · subst c3
          clear c0 c1 c2
          have S5 := (S3.far (q := ⟨bX, 2, none⟩) (by simp; omega) (by simp; omega) (.int .i64 (wrap64 (qx + 1))))
          have U5 := (upd_far U3 (q := ⟨bX, 2, none⟩) (by simp; omega) (.int .i64 (wrap64 (qx + 1))))
          obtain ⟨cR, fR, zR⟩ := xR3.out
          obtain ⟨cX, fX, zX4⟩ := xX3.out
          go_wp2
          refine bodyPost_ret (v := .agg #[.int .i64 px, .int .i64 dx, .int .i64 (wrap64 (qx + 1))]) (by simp only [results, Tryz.results32]; go_simp) rfl ?_
          exact sud_set S5 U5 hp (by omega)
        · have e3 : (x0 == 3) = false := by simp [c3]
          by_cases c4 : x0 = 4
          · subst c4
            clear c0 c1 c2 c3
            go_wp2_with fail
            refine (dpick_any S3 (by omega) (by omega)).mono ?_
            rintro e w4 ⟨r, rfl, r0, r1, S4, hU4⟩
            have xR4 := xR3.upd hU4 (by omega)
            have xX4 := xX3.upd hU4 (by omega)
            have U4 := upd_trans U3 hU4
            go_wp2_with fail
            refine (dpick_any S4 (by omega) (by omega)).mono ?_
            rintro e w5 ⟨t, rfl, t0, t1, S5, hU5⟩
            have xR5 := xR4.upd hU5 (by omega)
            have xX5 := xX4.upd hU5 (by omega)
            have U5 := upd_trans U4 hU5
            have S5 := S5
            have U5 := U5
            obtain ⟨cR, fR, zR⟩ := xR5.out
            obtain ⟨cX, fX, zX4⟩ := xX5.out
            go_wp2
            refine bodyPost_ret (v := .agg #[.int .i64 (1000 + r), .int .i64 (999999 - t), .int .i64 1]) (by simp only [results, Tryz.results32]; go_simp) rfl ?_
            exact sud_set S5 U5 hp (by omega)
          · have e4 : (x0 == 4) = false := by simp [c4]
            clear c0 c1 c2 c3 c4
            obtain ⟨cR, fR, zR⟩ := xR3.out
            obtain ⟨cX, fX, zX4⟩ := xX3.out
            go_wp2
            refine bodyPost_ret (v := .agg #[.int .i64 px, .int .i64 dx, .int .i64 qx]) (by simp only [results, Tryz.results32]; go_simp) rfl ?_
            exact sud_set S3 U3 hp (by omega)
set_option maxRecDepth 100000 in
set_option maxHeartbeats 6400000 in
theorem sbent13_any {w0 w : World} {p N : Nat} (h : SrcD w0 w p N) (hN : N ≤ 500000000) :
    Calls Tryz.prog 45 #[.pointer (some ⟨p, 0, none⟩)] w (StB w0 w p N) := by
  have hp := h.out.2.1
  have hw0 : w0.heap.size ≤ w.heap.size := by have := h.out; omega
  go_enter Tryz.func45, Tryz.ntmps45
  go_wp2_with fail
  have xR : Bx (w.alloc (.cells #[.int .i64 0, .int .i64 0, .int .i64 0, .int .i64 0] 40)) w.heap.size #[.int .i64 0, .int .i64 0, .int .i64 0, .int .i64 0] := Bx.new (b := w.heap.size) _ _ _ rfl
  have hA := h.below (bl_alloc (bl_refl w) (.cells #[.int .i64 0, .int .i64 0, .int .i64 0, .int .i64 0] 40))
  have uA : Upd w (w.alloc (.cells #[.int .i64 0, .int .i64 0, .int .i64 0, .int .i64 0] 40)) p := upd_bl (upd_refl _ _) (bl_alloc (bl_refl w) _)
  generalize w.alloc (.cells #[.int .i64 0, .int .i64 0, .int .i64 0, .int .i64 0] 40) = wa at *
  refine (drawS_any hA (by omega)).mono ?_
  rintro e w1 ⟨ax, bx, cx, dx, rfl, _, _, hS1, hU1⟩
  have xR1 := (xR.upd hU1 (by omega)).alloc (.cells #[.int .i64 ax, .int .i64 bx, .int .i64 cx, .int .i64 dx] 40)
  have zR1 := (xR.upd hU1 (by omega)).out.2.2
  have xX1 : Bx (w1.alloc (.cells #[.int .i64 ax, .int .i64 bx, .int .i64 cx, .int .i64 dx] 40)) w1.heap.size #[.int .i64 ax, .int .i64 bx, .int .i64 cx, .int .i64 dx] := Bx.new (b := w1.heap.size) _ _ _ rfl
  have S1 := hS1.below (bl_alloc (bl_refl w1) (.cells #[.int .i64 ax, .int .i64 bx, .int .i64 cx, .int .i64 dx] 40))
  have U1 := upd_bl (upd_trans uA hU1) (bl_alloc (bl_refl w1) (.cells #[.int .i64 ax, .int .i64 bx, .int .i64 cx, .int .i64 dx] 40))
  clear xR hA uA hS1 hU1 h
  go_wp2_with fail
  obtain ⟨bX, hbX⟩ : ∃ bX, bX = w1.heap.size := ⟨_, rfl⟩
  rw [← hbX] at xX1 ⊢
  have zX : w.heap.size < bX := by omega
  generalize w1.alloc (.cells #[.int .i64 ax, .int .i64 bx, .int .i64 cx, .int .i64 dx] 40) = w2 at *
  clear hbX zR1
  refine (dpick_any S1 (by omega) (by omega)).mono ?_
  rintro e w3 ⟨x0, rfl, xx0, xx1, S3, hU3⟩
  have xR3 := xR1.upd hU3 (by omega)
  have xX3 := xX1.upd hU3 (by omega)
  have U3 := upd_trans U1 hU3
  have hp3 := S3.out.2.1
  have zX3 := xX3.out.2.2
  clear xR1 xX1 S1 U1 hU3
  by_cases c0 : x0 = 0
  · subst c0
    go_wp2_with fail
    refine (samong_any (b := w3.heap.size) (cs := #[.int .i64 (-1000000001), .int .i64 (-1000000000), .int .i64 1000000000, .int .i64 1000000001, .int .i64 (-9223372036854775808)]) (S3.below (bl_alloc (bl_refl _) (.cells #[.int .i64 (-1000000001), .int .i64 (-1000000000), .int .i64 1000000000, .int .i64 1000000001, .int .i64 (-9223372036854775808)] 2))) (by omega) (Bx.new (b := w3.heap.size) _ _ _ rfl) (by omega) (by omega) (by omega) (fun i hi => by rcases (show i = 0 ∨ i = 1 ∨ i = 2 ∨ i = 3 ∨ i = 4 by omega) with rfl | rfl | rfl | rfl | rfl <;> exact ⟨_, rfl, by unfold R64; omega⟩)).mono ?_
    rintro e w4 ⟨yy, rfl, hy, S4, hU4⟩
    have xR4 := (xR3.alloc (.cells #[.int .i64 (-1000000001), .int .i64 (-1000000000), .int .i64 1000000000, .int .i64 1000000001, .int .i64 (-9223372036854775808)] 2)).upd hU4 (by omega)
    have xX4 := (xX3.alloc (.cells #[.int .i64 (-1000000001), .int .i64 (-1000000000), .int .i64 1000000000, .int .i64 1000000001, .int .i64 (-9223372036854775808)] 2)).upd hU4 (by omega)
    have U4 := upd_trans (upd_bl U3 (bl_alloc (bl_refl _) (.cells #[.int .i64 (-1000000001), .int .i64 (-1000000000), .int .i64 1000000000, .int .i64 1000000001, .int .i64 (-9223372036854775808)] 2))) hU4
    have S5 := (S4.far (q := ⟨bX, 0, none⟩) (by simp; omega) (by simp; omega) (.int .i64 yy))
    have U5 := (upd_far U4 (q := ⟨bX, 0, none⟩) (by simp; omega) (.int .i64 yy))
    obtain ⟨cR, fR, zR⟩ := xR4.out
    obtain ⟨cX, fX, zX4⟩ := xX4.out
    go_wp2
    refine bodyPost_ret (v := .agg #[.int .i64 yy, .int .i64 bx, .int .i64 cx, .int .i64 dx]) (by simp only [results, Tryz.results45]; go_simp) rfl ?_
    exact stb_set S5 U5 hp (by omega)
  · have e0 : (x0 == 0) = false := by simp [c0]
    by_cases c1 : x0 = 1
    · subst c1
      clear c0
      go_wp2_with fail
      refine (samong_any (b := w3.heap.size) (cs := #[.int .i64 (-1000000000), .int .i64 1000000000, .int .i64 1000000001, .int .i64 9223372036854775807]) (S3.below (bl_alloc (bl_refl _) (.cells #[.int .i64 (-1000000000), .int .i64 1000000000, .int .i64 1000000001, .int .i64 9223372036854775807] 2))) (by omega) (Bx.new (b := w3.heap.size) _ _ _ rfl) (by omega) (by omega) (by omega) (fun i hi => by rcases (show i = 0 ∨ i = 1 ∨ i = 2 ∨ i = 3 by omega) with rfl | rfl | rfl | rfl <;> exact ⟨_, rfl, by unfold R64; omega⟩)).mono ?_
      rintro e w4 ⟨yy, rfl, hy, S4, hU4⟩
      have xR4 := (xR3.alloc (.cells #[.int .i64 (-1000000000), .int .i64 1000000000, .int .i64 1000000001, .int .i64 9223372036854775807] 2)).upd hU4 (by omega)
      have xX4 := (xX3.alloc (.cells #[.int .i64 (-1000000000), .int .i64 1000000000, .int .i64 1000000001, .int .i64 9223372036854775807] 2)).upd hU4 (by omega)
      have U4 := upd_trans (upd_bl U3 (bl_alloc (bl_refl _) (.cells #[.int .i64 (-1000000000), .int .i64 1000000000, .int .i64 1000000001, .int .i64 9223372036854775807] 2))) hU4
      have S5 := (S4.far (q := ⟨bX, 3, none⟩) (by simp; omega) (by simp; omega) (.int .i64 yy))
      have U5 := (upd_far U4 (q := ⟨bX, 3, none⟩) (by simp; omega) (.int .i64 yy))
      obtain ⟨cR, fR, zR⟩ := xR4.out
      obtain ⟨cX, fX, zX4⟩ := xX4.out
      go_wp2
      refine bodyPost_ret (v := .agg #[.int .i64 ax, .int .i64 bx, .int .i64 cx, .int .i64 yy]) (by simp only [results, Tryz.results45]; go_simp) rfl ?_
      exact stb_set S5 U5 hp (by omega)
    · have e1 : (x0 == 1) = false := by simp [c1]
      by_cases c2 : x0 = 2
      · subst c2
        clear c0 c1
        have S5 := ((S3.far (q := ⟨bX, 1, none⟩) (by simp; omega) (by simp; omega) (.int .i64 ax)).far (q := ⟨bX, 3, none⟩) (by simp; omega) (by simp; omega) (.int .i64 cx))
        have U5 := (upd_far (upd_far U3 (q := ⟨bX, 1, none⟩) (by simp; omega) (.int .i64 ax)) (q := ⟨bX, 3, none⟩) (by simp; omega) (.int .i64 cx))
        obtain ⟨cR, fR, zR⟩ := xR3.out
        obtain ⟨cX, fX, zX4⟩ := xX3.out
        go_wp2
        refine bodyPost_ret (v := .agg #[.int .i64 ax, .int .i64 ax, .int .i64 cx, .int .i64 cx]) (by simp only [results, Tryz.results45]; go_simp) rfl ?_
        exact stb_set S5 U5 hp (by omega)
      · have e2 : (x0 == 2) = false := by simp [c2]
        by_cases c3 : x0 = 3
        · subst c3
          clear c0 c1 c2
          have S5 := (S3.far (q := ⟨bX, 2, none⟩) (by simp; omega) (by simp; omega) (.int .i64 0))
          have U5 := (upd_far U3 (q := ⟨bX, 2, none⟩) (by simp; omega) (.int .i64 0))
          obtain ⟨cR, fR, zR⟩ := xR3.out
          obtain ⟨cX, fX, zX4⟩ := xX3.out
          go_wp2
          refine bodyPost_ret (v := .agg #[.int .i64 ax, .int .i64 bx, .int .i64 0, .int .i64 dx]) (by simp only [results, Tryz.results45]; go_simp) rfl ?_
          exact stb_set S5 U5 hp (by omega)
        · have e3 : (x0 == 3) = false := by simp [c3]
          clear c0 c1 c2 c3
          obtain ⟨cR, fR, zR⟩ := xR3.out
          obtain ⟨cX, fX, zX4⟩ := xX3.out
          go_wp2
          refine bodyPost_ret (v := .agg #[.int .i64 ax, .int .i64 bx, .int .i64 cx, .int .i64 dx]) (by simp only [results, Tryz.results45]; go_simp) rfl ?_
          exact stb_set S3 U3 hp (by omega)
def SuO (w : World) (e : Ending) (w' : World) : Prop := ∃ x y z : Int, e = .returned (.agg #[.int .i64 x, .int .i64 y, .int .i64 z]) ∧ Bl w w'
set_option maxRecDepth 100000 in
set_option maxHeartbeats 6400000 in
theorem dsurd_any {w : World} {v : Value} {bs : List Int} (h : SlB w v bs) (hl : bs.length ≤ 4096) :
    Calls Tryz.prog 8 #[v] w (SuO w) := by
  obtain ⟨av, cv, rfl, hcv⟩ := h.form
  have HS := Lib.hid h
  clear h
  go_enter Tryz.func8, Tryz.ntmps8
  go_wp2_with fail
  have xR : Bx (w.alloc (.cells #[.int .i64 0, .int .i64 0, .int .i64 0] 33)) w.heap.size #[.int .i64 0, .int .i64 0, .int .i64 0] := Bx.new (b := w.heap.size) _ _ _ rfl
  have hA : Bl w (w.alloc (.cells #[.int .i64 0, .int .i64 0, .int .i64 0] 33)) := bl_alloc (bl_refl w) _
  have hsz : w.heap.size + 1 ≤ (w.alloc (.cells #[.int .i64 0, .int .i64 0, .int .i64 0] 33)).heap.size := by simp
  generalize w.alloc (.cells #[.int .i64 0, .int .i64 0, .int .i64 0] 33) = wa at *
  refine (dfrom_any (HS.out.below hA) (by omega)).mono ?_
  rintro e w1 ⟨p, rfl, hD, hb1⟩
  have x1 := xR.below hb1
  have hp := hD.out
  go_wp2_with fail
  refine (sbent7_any hD (by omega)).mono ?_
  rintro e w2 ⟨x, y, z, rfl, hS2, hU2⟩
  have x2 := x1.upd hU2 (by omega)
  obtain ⟨c2, f2, z2⟩ := x2.out
  have B2 := bl_of_upd (bl_call hA hb1) hU2 (by have := hA.size; omega)
  go_wp2
  refine bodyPost_ret (v := .agg #[.int .i64 x, .int .i64 y, .int .i64 z]) (by simp only [results, Tryz.results8]; go_simp) rfl ?_
  exact ⟨_, _, _, rfl, bl_set (bl_set (bl_set B2 (by simp) _) (by simp) _) (by simp) _⟩
def FrO (w : World) (e : Ending) (w' : World) : Prop := ∃ n d : Int, e = .returned (.agg #[.int .i64 n, .int .i64 d]) ∧ Bl w w'
set_option maxRecDepth 100000 in
set_option maxHeartbeats 6400000 in
theorem dsfrac_any {w : World} {v : Value} {bs : List Int} (h : SlB w v bs) (hl : bs.length ≤ 4096) :
    Calls Tryz.prog 5 #[v] w (FrO w) := by
  obtain ⟨av, cv, rfl, hcv⟩ := h.form
  have HS := Lib.hid h
  clear h
  go_enter Tryz.func5, Tryz.ntmps5
  go_wp2_with fail
  have xR : Bx (w.alloc (.cells #[.int .i64 0, .int .i64 0] 25)) w.heap.size #[.int .i64 0, .int .i64 0] := Bx.new (b := w.heap.size) _ _ _ rfl
  have hA : Bl w (w.alloc (.cells #[.int .i64 0, .int .i64 0] 25)) := bl_alloc (bl_refl w) _
  have hsz : w.heap.size + 1 ≤ (w.alloc (.cells #[.int .i64 0, .int .i64 0] 25)).heap.size := by simp
  generalize w.alloc (.cells #[.int .i64 0, .int .i64 0] 25) = wa at *
  refine (dfrom_any (HS.out.below hA) (by omega)).mono ?_
  rintro e w1 ⟨p, rfl, hD, hb1⟩
  have x1 := xR.below hb1
  have hp := hD.out
  go_wp2_with fail
  refine (done_any hD (by omega) (by omega)).mono ?_
  rintro e w2 ⟨b, rfl, hS2, hU2⟩
  have x2 := x1.upd hU2 (by omega)
  have B2 := bl_of_upd (bl_call hA hb1) hU2 (by have := hA.size; omega)
  cases b with
  | true =>
    obtain ⟨c2, f2, z2⟩ := x2.out
    go_wp2
    refine bodyPost_ret (v := .agg #[.int .i64 701408733, .int .i64 433494437]) (by simp only [results, Tryz.results5]; go_simp) rfl ?_
    exact ⟨_, _, rfl, bl_set (bl_set B2 (by simp) _) (by simp) _⟩
  | false =>
    have hz2 := hU2.size
    have hp2 := hS2.out
    go_wp2_with fail
    refine (sbent2_any hS2 (by omega)).mono ?_
    rintro e w3 ⟨n, d, rfl, hS3, hU3⟩
    have x3 := x2.upd hU3 (by omega)
    obtain ⟨c3, f3, z3⟩ := x3.out
    have B3 := bl_of_upd B2 hU3 (by have := hA.size; omega)
    go_wp2
    refine bodyPost_ret (v := .agg #[.int .i64 n, .int .i64 d]) (by simp only [results, Tryz.results5]; go_simp) rfl ?_
    exact ⟨_, _, rfl, bl_set (bl_set B3 (by simp) _) (by simp) _⟩

end Go.Proofs.YtgkelemfbmmgnaaGreat

/- Draws of a source and a number. Each theorem names its conditions. -/
namespace Go.Proofs.YtgkelemfbmmgnaaGreat
open Go.RowKit
set_option linter.unusedVariables false
set_option linter.unusedSimpArgs false

theorem ownS_set4 {w1 : World} {B b : Nat} {h pp g : Value} {s : Src} (O : OwnS w1 B h pp g s) (hb : ∀ k, blks h pp g k → k ≠ b) (v0 v1 v2 v3 : Value) : OwnS ((((w1.setCell ⟨b, 0, none⟩ v0).setCell ⟨b, 1, none⟩ v1).setCell ⟨b, 2, none⟩ v2).setCell ⟨b, 3, none⟩ v3) B h pp g s := by
  have st : ∀ {W : World} (j : Nat) (v : Value), OwnS W B h pp g s → OwnS (W.setCell ⟨b, j, none⟩ v) B h pp g s := fun j v o => o.only2 (only_set _ _ _) (fun k hk e => hb k hk (by simpa using e))
  exact st 3 _ (st 2 _ (st 1 _ (st 0 _ O)))
def AtB (w0 w : World) (p N : Nat) (e : Ending) (w' : World) : Prop := ∃ h pp g s, ∃ m : Int, e = .returned (.tuple #[.agg #[h, pp, g], .int .i64 m]) ∧ OwnS w' (w.heap.size + 1) h pp g s ∧ SrcD w0 w' p (N + 400) ∧ Upd w w' p
theorem atb_set {w0 w w1 : World} {p N M : Nat} {h pp g : Value} {s : Src} {m : Int} (S : SrcD w0 w1 p M) (U : Upd w w1 p) (O : OwnS w1 (w.heap.size + 1) h pp g s) (hp : p < w.heap.size) (hM : M ≤ N + 400) :
    AtB w0 w p N (.returned (.tuple #[.agg #[h, pp, g], .int .i64 m])) (((w1.setCell ⟨w.heap.size, 0, none⟩ h).setCell ⟨w.heap.size, 1, none⟩ pp).setCell ⟨w.heap.size, 2, none⟩ g) := by
  have h0 : w0.heap.size ≤ w.heap.size := by have := S.out.1; omega
  refine ⟨h, pp, g, s, m, rfl, ownS_set3 O (fun k hk => by have := (O.blk k hk).1; omega) _ _ _, ?_, upd_far (upd_far (upd_far U (q := ⟨w.heap.size, 0, none⟩) (by simp) _) (q := ⟨w.heap.size, 1, none⟩) (by simp) _) (q := ⟨w.heap.size, 2, none⟩) (by simp) _⟩
  exact (((S.far (q := ⟨w.heap.size, 0, none⟩) (by simpa using h0) (by simp; omega) _).far (q := ⟨w.heap.size, 1, none⟩) (by simpa using h0) (by simp; omega) _).far (q := ⟨w.heap.size, 2, none⟩) (by simpa using h0) (by simp; omega) _).more hM
set_option maxRecDepth 100000 in
set_option maxHeartbeats 12800000 in
theorem sat15_any {w0 w : World} {p N : Nat} {mm : Int} (h : SrcD w0 w p N) (hN : N ≤ 400000000) (hm : 1 ≤ mm ∧ mm ≤ 200) :
    Calls Tryz.prog 37 #[.pointer (some ⟨p, 0, none⟩), .int .i64 mm] w (AtB w0 w p N) := by
  have hp := h.out.2.1
  have hw0 : w0.heap.size ≤ w.heap.size := by have := h.out; omega
  go_enter Tryz.func37, Tryz.ntmps37
  go_wp2_with fail
  have xR : Bx (w.alloc (.cells #[.slice none 0 0, .slice none 0 0, .slice none 0 0] 29)) w.heap.size #[.slice none 0 0, .slice none 0 0, .slice none 0 0] := Bx.new (b := w.heap.size) _ _ _ rfl
  have hA := h.below (bl_alloc (bl_refl w) (.cells #[.slice none 0 0, .slice none 0 0, .slice none 0 0] 29))
  have uA : Upd w (w.alloc (.cells #[.slice none 0 0, .slice none 0 0, .slice none 0 0] 29)) p := upd_bl (upd_refl _ _) (bl_alloc (bl_refl w) _)
  have zA : w.heap.size + 1 ≤ (w.alloc (.cells #[.slice none 0 0, .slice none 0 0, .slice none 0 0] 29)).heap.size := by simp
  generalize w.alloc (.cells #[.slice none 0 0, .slice none 0 0, .slice none 0 0] 29) = wa at *
  refine (sbent15_any hA (by omega)).mono ?_
  rintro e w1 ⟨h, pp, g, s, rfl, hO, hL, hS1, hU1⟩
  obtain ⟨⟨b1, m1, k1, rfl⟩, ⟨b2, m2, k2, rfl⟩, ⟨b3, m3, k3, rfl⟩⟩ := hO.shape
  have hs1 := hU1.size
  have xR := (xR.upd hU1 (by omega)).alloc (.cells #[.slice b1 m1 k1, .slice b2 m2 k2, .slice b3 m3 k3] 29)
  have xX : Bx (w1.alloc (.cells #[.slice b1 m1 k1, .slice b2 m2 k2, .slice b3 m3 k3] 29)) w1.heap.size #[.slice b1 m1 k1, .slice b2 m2 k2, .slice b3 m3 k3] := Bx.new (b := w1.heap.size) _ _ _ rfl
  have S := hS1.below (bl_alloc (bl_refl w1) (.cells #[.slice b1 m1 k1, .slice b2 m2 k2, .slice b3 m3 k3] 29))
  have U := upd_bl (upd_trans uA hU1) (bl_alloc (bl_refl w1) (.cells #[.slice b1 m1 k1, .slice b2 m2 k2, .slice b3 m3 k3] 29))
  have O := (hO.mono (B' := w.heap.size + 1) (by omega)).below (bl_alloc (bl_refl w1) (.cells #[.slice b1 m1 k1, .slice b2 m2 k2, .slice b3 m3 k3] 29))
  have hOp : ∀ k, blks (.slice b1 m1 k1) (.slice b2 m2 k2) (.slice b3 m3 k3) k → ¬ k = p := fun k hk e => by have := (hO.blk k hk).1; omega
  have hXp : w1.heap.size ≠ p := by omega
  have z2 : w1.heap.size + 1 ≤ (w1.alloc (.cells #[.slice b1 m1 k1, .slice b2 m2 k2, .slice b3 m3 k3] 29)).heap.size := by simp
  clear hO hS1 hU1 hA uA
  go_wp2_with fail
  generalize w1.alloc (.cells #[.slice b1 m1 k1, .slice b2 m2 k2, .slice b3 m3 k3] 29) = w2 at *
  refine (done_any S (by omega) (by omega)).mono ?_
  rintro e w3 ⟨bb, rfl, hS3, hU3⟩
  have hs3 := hU3.size
  have xR := xR.upd hU3 (by omega)
  have xX := xX.upd hU3 hXp
  have O := O.only2 (only_upd hU3) (fun k hk e => hOp k hk e)
  have U := upd_trans U hU3
  have S := hS3
  clear hS3 hU3
  cases bb with
  | true =>
    have hp3 := S.out.2.1
    have hLp : w3.heap.size ≠ p := by omega
    have BA : Bl w3 (w3.alloc (.cells #[.int .i64 (-1), .int .i64 0, .int .i64 59, .int .i64 60, .int .i64 61, .int .i64 1000, .int .i64 1001] 2)).drew := bl_drew (bl_alloc (bl_refl w3) (.cells #[.int .i64 (-1), .int .i64 0, .int .i64 59, .int .i64 60, .int .i64 61, .int .i64 1000, .int .i64 1001] 2))
    have xL : Bx (w3.alloc (.cells #[.int .i64 (-1), .int .i64 0, .int .i64 59, .int .i64 60, .int .i64 61, .int .i64 1000, .int .i64 1001] 2)).drew w3.heap.size #[.int .i64 (-1), .int .i64 0, .int .i64 59, .int .i64 60, .int .i64 61, .int .i64 1000, .int .i64 1001] := (Bx.new (b := w3.heap.size) w3 _ 2 rfl).drew
    have S4 := S.below BA
    obtain ⟨cR, fR, zR⟩ := xR.out
    obtain ⟨cX, fX, zX⟩ := xX.out
    go_wp2_with fail
    go_region_with
      ((go_at_call 65; go_must (refine (samong_any (b := w3.heap.size) (cs := #[.int .i64 (-1), .int .i64 0, .int .i64 59, .int .i64 60, .int .i64 61, .int .i64 1000, .int .i64 1001]) S4 (by omega) xL hLp (by omega) (by omega) (fun i hi => by rcases (show i = 0 ∨ i = 1 ∨ i = 2 ∨ i = 3 ∨ i = 4 ∨ i = 5 ∨ i = 6 by omega) with rfl | rfl | rfl | rfl | rfl | rfl | rfl <;> exact ⟨_, rfl, by unfold R64; omega⟩)).mono ?_; rintro e w5 ⟨m, rfl, hm5, hS5, hU5⟩; have xR5 := (xR.below BA).upd hU5 (by omega); have xX5 := (xX.below BA).upd hU5 hXp; have O5 := (O.below BA).only2 (only_upd hU5) (fun k hk e => hOp k hk e); have U5 := upd_trans (upd_bl U BA) hU5; clear cR fR zR cX fX zX; obtain ⟨cR, fR, zR⟩ := xR5.out; obtain ⟨cX, fX, zX⟩ := xX5.out)))
    all_goals
      go_wp2
      refine bodyPost_ret (v := .tuple #[.agg #[.slice b1 m1 k1, .slice b2 m2 k2, .slice b3 m3 k3], .int .i64 m]) (by simp only [results, Tryz.results37]; go_simp) rfl ?_
      exact atb_set hS5 U5 O5 hp (by omega)
  | false =>
    obtain ⟨cR, fR, zR⟩ := xR.out
    obtain ⟨cX, fX, zX⟩ := xX.out
    go_wp2_with fail
    go_region_with
      ((go_at_call 63; go_must (refine (dpick_any (S.below (bl_drew (bl_refl _))) (by omega) (by omega)).mono ?_; rintro e w5 ⟨m, rfl, hm5, hn5, hS5, hU5⟩; have xR5 := xR.drew.upd hU5 (by omega); have xX5 := xX.drew.upd hU5 hXp; have O5 := O.drew.only2 (only_upd hU5) (fun k hk e => hOp k hk e); have U5 := upd_trans (upd_bl U (bl_drew (bl_refl _))) hU5; clear cR fR zR cX fX zX; obtain ⟨cR, fR, zR⟩ := xR5.out; obtain ⟨cX, fX, zX⟩ := xX5.out)))
    all_goals
      go_wp2
      refine bodyPost_ret (v := .tuple #[.agg #[.slice b1 m1 k1, .slice b2 m2 k2, .slice b3 m3 k3], .int .i64 m]) (by simp only [results, Tryz.results37]; go_simp) rfl ?_
      exact atb_set hS5 U5 O5 hp (by omega)
set_option maxRecDepth 100000 in
set_option maxHeartbeats 6400000 in
theorem dconv_any {w : World} {v : Value} {bs : List Int} (h : SlB w v bs) (hl : bs.length ≤ 4096) :
    Calls Tryz.prog 11 #[v] w (NeO w) := by
  obtain ⟨av, cv, rfl, hcv⟩ := h.form
  have HS := Lib.hid h
  clear h
  go_enter Tryz.func11, Tryz.ntmps11
  go_wp2_with fail
  have xR : Bx (w.alloc (.cells #[.slice none 0 0, .slice none 0 0, .slice none 0 0] 29)) w.heap.size #[.slice none 0 0, .slice none 0 0, .slice none 0 0] := Bx.new (b := w.heap.size) _ _ _ rfl
  have hA : Bl w (w.alloc (.cells #[.slice none 0 0, .slice none 0 0, .slice none 0 0] 29)) := bl_alloc (bl_refl w) _
  have hsz : w.heap.size + 1 ≤ (w.alloc (.cells #[.slice none 0 0, .slice none 0 0, .slice none 0 0] 29)).heap.size := by simp
  generalize w.alloc (.cells #[.slice none 0 0, .slice none 0 0, .slice none 0 0] 29) = wa at *
  refine (dfrom_any (HS.out.below hA) (by omega)).mono ?_
  rintro e w1 ⟨p, rfl, hD, hb1⟩
  have x1 := xR.below hb1
  have hp := hD.out
  have hs1 := hb1.size
  go_wp2_with fail
  refine (sat15_any hD (by omega) (by omega)).mono ?_
  rintro e w2 ⟨h, pp, g, s, m, rfl, hO, hS2, hU2⟩
  obtain ⟨⟨b1, m1, k1, rfl⟩, ⟨b2, m2, k2, rfl⟩, ⟨b3, m3, k3, rfl⟩⟩ := hO.shape
  have x2 := x1.upd hU2 (by omega)
  have B2 := bl_of_upd (bl_call hA hb1) hU2 (by have := hA.size; omega)
  obtain ⟨c2, f2, z2⟩ := x2.out
  have O5 := ownS_set3 (b := w.heap.size) (hO.mono (B' := w.heap.size) (by omega)) (fun k hk => by have := (hO.blk k hk).1; omega) (.slice b1 m1 k1) (.slice b2 m2 k2) (.slice b3 m3 k3)
  go_wp2
  refine bodyPost_ret (v := .tuple #[.agg #[.slice b1 m1 k1, .slice b2 m2 k2, .slice b3 m3 k3], .int .i64 m]) (by simp only [results, Tryz.results11]; go_simp) rfl ?_
  exact ⟨_, _, _, _, _, rfl, O5, bl_set (bl_set (bl_set B2 (by simp) _) (by simp) _) (by simp) _⟩
def MpO (w : World) (e : Ending) (w' : World) : Prop := ∃ h pp g s, ∃ a b c d m : Int, e = .returned (.tuple #[.agg #[.int .i64 a, .int .i64 b, .int .i64 c, .int .i64 d], .agg #[h, pp, g], .int .i64 m]) ∧ OwnS w' w.heap.size h pp g s ∧ Bl w w'
set_option maxRecDepth 100000 in
set_option maxHeartbeats 6400000 in
theorem dmap_any {w : World} {v : Value} {bs : List Int} (h : SlB w v bs) (hl : bs.length ≤ 4096) :
    Calls Tryz.prog 14 #[v] w (MpO w) := by
  obtain ⟨av, cv, rfl, hcv⟩ := h.form
  have HS := Lib.hid h
  clear h
  go_enter Tryz.func14, Tryz.ntmps14
  go_wp2_with fail
  have xT : Bx ((w.alloc (.cells #[.int .i64 0, .int .i64 0, .int .i64 0, .int .i64 0] 40)).alloc (.cells #[.slice none 0 0, .slice none 0 0, .slice none 0 0] 29)) w.heap.size #[.int .i64 0, .int .i64 0, .int .i64 0, .int .i64 0] := (Bx.new (b := w.heap.size) w _ 40 rfl).alloc _
  have xR : Bx ((w.alloc (.cells #[.int .i64 0, .int .i64 0, .int .i64 0, .int .i64 0] 40)).alloc (.cells #[.slice none 0 0, .slice none 0 0, .slice none 0 0] 29)) (w.heap.size + 1) #[.slice none 0 0, .slice none 0 0, .slice none 0 0] := Bx.new (b := w.heap.size + 1) (w.alloc (.cells #[.int .i64 0, .int .i64 0, .int .i64 0, .int .i64 0] 40)) _ 29 (by simp)
  have hA : Bl w ((w.alloc (.cells #[.int .i64 0, .int .i64 0, .int .i64 0, .int .i64 0] 40)).alloc (.cells #[.slice none 0 0, .slice none 0 0, .slice none 0 0] 29)) := bl_alloc (bl_alloc (bl_refl w) _) _
  have hsz : w.heap.size + 2 ≤ (((w.alloc (.cells #[.int .i64 0, .int .i64 0, .int .i64 0, .int .i64 0] 40)).alloc (.cells #[.slice none 0 0, .slice none 0 0, .slice none 0 0] 29))).heap.size := by simp
  generalize ((w.alloc (.cells #[.int .i64 0, .int .i64 0, .int .i64 0, .int .i64 0] 40)).alloc (.cells #[.slice none 0 0, .slice none 0 0, .slice none 0 0] 29)) = wa at *
  refine (dfrom_any (HS.out.below hA) (by omega)).mono ?_
  rintro e w1 ⟨p, rfl, hD, hb1⟩
  have hp := hD.out
  have hs1 := hb1.size
  have xT := xT.below hb1
  have xR := xR.below hb1
  have B := bl_call hA hb1
  go_wp2_with fail
  refine (sbent13_any hD (by omega)).mono ?_
  rintro e w2 ⟨a, b, c, d, rfl, hS2, hU2⟩
  have hs2 := hU2.size
  have xT := (xT.upd hU2 (by omega)).alloc (.cells #[.int .i64 a, .int .i64 b, .int .i64 c, .int .i64 d] 40)
  have xR := (xR.upd hU2 (by omega)).alloc (.cells #[.int .i64 a, .int .i64 b, .int .i64 c, .int .i64 d] 40)
  have xX : Bx (w2.alloc (.cells #[.int .i64 a, .int .i64 b, .int .i64 c, .int .i64 d] 40)) w2.heap.size #[.int .i64 a, .int .i64 b, .int .i64 c, .int .i64 d] := Bx.new (b := w2.heap.size) _ _ _ rfl
  have S := hS2.below (bl_alloc (bl_refl w2) (.cells #[.int .i64 a, .int .i64 b, .int .i64 c, .int .i64 d] 40))
  have B : Bl w (w2.alloc (.cells #[.int .i64 a, .int .i64 b, .int .i64 c, .int .i64 d] 40)) := bl_alloc (bl_of_upd B hU2 (by omega)) _
  have hXp : w2.heap.size ≠ p := by omega
  have z3 : w2.heap.size + 1 ≤ (w2.alloc (.cells #[.int .i64 a, .int .i64 b, .int .i64 c, .int .i64 d] 40)).heap.size := by simp
  clear hS2 hU2
  go_wp2_with fail
  generalize w2.alloc (.cells #[.int .i64 a, .int .i64 b, .int .i64 c, .int .i64 d] 40) = w3 at *
  refine (sat15_any S (by omega) (by omega)).mono ?_
  rintro e w4 ⟨h, pp, g, s, m, rfl, hO, hS4, hU4⟩
  obtain ⟨⟨b1, m1, k1, rfl⟩, ⟨b2, m2, k2, rfl⟩, ⟨b3, m3, k3, rfl⟩⟩ := hO.shape
  have hs4 := hU4.size
  have xT := xT.upd hU4 (by omega)
  have xR := xR.upd hU4 (by omega)
  have xX := xX.upd hU4 hXp
  have B := bl_of_upd B hU4 (by omega)
  obtain ⟨cT, fT, zT⟩ := xT.out
  obtain ⟨cR, fR, zR⟩ := xR.out
  obtain ⟨cX, fX, zX⟩ := xX.out
  have hOT : ∀ k, blks (.slice b1 m1 k1) (.slice b2 m2 k2) (.slice b3 m3 k3) k → w.heap.size + 1 < k := fun k hk => by have := (hO.blk k hk).1; omega
  have hOm := hO.mono (B' := w.heap.size) (by omega)
  have O10 := ((ownS_set3 (b := w.heap.size + 1) (ownS_set4 (b := w.heap.size) hOm (fun k hk => by have := hOT k hk; omega) (.int .i64 a) (.int .i64 b) (.int .i64 c) (.int .i64 d)) (fun k hk => by have := hOT k hk; omega) (.slice b1 m1 k1) (.slice b2 m2 k2) (.slice b3 m3 k3)).alloc (.cells #[.slice b1 m1 k1, .slice b2 m2 k2, .slice b3 m3 k3] 29)).drew
  go_wp2_with fail
  go_region
  all_goals
    go_wp2
    refine bodyPost_ret (v := .tuple #[.agg #[.int .i64 a, .int .i64 b, .int .i64 c, .int .i64 d], .agg #[.slice b1 m1 k1, .slice b2 m2 k2, .slice b3 m3 k3], .int .i64 m]) (by simp only [results, Tryz.results14]; go_simp) rfl ?_
    exact ⟨_, _, _, _, _, _, _, _, _, rfl, O10, bl_drew (bl_alloc (bl_set (bl_set (bl_set (bl_set (bl_set (bl_set (bl_set B (by simp) _) (by simp) _) (by simp) _) (by simp) _) (by simp) _) (by simp) _) (by simp) _) _)⟩

end Go.Proofs.YtgkelemfbmmgnaaGreat

