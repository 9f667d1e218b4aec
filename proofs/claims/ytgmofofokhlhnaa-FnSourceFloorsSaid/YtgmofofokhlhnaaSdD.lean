/- Draws of fractions that are seldom not plain, and of numbers of terms. Each theorem names its conditions. -/
import Derived.Test.YtgmofofokhlhnaaSdA
namespace Go.Proofs.Ytgmofofokhlhnaa
open Go.RowKit
set_option linter.unusedVariables false
set_option linter.unusedSimpArgs false

def FrB (w0 w : World) (p N : Nat) (e : Ending) (w' : World) : Prop := ∃ n d : Int, e = .returned (.agg #[.int .i64 n, .int .i64 d]) ∧ SrcD w0 w' p (N + 60) ∧ Upd w w' p
def MoB (w0 w : World) (p N : Nat) (e : Ending) (w' : World) : Prop := ∃ n : Int, e = .returned (.int .i64 n) ∧ SrcD w0 w' p (N + 60) ∧ Upd w w' p
theorem frb_set {w0 w w1 : World} {p N M : Nat} {n d : Int} (S : SrcD w0 w1 p M) (U : Upd w w1 p) (hp : p < w.heap.size) (hM : M ≤ N + 60) :
    FrB w0 w p N (.returned (.agg #[.int .i64 n, .int .i64 d])) ((w1.setCell ⟨w.heap.size, 0, none⟩ (.int .i64 n)).setCell ⟨w.heap.size, 1, none⟩ (.int .i64 d)) := by
  have h0 : w0.heap.size ≤ w.heap.size := by have := S.out.1; omega
  exact ⟨n, d, rfl, ((S.far (q := ⟨w.heap.size, 0, none⟩) (by simpa using h0) (by simp; omega) _).far (q := ⟨w.heap.size, 1, none⟩) (by simpa using h0) (by simp; omega) _).more hM, upd_far (upd_far U (q := ⟨w.heap.size, 0, none⟩) (by simp) _) (q := ⟨w.heap.size, 1, none⟩) (by simp) _⟩
set_option maxRecDepth 100000 in
set_option maxHeartbeats 6400000 in
theorem smost_any {w0 w : World} {p N : Nat} (h : SrcD w0 w p N) (hN : N ≤ 500000000) :
    Calls Try.prog 77 #[.pointer (some ⟨p, 0, none⟩)] w (MoB w0 w p N) := by
  have hp := h.out.2.1
  go_enter Try.func77, Try.ntmps77
  go_wp2_with fail
  refine (done_any h (by omega) (by omega)).mono ?_
  rintro e w1 ⟨b, rfl, hS1, hU1⟩
  have hp1 := hS1.out.2.1
  cases b with
  | true =>
    go_wp2_with fail
    refine (samong_any (b := w1.heap.size) (cs := #[.int .i64 (-1), .int .i64 0, .int .i64 1, .int .i64 1000, .int .i64 1001]) (hS1.below (bl_alloc (bl_refl _) (.cells #[.int .i64 (-1), .int .i64 0, .int .i64 1, .int .i64 1000, .int .i64 1001] 2))) (by omega) (Bx.new (b := w1.heap.size) _ _ _ rfl) (by omega) (by omega) (by omega) (fun i hi => by rcases (show i = 0 ∨ i = 1 ∨ i = 2 ∨ i = 3 ∨ i = 4 by omega) with rfl | rfl | rfl | rfl | rfl <;> exact ⟨_, rfl, by unfold R64; omega⟩)).mono ?_
    rintro e w2 ⟨x, rfl, hx, hS2, hU2⟩
    go_wp2
    go_ret
    exact ⟨x, rfl, hS2.more (by omega), upd_trans hU1 (upd_trans (upd_bl (upd_refl _ _) (bl_alloc (bl_refl _) (.cells #[.int .i64 (-1), .int .i64 0, .int .i64 1, .int .i64 1000, .int .i64 1001] 2))) hU2)⟩
  | false =>
    go_wp2_with fail
    refine (dpick_any hS1 (by omega) (by omega)).mono ?_
    rintro e w2 ⟨r, rfl, r0, r1, hS2, hU2⟩
    go_wp2
    go_ret
    exact ⟨_, rfl, hS2.more (by omega), upd_trans hU1 hU2⟩
set_option maxRecDepth 100000 in
set_option maxHeartbeats 6400000 in
theorem sbent2_any {w0 w : World} {p N : Nat} (h : SrcD w0 w p N) (hN : N ≤ 500000000) :
    Calls Try.prog 132 #[.pointer (some ⟨p, 0, none⟩)] w (FrB w0 w p N) := by
  have hp := h.out.2.1
  have hw0 : w0.heap.size ≤ w.heap.size := by have := h.out; omega
  go_enter Try.func132, Try.ntmps132
  go_wp2_with fail
  have xR : Bx (w.alloc (.cells #[.int .i64 0, .int .i64 0] 55)) w.heap.size #[.int .i64 0, .int .i64 0] := Bx.new (b := w.heap.size) _ _ _ rfl
  have hA := h.below (bl_alloc (bl_refl w) (.cells #[.int .i64 0, .int .i64 0] 55))
  have uA : Upd w (w.alloc (.cells #[.int .i64 0, .int .i64 0] 55)) p := upd_bl (upd_refl _ _) (bl_alloc (bl_refl w) _)
  generalize w.alloc (.cells #[.int .i64 0, .int .i64 0] 55) = wa at *
  refine (draw2_any hA (by omega) (by omega)).mono ?_
  rintro e w1 ⟨n, d, rfl, hg, hd, hn, hS1, hU1⟩
  have xR1 := (xR.upd hU1 (by omega)).alloc (.cells #[.int .i64 n, .int .i64 d] 55)
  have zR1 := (xR.upd hU1 (by omega)).out.2.2
  have xX1 : Bx (w1.alloc (.cells #[.int .i64 n, .int .i64 d] 55)) w1.heap.size #[.int .i64 n, .int .i64 d] := Bx.new (b := w1.heap.size) _ _ _ rfl
  have S1 := hS1.below (bl_alloc (bl_refl w1) (.cells #[.int .i64 n, .int .i64 d] 55))
  have U1 := upd_bl (upd_trans uA hU1) (bl_alloc (bl_refl w1) (.cells #[.int .i64 n, .int .i64 d] 55))
  clear xR hA uA hS1 hU1 hg hd hn h
  go_wp2_with fail
  obtain ⟨bX, hbX⟩ : ∃ bX, bX = w1.heap.size := ⟨_, rfl⟩
  rw [← hbX] at xX1 ⊢
  have zX : w.heap.size < bX := by omega
  generalize w1.alloc (.cells #[.int .i64 n, .int .i64 d] 55) = w2 at *
  clear hbX zR1
  refine (dpick_any S1 (by omega) (by omega)).mono ?_
  rintro e w3 ⟨x, rfl, x0, x1, S3, hU3⟩
  have xR3 := xR1.upd hU3 (by omega)
  have xX3 := xX1.upd hU3 (by omega)
  have U3 := upd_trans U1 hU3
  have hp3 := S3.out.2.1
  have zX3 := xX3.out.2.2
  clear xR1 xX1 S1 U1 hU3
  by_cases c0 : x = 0
  · subst c0
    go_wp2_with fail
    refine (samong_any (b := w3.heap.size) (cs := #[.int .i64 (-1000000001), .int .i64 (-1000000000), .int .i64 1000000000, .int .i64 1000000001, .int .i64 (-9223372036854775808)]) (S3.below (bl_alloc (bl_refl _) (.cells #[.int .i64 (-1000000001), .int .i64 (-1000000000), .int .i64 1000000000, .int .i64 1000000001, .int .i64 (-9223372036854775808)] 2))) (by omega) (Bx.new (b := w3.heap.size) _ _ _ rfl) (by omega) (by omega) (by omega) (fun i hi => by rcases (show i = 0 ∨ i = 1 ∨ i = 2 ∨ i = 3 ∨ i = 4 by omega) with rfl | rfl | rfl | rfl | rfl <;> exact ⟨_, rfl, by unfold R64; omega⟩)).mono ?_
    rintro e w4 ⟨y, rfl, hy, S4, hU4⟩
    have xR4 := (xR3.alloc (.cells #[.int .i64 (-1000000001), .int .i64 (-1000000000), .int .i64 1000000000, .int .i64 1000000001, .int .i64 (-9223372036854775808)] 2)).upd hU4 (by omega)
    have xX4 := (xX3.alloc (.cells #[.int .i64 (-1000000001), .int .i64 (-1000000000), .int .i64 1000000000, .int .i64 1000000001, .int .i64 (-9223372036854775808)] 2)).upd hU4 (by omega)
    have U4 := upd_trans (upd_bl U3 (bl_alloc (bl_refl _) (.cells #[.int .i64 (-1000000001), .int .i64 (-1000000000), .int .i64 1000000000, .int .i64 1000000001, .int .i64 (-9223372036854775808)] 2))) hU4
    have S5 := S4.far (q := ⟨bX, 0, none⟩) (by simp; omega) (by simp; omega) (.int .i64 y)
    have U5 := upd_far U4 (q := ⟨bX, 0, none⟩) (by simp; omega) (.int .i64 y)
    obtain ⟨cR, fR, zR⟩ := xR4.out
    obtain ⟨cX, fX, zX4⟩ := xX4.out
    go_wp2
    refine bodyPost_ret (v := .agg #[.int .i64 y, .int .i64 d]) (by simp only [results, Try.results132]; go_simp) rfl ?_
    exact frb_set S5 U5 hp (by omega)
  · have e0 : (x == 0) = false := by simp [c0]
    by_cases c1 : x = 1
    · subst c1
      clear c0
      go_wp2_with fail
      refine (samong_any (b := w3.heap.size) (cs := #[.int .i64 (-1), .int .i64 0, .int .i64 1, .int .i64 1000000000, .int .i64 1000000001, .int .i64 9223372036854775807]) (S3.below (bl_alloc (bl_refl _) (.cells #[.int .i64 (-1), .int .i64 0, .int .i64 1, .int .i64 1000000000, .int .i64 1000000001, .int .i64 9223372036854775807] 2))) (by omega) (Bx.new (b := w3.heap.size) _ _ _ rfl) (by omega) (by omega) (by omega) (fun i hi => by rcases (show i = 0 ∨ i = 1 ∨ i = 2 ∨ i = 3 ∨ i = 4 ∨ i = 5 by omega) with rfl | rfl | rfl | rfl | rfl | rfl <;> exact ⟨_, rfl, by unfold R64; omega⟩)).mono ?_
      rintro e w4 ⟨y, rfl, hy, S4, hU4⟩
      have xR4 := (xR3.alloc (.cells #[.int .i64 (-1), .int .i64 0, .int .i64 1, .int .i64 1000000000, .int .i64 1000000001, .int .i64 9223372036854775807] 2)).upd hU4 (by omega)
      have xX4 := (xX3.alloc (.cells #[.int .i64 (-1), .int .i64 0, .int .i64 1, .int .i64 1000000000, .int .i64 1000000001, .int .i64 9223372036854775807] 2)).upd hU4 (by omega)
      have U4 := upd_trans (upd_bl U3 (bl_alloc (bl_refl _) (.cells #[.int .i64 (-1), .int .i64 0, .int .i64 1, .int .i64 1000000000, .int .i64 1000000001, .int .i64 9223372036854775807] 2))) hU4
      have S5 := S4.far (q := ⟨bX, 1, none⟩) (by simp; omega) (by simp; omega) (.int .i64 y)
      have U5 := upd_far U4 (q := ⟨bX, 1, none⟩) (by simp; omega) (.int .i64 y)
      obtain ⟨cR, fR, zR⟩ := xR4.out
      obtain ⟨cX, fX, zX4⟩ := xX4.out
      go_wp2
      refine bodyPost_ret (v := .agg #[.int .i64 n, .int .i64 y]) (by simp only [results, Try.results132]; go_simp) rfl ?_
      exact frb_set S5 U5 hp (by omega)
    · have e1 : (x == 1) = false := by simp [c1]
      by_cases c2 : x = 2
      · subst c2
        clear c0 c1
        obtain ⟨cR, fR, zR⟩ := xR3.out
        go_wp2
        refine bodyPost_ret (v := .agg #[.int .i64 2, .int .i64 4]) (by simp only [results, Try.results132]; go_simp) rfl ?_
        exact frb_set S3 U3 hp (by omega)
      · have e2 : (x == 2) = false := by simp [c2]
        by_cases c3 : x = 3
        · subst c3
          clear c0 c1 c2
          go_wp2_with fail
          refine (dpick_any S3 (by omega) (by omega)).mono ?_
          rintro e w4 ⟨r, rfl, r0, r1, S4, hU4⟩
          have xR4 := xR3.upd hU4 (by omega)
          have xX4 := xX3.upd hU4 (by omega)
          have U4 := upd_trans U3 hU4
          go_wp2_with fail
          refine (dpick_any S4 (by omega) (by omega)).mono ?_
          rintro e w5 ⟨t, rfl, t0, t1, S5, hU5⟩
          have xR5 := xR4.upd hU5 (by omega)
          have xX5 := xX4.upd hU5 (by omega)
          have U5 := upd_trans U4 hU5
          go_wp2_with fail
          refine (lowF_any _ _ _ (by omega) (by omega) (by omega) (by omega)).mono ?_
          rintro e w6 ⟨rfl, hb6⟩
          obtain ⟨⟨f1, f2⟩, hf⟩ : ∃ F, lowF (1000000000 - r) (1000000000 - t) = F := ⟨_, rfl⟩
          rw [hf]
          have S6 := (S5.below hb6).far (q := ⟨bX, 0, none⟩) (by simp; omega) (by simp; omega) (.int .i64 f1) |>.far (q := ⟨bX, 1, none⟩) (by simp; omega) (by simp; omega) (.int .i64 f2)
          have U6 := upd_far (upd_far (upd_bl U5 hb6) (q := ⟨bX, 0, none⟩) (by simp; omega) (.int .i64 f1)) (q := ⟨bX, 1, none⟩) (by simp; omega) (.int .i64 f2)
          obtain ⟨cR, fR, zR⟩ := (xR5.below hb6).out
          obtain ⟨cX, fX, zX4⟩ := (xX5.below hb6).out
          clear hf
          go_wp2
          refine bodyPost_ret (v := .agg #[.int .i64 f1, .int .i64 f2]) (by simp only [results, Try.results132]; go_simp) rfl ?_
          exact frb_set S6 U6 hp (by omega)
        · have e3 : (x == 3) = false := by simp [c3]
          clear c0 c1 c2 c3
          obtain ⟨cR, fR, zR⟩ := xR3.out
          obtain ⟨cX, fX, zX4⟩ := xX3.out
          go_wp2
          refine bodyPost_ret (v := .agg #[.int .i64 n, .int .i64 d]) (by simp only [results, Try.results132]; go_simp) rfl ?_
          exact frb_set S3 U3 hp (by omega)

end Go.Proofs.Ytgmofofokhlhnaa
