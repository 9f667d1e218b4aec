/- Some of the texts of this claim, joined in one file: SdD, SdP, SdQ. -/
import Derived.Test.YtndblondleclpaaGreatDoorSdA
import Derived.Test.YtndblondleclpaaGreatDoorSrcEs
import Derived.Test.YtndblondleclpaaGreatDoorShort
import Derived.Test.YtndblondleclpaaGreatDoorApp
import Derived.Test.YtndblondleclpaaGreatDoorMB4
import Derived.Test.YtndblondleclpaaGreatDoorMB2
/- Draws of fractions that are seldom not plain, and of numbers of terms. Each theorem names its conditions. -/
namespace Go.Proofs.YtndblondleclpaaGreatDoor
open Go.RowKit
set_option linter.unusedVariables false
set_option linter.unusedSimpArgs false

def FrB (w0 w : World) (p N : Nat) (e : Ending) (w' : World) : Prop := ∃ n d : Int, e = .returned (.agg #[.int .i64 n, .int .i64 d]) ∧ SrcD w0 w' p (N + 60) ∧ Upd w w' p
def MoB (w0 w : World) (p N : Nat) (e : Ending) (w' : World) : Prop := ∃ n : Int, e = .returned (.int .i64 n) ∧ SrcD w0 w' p (N + 60) ∧ Upd w w' p
theorem frb_set {w0 w w1 : World} {p N M : Nat} {n d : Int} (S : SrcD w0 w1 p M) (U : Upd w w1 p) (hp : p < w.heap.size) (hM : M ≤ N + 60) :
    FrB w0 w p N (.returned (.agg #[.int .i64 n, .int .i64 d])) ((w1.setCell ⟨w.heap.size, 0, none⟩ (.int .i64 n)).setCell ⟨w.heap.size, 1, none⟩ (.int .i64 d)) := by
  have h0 : w0.heap.size ≤ w.heap.size := by have := S.out.1; omega
  exact ⟨n, d, rfl, ((S.far (q := ⟨w.heap.size, 0, none⟩) (by simpa using h0) (by simp; omega) _).far (q := ⟨w.heap.size, 1, none⟩) (by simpa using h0) (by simp; omega) _).more hM, upd_far (upd_far U (q := ⟨w.heap.size, 0, none⟩) (by simp) _) (q := ⟨w.heap.size, 1, none⟩) (by simp) _⟩
set_option maxRecDepth 100000 in
set_option maxHeartbeats 6400000 in
theorem sbent2_any {w0 w : World} {p N : Nat} (h : SrcD w0 w p N) (hN : N ≤ 500000000) :
    Calls Tryz.prog 74 #[.pointer (some ⟨p, 0, none⟩)] w (FrB w0 w p N) := by
  have hp := h.out.2.1
  have hw0 : w0.heap.size ≤ w.heap.size := by have := h.out; omega
  go_enter Tryz.func74, Tryz.ntmps74
  go_wp2_with fail
  have xR : Bx (w.alloc (.cells #[.int .i64 0, .int .i64 0] 45)) w.heap.size #[.int .i64 0, .int .i64 0] := Bx.new (b := w.heap.size) _ _ _ rfl
  have hA := h.below (bl_alloc (bl_refl w) (.cells #[.int .i64 0, .int .i64 0] 45))
  have uA : Upd w (w.alloc (.cells #[.int .i64 0, .int .i64 0] 45)) p := upd_bl (upd_refl _ _) (bl_alloc (bl_refl w) _)
  generalize w.alloc (.cells #[.int .i64 0, .int .i64 0] 45) = wa at *
  refine (draw2_any hA (by omega) (by omega)).mono ?_
  rintro e w1 ⟨n, d, rfl, hg, hd, hn, hS1, hU1⟩
  have xR1 := (xR.upd hU1 (by omega)).alloc (.cells #[.int .i64 n, .int .i64 d] 45)
  have zR1 := (xR.upd hU1 (by omega)).out.2.2
  have xX1 : Bx (w1.alloc (.cells #[.int .i64 n, .int .i64 d] 45)) w1.heap.size #[.int .i64 n, .int .i64 d] := Bx.new (b := w1.heap.size) _ _ _ rfl
  have S1 := hS1.below (bl_alloc (bl_refl w1) (.cells #[.int .i64 n, .int .i64 d] 45))
  have U1 := upd_bl (upd_trans uA hU1) (bl_alloc (bl_refl w1) (.cells #[.int .i64 n, .int .i64 d] 45))
  clear xR hA uA hS1 hU1 hg hd hn h
  go_wp2_with fail
  obtain ⟨bX, hbX⟩ : ∃ bX, bX = w1.heap.size := ⟨_, rfl⟩
  rw [← hbX] at xX1 ⊢
  have zX : w.heap.size < bX := by omega
  generalize w1.alloc (.cells #[.int .i64 n, .int .i64 d] 45) = w2 at *
  clear hbX zR1
  refine (dpick_any S1 (by omega) (by omega)).mono ?_
  rintro e w3 ⟨x, rfl, x0, x1, S3, hU3⟩
  have xR3 := xR1.upd hU3 (by omega)
  have xX3 := xX1.upd hU3 (by omega)
  have U3 := upd_trans U1 hU3
  have hp3 := S3.out.2.1
  have zX3 := xX3.out.2.2
  clear xR1 xX1 S1 U1 hU3
  by_cases c0 : x = 0
  · subst c0
    go_wp2_with fail
    refine (samong_any (b := w3.heap.size) (cs := #[.int .i64 (-1000000001), .int .i64 (-1000000000), .int .i64 1000000000, .int .i64 1000000001, .int .i64 (-9223372036854775808)]) (S3.below (bl_alloc (bl_refl _) (.cells #[.int .i64 (-1000000001), .int .i64 (-1000000000), .int .i64 1000000000, .int .i64 1000000001, .int .i64 (-9223372036854775808)] 2))) (by omega) (Bx.new (b := w3.heap.size) _ _ _ rfl) (by omega) (by omega) (by omega) (fun i hi => by rcases (show i = 0 ∨ i = 1 ∨ i = 2 ∨ i = 3 ∨ i = 4 by omega) with rfl | rfl | rfl | rfl | rfl <;> exact ⟨_, rfl, by unfold R64; omega⟩)).mono ?_
    rintro e w4 ⟨y, rfl, hy, S4, hU4⟩
    have xR4 := (xR3.alloc (.cells #[.int .i64 (-1000000001), .int .i64 (-1000000000), .int .i64 1000000000, .int .i64 1000000001, .int .i64 (-9223372036854775808)] 2)).upd hU4 (by omega)
    have xX4 := (xX3.alloc (.cells #[.int .i64 (-1000000001), .int .i64 (-1000000000), .int .i64 1000000000, .int .i64 1000000001, .int .i64 (-9223372036854775808)] 2)).upd hU4 (by omega)
    have U4 := upd_trans (upd_bl U3 (bl_alloc (bl_refl _) (.cells #[.int .i64 (-1000000001), .int .i64 (-1000000000), .int .i64 1000000000, .int .i64 1000000001, .int .i64 (-9223372036854775808)] 2))) hU4
    have S5 := S4.far (q := ⟨bX, 0, none⟩) (by simp; omega) (by simp; omega) (.int .i64 y)
    have U5 := upd_far U4 (q := ⟨bX, 0, none⟩) (by simp; omega) (.int .i64 y)
    obtain ⟨cR, fR, zR⟩ := xR4.out
    obtain ⟨cX, fX, zX4⟩ := xX4.out
    go_wp2
    refine bodyPost_ret (v := .agg #[.int .i64 y, .int .i64 d]) (by simp only [results, Tryz.results74]; go_simp) rfl ?_
    exact frb_set S5 U5 hp (by omega)
  · have e0 : (x == 0) = false := by simp [c0]
    by_cases c1 : x = 1
    · subst c1
      clear c0
      go_wp2_with fail
      refine (samong_any (b := w3.heap.size) (cs := #[.int .i64 (-1), .int .i64 0, .int .i64 1, .int .i64 1000000000, .int .i64 1000000001, .int .i64 9223372036854775807]) (S3.below (bl_alloc (bl_refl _) (.cells #[.int .i64 (-1), .int .i64 0, .int .i64 1, .int .i64 1000000000, .int .i64 1000000001, .int .i64 9223372036854775807] 2))) (by omega) (Bx.new (b := w3.heap.size) _ _ _ rfl) (by omega) (by omega) (by omega) (fun i hi => by rcases (show i = 0 ∨ i = 1 ∨ i = 2 ∨ i = 3 ∨ i = 4 ∨ i = 5 by omega) with rfl | rfl | rfl | rfl | rfl | rfl <;> exact ⟨_, rfl, by unfold R64; omega⟩)).mono ?_
      rintro e w4 ⟨y, rfl, hy, S4, hU4⟩
      have xR4 := (xR3.alloc (.cells #[.int .i64 (-1), .int .i64 0, .int .i64 1, .int .i64 1000000000, .int .i64 1000000001, .int .i64 9223372036854775807] 2)).upd hU4 (by omega)
      have xX4 := (xX3.alloc (.cells #[.int .i64 (-1), .int .i64 0, .int .i64 1, .int .i64 1000000000, .int .i64 1000000001, .int .i64 9223372036854775807] 2)).upd hU4 (by omega)
      have U4 := upd_trans (upd_bl U3 (bl_alloc (bl_refl _) (.cells #[.int .i64 (-1), .int .i64 0, .int .i64 1, .int .i64 1000000000, .int .i64 1000000001, .int .i64 9223372036854775807] 2))) hU4
      have S5 := S4.far (q := ⟨bX, 1, none⟩) (by simp; omega) (by simp; omega) (.int .i64 y)
      have U5 := upd_far U4 (q := ⟨bX, 1, none⟩) (by simp; omega) (.int .i64 y)
      obtain ⟨cR, fR, zR⟩ := xR4.out
      obtain ⟨cX, fX, zX4⟩ := xX4.out
      go_wp2
      refine bodyPost_ret (v := .agg #[.int .i64 n, .int .i64 y]) (by simp only [results, Tryz.results74]; go_simp) rfl ?_
      exact frb_set S5 U5 hp (by omega)
    · have e1 : (x == 1) = false := by simp [c1]
      by_cases c2 : x = 2
      · subst c2
        clear c0 c1
        obtain ⟨cR, fR, zR⟩ := xR3.out
        go_wp2
        refine bodyPost_ret (v := .agg #[.int .i64 2, .int .i64 4]) (by simp only [results, Tryz.results74]; go_simp) rfl ?_
        exact frb_set S3 U3 hp (by omega)
      · have e2 : (x == 2) = false := by simp [c2]
        by_cases c3 : x = 3
        · subst c3
          clear c0 c1 c2
          go_wp2_with fail
          refine (dpick_any S3 (by omega) (by omega)).mono ?_
          rintro e w4 ⟨r, rfl, r0, r1, S4, hU4⟩
          have xR4 := xR3.upd hU4 (by omega)
          have xX4 := xX3.upd hU4 (by omega)
          have U4 := upd_trans U3 hU4
          go_wp2_with fail
          refine (dpick_any S4 (by omega) (by omega)).mono ?_
          rintro e w5 ⟨t, rfl, t0, t1, S5, hU5⟩
          have xR5 := xR4.upd hU5 (by omega)
          have xX5 := xX4.upd hU5 (by omega)
          have U5 := upd_trans U4 hU5
          go_wp2_with fail
          refine (lowF_any _ _ _ (by omega) (by omega) (by omega) (by omega)).mono ?_
          rintro e w6 ⟨rfl, hb6⟩
          obtain ⟨⟨f1, f2⟩, hf⟩ : ∃ F, lowF (1000000000 - r) (1000000000 - t) = F := ⟨_, rfl⟩
          rw [hf]
          have S6 := (S5.below hb6).far (q := ⟨bX, 0, none⟩) (by simp; omega) (by simp; omega) (.int .i64 f1) |>.far (q := ⟨bX, 1, none⟩) (by simp; omega) (by simp; omega) (.int .i64 f2)
          have U6 := upd_far (upd_far (upd_bl U5 hb6) (q := ⟨bX, 0, none⟩) (by simp; omega) (.int .i64 f1)) (q := ⟨bX, 1, none⟩) (by simp; omega) (.int .i64 f2)
          obtain ⟨cR, fR, zR⟩ := (xR5.below hb6).out
          obtain ⟨cX, fX, zX4⟩ := (xX5.below hb6).out
          clear hf
          go_wp2
          refine bodyPost_ret (v := .agg #[.int .i64 f1, .int .i64 f2]) (by simp only [results, Tryz.results74]; go_simp) rfl ?_
          exact frb_set S6 U6 hp (by omega)
        · have e3 : (x == 3) = false := by simp [c3]
          clear c0 c1 c2 c3
          obtain ⟨cR, fR, zR⟩ := xR3.out
          obtain ⟨cX, fX, zX4⟩ := xX3.out
          go_wp2
          refine bodyPost_ret (v := .agg #[.int .i64 n, .int .i64 d]) (by simp only [results, Tryz.results74]; go_simp) rfl ?_
          exact frb_set S3 U3 hp (by omega)

end Go.Proofs.YtndblondleclpaaGreatDoor

/- Draws of digits and of terms: what is drawn may be anything that the callers ask. Each theorem names its conditions. -/
namespace Go.Proofs.YtndblondleclpaaGreatDoor
open Go.RowKit
set_option linter.unusedVariables false
set_option linter.unusedSimpArgs false

/-- A source of choices p and a list of the call's own. -/
structure Dl (w0 w W : World) (p N : Nat) (v : Value) (xs : List Int) : Prop where
  S : SrcD w0 W p N
  U : Upd w W p
  O : Own W w.heap.size v xs
  pw : p < w.heap.size
theorem Dl.upd {w0 w W wn : World} {p N M : Nat} {v : Value} {xs : List Int} (D : Dl w0 w W p N v xs) (hS : SrcD w0 wn p M) (hU : Upd W wn p) : Dl w0 w wn p M v xs :=
  ⟨hS, upd_trans D.U hU, D.O.upd hU (fun e => by have := (D.O.lt _ e).1; have := D.pw; omega), D.pw⟩
theorem Dl.bl {w0 w W wn : World} {p N : Nat} {v : Value} {xs : List Int} (D : Dl w0 w W p N v xs) (hb : Bl W wn) : Dl w0 w wn p N v xs :=
  ⟨D.S.below hb, upd_bl D.U hb, D.O.below hb, D.pw⟩
theorem Dl.more {w0 w W : World} {p N M : Nat} {v : Value} {xs : List Int} (D : Dl w0 w W p N v xs) (h : N ≤ M) : Dl w0 w W p M v xs := ⟨D.S.more h, D.U, D.O, D.pw⟩
theorem Dl.w0le {w0 w W : World} {p N : Nat} {v : Value} {xs : List Int} (D : Dl w0 w W p N v xs) : w0.heap.size ≤ w.heap.size := by have := D.S.out.1; have := D.pw; omega
theorem Dl.only {w0 w W wn : World} {p N : Nat} {v v' : Value} {xs ys : List Int} {S : Nat → Prop} (D : Dl w0 w W p N v xs) (ho : Only W wn S) (hs : ∀ k, S k → w.heap.size ≤ k) (hO : Own wn w.heap.size v' ys) : Dl w0 w wn p N v' ys :=
  ⟨D.S.only ho (fun e => by have := hs _ e; have := D.pw; omega) (fun k e => by have := hs _ e; have := D.w0le; omega), upd_only D.U ho hs, hO, D.pw⟩
theorem Dl.app {w0 w W wn : World} {p N : Nat} {v v' : Value} {xs ys : List Int} (D : Dl w0 w W p N v xs) (hO : Own wn w.heap.size v' ys) (hg : W.grownBy wn v.ownBlock) : Dl w0 w wn p N v' ys :=
  D.only (Only.of_grown hg (S := fun k => v.ownBlock = some k) (fun k e => e)) (fun k e => (D.O.lt _ e).1) hO
theorem Dl.st {w0 w W : World} {p N g n c : Nat} {xs : List Int} (D : Dl w0 w W p N (.slice (some ⟨g, 0, none⟩) n c) xs) (j : Nat) (y : Int) (hy : R64 y) : Dl w0 w (W.setCell ⟨g, j, none⟩ (.int .i64 y)) p N (.slice (some ⟨g, 0, none⟩) n c) (xs.set j y) :=
  D.only (only_set W ⟨g, j, none⟩ (.int .i64 y)) (fun k e => by have := (D.O.lt g (by simp [Value.ownBlock])).1; have e' : k = g := e; omega) (D.O.stored j y hy).1
theorem Dl.made {w0 w W : World} {p N k : Nat} (hk : k = W.heap.size) (S : SrcD w0 W p N) (U : Upd w W p) (hp : p < w.heap.size) : Dl w0 w (W.alloc (.cells #[] 2)) p N (.slice (some ⟨k, 0, none⟩) 0 0) [] := by
  subst hk
  exact ⟨S.below (bl_alloc (bl_refl _) _), upd_bl U (bl_alloc (bl_refl _) _), own_made W U.size, hp⟩
def DlP (w0 w : World) (p N : Nat) (e : Ending) (w' : World) : Prop := ∃ v xs, e = .returned v ∧ xs.length ≤ 100 ∧ Dl w0 w w' p (N + 200) v xs
def D3P (w0 w : World) (p N : Nat) (e : Ending) (w' : World) : Prop := ∃ v xs, e = .returned v ∧ 1 ≤ xs.length ∧ xs.length ≤ 20 ∧ Dl w0 w w' p (N + 150) v xs
def NmP (w0 w : World) (p N : Nat) (e : Ending) (w' : World) : Prop := ∃ x : Int, e = .returned (.int .i64 x) ∧ R64 x ∧ SrcD w0 w' p (N + 10) ∧ Upd w w' p
set_option maxRecDepth 100000 in
set_option maxHeartbeats 6400000 in
theorem pmin_any {a b : Int} (w : World) (ha : R64 a) (hb : R64 b) : Calls Tryz.prog 127 #[.int .i64 a, .int .i64 b] w fun e w' => ∃ r : Int, e = .returned (.int .i64 r) ∧ R64 r ∧ w = w' := by
  by_cases h : a < b
  · go_enter Tryz.func127, Tryz.ntmps127
    go_wp2
    go_ret
    exact ⟨_, rfl, by assumption, rfl⟩
  · go_enter Tryz.func127, Tryz.ntmps127
    go_wp2
    go_ret
    exact ⟨_, rfl, by assumption, rfl⟩
set_option maxRecDepth 100000 in
set_option maxHeartbeats 6400000 in
theorem pmax_any {a b : Int} (w : World) (ha : R64 a) (hb : R64 b) : Calls Tryz.prog 126 #[.int .i64 a, .int .i64 b] w fun e w' => ∃ r : Int, e = .returned (.int .i64 r) ∧ R64 r ∧ w = w' := by
  by_cases h : b < a
  · go_enter Tryz.func126, Tryz.ntmps126
    go_wp2
    go_ret
    exact ⟨_, rfl, by assumption, rfl⟩
  · go_enter Tryz.func126, Tryz.ntmps126
    go_wp2
    go_ret
    exact ⟨_, rfl, by assumption, rfl⟩
set_option maxRecDepth 100000 in
set_option maxHeartbeats 6400000 in
theorem sbase_draw {w0 w : World} {p N : Nat} (h : SrcD w0 w p N) (hN : N ≤ 500000000) :
    Calls Tryz.prog 77 #[.pointer (some ⟨p, 0, none⟩)] w (NmP w0 w p N) := by
  have hp := h.out.2.1
  go_enter Tryz.func77, Tryz.ntmps77
  go_wp2_with fail
  refine (done_any h (by omega) (by omega)).mono ?_
  rintro e w1 ⟨b, rfl, hS1, hU1⟩
  cases b with
  | true =>
    go_wp2_with fail
    refine (samong_any (b := w1.heap.size) (cs := #[.int .i64 (-1), .int .i64 1, .int .i64 2, .int .i64 36, .int .i64 37]) (hS1.below (bl_alloc (bl_refl _) (.cells #[.int .i64 (-1), .int .i64 1, .int .i64 2, .int .i64 36, .int .i64 37] 2))) (by omega) (Bx.new (b := w1.heap.size) _ _ _ rfl) (by have := hS1.out.2.1; omega) (by omega) (by omega) (fun i hi => by rcases (show i = 0 ∨ i = 1 ∨ i = 2 ∨ i = 3 ∨ i = 4 by omega) with rfl | rfl | rfl | rfl | rfl <;> exact ⟨_, rfl, by unfold R64 at *; omega⟩)).mono ?_
    rintro e w2 ⟨x, rfl, hx, hS2, hU2⟩
    go_wp2
    go_ret
    exact ⟨x, rfl, hx, hS2.more (by omega), upd_trans hU1 (upd_trans (upd_bl (upd_refl _ _) (bl_alloc (bl_refl _) (.cells #[.int .i64 (-1), .int .i64 1, .int .i64 2, .int .i64 36, .int .i64 37] 2))) hU2)⟩
  | false =>
    go_wp2_with fail
    refine (samong_any (b := w1.heap.size) (cs := #[.int .i64 10, .int .i64 10, .int .i64 2, .int .i64 3, .int .i64 12, .int .i64 16]) (hS1.below (bl_alloc (bl_refl _) (.cells #[.int .i64 10, .int .i64 10, .int .i64 2, .int .i64 3, .int .i64 12, .int .i64 16] 2))) (by omega) (Bx.new (b := w1.heap.size) _ _ _ rfl) (by have := hS1.out.2.1; omega) (by omega) (by omega) (fun i hi => by rcases (show i = 0 ∨ i = 1 ∨ i = 2 ∨ i = 3 ∨ i = 4 ∨ i = 5 by omega) with rfl | rfl | rfl | rfl | rfl | rfl <;> exact ⟨_, rfl, by unfold R64 at *; omega⟩)).mono ?_
    rintro e w2 ⟨x, rfl, hx, hS2, hU2⟩
    go_wp2
    go_ret
    exact ⟨x, rfl, hx, hS2.more (by omega), upd_trans hU1 (upd_trans (upd_bl (upd_refl _ _) (bl_alloc (bl_refl _) (.cells #[.int .i64 10, .int .i64 10, .int .i64 2, .int .i64 3, .int .i64 12, .int .i64 16] 2))) hU2)⟩
set_option maxRecDepth 100000 in
set_option maxHeartbeats 6400000 in
theorem ssome_draw {w0 w : World} {p N : Nat} {base : Int} (h : SrcD w0 w p N) (hN : N ≤ 500000000) (hb : R64 base) :
    Calls Tryz.prog 85 #[.pointer (some ⟨p, 0, none⟩), .int .i64 base] w (DlP w0 w p N) := by
  have hp := h.out.2.1
  go_enter Tryz.func85, Tryz.ntmps85
  go_wp2_with fail
  have D1 := Dl.made rfl h (upd_refl w p) hp
  obtain ⟨bO, hbO⟩ : ∃ bO, bO = w.heap.size := ⟨_, rfl⟩
  rw [← hbO] at D1 ⊢
  obtain ⟨wA, hwA⟩ : ∃ wA, w.alloc (.cells #[] 2) = wA := ⟨_, rfl⟩
  rw [hwA] at D1 ⊢
  clear hwA hbO h
  refine (dpick_any D1.S (by omega) (by omega)).mono ?_
  rintro e w2 ⟨c1, rfl, c10, c11, hS2, hU2⟩
  have D2 := D1.upd hS2 hU2
  clear hS2 hU2 D1
  go_wp2_with fail
  go_loopw [5, 6] (fun s5 s6 wr => ∃ (c : Int) (v : Value) (xs : List Int), s5 = v ∧ s6 = .int .i64 c ∧ 0 ≤ c ∧ c ≤ 5 ∧ Dl w0 w wr p (N + 102 - 4 * c.toNat) v xs ∧ xs.length ≤ 10 - c.toNat) (fun _ s6 _ => (intOf s6).toNat)
  case atStart => exact ⟨c1, _, _, rfl, rfl, by omega, by omega, D2.more (by omega), by simp⟩
  case round =>
    clear D2
    obtain ⟨c, v, xs, rfl, rfl, hc0, hc5, D, hln⟩ := hrel
    obtain ⟨va, cv, rfl, hcc⟩ := D.O.form
    by_cases hc1 : 0 < c
    · go_wp2_with fail
      refine (pmin_any (a := base) (b := 40) wr hb (by unfold R64; omega)).mono ?_
      rintro e w4 ⟨m1, rfl, hm1, hw4⟩
      subst hw4
      go_wp2_with fail
      refine (pmax_any (a := 1) (b := m1) wr (by unfold R64; omega) hm1).mono ?_
      rintro e w5 ⟨m2, rfl, hm2, hw5⟩
      subst hw5
      go_wp2_with fail
      refine (dpick_any D.S (by omega) (by unfold R64 at hm2; omega)).mono ?_
      rintro e w6 ⟨r, rfl, r0, r1, hS6, hU6⟩
      have hr : R64 r := by unfold R64 at *; omega
      have D6 := D.upd hS6 hU6
      clear hS6 hU6 D
      go_wp2_with (at_builtin; refine wpList_append_one rfl _ _ rfl w.heap.size _ xs (by rfl) D6.O r hr (by rfl) (by omega) (D6.U.size) ?_; intro v' wn ho hg _)
      have D7 := D6.app ho hg
      clear ho hg
      obtain ⟨a1, k1, rfl, _⟩ := D7.O.form
      go_wp2
      go_roundw
      case rel => exact ⟨c - 1, _, _, rfl, by go_num, by omega, by omega, D7.more (by omega), by simp; omega⟩
      case measure => simp only [intOf]; omega
    · go_wp2_with fail
      refine (done_any D.S (by omega) (by omega)).mono ?_
      rintro e w4 ⟨b, rfl, hS4, hU4⟩
      have D4 := D.upd hS4 hU4
      clear hS4 hU4 D
      cases b with
      | false =>
        go_wp2
        go_ret
        exact ⟨_, _, rfl, by omega, D4.more (by omega)⟩
      | true =>
        go_wp2_with fail
        refine (samong_any (b := w4.heap.size) (cs := #[.int .i64 (-1), .int .i64 base, .int .i64 9223372036854775807]) (D4.S.below (bl_alloc (bl_refl _) (.cells #[.int .i64 (-1), .int .i64 base, .int .i64 9223372036854775807] 2))) (by omega) (Bx.new (b := w4.heap.size) _ _ _ rfl) (by have := D4.S.out.2.1; omega) (by omega) (by omega) (fun i hi => by rcases (show i = 0 ∨ i = 1 ∨ i = 2 by omega) with rfl | rfl | rfl <;> exact ⟨_, rfl, by unfold R64 at *; omega⟩)).mono ?_
        rintro e w5 ⟨x, rfl, hx, hS5, hU5⟩
        have D5 := (D4.bl (bl_alloc (bl_refl _) (.cells #[.int .i64 (-1), .int .i64 base, .int .i64 9223372036854775807] 2))).upd hS5 hU5
        clear hS5 hU5 D4
        go_wp2_with (at_builtin; refine wpList_append_one rfl _ _ rfl w.heap.size _ xs (by rfl) D5.O x hx (by rfl) (by omega) (D5.U.size) ?_; intro v' wn ho hg _)
        have D7 := D5.app ho hg
        clear ho hg
        obtain ⟨a1, k1, rfl, _⟩ := D7.O.form
        go_wp2
        go_ret
        exact ⟨_, _, rfl, by simp; omega, D7.more (by omega)⟩
set_option maxRecDepth 100000 in
set_option maxHeartbeats 6400000 in
theorem sdraw3_any {w0 w : World} {p N : Nat} (h : SrcD w0 w p N) (hN : N ≤ 500000000) :
    Calls Tryz.prog 130 #[.pointer (some ⟨p, 0, none⟩), .int .i64 9] w (D3P w0 w p N) := by
  have hp := h.out.2.1
  go_enter Tryz.func130, Tryz.ntmps130
  go_wp2_with fail
  refine (dpick_any h (by omega) (by omega)).mono ?_
  rintro e w1 ⟨r, rfl, r0, r1, hS1, hU1⟩
  have hz1 := hU1.size
  obtain ⟨q, hq⟩ : ∃ q, q = r - 10 := ⟨_, rfl⟩
  have hwq : IntKind.i64.wrap (r - 10) = q := by rw [IntKind.wrap_i64]; omega
  have hqr : R64 q := by unfold R64; omega
  have o1 := own_lit w1 [q] (by intro x hx; simp at hx; subst hx; exact hqr) (by simp [maxLen])
  simp at o1
  have D1 : Dl w0 w (w1.alloc (.cells #[.int .i64 q] 2)) p (N + 2) (.slice (some ⟨w1.heap.size, 0, none⟩) 1 1) [q] := ⟨hS1.below (bl_alloc (bl_refl _) _), upd_bl hU1 (bl_alloc (bl_refl _) _), o1.mono hz1, hp⟩
  clear o1 hq
  go_wp2_with fail
  obtain ⟨bO, hbO⟩ : ∃ bO, bO = w1.heap.size := ⟨_, rfl⟩
  rw [← hbO] at D1 ⊢
  obtain ⟨wA, hwA⟩ : ∃ wA, w1.alloc (.cells #[.int .i64 q] 2) = wA := ⟨_, rfl⟩
  rw [hwA] at D1 ⊢
  clear hwA hbO h hS1 hU1 hz1
  refine (dpick_any D1.S (by omega) (by omega)).mono ?_
  rintro e w2 ⟨c1, rfl, c10, c11, hS2, hU2⟩
  have D2 := D1.upd hS2 hU2
  clear hS2 hU2 D1
  go_wp2_with fail
  go_loopw [5, 6] (fun s5 s6 wr => ∃ (c : Int) (v : Value) (xs : List Int), s5 = v ∧ s6 = .int .i64 c ∧ 0 ≤ c ∧ c ≤ 9 ∧ Dl w0 w wr p (N + 140 - 12 * c.toNat) v xs ∧ 1 ≤ xs.length ∧ xs.length ≤ 20 - c.toNat) (fun _ s6 _ => (intOf s6).toNat)
  case atStart => exact ⟨c1, _, _, rfl, rfl, by omega, by omega, D2.more (by omega), by simp, by simp; omega⟩
  case round =>
    clear D2
    obtain ⟨c, v, xs, rfl, rfl, hc0, hc5, D, hl1, hln⟩ := hrel
    obtain ⟨va, cv, rfl, hcc⟩ := D.O.form
    by_cases hc1 : 0 < c
    · go_wp2_with fail
      refine (dpick_any D.S (by omega) (by omega)).mono ?_
      rintro e w4 ⟨t1, rfl, t10, t11, hS4, hU4⟩
      have D4 := D.upd hS4 hU4
      clear hS4 hU4 D
      obtain ⟨u1, hu1⟩ : ∃ u1, u1 = 1 + t1 := ⟨_, rfl⟩
      have hw1 : IntKind.i64.wrap (1 + t1) = u1 := by rw [IntKind.wrap_i64]; omega
      have hr1 : R64 u1 := by unfold R64; omega
      clear hu1
      go_wp2_with fail
      refine (done_any D4.S (by omega) (by omega)).mono ?_
      rintro e w5 ⟨b, rfl, hS5, hU5⟩
      have D5 := D4.upd hS5 hU5
      clear hS5 hU5 D4
      go_upto_if 23 with fail
      go_cut [7] (fun s7 wx => ∃ u, s7 = .int .i64 u ∧ R64 u ∧ Dl w0 w wx p (N + 140 - 12 * c.toNat + 8) (.slice va xs.length cv) xs)
      case first =>
        cases b with
        | false =>
          go_wp2_with fail
          go_meet
          exact ⟨_, rfl, hr1, D5.more (by omega)⟩
        | true =>
          go_wp2_with fail
          refine (dpick_any D5.S (by omega) (by omega)).mono ?_
          rintro e w6 ⟨t2, rfl, t20, t21, hS6, hU6⟩
          have D6 := D5.upd hS6 hU6
          obtain ⟨u2, hu2⟩ : ∃ u2, u2 = 1 + t2 := ⟨_, rfl⟩
          have hw2 : IntKind.i64.wrap (1 + t2) = u2 := by rw [IntKind.wrap_i64]; omega
          have hr2 : R64 u2 := by unfold R64; omega
          clear hu2
          go_wp2_with fail
          go_meet
          exact ⟨_, rfl, hr2, D6.more (by omega)⟩
      case rest =>
        obtain ⟨u, rfl, hru, D6⟩ := hcut
        obtain ⟨w6, rfl⟩ : ∃ x : World, x = wc := ⟨_, rfl⟩
        clear D5 hr1 hw1
        go_wp2_with fail
        refine (done_any D6.S (by omega) (by omega)).mono ?_
        rintro e w7 ⟨b, rfl, hS7, hU7⟩
        have D7 := D6.upd hS7 hU7
        clear hS7 hU7 D6
        cases b with
        | false =>
          go_wp2_with (at_builtin; refine wpList_append_one rfl _ _ rfl w.heap.size _ xs (by rfl) D7.O u hru (by rfl) (by omega) (D7.U.size) ?_; intro v' wn ho hg _)
          have D8 := D7.app ho hg
          clear ho hg
          obtain ⟨a1, k1, rfl, _⟩ := D8.O.form
          go_wp2
          go_roundw
          case rel => exact ⟨c - 1, _, _, rfl, by go_num, by omega, by omega, D8.more (by omega), by simp, by simp; omega⟩
          case measure => simp only [intOf]; omega
        | true =>
          go_wp2_with (at_builtin; refine wpList_append_one rfl _ _ rfl w.heap.size _ xs (by rfl) D7.O 1 (by unfold R64; omega) (by rfl) (by omega) (D7.U.size) ?_; intro v' wn ho hg _)
          have D8 := D7.app ho hg
          clear ho hg
          obtain ⟨a1, k1, rfl, _⟩ := D8.O.form
          go_wp2
          go_roundw
          case rel => exact ⟨c - 1, _, _, rfl, by go_num, by omega, by omega, D8.more (by omega), by simp, by simp; omega⟩
          case measure => simp only [intOf]; omega
    · go_wp2
      go_ret
      exact ⟨_, _, rfl, hl1, by omega, D.more (by omega)⟩
set_option maxRecDepth 100000 in
set_option maxHeartbeats 6400000 in
theorem sbent3_any {w0 w : World} {p N : Nat} (h : SrcD w0 w p N) (hN : N ≤ 400000000) :
    Calls Tryz.prog 93 #[.pointer (some ⟨p, 0, none⟩)] w (DlP w0 w p N) := by
  have hp := h.out.2.1
  go_enter Tryz.func93, Tryz.ntmps93
  go_wp2_with fail
  refine (sdraw3_any h (by omega)).mono ?_
  rintro e w1 ⟨v, xs, rfl, hl1, hl2, D1⟩
  clear h
  obtain ⟨va, cv, rfl, hcc⟩ := D1.O.form
  go_wp2_with fail
  refine (dpick_any D1.S (by omega) (by omega)).mono ?_
  rintro e w2 ⟨x, rfl, x0, x1, hS2, hU2⟩
  have D2 := D1.upd hS2 hU2
  clear hS2 hU2 D1
  obtain ⟨g, rfl, hg1, hg2⟩ := D2.O.addr (by omega)
  by_cases c0 : x = 0
  · subst c0
    go_wp2_with fail
    refine (dpick_any D2.S (by omega) (by omega)).mono ?_
    rintro e w3 ⟨j, rfl, j0, j1, hS3, hU3⟩
    have D3 := D2.upd hS3 hU3
    clear hS3 hU3 D2
    obtain ⟨k, rfl⟩ := Int.eq_ofNat_of_zero_le j0
    have hk : k < xs.length := by omega
    have hki : (k : Int) < (xs.length : Int) := by omega
    go_wp2_with fail
    refine (samong_any (b := w3.heap.size) (cs := #[.int .i64 (-1), .int .i64 0, .int .i64 1, .int .i64 1000000000, .int .i64 1000000001, .int .i64 (-9223372036854775808)]) (D3.S.below (bl_alloc (bl_refl _) (.cells #[.int .i64 (-1), .int .i64 0, .int .i64 1, .int .i64 1000000000, .int .i64 1000000001, .int .i64 (-9223372036854775808)] 2))) (by omega) (Bx.new (b := w3.heap.size) _ _ _ rfl) (by have := D3.S.out.2.1; omega) (by omega) (by omega) (fun i hi => by rcases (show i = 0 ∨ i = 1 ∨ i = 2 ∨ i = 3 ∨ i = 4 ∨ i = 5 by omega) with rfl | rfl | rfl | rfl | rfl | rfl <;> exact ⟨_, rfl, by unfold R64 at *; omega⟩)).mono ?_
    rintro e w4 ⟨y, rfl, hy, hS4, hU4⟩
    have D4 := (D3.bl (bl_alloc (bl_refl _) (.cells #[.int .i64 (-1), .int .i64 0, .int .i64 1, .int .i64 1000000000, .int .i64 1000000001, .int .i64 (-9223372036854775808)] 2))).upd hS4 hU4
    clear hS4 hU4 D3
    obtain ⟨z, _, hcz, hfz, _⟩ := D4.O.cellAt hk
    have D5 := D4.st k y hy
    go_wp2
    go_ret
    exact ⟨_, _, rfl, by simp; omega, D5.more (by omega)⟩
  · have e0 : (x == 0) = false := by simp [c0]
    by_cases c1 : x = 1
    · subst c1
      clear c0
      go_wp2_with fail
      refine (samong_any (b := w2.heap.size) (cs := #[.int .i64 (-1000000001), .int .i64 (-1000000000), .int .i64 1000000000, .int .i64 1000000001]) (D2.S.below (bl_alloc (bl_refl _) (.cells #[.int .i64 (-1000000001), .int .i64 (-1000000000), .int .i64 1000000000, .int .i64 1000000001] 2))) (by omega) (Bx.new (b := w2.heap.size) _ _ _ rfl) (by have := D2.S.out.2.1; omega) (by omega) (by omega) (fun i hi => by rcases (show i = 0 ∨ i = 1 ∨ i = 2 ∨ i = 3 by omega) with rfl | rfl | rfl | rfl <;> exact ⟨_, rfl, by unfold R64 at *; omega⟩)).mono ?_
      rintro e w4 ⟨y, rfl, hy, hS4, hU4⟩
      have D4 := (D2.bl (bl_alloc (bl_refl _) (.cells #[.int .i64 (-1000000001), .int .i64 (-1000000000), .int .i64 1000000000, .int .i64 1000000001] 2))).upd hS4 hU4
      clear hS4 hU4 D2
      have hk : 0 < xs.length := by omega
      have hki : (0 : Int) < (xs.length : Int) := by omega
      obtain ⟨z, _, hcz, hfz, _⟩ := D4.O.cellAt hk
      have D5 := D4.st 0 y hy
      go_wp2
      go_ret
      exact ⟨_, _, rfl, by simp; omega, D5.more (by omega)⟩
    · have e1 : (x == 1) = false := by simp [c1]
      by_cases c2 : x = 2
      · subst c2
        clear c0 c1
        have hu := D2.U
        have D3 := Dl.made rfl D2.S hu hp
        go_wp2
        go_ret
        exact ⟨_, _, rfl, by simp, D3.more (by omega)⟩
      · have e2 : (x == 2) = false := by simp [c2]
        by_cases c3 : x = 3
        · subst c3
          clear c0 c1 c2
          have hu := D2.U
          have D3 := Dl.made rfl D2.S hu hp
          clear hu
          go_wp2_with fail
          obtain ⟨bO, hbO⟩ : ∃ bO, bO = w2.heap.size := ⟨_, rfl⟩
          rw [← hbO] at D3 ⊢
          obtain ⟨wA, hwA⟩ : ∃ wA, w2.alloc (.cells #[] 2) = wA := ⟨_, rfl⟩
          rw [hwA] at D3 ⊢
          clear hwA hbO D2 hg1 hg2 hl1 hl2 hcc
          refine (dpick_any D3.S (by omega) (by omega)).mono ?_
          rintro e w4 ⟨r, rfl, r0, r1, hS4, hU4⟩
          have D4 := D3.upd hS4 hU4
          clear hS4 hU4 D3
          have hw : IntKind.i64.wrap (60 + r) = 60 + r := by rw [IntKind.wrap_i64]; omega
          go_wp2_with fail
          go_loopw [5, 6] (fun s5 s6 wr => ∃ (c : Int) (v : Value) (xs : List Int), s5 = v ∧ s6 = .int .i64 c ∧ 0 ≤ c ∧ c ≤ 62 ∧ Dl w0 w wr p (N + 180) v xs ∧ xs.length ≤ 80 - c.toNat) (fun _ s6 _ => (intOf s6).toNat)
          case atStart => exact ⟨60 + r, _, _, rfl, rfl, by omega, by omega, D4.more (by omega), by simp⟩
          case round =>
            clear D4
            obtain ⟨c, v, xs, rfl, rfl, hc0, hc5, D, hln⟩ := hrel
            obtain ⟨va, cv, rfl, hcc⟩ := D.O.form
            by_cases hc1 : 0 < c
            ·
              go_wp2_with (at_builtin; refine wpList_append_one rfl _ _ rfl w.heap.size _ xs (by rfl) D.O 1 (by unfold R64; omega) (by rfl) (by omega) (D.U.size) ?_; intro v' wn ho hg _)
              have D8 := D.app ho hg
              clear ho hg
              obtain ⟨a1, k1, rfl, _⟩ := D8.O.form
              go_wp2
              go_roundw
              case rel => exact ⟨c - 1, _, _, rfl, by go_num, by omega, by omega, D8.more (by omega), by simp; omega⟩
              case measure => simp only [intOf]; omega
            · go_wp2
              go_ret
              exact ⟨_, _, rfl, by omega, D.more (by omega)⟩
        · have e3 : (x == 3) = false := by simp [c3]
          by_cases c4 : x = 4
          · subst c4
            clear c0 c1 c2 c3
            go_wp2_with fail
            refine (dpick_any D2.S (by omega) (by omega)).mono ?_
            rintro e w3 ⟨r, rfl, r0, r1, hS3, hU3⟩
            have U3 := upd_trans D2.U hU3
            obtain ⟨q, hq⟩ : ∃ q, q = 1000000000 - r := ⟨_, rfl⟩
            have hwq : IntKind.i64.wrap (1000000000 - r) = q := by rw [IntKind.wrap_i64]; omega
            have hqr : R64 q := by unfold R64; omega
            have o1 := own_lit w3 [3, q, 1] (by intro x hx; simp at hx; rcases hx with rfl | rfl | rfl <;> first | assumption | (unfold R64; omega)) (by simp [maxLen])
            simp at o1
            have D3 : Dl w0 w (w3.alloc (.cells #[.int .i64 3, .int .i64 q, .int .i64 1] 2)) p (N + 200) (.slice (some ⟨w3.heap.size, 0, none⟩) 3 3) [3, q, 1] := ⟨(hS3.more (by omega)).below (bl_alloc (bl_refl _) _), upd_bl U3 (bl_alloc (bl_refl _) _), o1.mono U3.size, hp⟩
            clear o1 hq
            go_wp2
            go_ret
            exact ⟨_, _, rfl, by simp, D3⟩
          · have e4 : (x == 4) = false := by simp [c4]
            go_wp2
            go_ret
            exact ⟨_, _, rfl, by omega, D2.more (by omega)⟩

end Go.Proofs.YtndblondleclpaaGreatDoor

/- Draws of arguments of digits' functions. Each theorem names its conditions. -/
namespace Go.Proofs.YtndblondleclpaaGreatDoor
open Go.RowKit
set_option linter.unusedVariables false
set_option linter.unusedSimpArgs false

def DpP (w : World) (e : Ending) (w' : World) : Prop := ∃ n d b : Int, e = .returned (.tuple #[.agg #[.int .i64 n, .int .i64 d], .int .i64 b]) ∧ Bl w w'
def DfP (w : World) (e : Ending) (w' : World) : Prop := ∃ (b q : Int) (va : Value) (xs : List Int) (vb : Value) (ys : List Int), e = .returned (.tuple #[.int .i64 b, .int .i64 q, va, vb]) ∧ R64 b ∧ R64 q ∧ Sl w' va xs ∧ xs.length ≤ 100 ∧ Sl w' vb ys ∧ ys.length ≤ 100 ∧ Bl w w'
def DtP (w : World) (e : Ending) (w' : World) : Prop := ∃ (b q : Int) (va : Value) (xs : List Int), e = .returned (.tuple #[.int .i64 b, .int .i64 q, va]) ∧ R64 b ∧ R64 q ∧ Sl w' va xs ∧ xs.length ≤ 100 ∧ Bl w w'
def DbP (w : World) (e : Ending) (w' : World) : Prop := ∃ (va : Value) (xs : List Int), e = .returned va ∧ Sl w' va xs ∧ xs.length ≤ 100 ∧ Bl w w'
def DrP (w : World) (e : Ending) (w' : World) : Prop := ∃ (b : Int) (T : ByteArray), e = .returned (.tuple #[.int .i64 b, .string T]) ∧ R64 b ∧ T.size ≤ 1048576 ∧ Bl w w'
set_option maxRecDepth 100000 in
set_option maxHeartbeats 6400000 in
theorem samongQ {Q : Int → Prop} {w0 w : World} {p N b n : Nat} {cs : Array Value} (h : SrcD w0 w p N) (hN : N ≤ 900000000) (hx : Bx w b cs) (hb : b ≠ p) (h0 : 0 < n) (hn : n ≤ 1000000) (hc : ∀ i < n, ∃ x, cs[i]? = some (.int .i64 x) ∧ Q x) :
    Calls Tryz.prog 76 #[.pointer (some ⟨p, 0, none⟩), .slice (some ⟨b, 0, none⟩) n n] w fun e w' => ∃ x : Int, e = .returned (.int .i64 x) ∧ Q x ∧ SrcD w0 w' p (N + 2) ∧ Upd w w' p := by
  go_enter Tryz.func76, Tryz.ntmps76
  go_wp2_with fail
  refine (dpick_any h hN (by omega)).mono ?_
  rintro e w1 ⟨r, rfl, r0, r1, hS1, hU1⟩
  have x1 := hx.upd hU1 hb
  obtain ⟨k, rfl⟩ := Int.eq_ofNat_of_zero_le r0
  have hk : k < n := by omega
  obtain ⟨x, hcx, hr⟩ := hc k hk
  have c1 : w1.cell? ⟨b, 0 + k, none⟩ = some (.int .i64 x) := by rw [Nat.zero_add, x1.out.1, hcx]
  have c2 : w1.cell? ⟨b, k, none⟩ = some (.int .i64 x) := by rw [x1.out.1, hcx]
  clear hcx hc
  go_wp2
  go_ret
  exact ⟨x, rfl, hr, hS1, hU1⟩
set_option maxRecDepth 100000 in
set_option maxHeartbeats 6400000 in
theorem ddper_any {w : World} {v : Value} {bs : List Int} (h : SlB w v bs) (hl : bs.length ≤ 4096) :
    Calls Tryz.prog 27 #[v] w (DpP w) := by
  obtain ⟨av, cv, rfl, hcv⟩ := h.form
  have HS := Lib.hid h
  clear h
  go_enter Tryz.func27, Tryz.ntmps27
  go_wp2_with fail
  have xR : Bx (w.alloc (.cells #[.int .i64 0, .int .i64 0] 45)) w.heap.size #[.int .i64 0, .int .i64 0] := Bx.new (b := w.heap.size) _ _ _ rfl
  have hA : Bl w (w.alloc (.cells #[.int .i64 0, .int .i64 0] 45)) := bl_alloc (bl_refl w) _
  have hsz : w.heap.size + 1 ≤ (w.alloc (.cells #[.int .i64 0, .int .i64 0] 45)).heap.size := by simp
  generalize w.alloc (.cells #[.int .i64 0, .int .i64 0] 45) = wa at *
  refine (dfrom_any (HS.out.below hA) (by omega)).mono ?_
  rintro e w1 ⟨p, rfl, hD1, hb1⟩
  have x1 := xR.below hb1
  have hD := hD1
  have hp := hD1.out
  have hB1 := bl_call hA hb1
  clear hD1 xR
  go_wp2_with fail
  refine (sbent2_any hD (by omega)).mono ?_
  rintro e w2 ⟨n, d, rfl, hS2, hU2⟩
  have x2 := x1.upd hU2 (by omega)
  have B2 := bl_of_upd hB1 hU2 (by omega)
  have x2a := x2.alloc (.cells #[.int .i64 n, .int .i64 d] 45)
  have xF2 : Bx (w2.alloc (.cells #[.int .i64 n, .int .i64 d] 45)) w2.heap.size #[.int .i64 n, .int .i64 d] := Bx.new (b := w2.heap.size) _ _ _ rfl
  have S2 := hS2.below (bl_alloc (bl_refl w2) (.cells #[.int .i64 n, .int .i64 d] 45))
  have B2a : Bl w (w2.alloc (.cells #[.int .i64 n, .int .i64 d] 45)) := bl_alloc B2 _
  have hp2 := hS2.out.2.1
  have hz2 := x2.out.2.2
  have hwa : wa.heap.size ≤ w2.heap.size := by have := hb1.size; have := hU2.size; omega
  go_wp2_with fail
  obtain ⟨bF, hbF⟩ : ∃ bF, bF = w2.heap.size := ⟨_, rfl⟩
  rw [← hbF] at xF2 ⊢
  rw [← hbF] at hp2 hz2 hwa
  generalize w2.alloc (.cells #[.int .i64 n, .int .i64 d] 45) = wb at *
  clear hbF x2 hS2 hU2 B2 x1 hD hB1 hb1
  refine (done_any S2 (by omega) (by omega)).mono ?_
  rintro e w3 ⟨b, rfl, hS3, hU3⟩
  have S3 := hS3.more (M := 62) (by omega)
  have xR3 := x2a.upd hU3 (by omega)
  have xF3 := xF2.upd hU3 (by omega)
  have B3 := bl_of_upd B2a hU3 (by omega)
  clear S2 x2a xF2 B2a hS3 hU3
  cases b with
  | false =>
    go_wp2_with fail
    have B0 : Bl w w3.drew := bl_drew B3
    have S0 : SrcD wa w3.drew p 100 := (S3.more (by omega)).below (bl_drew (bl_refl _))
    have xR0 := xR3.drew
    have xF0 := xF3.drew
    obtain ⟨cR, fR, zR⟩ := xR0.out
    obtain ⟨cF, fF, zF⟩ := xF0.out
    go_region_held3 (fun w' => w'.cell? ⟨bF, 0, none⟩ = some (.int .i64 n) ∧ w'.cell? ⟨bF, 1, none⟩ = some (.int .i64 d)) (first | (simp [*]; done) | (go_simp; done) | go_keep)
      (first | (go_at_call 77; go_must (refine (sbase_draw S0 (by omega)).mono ?_; rintro e w8 ⟨b8, rfl, hb8, hS8, hU8⟩; have xR8 := xR0.upd hU8 (by omega); have xF8 := xF0.upd hU8 (by omega); have B8 := bl_of_upd B0 hU8 (by omega); clear cR fR zR cF fF zF; obtain ⟨cR, fR, zR⟩ := xR8.out; obtain ⟨cF, fF, zF⟩ := xF8.out)))
    all_goals
      go_wp2
      refine bodyPost_ret (v := .tuple #[.agg #[.int .i64 n, .int .i64 d], .int .i64 b8]) (by simp only [results, Tryz.results27]; go_simp) rfl ?_
      exact ⟨_, _, _, rfl, bl_set (bl_set B8 (by simp) _) (by simp) _⟩
  | true =>
    go_wp2_with fail
    refine (samongQ (Q := fun x => 1 ≤ x ∧ x ≤ 100001) (b := w3.heap.size) (cs := #[.int .i64 99991, .int .i64 100000, .int .i64 100001, .int .i64 1]) (S3.below (bl_alloc (bl_refl _) (.cells #[.int .i64 99991, .int .i64 100000, .int .i64 100001, .int .i64 1] 2))) (by omega) (Bx.new (b := w3.heap.size) _ _ _ rfl) (by have := S3.out.2.1; omega) (by omega) (by omega) (fun i hi => by rcases (show i = 0 ∨ i = 1 ∨ i = 2 ∨ i = 3 by omega) with rfl | rfl | rfl | rfl <;> exact ⟨_, rfl, by omega⟩)).mono ?_
    rintro e w4 ⟨y, rfl, ⟨y0, y1⟩, hS4, hU4⟩
    have xR4 := (xR3.alloc (.cells #[.int .i64 99991, .int .i64 100000, .int .i64 100001, .int .i64 1] 2)).upd hU4 (by omega)
    have xF4 := (xF3.alloc (.cells #[.int .i64 99991, .int .i64 100000, .int .i64 100001, .int .i64 1] 2)).upd hU4 (by omega)
    have B4 := bl_of_upd (bl_alloc B3 (.cells #[.int .i64 99991, .int .i64 100000, .int .i64 100001, .int .i64 1] 2)) hU4 (by omega)
    have z4 := xF4.out.2.2
    clear xR3 xF3 B3 hU4 S3
    go_wp2_with fail
    refine (lowF_any 1 y _ (by omega) (by omega) (by omega) (by omega)).mono ?_
    rintro e w5 ⟨rfl, hb5⟩
    have xR5 := xR4.below hb5
    have xF5 := xF4.below hb5
    have S5 := hS4.below hb5
    have B5 := bl_call B4 hb5
    obtain ⟨⟨m, e⟩, hme⟩ : ∃ X, lowF 1 y = X := ⟨_, rfl⟩
    rw [hme]
    simp only []
    have S6 := (S5.far (q := ⟨bF, 0, none⟩) (by simp; omega) (by simp; omega) (.int .i64 m)).far (q := ⟨bF, 1, none⟩) (by simp; omega) (by simp; omega) (.int .i64 e)
    have xF6 := (xF5.set 0 (.int .i64 m)).set 1 (.int .i64 e)
    have xR6 := (xR5.far (b := w.heap.size) (p := ⟨bF, 0, none⟩) (by simp; omega) (.int .i64 m)).far (p := ⟨bF, 1, none⟩) (by simp; omega) (.int .i64 e)
    have B6 : Bl w ((w5.setCell ⟨bF, 0, none⟩ (.int .i64 m)).setCell ⟨bF, 1, none⟩ (.int .i64 e)) := bl_set (bl_set B5 (by simp; omega) _) (by simp; omega) _
    obtain ⟨cR, fR, zR⟩ := xR5.out
    obtain ⟨cF, fF, zF⟩ := xF5.out
    go_wp2_with fail
    clear cR fR zR cF fF zF
    obtain ⟨w6, hw6⟩ : ∃ w6, ((w5.setCell ⟨bF, 0, none⟩ (.int .i64 m)).setCell ⟨bF, 1, none⟩ (.int .i64 e)) = w6 := ⟨_, rfl⟩
    rw [hw6] at S6 xF6 xR6 B6 ⊢
    clear hw6 S5 xF5 xR5 B5 hme hS4 xF4 xR4 B4 hb5
    have B0 : Bl w w6.drew := bl_drew B6
    have S0 : SrcD wa w6.drew p 100 := (S6.more (by omega)).below (bl_drew (bl_refl _))
    have xR0 := xR6.drew
    have xF0 := xF6.drew
    obtain ⟨cR, fR, zR⟩ := xR0.out
    obtain ⟨cF, fF, zF⟩ := xF0.out
    go_region_held3 (fun w' => w'.cell? ⟨bF, 0, none⟩ = some (.int .i64 m) ∧ w'.cell? ⟨bF, 1, none⟩ = some (.int .i64 e)) (first | (simp [*]; done) | (go_simp; done) | go_keep)
      (first | (go_at_call 77; go_must (refine (sbase_draw S0 (by omega)).mono ?_; rintro e w8 ⟨b8, rfl, hb8, hS8, hU8⟩; have xR8 := xR0.upd hU8 (by omega); have xF8 := xF0.upd hU8 (by omega); have B8 := bl_of_upd B0 hU8 (by omega); clear cR fR zR cF fF zF; obtain ⟨cR, fR, zR⟩ := xR8.out; obtain ⟨cF, fF, zF⟩ := xF8.out)))
    all_goals
      go_wp2
      refine bodyPost_ret (v := .tuple #[.agg #[.int .i64 m, .int .i64 e], .int .i64 b8]) (by simp only [results, Tryz.results27]; go_simp) rfl ?_
      exact ⟨_, _, _, rfl, bl_set (bl_set B8 (by simp) _) (by simp) _⟩
set_option maxRecDepth 100000 in
set_option maxHeartbeats 6400000 in
theorem dffd_any {w : World} {v : Value} {bs : List Int} (h : SlB w v bs) (hl : bs.length ≤ 4096) :
    Calls Tryz.prog 30 #[v] w (DfP w) := by
  obtain ⟨av, cv, rfl, hcv⟩ := h.form
  have HS := Lib.hid h
  clear h
  go_enter Tryz.func30, Tryz.ntmps30
  go_wp2_with fail
  refine (dfrom_any HS.out (by omega)).mono ?_
  rintro e w1 ⟨p, rfl, hD, hb1⟩
  have hp := hD.out
  go_wp2_with fail
  refine (sbase_draw hD (by omega)).mono ?_
  rintro e w2 ⟨b, rfl, hbr, hS2, hU2⟩
  have B2 := bl_of_upd hb1 hU2 (by omega)
  clear hU2 hD
  go_wp2_with fail
  refine (dpick_any hS2 (by omega) (by omega)).mono ?_
  rintro e w3 ⟨r, rfl, r0, r1, hS3, hU3⟩
  have B3 := bl_of_upd B2 hU3 (by omega)
  clear hU3 hS2
  obtain ⟨q, hq⟩ : ∃ q, q = r - 10 := ⟨_, rfl⟩
  have hwq : IntKind.i64.wrap (r - 10) = q := by rw [IntKind.wrap_i64]; omega
  have hqr : R64 q := by unfold R64; omega
  clear hq
  go_wp2_with fail
  refine (done_any hS3 (by omega) (by omega)).mono ?_
  rintro e w4 ⟨o, rfl, hS4, hU4⟩
  have B4 := bl_of_upd B3 hU4 (by omega)
  clear hU4 hS3
  go_upto_if 18 with fail
  go_cut [8] (fun s8 wx => ∃ q, s8 = .int .i64 q ∧ R64 q ∧ SrcD w wx p 50 ∧ Bl w wx)
  case first =>
    cases o with
    | false =>
      go_wp2_with fail
      go_meet
      exact ⟨_, rfl, hqr, hS4.more (by omega), B4⟩
    | true =>
      go_wp2_with fail
      refine (samong_any (b := w4.heap.size) (cs := #[.int .i64 (-1000000001), .int .i64 (-1000000000), .int .i64 1000000000, .int .i64 1000000001]) (hS4.below (bl_alloc (bl_refl _) (.cells #[.int .i64 (-1000000001), .int .i64 (-1000000000), .int .i64 1000000000, .int .i64 1000000001] 2))) (by omega) (Bx.new (b := w4.heap.size) _ _ _ rfl) (by have := hS4.out.2.1; omega) (by omega) (by omega) (fun i hi => by rcases (show i = 0 ∨ i = 1 ∨ i = 2 ∨ i = 3 by omega) with rfl | rfl | rfl | rfl <;> exact ⟨_, rfl, by unfold R64 at *; omega⟩)).mono ?_
      rintro e w5 ⟨x, rfl, hx, hS5, hU5⟩
      have B5 := bl_of_upd (bl_alloc B4 (.cells #[.int .i64 (-1000000001), .int .i64 (-1000000000), .int .i64 1000000000, .int .i64 1000000001] 2)) hU5 (by omega)
      go_wp2_with fail
      go_meet
      exact ⟨_, rfl, hx, hS5.more (by omega), B5⟩
  case rest =>
    obtain ⟨q, rfl, hqr, S5, B5⟩ := hcut
    obtain ⟨w5, rfl⟩ : ∃ x : World, x = wc := ⟨_, rfl⟩
    clear hS4 B4 B3 B2
    go_wp2_with fail
    refine (ssome_draw S5 (by omega) hbr).mono ?_
    rintro e w6 ⟨v6, xs, rfl, l6, D6⟩
    have B6 := bl_of_upd B5 D6.U (by omega)
    obtain ⟨a6, c6, rfl, _⟩ := D6.O.form
    go_wp2_with fail
    refine (ssome_draw D6.S (by omega) hbr).mono ?_
    rintro e w7 ⟨v7, ys, rfl, l7, D7⟩
    have B7 := bl_of_upd B6 D7.U (by omega)
    obtain ⟨a7, c7, rfl, _⟩ := D7.O.form
    have O6 := D6.O.upd D7.U (fun e => by have := (D6.O.lt _ e).1; have := D6.pw; omega)
    go_wp2
    refine bodyPost_ret (v := .tuple #[.int .i64 b, .int .i64 q, .slice a6 xs.length c6, .slice a7 ys.length c7]) (by simp only [results, Tryz.results30]; go_simp) rfl ?_
    exact ⟨_, _, _, _, _, _, rfl, hbr, hqr, O6.sl, l6, D7.O.sl, l7, B7⟩
set_option maxRecDepth 100000 in
set_option maxHeartbeats 6400000 in
theorem dbnd_any {w : World} {v : Value} {bs : List Int} (h : SlB w v bs) (hl : bs.length ≤ 4096) :
    Calls Tryz.prog 33 #[v] w (DbP w) := by
  obtain ⟨av, cv, rfl, hcv⟩ := h.form
  have HS := Lib.hid h
  clear h
  go_enter Tryz.func33, Tryz.ntmps33
  go_wp2_with fail
  refine (dfrom_any HS.out (by omega)).mono ?_
  rintro e w1 ⟨p, rfl, hD, hb1⟩
  have hp := hD.out
  go_wp2_with fail
  refine (sbent3_any hD (by omega)).mono ?_
  rintro e w2 ⟨v2, xs, rfl, l2, D2⟩
  have B2 := bl_of_upd hb1 D2.U (by omega)
  obtain ⟨a2, c2, rfl, _⟩ := D2.O.form
  go_wp2
  go_ret
  exact ⟨_, _, rfl, D2.O.sl, l2, B2⟩
set_option maxRecDepth 100000 in
set_option maxHeartbeats 6400000 in
theorem ddtxt_any {w : World} {v : Value} {bs : List Int} (h : SlB w v bs) (hl : bs.length ≤ 4096) :
    Calls Tryz.prog 36 #[v] w (DtP w) := by
  obtain ⟨av, cv, rfl, hcv⟩ := h.form
  have HS := Lib.hid h
  clear h
  go_enter Tryz.func36, Tryz.ntmps36
  go_wp2_with fail
  refine (dffd_any HS.out (by omega)).mono ?_
  rintro e w1 ⟨b, q, va, xs, vb, ys, rfl, hb, hq, sa, la, sb, lb, hb1⟩
  obtain ⟨a2, c2, rfl, _⟩ := sa.form
  obtain ⟨a3, c3, rfl, _⟩ := sb.form
  go_wp2
  refine bodyPost_ret (v := .tuple #[.int .i64 b, .int .i64 q, .slice a2 xs.length c2]) (by simp only [results, Tryz.results36]; go_simp) rfl ?_
  exact ⟨_, _, _, _, rfl, hb, hq, sa, la, hb1⟩
set_option maxRecDepth 100000 in
set_option maxHeartbeats 6400000 in
theorem drdig_any {w : World} {v : Value} {bs : List Int} (h : SlB w v bs) (hl : bs.length ≤ 4096) :
    Calls Tryz.prog 39 #[v] w (DrP w) := by
  obtain ⟨av, cv, rfl, hcv⟩ := h.form
  have HS := Lib.hid h
  clear h
  go_enter Tryz.func39, Tryz.ntmps39
  go_wp2_with fail
  refine (dfrom_any HS.out (by omega)).mono ?_
  rintro e w1 ⟨p, rfl, hD, hb1⟩
  have hp := hD.out
  go_wp2_with fail
  refine (sbase_draw hD (by omega)).mono ?_
  rintro e w2 ⟨b, rfl, hbr, hS2, hU2⟩
  have B2 := bl_of_upd hb1 hU2 (by omega)
  clear hU2 hD
  go_wp2_with fail
  refine (ssome_draw hS2 (by omega) hbr).mono ?_
  rintro e w3 ⟨v3, xs, rfl, l3, D3⟩
  have B3 := bl_of_upd B2 D3.U (by omega)
  obtain ⟨a3, c3, rfl, _⟩ := D3.O.form
  have S3 := D3.S
  have O3 := D3.O.sl
  have OW := D3.O
  have hpw := D3.pw
  clear D3 hS2 B2
  cases e1 : inB b 2 36 with
  | false =>
    have E1 := Lib.hid e1
    clear e1
    go_wp2_with fail
    refine (sbase_eq E1.out _).mono ?_
    rintro e w4 ⟨rfl, hw4⟩
    subst hw4
    go_wp2_with fail
    refine (stext_draw (b := w3.heap.size) (cs := #[.string ⟨#[]⟩, .string ⟨#[46]⟩, .string ⟨#[49, 46]⟩, .string ⟨#[49, 46, 50, 46, 51]⟩, .string ⟨#[49, 46, 65]⟩, .string ⟨#[49, 46, 122]⟩, .string ⟨#[45, 48, 46, 53]⟩]) (S3.below (bl_alloc (bl_refl _) (.cells #[.string ⟨#[]⟩, .string ⟨#[46]⟩, .string ⟨#[49, 46]⟩, .string ⟨#[49, 46, 50, 46, 51]⟩, .string ⟨#[49, 46, 65]⟩, .string ⟨#[49, 46, 122]⟩, .string ⟨#[45, 48, 46, 53]⟩] 9))) (by omega) (Bx.new (b := w3.heap.size) _ _ _ rfl) (by have := S3.out.2.1; omega) (by omega) (by omega) (fun i hi => by rcases (show i = 0 ∨ i = 1 ∨ i = 2 ∨ i = 3 ∨ i = 4 ∨ i = 5 ∨ i = 6 by omega) with rfl | rfl | rfl | rfl | rfl | rfl | rfl <;> exact ⟨_, rfl, by decide⟩)).mono ?_
    rintro e w9 ⟨T, rfl, hT, hS9, hU9⟩
    have B9 := bl_of_upd (bl_alloc B3 (.cells #[.string ⟨#[]⟩, .string ⟨#[46]⟩, .string ⟨#[49, 46]⟩, .string ⟨#[49, 46, 50, 46, 51]⟩, .string ⟨#[49, 46, 65]⟩, .string ⟨#[49, 46, 122]⟩, .string ⟨#[45, 48, 46, 53]⟩] 9)) hU9 (by omega)
    go_wp2
    refine bodyPost_ret (v := .tuple #[.int .i64 b, .string T]) (by simp only [results, Tryz.results39]; go_simp) rfl ?_
    exact ⟨_, _, rfl, hbr, by omega, B9⟩
  | true =>
    have hb2 := inB_iff.1 e1
    have E1 := Lib.hid e1
    clear e1
    go_wp2_with fail
    refine (sbase_eq E1.out _).mono ?_
    rintro e w4 ⟨rfl, hw4⟩
    subst hw4
    cases e2 : digP b xs with
    | false =>
      have E2 := Lib.hid e2
      clear e2
      go_wp2_with fail
      refine (sdig_any _ xs _ hb2 O3 (by omega)).mono ?_
      rintro e w5 ⟨rfl, hb5⟩
      have B5 := bl_call B3 hb5
      have S5 := S3.below hb5
      rw [E2.out]
      go_wp2_with fail
      refine (stext_draw (b := w5.heap.size) (cs := #[.string ⟨#[]⟩, .string ⟨#[46]⟩, .string ⟨#[49, 46]⟩, .string ⟨#[49, 46, 50, 46, 51]⟩, .string ⟨#[49, 46, 65]⟩, .string ⟨#[49, 46, 122]⟩, .string ⟨#[45, 48, 46, 53]⟩]) (S5.below (bl_alloc (bl_refl _) (.cells #[.string ⟨#[]⟩, .string ⟨#[46]⟩, .string ⟨#[49, 46]⟩, .string ⟨#[49, 46, 50, 46, 51]⟩, .string ⟨#[49, 46, 65]⟩, .string ⟨#[49, 46, 122]⟩, .string ⟨#[45, 48, 46, 53]⟩] 9))) (by omega) (Bx.new (b := w5.heap.size) _ _ _ rfl) (by have := S5.out.2.1; omega) (by omega) (by omega) (fun i hi => by rcases (show i = 0 ∨ i = 1 ∨ i = 2 ∨ i = 3 ∨ i = 4 ∨ i = 5 ∨ i = 6 by omega) with rfl | rfl | rfl | rfl | rfl | rfl | rfl <;> exact ⟨_, rfl, by decide⟩)).mono ?_
      rintro e w9 ⟨T, rfl, hT, hS9, hU9⟩
      have B9 := bl_of_upd (bl_alloc B5 (.cells #[.string ⟨#[]⟩, .string ⟨#[46]⟩, .string ⟨#[49, 46]⟩, .string ⟨#[49, 46, 50, 46, 51]⟩, .string ⟨#[49, 46, 65]⟩, .string ⟨#[49, 46, 122]⟩, .string ⟨#[45, 48, 46, 53]⟩] 9)) hU9 (by omega)
      go_wp2
      refine bodyPost_ret (v := .tuple #[.int .i64 b, .string T]) (by simp only [results, Tryz.results39]; go_simp) rfl ?_
      exact ⟨_, _, rfl, hbr, by omega, B9⟩
    | true =>
      have hdd := digP_mem e2
      have E2 := Lib.hid e2
      clear e2
      go_wp2_with fail
      refine (sdig_any _ xs _ hb2 O3 (by omega)).mono ?_
      rintro e w5 ⟨rfl, hb5⟩
      have B5 := bl_call B3 hb5
      have S5 := S3.below hb5
      have O5 := O3.below hb5
      rw [E2.out]
      go_wp2_with fail
      refine (dpick_any S5 (by omega) (by omega)).mono ?_
      rintro e w6 ⟨r, rfl, r0, r1, hS6, hU6⟩
      have B6 := bl_of_upd B5 hU6 (by omega)
      have O6 : Sl w6 (.slice a3 xs.length c3) xs := ((OW.below hb5).upd hU6 (fun e => by have := (OW.lt _ e).1; omega)).sl
      obtain ⟨q, hq⟩ : ∃ q, q = r - 20 := ⟨_, rfl⟩
      have hwq : IntKind.i64.wrap (r - 20) = q := by rw [IntKind.wrap_i64]; omega
      have hqr : R64 q := by unfold R64; omega
      clear hq
      go_wp2_with fail
      refine (ltext_any q _ xs _ hqr O6 (by omega) (fun x hx => by have := hdd x hx; omega)).mono ?_
      rintro e w7 ⟨rfl, hb7⟩
      have B7 := bl_call B6 hb7
      have S7 := hS6.below hb7
      obtain ⟨T, hT⟩ : ∃ T : ByteArray, (⟨(dtext q xs).toArray⟩ : ByteArray) = T := ⟨_, rfl⟩
      have hTs : T.size ≤ 1100 := by
        rw [← hT]
        have := dpre_len (xs := xs) hqr (show xs.length ≤ 1000 by omega)
        rw [dpre_all] at this
        simpa [ByteArray.size] using this
      rw [hT]
      clear hT
      go_wp2_with fail
      refine (sspoil_any S7 (by omega) (by omega)).mono ?_
      rintro e w8 ⟨U, rfl, hU, hS8, hU8⟩
      have B8 := bl_of_upd B7 hU8 (by omega)
      go_wp2
      refine bodyPost_ret (v := .tuple #[.int .i64 b, .string U]) (by simp only [results, Tryz.results39]; go_simp) rfl ?_
      exact ⟨_, _, rfl, hbr, by omega, B8⟩

end Go.Proofs.YtndblondleclpaaGreatDoor

