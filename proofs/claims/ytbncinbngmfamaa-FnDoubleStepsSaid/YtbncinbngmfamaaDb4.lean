/- Functions of two numbers: the reference emits one term. Each theorem names its conditions. -/
import Derived.Test.YtbncinbngmfamaaDb3
import Derived.Test.YtbncinbngmfamaaStS
namespace Go.Proofs.Ytbncinbngmfamaa
open Go.RowKit
set_option linter.unusedVariables false
set_option linter.unusedSimpArgs false


set_option maxRecDepth 100000 in
set_option maxHeartbeats 6400000 in
theorem semD_at (d n : Db) (t : Int) (w : World) (e : bdD d = true) (ht : -1000000000 ≤ t ∧ t ≤ 1000000000) (h0 : d.e = n.a) (h1 : d.f = n.b) (h2 : d.g = n.c) (h3 : d.h = n.d) (h4 : d.a - t * d.e = n.e) (h5 : d.b - t * d.f = n.f) (h6 : d.c - t * d.g = n.g) (h7 : d.d - t * d.h = n.h) : Calls Try.prog 161 #[.agg #[.int .i64 d.a, .int .i64 d.b, .int .i64 d.c, .int .i64 d.d, .int .i64 d.e, .int .i64 d.f, .int .i64 d.g, .int .i64 d.h], .int .i64 t] w fun e w' => e = .returned (.tuple #[.agg #[.int .i64 n.a, .int .i64 n.b, .int .i64 n.c, .int .i64 n.d, .int .i64 n.e, .int .i64 n.f, .int .i64 n.g, .int .i64 n.h], .bool (bdD n)]) ∧ Bl w w' := by
  have hb := bdD_iff.1 e
  obtain ⟨hA, hB, hC, hD, hE, hF, hG, hH⟩ := hb
  have p0 := mulbdS ht hE
  have p1 := mulbdS ht hF
  have p2 := mulbdS ht hG
  have p3 := mulbdS ht hH
  clear e
  have H0 := Lib.hid h0
  have H1 := Lib.hid h1
  have H2 := Lib.hid h2
  have H3 := Lib.hid h3
  have H4 := Lib.hid h4
  have H5 := Lib.hid h5
  have H6 := Lib.hid h6
  have H7 := Lib.hid h7
  clear h0 h1 h2 h3 h4 h5 h6 h7
  go_enter Try.func161, Try.ntmps161
  go_wp2_with fail
  have B1 : Bl w ((w.alloc (.cells #[.int .i64 d.a, .int .i64 d.b, .int .i64 d.c, .int .i64 d.d, .int .i64 d.e, .int .i64 d.f, .int .i64 d.g, .int .i64 d.h] 26)).alloc (.cells #[.int .i64 0, .int .i64 0, .int .i64 0, .int .i64 0, .int .i64 0, .int .i64 0, .int .i64 0, .int .i64 0] 26)) := (bl_alloc (bl_alloc (bl_refl _) _) _)
  have xS_1 : Bx ((w.alloc (.cells #[.int .i64 d.a, .int .i64 d.b, .int .i64 d.c, .int .i64 d.d, .int .i64 d.e, .int .i64 d.f, .int .i64 d.g, .int .i64 d.h] 26)).alloc (.cells #[.int .i64 0, .int .i64 0, .int .i64 0, .int .i64 0, .int .i64 0, .int .i64 0, .int .i64 0, .int .i64 0] 26)) (w.heap.size) #[.int .i64 d.a, .int .i64 d.b, .int .i64 d.c, .int .i64 d.d, .int .i64 d.e, .int .i64 d.f, .int .i64 d.g, .int .i64 d.h] := ((Bx.new (b := w.heap.size) _ #[.int .i64 d.a, .int .i64 d.b, .int .i64 d.c, .int .i64 d.d, .int .i64 d.e, .int .i64 d.f, .int .i64 d.g, .int .i64 d.h] 26 (by first | rfl | simp)).alloc _)
  have xR_1 : Bx ((w.alloc (.cells #[.int .i64 d.a, .int .i64 d.b, .int .i64 d.c, .int .i64 d.d, .int .i64 d.e, .int .i64 d.f, .int .i64 d.g, .int .i64 d.h] 26)).alloc (.cells #[.int .i64 0, .int .i64 0, .int .i64 0, .int .i64 0, .int .i64 0, .int .i64 0, .int .i64 0, .int .i64 0] 26)) (w.heap.size + 1) #[.int .i64 0, .int .i64 0, .int .i64 0, .int .i64 0, .int .i64 0, .int .i64 0, .int .i64 0, .int .i64 0] := (Bx.new (b := w.heap.size + 1) _ #[.int .i64 0, .int .i64 0, .int .i64 0, .int .i64 0, .int .i64 0, .int .i64 0, .int .i64 0, .int .i64 0] 26 (by first | rfl | simp))
  have zz1 : w.heap.size + 2 ≤ ((w.alloc (.cells #[.int .i64 d.a, .int .i64 d.b, .int .i64 d.c, .int .i64 d.d, .int .i64 d.e, .int .i64 d.f, .int .i64 d.g, .int .i64 d.h] 26)).alloc (.cells #[.int .i64 0, .int .i64 0, .int .i64 0, .int .i64 0, .int .i64 0, .int .i64 0, .int .i64 0, .int .i64 0] 26)).heap.size := (by simp)
  generalize ((w.alloc (.cells #[.int .i64 d.a, .int .i64 d.b, .int .i64 d.c, .int .i64 d.d, .int .i64 d.e, .int .i64 d.f, .int .i64 d.g, .int .i64 d.h] 26)).alloc (.cells #[.int .i64 0, .int .i64 0, .int .i64 0, .int .i64 0, .int .i64 0, .int .i64 0, .int .i64 0, .int .i64 0] 26)) = w1 at *
  obtain ⟨cS_1, fS_1, zS_1⟩ := xS_1.out
  obtain ⟨cR_1, fR_1, zR_1⟩ := xR_1.out
  refine (big_yes _ _ _ ht hE).mono ?_
  rintro e w9 ⟨rfl, rfl⟩
  go_wp2_with fail
  refine (big_yes _ _ _ ht hF).mono ?_
  rintro e w9 ⟨rfl, rfl⟩
  go_wp2_with fail
  refine (big_yes _ _ _ ht hG).mono ?_
  rintro e w9 ⟨rfl, rfl⟩
  go_wp2_with fail
  refine (big_yes _ _ _ ht hH).mono ?_
  rintro e w9 ⟨rfl, rfl⟩
  go_wp2_with fail
  have B2 : Bl w (w1.alloc (.cells #[.int .i64 (d.e), .int .i64 (d.f), .int .i64 (d.g), .int .i64 (d.h), .int .i64 (d.a - t * d.e), .int .i64 (d.b - t * d.f), .int .i64 (d.c - t * d.g), .int .i64 (d.d - t * d.h)] 26)) := (bl_alloc B1 _)
  have xS_2 : Bx (w1.alloc (.cells #[.int .i64 (d.e), .int .i64 (d.f), .int .i64 (d.g), .int .i64 (d.h), .int .i64 (d.a - t * d.e), .int .i64 (d.b - t * d.f), .int .i64 (d.c - t * d.g), .int .i64 (d.d - t * d.h)] 26)) (w.heap.size) #[.int .i64 d.a, .int .i64 d.b, .int .i64 d.c, .int .i64 d.d, .int .i64 d.e, .int .i64 d.f, .int .i64 d.g, .int .i64 d.h] := (xS_1.alloc _)
  have xR_2 : Bx (w1.alloc (.cells #[.int .i64 (d.e), .int .i64 (d.f), .int .i64 (d.g), .int .i64 (d.h), .int .i64 (d.a - t * d.e), .int .i64 (d.b - t * d.f), .int .i64 (d.c - t * d.g), .int .i64 (d.d - t * d.h)] 26)) (w.heap.size + 1) #[.int .i64 0, .int .i64 0, .int .i64 0, .int .i64 0, .int .i64 0, .int .i64 0, .int .i64 0, .int .i64 0] := (xR_1.alloc _)
  have xN_2 : Bx (w1.alloc (.cells #[.int .i64 (d.e), .int .i64 (d.f), .int .i64 (d.g), .int .i64 (d.h), .int .i64 (d.a - t * d.e), .int .i64 (d.b - t * d.f), .int .i64 (d.c - t * d.g), .int .i64 (d.d - t * d.h)] 26)) (w1.heap.size) #[.int .i64 (d.e), .int .i64 (d.f), .int .i64 (d.g), .int .i64 (d.h), .int .i64 (d.a - t * d.e), .int .i64 (d.b - t * d.f), .int .i64 (d.c - t * d.g), .int .i64 (d.d - t * d.h)] := (Bx.new (b := w1.heap.size) _ #[.int .i64 (d.e), .int .i64 (d.f), .int .i64 (d.g), .int .i64 (d.h), .int .i64 (d.a - t * d.e), .int .i64 (d.b - t * d.f), .int .i64 (d.c - t * d.g), .int .i64 (d.d - t * d.h)] 26 (by first | rfl | simp))
  have zz2 : w1.heap.size + 1 ≤ (w1.alloc (.cells #[.int .i64 (d.e), .int .i64 (d.f), .int .i64 (d.g), .int .i64 (d.h), .int .i64 (d.a - t * d.e), .int .i64 (d.b - t * d.f), .int .i64 (d.c - t * d.g), .int .i64 (d.d - t * d.h)] 26)).heap.size := (by simp)
  clear cS_1 fS_1 zS_1 cR_1 fR_1 zR_1
  generalize (w1.alloc (.cells #[.int .i64 (d.e), .int .i64 (d.f), .int .i64 (d.g), .int .i64 (d.h), .int .i64 (d.a - t * d.e), .int .i64 (d.b - t * d.f), .int .i64 (d.c - t * d.g), .int .i64 (d.d - t * d.h)] 26)) = w2 at *
  obtain ⟨cS_2, fS_2, zS_2⟩ := xS_2.out
  obtain ⟨cR_2, fR_2, zR_2⟩ := xR_2.out
  obtain ⟨cN_2, fN_2, zN_2⟩ := xN_2.out
  have xN_3 : Bx w2 (w1.heap.size) #[.int .i64 n.a, .int .i64 n.b, .int .i64 n.c, .int .i64 n.d, .int .i64 n.e, .int .i64 n.f, .int .i64 n.g, .int .i64 n.h] := by rw [← H0.out, ← H1.out, ← H2.out, ← H3.out, ← H4.out, ← H5.out, ← H6.out, ← H7.out]; exact xN_2
  clear cS_2 fS_2 zS_2 cN_2 fN_2 xN_2 xS_2 p0 p1 p2 p3 ht hA hB hC hD hE hF hG hH zN_2 B1 xS_1 xR_1
  obtain ⟨cN_2, fN_2, zN_2⟩ := xN_3.out
  go_cut [5] (fun s5 wx => s5 = .bool (bdD n) ∧ Bx wx (w.heap.size + 1) #[.int .i64 n.a, .int .i64 n.b, .int .i64 n.c, .int .i64 n.d, .int .i64 n.e, .int .i64 n.f, .int .i64 n.g, .int .i64 n.h] ∧ Bl w wx)
  case first =>
    clear H0 H1 H2 H3 H4 H5 H6 H7
    go_region_held3 (fun w' => w'.cell? ⟨w1.heap.size, 0, none⟩ = some (.int .i64 n.a) ∧ w'.cell? ⟨w1.heap.size, 1, none⟩ = some (.int .i64 n.b) ∧ w'.cell? ⟨w1.heap.size, 2, none⟩ = some (.int .i64 n.c) ∧ w'.cell? ⟨w1.heap.size, 3, none⟩ = some (.int .i64 n.d) ∧ w'.cell? ⟨w1.heap.size, 4, none⟩ = some (.int .i64 n.e) ∧ w'.cell? ⟨w1.heap.size, 5, none⟩ = some (.int .i64 n.f) ∧ w'.cell? ⟨w1.heap.size, 6, none⟩ = some (.int .i64 n.g) ∧ w'.cell? ⟨w1.heap.size, 7, none⟩ = some (.int .i64 n.h)) (first | (simp [*]; done) | (go_simp; done) | go_keep)
      (first | (go_at_call 119; go_must (refine (sfitD_any n _).mono ?_; rintro e w8 ⟨rfl, hb8⟩; (first | (have nb : Bx w8 (w1.heap.size) #[.int .i64 n.a, .int .i64 n.b, .int .i64 n.c, .int .i64 n.d, .int .i64 n.e, .int .i64 n.f, .int .i64 n.g, .int .i64 n.h] := xN_3.drew.below hb8; have rb : Bx w8 (w.heap.size + 1) #[.int .i64 0, .int .i64 0, .int .i64 0, .int .i64 0, .int .i64 0, .int .i64 0, .int .i64 0, .int .i64 0] := xR_2.drew.below hb8; have BB : Bl w w8 := bl_call (bl_drew B2) hb8; clear xN_3 xR_2 B2 cN_2 fN_2 cR_2 fR_2; obtain ⟨cn, fn, zn⟩ := nb.out; obtain ⟨cr, fr, zr⟩ := rb.out) | (have nb : Bx w8 (w1.heap.size) #[.int .i64 n.a, .int .i64 n.b, .int .i64 n.c, .int .i64 n.d, .int .i64 n.e, .int .i64 n.f, .int .i64 n.g, .int .i64 n.h] := ((((((((xN_3.drew.far (by first | (simp; done) | (simp; omega)) _).far (by first | (simp; done) | (simp; omega)) _).far (by first | (simp; done) | (simp; omega)) _).far (by first | (simp; done) | (simp; omega)) _).far (by first | (simp; done) | (simp; omega)) _).far (by first | (simp; done) | (simp; omega)) _).far (by first | (simp; done) | (simp; omega)) _).far (by first | (simp; done) | (simp; omega)) _).below hb8; have rb : Bx w8 (w.heap.size + 1) #[.int .i64 n.a, .int .i64 n.b, .int .i64 n.c, .int .i64 n.d, .int .i64 n.e, .int .i64 n.f, .int .i64 n.g, .int .i64 n.h] := ((((((((xR_2.drew.set 0 (.int .i64 n.a)).set 1 (.int .i64 n.b)).set 2 (.int .i64 n.c)).set 3 (.int .i64 n.d)).set 4 (.int .i64 n.e)).set 5 (.int .i64 n.f)).set 6 (.int .i64 n.g)).set 7 (.int .i64 n.h)).below hb8; have BB : Bl w w8 := bl_call (bl_set (bl_set (bl_set (bl_set (bl_set (bl_set (bl_set (bl_set (bl_drew B2) (by first | exact Nat.le_refl _ | (simp; done) | (simp; omega)) _) (by first | exact Nat.le_refl _ | (simp; done) | (simp; omega)) _) (by first | exact Nat.le_refl _ | (simp; done) | (simp; omega)) _) (by first | exact Nat.le_refl _ | (simp; done) | (simp; omega)) _) (by first | exact Nat.le_refl _ | (simp; done) | (simp; omega)) _) (by first | exact Nat.le_refl _ | (simp; done) | (simp; omega)) _) (by first | exact Nat.le_refl _ | (simp; done) | (simp; omega)) _) (by first | exact Nat.le_refl _ | (simp; done) | (simp; omega)) _) hb8; clear xN_3 xR_2 B2 cN_2 fN_2 cR_2 fR_2; obtain ⟨cn, fn, zn⟩ := nb.out; obtain ⟨cr, fr, zr⟩ := rb.out)))))
    all_goals (go_wp2_with fail; go_meet; (first | (with_reducible exact ⟨rfl, rb, BB⟩) | exact ⟨rfl, ((((((((rb.set 0 (.int .i64 n.a)).set 1 (.int .i64 n.b)).set 2 (.int .i64 n.c)).set 3 (.int .i64 n.d)).set 4 (.int .i64 n.e)).set 5 (.int .i64 n.f)).set 6 (.int .i64 n.g)).set 7 (.int .i64 n.h)), (bl_set (bl_set (bl_set (bl_set (bl_set (bl_set (bl_set (bl_set BB (by first | exact Nat.le_refl _ | (simp; done) | (simp; omega)) _) (by first | exact Nat.le_refl _ | (simp; done) | (simp; omega)) _) (by first | exact Nat.le_refl _ | (simp; done) | (simp; omega)) _) (by first | exact Nat.le_refl _ | (simp; done) | (simp; omega)) _) (by first | exact Nat.le_refl _ | (simp; done) | (simp; omega)) _) (by first | exact Nat.le_refl _ | (simp; done) | (simp; omega)) _) (by first | exact Nat.le_refl _ | (simp; done) | (simp; omega)) _) (by first | exact Nat.le_refl _ | (simp; done) | (simp; omega)) _)⟩))
  case rest =>
    obtain ⟨rfl, xR, BB⟩ := hcut
    have BC : Bl w wc := BB
    obtain ⟨cR, fR, zR⟩ := xR.out
    clear cR_2 fR_2 zR_2 cN_2 fN_2 zN_2
    go_wp2
    refine bodyPost_ret (v := .tuple #[.agg #[.int .i64 n.a, .int .i64 n.b, .int .i64 n.c, .int .i64 n.d, .int .i64 n.e, .int .i64 n.f, .int .i64 n.g, .int .i64 n.h], .bool (bdD n)]) (by simp only [results, Try.results161]; go_simp) rfl ⟨rfl, BC⟩
theorem semD_any (d : Db) (t : Int) (w : World) (e : bdD d = true) (ht : -1000000000 ≤ t ∧ t ≤ 1000000000) : Calls Try.prog 161 #[.agg #[.int .i64 d.a, .int .i64 d.b, .int .i64 d.c, .int .i64 d.d, .int .i64 d.e, .int .i64 d.f, .int .i64 d.g, .int .i64 d.h], .int .i64 t] w fun e w' => e = .returned (.tuple #[.agg #[.int .i64 (emD d t).a, .int .i64 (emD d t).b, .int .i64 (emD d t).c, .int .i64 (emD d t).d, .int .i64 (emD d t).e, .int .i64 (emD d t).f, .int .i64 (emD d t).g, .int .i64 (emD d t).h], .bool (bdD (emD d t))]) ∧ Bl w w' :=
  semD_at d (emD d t) t w e ht rfl rfl rfl rfl rfl rfl rfl rfl

end Go.Proofs.Ytbncinbngmfamaa
