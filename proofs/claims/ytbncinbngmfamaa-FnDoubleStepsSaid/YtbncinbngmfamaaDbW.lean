/- Small walks for FnDoubleSteps. Each theorem names its conditions. -/
import Derived.Test.YtbncinbngmfamaaDbO
namespace Go.Proofs.Ytbncinbngmfamaa
open Go.RowKit
set_option linter.unusedVariables false
set_option linter.unusedSimpArgs false


set_option maxRecDepth 100000 in
set_option maxHeartbeats 3200000 in
theorem dfor_any (op : Int) (h : inB op 1 4 = true) (w : World) : Calls Try.prog 16 #[.int .i64 op] w fun e w' => e = .returned (.tuple #[.agg #[.int .i64 (forD op).a, .int .i64 (forD op).b, .int .i64 (forD op).c, .int .i64 (forD op).d, .int .i64 (forD op).e, .int .i64 (forD op).f, .int .i64 (forD op).g, .int .i64 (forD op).h], .int .i64 0]) ∧ Bl w w' := by
  have H := Lib.hid h
  clear h
  go_enter Try.func16, Try.ntmps16
  go_wp2_with fail
  have B1 : Bl w (w.alloc (.cells #[.int .i64 0, .int .i64 0, .int .i64 0, .int .i64 0, .int .i64 0, .int .i64 0, .int .i64 0, .int .i64 0] 26)) := (bl_alloc (bl_refl _) _)
  have xR_1 : Bx (w.alloc (.cells #[.int .i64 0, .int .i64 0, .int .i64 0, .int .i64 0, .int .i64 0, .int .i64 0, .int .i64 0, .int .i64 0] 26)) (w.heap.size) #[.int .i64 0, .int .i64 0, .int .i64 0, .int .i64 0, .int .i64 0, .int .i64 0, .int .i64 0, .int .i64 0] := (Bx.new (b := w.heap.size) _ #[.int .i64 0, .int .i64 0, .int .i64 0, .int .i64 0, .int .i64 0, .int .i64 0, .int .i64 0, .int .i64 0] 26 (by first | rfl | simp))
  have zz1 : w.heap.size + 1 ≤ (w.alloc (.cells #[.int .i64 0, .int .i64 0, .int .i64 0, .int .i64 0, .int .i64 0, .int .i64 0, .int .i64 0, .int .i64 0] 26)).heap.size := (by simp)
  generalize (w.alloc (.cells #[.int .i64 0, .int .i64 0, .int .i64 0, .int .i64 0, .int .i64 0, .int .i64 0, .int .i64 0, .int .i64 0] 26)) = w1 at *
  obtain ⟨cR_1, fR_1, zR_1⟩ := xR_1.out
  refine (iop_any H.out _).mono ?_
  rintro e w9 ⟨rfl, rfl⟩
  go_wp2_with fail
  refine (ifor_any op H.out _).mono ?_
  rintro e w2 ⟨rfl, hb2⟩
  have B2 : Bl w w2 := bl_call B1 hb2
  have xR_2 : Bx w2 (w.heap.size) #[.int .i64 0, .int .i64 0, .int .i64 0, .int .i64 0, .int .i64 0, .int .i64 0, .int .i64 0, .int .i64 0] := xR_1.below hb2
  clear cR_1 fR_1 zR_1
  obtain ⟨cR_2, fR_2, zR_2⟩ := xR_2.out
  go_wp2
  refine bodyPost_ret (v := .tuple #[.agg #[.int .i64 (forD op).a, .int .i64 (forD op).b, .int .i64 (forD op).c, .int .i64 (forD op).d, .int .i64 (forD op).e, .int .i64 (forD op).f, .int .i64 (forD op).g, .int .i64 (forD op).h], .int .i64 0]) (by simp only [results, Try.results16]; go_simp) rfl ⟨rfl, ?_⟩
  repeat first | (with_reducible exact B2) | (with_reducible exact bl_refl _) | (with_reducible refine bl_alloc ?_ _) | (with_reducible refine bl_set ?_ (by first | exact Nat.le_refl _ | omega | (simp; done) | (simp; omega)) _)

set_option maxRecDepth 100000 in
set_option maxHeartbeats 3200000 in
theorem opname_any (op : Int) (h : inB op 1 4 = true) (w : World) : Calls Try.prog 17 #[.int .i64 op] w fun e w' => ∃ s : ByteArray, e = .returned (.string s) ∧ s ≠ ⟨#[]⟩ ∧ s.toList.isEmpty = false ∧ Bl w w' := by
  have h' := inB_iff.1 h
  rcases (show op = 1 ∨ op = 2 ∨ op = 3 ∨ op = 4 by omega) with rfl | rfl | rfl | rfl
  · clear h h'
    go_enter Try.func17, Try.ntmps17
    go_wp2_with fail
    refine (iop_any (op := 1) (b := true) (by decide) _).mono ?_
    rintro e w9 ⟨rfl, rfl⟩
    go_wp2
    go_ret
    exact ⟨_, rfl, by decide, (by rw [ByteArray.toList_eq]; rfl), bl_alloc (bl_refl _) _⟩
  · clear h h'
    go_enter Try.func17, Try.ntmps17
    go_wp2_with fail
    refine (iop_any (op := 2) (b := true) (by decide) _).mono ?_
    rintro e w9 ⟨rfl, rfl⟩
    go_wp2
    go_ret
    exact ⟨_, rfl, by decide, (by rw [ByteArray.toList_eq]; rfl), bl_alloc (bl_refl _) _⟩
  · clear h h'
    go_enter Try.func17, Try.ntmps17
    go_wp2_with fail
    refine (iop_any (op := 3) (b := true) (by decide) _).mono ?_
    rintro e w9 ⟨rfl, rfl⟩
    go_wp2
    go_ret
    exact ⟨_, rfl, by decide, (by rw [ByteArray.toList_eq]; rfl), bl_alloc (bl_refl _) _⟩
  · clear h h'
    go_enter Try.func17, Try.ntmps17
    go_wp2_with fail
    refine (iop_any (op := 4) (b := true) (by decide) _).mono ?_
    rintro e w9 ⟨rfl, rfl⟩
    go_wp2
    go_ret
    exact ⟨_, rfl, by decide, (by rw [ByteArray.toList_eq]; rfl), bl_alloc (bl_refl _) _⟩

set_option maxRecDepth 100000 in
set_option maxHeartbeats 3200000 in
theorem feedX_any (d : Db) (t : Int) (w : World) (e1 : okD d = true) (ht : -1000000000 ≤ t ∧ t ≤ 1000000000) (e2 : okD (fdX d t) = true) : Calls Try.prog 66 #[.agg #[.int .i64 d.a, .int .i64 d.b, .int .i64 d.c, .int .i64 d.d, .int .i64 d.e, .int .i64 d.f, .int .i64 d.g, .int .i64 d.h], .int .i64 t, .func (.func 67) #[] #[]] w fun e w' => e = .returned (.tuple #[.agg #[.int .i64 (fdX d t).a, .int .i64 (fdX d t).b, .int .i64 (fdX d t).c, .int .i64 (fdX d t).d, .int .i64 (fdX d t).e, .int .i64 (fdX d t).f, .int .i64 (fdX d t).g, .int .i64 (fdX d t).h], .int .i64 0]) ∧ Bl w w' := by
  have E1 := Lib.hid e1
  have E2 := Lib.hid e2
  have HI := Lib.hid (show inB t (-1000000000) 1000000000 = true from inB_iff.2 ht)
  clear e1 e2
  go_enter Try.func66, Try.ntmps66
  go_wp2_with fail
  have B1 : Bl w ((w.alloc (.cells #[.int .i64 d.a, .int .i64 d.b, .int .i64 d.c, .int .i64 d.d, .int .i64 d.e, .int .i64 d.f, .int .i64 d.g, .int .i64 d.h] 26)).alloc (.cells #[.int .i64 0, .int .i64 0, .int .i64 0, .int .i64 0, .int .i64 0, .int .i64 0, .int .i64 0, .int .i64 0] 26)) := (bl_alloc (bl_alloc (bl_refl _) _) _)
  have xS_1 : Bx ((w.alloc (.cells #[.int .i64 d.a, .int .i64 d.b, .int .i64 d.c, .int .i64 d.d, .int .i64 d.e, .int .i64 d.f, .int .i64 d.g, .int .i64 d.h] 26)).alloc (.cells #[.int .i64 0, .int .i64 0, .int .i64 0, .int .i64 0, .int .i64 0, .int .i64 0, .int .i64 0, .int .i64 0] 26)) (w.heap.size) #[.int .i64 d.a, .int .i64 d.b, .int .i64 d.c, .int .i64 d.d, .int .i64 d.e, .int .i64 d.f, .int .i64 d.g, .int .i64 d.h] := ((Bx.new (b := w.heap.size) _ #[.int .i64 d.a, .int .i64 d.b, .int .i64 d.c, .int .i64 d.d, .int .i64 d.e, .int .i64 d.f, .int .i64 d.g, .int .i64 d.h] 26 (by first | rfl | simp)).alloc _)
  have xR_1 : Bx ((w.alloc (.cells #[.int .i64 d.a, .int .i64 d.b, .int .i64 d.c, .int .i64 d.d, .int .i64 d.e, .int .i64 d.f, .int .i64 d.g, .int .i64 d.h] 26)).alloc (.cells #[.int .i64 0, .int .i64 0, .int .i64 0, .int .i64 0, .int .i64 0, .int .i64 0, .int .i64 0, .int .i64 0] 26)) (w.heap.size + 1) #[.int .i64 0, .int .i64 0, .int .i64 0, .int .i64 0, .int .i64 0, .int .i64 0, .int .i64 0, .int .i64 0] := (Bx.new (b := w.heap.size + 1) _ #[.int .i64 0, .int .i64 0, .int .i64 0, .int .i64 0, .int .i64 0, .int .i64 0, .int .i64 0, .int .i64 0] 26 (by first | rfl | simp))
  have zz1 : w.heap.size + 2 ≤ ((w.alloc (.cells #[.int .i64 d.a, .int .i64 d.b, .int .i64 d.c, .int .i64 d.d, .int .i64 d.e, .int .i64 d.f, .int .i64 d.g, .int .i64 d.h] 26)).alloc (.cells #[.int .i64 0, .int .i64 0, .int .i64 0, .int .i64 0, .int .i64 0, .int .i64 0, .int .i64 0, .int .i64 0] 26)).heap.size := (by simp)
  generalize ((w.alloc (.cells #[.int .i64 d.a, .int .i64 d.b, .int .i64 d.c, .int .i64 d.d, .int .i64 d.e, .int .i64 d.f, .int .i64 d.g, .int .i64 d.h] 26)).alloc (.cells #[.int .i64 0, .int .i64 0, .int .i64 0, .int .i64 0, .int .i64 0, .int .i64 0, .int .i64 0, .int .i64 0] 26)) = w1 at *
  obtain ⟨cS_1, fS_1, zS_1⟩ := xS_1.out
  obtain ⟨cR_1, fR_1, zR_1⟩ := xR_1.out
  refine (iokD_eq E1.out _).mono ?_
  rintro e w2 ⟨rfl, hb2⟩
  have B2 : Bl w w2 := bl_call B1 hb2
  have xS_2 : Bx w2 (w.heap.size) #[.int .i64 d.a, .int .i64 d.b, .int .i64 d.c, .int .i64 d.d, .int .i64 d.e, .int .i64 d.f, .int .i64 d.g, .int .i64 d.h] := xS_1.below hb2
  have xR_2 : Bx w2 (w.heap.size + 1) #[.int .i64 0, .int .i64 0, .int .i64 0, .int .i64 0, .int .i64 0, .int .i64 0, .int .i64 0, .int .i64 0] := xR_1.below hb2
  clear cS_1 fS_1 zS_1 cR_1 fR_1 zR_1
  obtain ⟨cS_2, fS_2, zS_2⟩ := xS_2.out
  obtain ⟨cR_2, fR_2, zR_2⟩ := xR_2.out
  go_wp2_with fail
  refine (inB_eqS HI.out _).mono ?_
  rintro e w9 ⟨rfl, rfl⟩
  go_wp2_with fail
  refine (ifdX_any d t _ (okD_bd E1.out) ht).mono ?_
  rintro e w3 ⟨rfl, hb3⟩
  have B3 : Bl w w3 := bl_call B2 hb3
  have xS_3 : Bx w3 (w.heap.size) #[.int .i64 d.a, .int .i64 d.b, .int .i64 d.c, .int .i64 d.d, .int .i64 d.e, .int .i64 d.f, .int .i64 d.g, .int .i64 d.h] := xS_2.below hb3
  have xR_3 : Bx w3 (w.heap.size + 1) #[.int .i64 0, .int .i64 0, .int .i64 0, .int .i64 0, .int .i64 0, .int .i64 0, .int .i64 0, .int .i64 0] := xR_2.below hb3
  clear cS_2 fS_2 zS_2 cR_2 fR_2 zR_2
  obtain ⟨cS_3, fS_3, zS_3⟩ := xS_3.out
  obtain ⟨cR_3, fR_3, zR_3⟩ := xR_3.out
  go_wp2_with fail
  have B4 : Bl w (w3.alloc (.cells #[.int .i64 (fdX d t).a, .int .i64 (fdX d t).b, .int .i64 (fdX d t).c, .int .i64 (fdX d t).d, .int .i64 (fdX d t).e, .int .i64 (fdX d t).f, .int .i64 (fdX d t).g, .int .i64 (fdX d t).h] 26)) := (bl_alloc B3 _)
  have xS_4 : Bx (w3.alloc (.cells #[.int .i64 (fdX d t).a, .int .i64 (fdX d t).b, .int .i64 (fdX d t).c, .int .i64 (fdX d t).d, .int .i64 (fdX d t).e, .int .i64 (fdX d t).f, .int .i64 (fdX d t).g, .int .i64 (fdX d t).h] 26)) (w.heap.size) #[.int .i64 d.a, .int .i64 d.b, .int .i64 d.c, .int .i64 d.d, .int .i64 d.e, .int .i64 d.f, .int .i64 d.g, .int .i64 d.h] := (xS_3.alloc _)
  have xR_4 : Bx (w3.alloc (.cells #[.int .i64 (fdX d t).a, .int .i64 (fdX d t).b, .int .i64 (fdX d t).c, .int .i64 (fdX d t).d, .int .i64 (fdX d t).e, .int .i64 (fdX d t).f, .int .i64 (fdX d t).g, .int .i64 (fdX d t).h] 26)) (w.heap.size + 1) #[.int .i64 0, .int .i64 0, .int .i64 0, .int .i64 0, .int .i64 0, .int .i64 0, .int .i64 0, .int .i64 0] := (xR_3.alloc _)
  have xN_4 : Bx (w3.alloc (.cells #[.int .i64 (fdX d t).a, .int .i64 (fdX d t).b, .int .i64 (fdX d t).c, .int .i64 (fdX d t).d, .int .i64 (fdX d t).e, .int .i64 (fdX d t).f, .int .i64 (fdX d t).g, .int .i64 (fdX d t).h] 26)) (w3.heap.size) #[.int .i64 (fdX d t).a, .int .i64 (fdX d t).b, .int .i64 (fdX d t).c, .int .i64 (fdX d t).d, .int .i64 (fdX d t).e, .int .i64 (fdX d t).f, .int .i64 (fdX d t).g, .int .i64 (fdX d t).h] := (Bx.new (b := w3.heap.size) _ #[.int .i64 (fdX d t).a, .int .i64 (fdX d t).b, .int .i64 (fdX d t).c, .int .i64 (fdX d t).d, .int .i64 (fdX d t).e, .int .i64 (fdX d t).f, .int .i64 (fdX d t).g, .int .i64 (fdX d t).h] 26 (by first | rfl | simp))
  have zz4 : w3.heap.size + 1 ≤ (w3.alloc (.cells #[.int .i64 (fdX d t).a, .int .i64 (fdX d t).b, .int .i64 (fdX d t).c, .int .i64 (fdX d t).d, .int .i64 (fdX d t).e, .int .i64 (fdX d t).f, .int .i64 (fdX d t).g, .int .i64 (fdX d t).h] 26)).heap.size := (by simp)
  clear cS_3 fS_3 zS_3 cR_3 fR_3 zR_3
  generalize (w3.alloc (.cells #[.int .i64 (fdX d t).a, .int .i64 (fdX d t).b, .int .i64 (fdX d t).c, .int .i64 (fdX d t).d, .int .i64 (fdX d t).e, .int .i64 (fdX d t).f, .int .i64 (fdX d t).g, .int .i64 (fdX d t).h] 26)) = w4 at *
  obtain ⟨cS_4, fS_4, zS_4⟩ := xS_4.out
  obtain ⟨cR_4, fR_4, zR_4⟩ := xR_4.out
  obtain ⟨cN_4, fN_4, zN_4⟩ := xN_4.out
  refine (iokD_eq E2.out _).mono ?_
  rintro e w5 ⟨rfl, hb5⟩
  have B5 : Bl w w5 := bl_call B4 hb5
  have xS_5 : Bx w5 (w.heap.size) #[.int .i64 d.a, .int .i64 d.b, .int .i64 d.c, .int .i64 d.d, .int .i64 d.e, .int .i64 d.f, .int .i64 d.g, .int .i64 d.h] := xS_4.below hb5
  have xR_5 : Bx w5 (w.heap.size + 1) #[.int .i64 0, .int .i64 0, .int .i64 0, .int .i64 0, .int .i64 0, .int .i64 0, .int .i64 0, .int .i64 0] := xR_4.below hb5
  have xN_5 : Bx w5 (w3.heap.size) #[.int .i64 (fdX d t).a, .int .i64 (fdX d t).b, .int .i64 (fdX d t).c, .int .i64 (fdX d t).d, .int .i64 (fdX d t).e, .int .i64 (fdX d t).f, .int .i64 (fdX d t).g, .int .i64 (fdX d t).h] := xN_4.below hb5
  clear cS_4 fS_4 zS_4 cR_4 fR_4 zR_4 cN_4 fN_4 zN_4
  obtain ⟨cS_5, fS_5, zS_5⟩ := xS_5.out
  obtain ⟨cR_5, fR_5, zR_5⟩ := xR_5.out
  obtain ⟨cN_5, fN_5, zN_5⟩ := xN_5.out
  go_wp2
  refine bodyPost_ret (v := .tuple #[.agg #[.int .i64 (fdX d t).a, .int .i64 (fdX d t).b, .int .i64 (fdX d t).c, .int .i64 (fdX d t).d, .int .i64 (fdX d t).e, .int .i64 (fdX d t).f, .int .i64 (fdX d t).g, .int .i64 (fdX d t).h], .int .i64 0]) (by simp only [results, Try.results66]; go_simp) rfl ⟨rfl, ?_⟩
  repeat first | (with_reducible exact B5) | (with_reducible exact bl_refl _) | (with_reducible refine bl_alloc ?_ _) | (with_reducible refine bl_set ?_ (by first | exact Nat.le_refl _ | omega | (simp; done) | (simp; omega)) _)

set_option maxRecDepth 100000 in
set_option maxHeartbeats 3200000 in
theorem FeedX_any (d : Db) (t : Int) (w : World) (e1 : okD d = true) (ht : -1000000000 ≤ t ∧ t ≤ 1000000000) (e2 : okD (fdX d t) = true) : Calls Try.prog 18 #[.agg #[.int .i64 d.a, .int .i64 d.b, .int .i64 d.c, .int .i64 d.d, .int .i64 d.e, .int .i64 d.f, .int .i64 d.g, .int .i64 d.h], .int .i64 t] w fun e w' => e = .returned (.tuple #[.agg #[.int .i64 (fdX d t).a, .int .i64 (fdX d t).b, .int .i64 (fdX d t).c, .int .i64 (fdX d t).d, .int .i64 (fdX d t).e, .int .i64 (fdX d t).f, .int .i64 (fdX d t).g, .int .i64 (fdX d t).h], .int .i64 0]) ∧ Bl w w' := by
  have E1 := Lib.hid e1
  have E2 := Lib.hid e2
  clear e1 e2
  go_enter Try.func18, Try.ntmps18
  go_wp2_with fail
  have B1 : Bl w ((w.alloc (.cells #[.int .i64 d.a, .int .i64 d.b, .int .i64 d.c, .int .i64 d.d, .int .i64 d.e, .int .i64 d.f, .int .i64 d.g, .int .i64 d.h] 26)).alloc (.cells #[.int .i64 0, .int .i64 0, .int .i64 0, .int .i64 0, .int .i64 0, .int .i64 0, .int .i64 0, .int .i64 0] 26)) := (bl_alloc (bl_alloc (bl_refl _) _) _)
  have xS_1 : Bx ((w.alloc (.cells #[.int .i64 d.a, .int .i64 d.b, .int .i64 d.c, .int .i64 d.d, .int .i64 d.e, .int .i64 d.f, .int .i64 d.g, .int .i64 d.h] 26)).alloc (.cells #[.int .i64 0, .int .i64 0, .int .i64 0, .int .i64 0, .int .i64 0, .int .i64 0, .int .i64 0, .int .i64 0] 26)) (w.heap.size) #[.int .i64 d.a, .int .i64 d.b, .int .i64 d.c, .int .i64 d.d, .int .i64 d.e, .int .i64 d.f, .int .i64 d.g, .int .i64 d.h] := ((Bx.new (b := w.heap.size) _ #[.int .i64 d.a, .int .i64 d.b, .int .i64 d.c, .int .i64 d.d, .int .i64 d.e, .int .i64 d.f, .int .i64 d.g, .int .i64 d.h] 26 (by first | rfl | simp)).alloc _)
  have xR_1 : Bx ((w.alloc (.cells #[.int .i64 d.a, .int .i64 d.b, .int .i64 d.c, .int .i64 d.d, .int .i64 d.e, .int .i64 d.f, .int .i64 d.g, .int .i64 d.h] 26)).alloc (.cells #[.int .i64 0, .int .i64 0, .int .i64 0, .int .i64 0, .int .i64 0, .int .i64 0, .int .i64 0, .int .i64 0] 26)) (w.heap.size + 1) #[.int .i64 0, .int .i64 0, .int .i64 0, .int .i64 0, .int .i64 0, .int .i64 0, .int .i64 0, .int .i64 0] := (Bx.new (b := w.heap.size + 1) _ #[.int .i64 0, .int .i64 0, .int .i64 0, .int .i64 0, .int .i64 0, .int .i64 0, .int .i64 0, .int .i64 0] 26 (by first | rfl | simp))
  have zz1 : w.heap.size + 2 ≤ ((w.alloc (.cells #[.int .i64 d.a, .int .i64 d.b, .int .i64 d.c, .int .i64 d.d, .int .i64 d.e, .int .i64 d.f, .int .i64 d.g, .int .i64 d.h] 26)).alloc (.cells #[.int .i64 0, .int .i64 0, .int .i64 0, .int .i64 0, .int .i64 0, .int .i64 0, .int .i64 0, .int .i64 0] 26)).heap.size := (by simp)
  generalize ((w.alloc (.cells #[.int .i64 d.a, .int .i64 d.b, .int .i64 d.c, .int .i64 d.d, .int .i64 d.e, .int .i64 d.f, .int .i64 d.g, .int .i64 d.h] 26)).alloc (.cells #[.int .i64 0, .int .i64 0, .int .i64 0, .int .i64 0, .int .i64 0, .int .i64 0, .int .i64 0, .int .i64 0] 26)) = w1 at *
  obtain ⟨cS_1, fS_1, zS_1⟩ := xS_1.out
  obtain ⟨cR_1, fR_1, zR_1⟩ := xR_1.out
  refine (feedX_any d t _ E1.out ht E2.out).mono ?_
  rintro e w2 ⟨rfl, hb2⟩
  have B2 : Bl w w2 := bl_call B1 hb2
  have xS_2 : Bx w2 (w.heap.size) #[.int .i64 d.a, .int .i64 d.b, .int .i64 d.c, .int .i64 d.d, .int .i64 d.e, .int .i64 d.f, .int .i64 d.g, .int .i64 d.h] := xS_1.below hb2
  have xR_2 : Bx w2 (w.heap.size + 1) #[.int .i64 0, .int .i64 0, .int .i64 0, .int .i64 0, .int .i64 0, .int .i64 0, .int .i64 0, .int .i64 0] := xR_1.below hb2
  clear cS_1 fS_1 zS_1 cR_1 fR_1 zR_1
  obtain ⟨cS_2, fS_2, zS_2⟩ := xS_2.out
  obtain ⟨cR_2, fR_2, zR_2⟩ := xR_2.out
  go_wp2
  refine bodyPost_ret (v := .tuple #[.agg #[.int .i64 (fdX d t).a, .int .i64 (fdX d t).b, .int .i64 (fdX d t).c, .int .i64 (fdX d t).d, .int .i64 (fdX d t).e, .int .i64 (fdX d t).f, .int .i64 (fdX d t).g, .int .i64 (fdX d t).h], .int .i64 0]) (by simp only [results, Try.results18]; go_simp) rfl ⟨rfl, ?_⟩
  repeat first | (with_reducible exact B2) | (with_reducible exact bl_refl _) | (with_reducible refine bl_alloc ?_ _) | (with_reducible refine bl_set ?_ (by first | exact Nat.le_refl _ | omega | (simp; done) | (simp; omega)) _)

set_option maxRecDepth 100000 in
set_option maxHeartbeats 3200000 in
theorem feedY_any (d : Db) (t : Int) (w : World) (e1 : okD d = true) (ht : -1000000000 ≤ t ∧ t ≤ 1000000000) (e2 : okD (fdY d t) = true) : Calls Try.prog 66 #[.agg #[.int .i64 d.a, .int .i64 d.b, .int .i64 d.c, .int .i64 d.d, .int .i64 d.e, .int .i64 d.f, .int .i64 d.g, .int .i64 d.h], .int .i64 t, .func (.func 68) #[] #[]] w fun e w' => e = .returned (.tuple #[.agg #[.int .i64 (fdY d t).a, .int .i64 (fdY d t).b, .int .i64 (fdY d t).c, .int .i64 (fdY d t).d, .int .i64 (fdY d t).e, .int .i64 (fdY d t).f, .int .i64 (fdY d t).g, .int .i64 (fdY d t).h], .int .i64 0]) ∧ Bl w w' := by
  have E1 := Lib.hid e1
  have E2 := Lib.hid e2
  have HI := Lib.hid (show inB t (-1000000000) 1000000000 = true from inB_iff.2 ht)
  clear e1 e2
  go_enter Try.func66, Try.ntmps66
  go_wp2_with fail
  have B1 : Bl w ((w.alloc (.cells #[.int .i64 d.a, .int .i64 d.b, .int .i64 d.c, .int .i64 d.d, .int .i64 d.e, .int .i64 d.f, .int .i64 d.g, .int .i64 d.h] 26)).alloc (.cells #[.int .i64 0, .int .i64 0, .int .i64 0, .int .i64 0, .int .i64 0, .int .i64 0, .int .i64 0, .int .i64 0] 26)) := (bl_alloc (bl_alloc (bl_refl _) _) _)
  have xS_1 : Bx ((w.alloc (.cells #[.int .i64 d.a, .int .i64 d.b, .int .i64 d.c, .int .i64 d.d, .int .i64 d.e, .int .i64 d.f, .int .i64 d.g, .int .i64 d.h] 26)).alloc (.cells #[.int .i64 0, .int .i64 0, .int .i64 0, .int .i64 0, .int .i64 0, .int .i64 0, .int .i64 0, .int .i64 0] 26)) (w.heap.size) #[.int .i64 d.a, .int .i64 d.b, .int .i64 d.c, .int .i64 d.d, .int .i64 d.e, .int .i64 d.f, .int .i64 d.g, .int .i64 d.h] := ((Bx.new (b := w.heap.size) _ #[.int .i64 d.a, .int .i64 d.b, .int .i64 d.c, .int .i64 d.d, .int .i64 d.e, .int .i64 d.f, .int .i64 d.g, .int .i64 d.h] 26 (by first | rfl | simp)).alloc _)
  have xR_1 : Bx ((w.alloc (.cells #[.int .i64 d.a, .int .i64 d.b, .int .i64 d.c, .int .i64 d.d, .int .i64 d.e, .int .i64 d.f, .int .i64 d.g, .int .i64 d.h] 26)).alloc (.cells #[.int .i64 0, .int .i64 0, .int .i64 0, .int .i64 0, .int .i64 0, .int .i64 0, .int .i64 0, .int .i64 0] 26)) (w.heap.size + 1) #[.int .i64 0, .int .i64 0, .int .i64 0, .int .i64 0, .int .i64 0, .int .i64 0, .int .i64 0, .int .i64 0] := (Bx.new (b := w.heap.size + 1) _ #[.int .i64 0, .int .i64 0, .int .i64 0, .int .i64 0, .int .i64 0, .int .i64 0, .int .i64 0, .int .i64 0] 26 (by first | rfl | simp))
  have zz1 : w.heap.size + 2 ≤ ((w.alloc (.cells #[.int .i64 d.a, .int .i64 d.b, .int .i64 d.c, .int .i64 d.d, .int .i64 d.e, .int .i64 d.f, .int .i64 d.g, .int .i64 d.h] 26)).alloc (.cells #[.int .i64 0, .int .i64 0, .int .i64 0, .int .i64 0, .int .i64 0, .int .i64 0, .int .i64 0, .int .i64 0] 26)).heap.size := (by simp)
  generalize ((w.alloc (.cells #[.int .i64 d.a, .int .i64 d.b, .int .i64 d.c, .int .i64 d.d, .int .i64 d.e, .int .i64 d.f, .int .i64 d.g, .int .i64 d.h] 26)).alloc (.cells #[.int .i64 0, .int .i64 0, .int .i64 0, .int .i64 0, .int .i64 0, .int .i64 0, .int .i64 0, .int .i64 0] 26)) = w1 at *
  obtain ⟨cS_1, fS_1, zS_1⟩ := xS_1.out
  obtain ⟨cR_1, fR_1, zR_1⟩ := xR_1.out
  refine (iokD_eq E1.out _).mono ?_
  rintro e w2 ⟨rfl, hb2⟩
  have B2 : Bl w w2 := bl_call B1 hb2
  have xS_2 : Bx w2 (w.heap.size) #[.int .i64 d.a, .int .i64 d.b, .int .i64 d.c, .int .i64 d.d, .int .i64 d.e, .int .i64 d.f, .int .i64 d.g, .int .i64 d.h] := xS_1.below hb2
  have xR_2 : Bx w2 (w.heap.size + 1) #[.int .i64 0, .int .i64 0, .int .i64 0, .int .i64 0, .int .i64 0, .int .i64 0, .int .i64 0, .int .i64 0] := xR_1.below hb2
  clear cS_1 fS_1 zS_1 cR_1 fR_1 zR_1
  obtain ⟨cS_2, fS_2, zS_2⟩ := xS_2.out
  obtain ⟨cR_2, fR_2, zR_2⟩ := xR_2.out
  go_wp2_with fail
  refine (inB_eqS HI.out _).mono ?_
  rintro e w9 ⟨rfl, rfl⟩
  go_wp2_with fail
  refine (ifdY_any d t _ (okD_bd E1.out) ht).mono ?_
  rintro e w3 ⟨rfl, hb3⟩
  have B3 : Bl w w3 := bl_call B2 hb3
  have xS_3 : Bx w3 (w.heap.size) #[.int .i64 d.a, .int .i64 d.b, .int .i64 d.c, .int .i64 d.d, .int .i64 d.e, .int .i64 d.f, .int .i64 d.g, .int .i64 d.h] := xS_2.below hb3
  have xR_3 : Bx w3 (w.heap.size + 1) #[.int .i64 0, .int .i64 0, .int .i64 0, .int .i64 0, .int .i64 0, .int .i64 0, .int .i64 0, .int .i64 0] := xR_2.below hb3
  clear cS_2 fS_2 zS_2 cR_2 fR_2 zR_2
  obtain ⟨cS_3, fS_3, zS_3⟩ := xS_3.out
  obtain ⟨cR_3, fR_3, zR_3⟩ := xR_3.out
  go_wp2_with fail
  have B4 : Bl w (w3.alloc (.cells #[.int .i64 (fdY d t).a, .int .i64 (fdY d t).b, .int .i64 (fdY d t).c, .int .i64 (fdY d t).d, .int .i64 (fdY d t).e, .int .i64 (fdY d t).f, .int .i64 (fdY d t).g, .int .i64 (fdY d t).h] 26)) := (bl_alloc B3 _)
  have xS_4 : Bx (w3.alloc (.cells #[.int .i64 (fdY d t).a, .int .i64 (fdY d t).b, .int .i64 (fdY d t).c, .int .i64 (fdY d t).d, .int .i64 (fdY d t).e, .int .i64 (fdY d t).f, .int .i64 (fdY d t).g, .int .i64 (fdY d t).h] 26)) (w.heap.size) #[.int .i64 d.a, .int .i64 d.b, .int .i64 d.c, .int .i64 d.d, .int .i64 d.e, .int .i64 d.f, .int .i64 d.g, .int .i64 d.h] := (xS_3.alloc _)
  have xR_4 : Bx (w3.alloc (.cells #[.int .i64 (fdY d t).a, .int .i64 (fdY d t).b, .int .i64 (fdY d t).c, .int .i64 (fdY d t).d, .int .i64 (fdY d t).e, .int .i64 (fdY d t).f, .int .i64 (fdY d t).g, .int .i64 (fdY d t).h] 26)) (w.heap.size + 1) #[.int .i64 0, .int .i64 0, .int .i64 0, .int .i64 0, .int .i64 0, .int .i64 0, .int .i64 0, .int .i64 0] := (xR_3.alloc _)
  have xN_4 : Bx (w3.alloc (.cells #[.int .i64 (fdY d t).a, .int .i64 (fdY d t).b, .int .i64 (fdY d t).c, .int .i64 (fdY d t).d, .int .i64 (fdY d t).e, .int .i64 (fdY d t).f, .int .i64 (fdY d t).g, .int .i64 (fdY d t).h] 26)) (w3.heap.size) #[.int .i64 (fdY d t).a, .int .i64 (fdY d t).b, .int .i64 (fdY d t).c, .int .i64 (fdY d t).d, .int .i64 (fdY d t).e, .int .i64 (fdY d t).f, .int .i64 (fdY d t).g, .int .i64 (fdY d t).h] := (Bx.new (b := w3.heap.size) _ #[.int .i64 (fdY d t).a, .int .i64 (fdY d t).b, .int .i64 (fdY d t).c, .int .i64 (fdY d t).d, .int .i64 (fdY d t).e, .int .i64 (fdY d t).f, .int .i64 (fdY d t).g, .int .i64 (fdY d t).h] 26 (by first | rfl | simp))
  have zz4 : w3.heap.size + 1 ≤ (w3.alloc (.cells #[.int .i64 (fdY d t).a, .int .i64 (fdY d t).b, .int .i64 (fdY d t).c, .int .i64 (fdY d t).d, .int .i64 (fdY d t).e, .int .i64 (fdY d t).f, .int .i64 (fdY d t).g, .int .i64 (fdY d t).h] 26)).heap.size := (by simp)
  clear cS_3 fS_3 zS_3 cR_3 fR_3 zR_3
  generalize (w3.alloc (.cells #[.int .i64 (fdY d t).a, .int .i64 (fdY d t).b, .int .i64 (fdY d t).c, .int .i64 (fdY d t).d, .int .i64 (fdY d t).e, .int .i64 (fdY d t).f, .int .i64 (fdY d t).g, .int .i64 (fdY d t).h] 26)) = w4 at *
  obtain ⟨cS_4, fS_4, zS_4⟩ := xS_4.out
  obtain ⟨cR_4, fR_4, zR_4⟩ := xR_4.out
  obtain ⟨cN_4, fN_4, zN_4⟩ := xN_4.out
  refine (iokD_eq E2.out _).mono ?_
  rintro e w5 ⟨rfl, hb5⟩
  have B5 : Bl w w5 := bl_call B4 hb5
  have xS_5 : Bx w5 (w.heap.size) #[.int .i64 d.a, .int .i64 d.b, .int .i64 d.c, .int .i64 d.d, .int .i64 d.e, .int .i64 d.f, .int .i64 d.g, .int .i64 d.h] := xS_4.below hb5
  have xR_5 : Bx w5 (w.heap.size + 1) #[.int .i64 0, .int .i64 0, .int .i64 0, .int .i64 0, .int .i64 0, .int .i64 0, .int .i64 0, .int .i64 0] := xR_4.below hb5
  have xN_5 : Bx w5 (w3.heap.size) #[.int .i64 (fdY d t).a, .int .i64 (fdY d t).b, .int .i64 (fdY d t).c, .int .i64 (fdY d t).d, .int .i64 (fdY d t).e, .int .i64 (fdY d t).f, .int .i64 (fdY d t).g, .int .i64 (fdY d t).h] := xN_4.below hb5
  clear cS_4 fS_4 zS_4 cR_4 fR_4 zR_4 cN_4 fN_4 zN_4
  obtain ⟨cS_5, fS_5, zS_5⟩ := xS_5.out
  obtain ⟨cR_5, fR_5, zR_5⟩ := xR_5.out
  obtain ⟨cN_5, fN_5, zN_5⟩ := xN_5.out
  go_wp2
  refine bodyPost_ret (v := .tuple #[.agg #[.int .i64 (fdY d t).a, .int .i64 (fdY d t).b, .int .i64 (fdY d t).c, .int .i64 (fdY d t).d, .int .i64 (fdY d t).e, .int .i64 (fdY d t).f, .int .i64 (fdY d t).g, .int .i64 (fdY d t).h], .int .i64 0]) (by simp only [results, Try.results66]; go_simp) rfl ⟨rfl, ?_⟩
  repeat first | (with_reducible exact B5) | (with_reducible exact bl_refl _) | (with_reducible refine bl_alloc ?_ _) | (with_reducible refine bl_set ?_ (by first | exact Nat.le_refl _ | omega | (simp; done) | (simp; omega)) _)

set_option maxRecDepth 100000 in
set_option maxHeartbeats 3200000 in
theorem FeedY_any (d : Db) (t : Int) (w : World) (e1 : okD d = true) (ht : -1000000000 ≤ t ∧ t ≤ 1000000000) (e2 : okD (fdY d t) = true) : Calls Try.prog 19 #[.agg #[.int .i64 d.a, .int .i64 d.b, .int .i64 d.c, .int .i64 d.d, .int .i64 d.e, .int .i64 d.f, .int .i64 d.g, .int .i64 d.h], .int .i64 t] w fun e w' => e = .returned (.tuple #[.agg #[.int .i64 (fdY d t).a, .int .i64 (fdY d t).b, .int .i64 (fdY d t).c, .int .i64 (fdY d t).d, .int .i64 (fdY d t).e, .int .i64 (fdY d t).f, .int .i64 (fdY d t).g, .int .i64 (fdY d t).h], .int .i64 0]) ∧ Bl w w' := by
  have E1 := Lib.hid e1
  have E2 := Lib.hid e2
  clear e1 e2
  go_enter Try.func19, Try.ntmps19
  go_wp2_with fail
  have B1 : Bl w ((w.alloc (.cells #[.int .i64 d.a, .int .i64 d.b, .int .i64 d.c, .int .i64 d.d, .int .i64 d.e, .int .i64 d.f, .int .i64 d.g, .int .i64 d.h] 26)).alloc (.cells #[.int .i64 0, .int .i64 0, .int .i64 0, .int .i64 0, .int .i64 0, .int .i64 0, .int .i64 0, .int .i64 0] 26)) := (bl_alloc (bl_alloc (bl_refl _) _) _)
  have xS_1 : Bx ((w.alloc (.cells #[.int .i64 d.a, .int .i64 d.b, .int .i64 d.c, .int .i64 d.d, .int .i64 d.e, .int .i64 d.f, .int .i64 d.g, .int .i64 d.h] 26)).alloc (.cells #[.int .i64 0, .int .i64 0, .int .i64 0, .int .i64 0, .int .i64 0, .int .i64 0, .int .i64 0, .int .i64 0] 26)) (w.heap.size) #[.int .i64 d.a, .int .i64 d.b, .int .i64 d.c, .int .i64 d.d, .int .i64 d.e, .int .i64 d.f, .int .i64 d.g, .int .i64 d.h] := ((Bx.new (b := w.heap.size) _ #[.int .i64 d.a, .int .i64 d.b, .int .i64 d.c, .int .i64 d.d, .int .i64 d.e, .int .i64 d.f, .int .i64 d.g, .int .i64 d.h] 26 (by first | rfl | simp)).alloc _)
  have xR_1 : Bx ((w.alloc (.cells #[.int .i64 d.a, .int .i64 d.b, .int .i64 d.c, .int .i64 d.d, .int .i64 d.e, .int .i64 d.f, .int .i64 d.g, .int .i64 d.h] 26)).alloc (.cells #[.int .i64 0, .int .i64 0, .int .i64 0, .int .i64 0, .int .i64 0, .int .i64 0, .int .i64 0, .int .i64 0] 26)) (w.heap.size + 1) #[.int .i64 0, .int .i64 0, .int .i64 0, .int .i64 0, .int .i64 0, .int .i64 0, .int .i64 0, .int .i64 0] := (Bx.new (b := w.heap.size + 1) _ #[.int .i64 0, .int .i64 0, .int .i64 0, .int .i64 0, .int .i64 0, .int .i64 0, .int .i64 0, .int .i64 0] 26 (by first | rfl | simp))
  have zz1 : w.heap.size + 2 ≤ ((w.alloc (.cells #[.int .i64 d.a, .int .i64 d.b, .int .i64 d.c, .int .i64 d.d, .int .i64 d.e, .int .i64 d.f, .int .i64 d.g, .int .i64 d.h] 26)).alloc (.cells #[.int .i64 0, .int .i64 0, .int .i64 0, .int .i64 0, .int .i64 0, .int .i64 0, .int .i64 0, .int .i64 0] 26)).heap.size := (by simp)
  generalize ((w.alloc (.cells #[.int .i64 d.a, .int .i64 d.b, .int .i64 d.c, .int .i64 d.d, .int .i64 d.e, .int .i64 d.f, .int .i64 d.g, .int .i64 d.h] 26)).alloc (.cells #[.int .i64 0, .int .i64 0, .int .i64 0, .int .i64 0, .int .i64 0, .int .i64 0, .int .i64 0, .int .i64 0] 26)) = w1 at *
  obtain ⟨cS_1, fS_1, zS_1⟩ := xS_1.out
  obtain ⟨cR_1, fR_1, zR_1⟩ := xR_1.out
  refine (feedY_any d t _ E1.out ht E2.out).mono ?_
  rintro e w2 ⟨rfl, hb2⟩
  have B2 : Bl w w2 := bl_call B1 hb2
  have xS_2 : Bx w2 (w.heap.size) #[.int .i64 d.a, .int .i64 d.b, .int .i64 d.c, .int .i64 d.d, .int .i64 d.e, .int .i64 d.f, .int .i64 d.g, .int .i64 d.h] := xS_1.below hb2
  have xR_2 : Bx w2 (w.heap.size + 1) #[.int .i64 0, .int .i64 0, .int .i64 0, .int .i64 0, .int .i64 0, .int .i64 0, .int .i64 0, .int .i64 0] := xR_1.below hb2
  clear cS_1 fS_1 zS_1 cR_1 fR_1 zR_1
  obtain ⟨cS_2, fS_2, zS_2⟩ := xS_2.out
  obtain ⟨cR_2, fR_2, zR_2⟩ := xR_2.out
  go_wp2
  refine bodyPost_ret (v := .tuple #[.agg #[.int .i64 (fdY d t).a, .int .i64 (fdY d t).b, .int .i64 (fdY d t).c, .int .i64 (fdY d t).d, .int .i64 (fdY d t).e, .int .i64 (fdY d t).f, .int .i64 (fdY d t).g, .int .i64 (fdY d t).h], .int .i64 0]) (by simp only [results, Try.results19]; go_simp) rfl ⟨rfl, ?_⟩
  repeat first | (with_reducible exact B2) | (with_reducible exact bl_refl _) | (with_reducible refine bl_alloc ?_ _) | (with_reducible refine bl_set ?_ (by first | exact Nat.le_refl _ | omega | (simp; done) | (simp; omega)) _)

set_option maxRecDepth 100000 in
set_option maxHeartbeats 3200000 in
theorem smake_any (n d : Int) (w : World) (hn : -1000000000000000000 ≤ n ∧ n ≤ 1000000000000000000) (hd : -1000000000000000000 ≤ d ∧ d ≤ 1000000000000000000) (h0 : d ≠ 0) : Calls Try.prog 21 #[.int .i64 n, .int .i64 d] w fun e w' => e = .returned (.tuple #[.agg #[.int .i64 (fullF n d).1, .int .i64 (fullF n d).2.1], .int .i64 (fullF n d).2.2]) ∧ Bl w w' := by
  have I1 := Lib.hid (show inB n (-1000000000000000000) 1000000000000000000 = true from inB_iff.2 hn)
  have I2 := Lib.hid (show inB d (-1000000000000000000) 1000000000000000000 = true from inB_iff.2 hd)
  have c0 : (d == 0) = false := by rw [beq_eq_false_iff_ne]; exact h0
  go_enter Try.func21, Try.ntmps21
  go_wp2_with fail
  have B1 : Bl w (w.alloc (.cells #[.int .i64 0, .int .i64 0] 32)) := (bl_alloc (bl_refl _) _)
  have xR_1 : Bx (w.alloc (.cells #[.int .i64 0, .int .i64 0] 32)) (w.heap.size) #[.int .i64 0, .int .i64 0] := (Bx.new (b := w.heap.size) _ #[.int .i64 0, .int .i64 0] 32 (by first | rfl | simp))
  have zz1 : w.heap.size + 1 ≤ (w.alloc (.cells #[.int .i64 0, .int .i64 0] 32)).heap.size := (by simp)
  generalize (w.alloc (.cells #[.int .i64 0, .int .i64 0] 32)) = w1 at *
  obtain ⟨cR_1, fR_1, zR_1⟩ := xR_1.out
  refine (in_any n _ _ _).mono ?_
  rintro e w9 ⟨rfl, rfl⟩
  rw [I1.out]
  go_wp2_with fail
  refine (in_any d _ _ _).mono ?_
  rintro e w9 ⟨rfl, rfl⟩
  rw [I2.out]
  go_wp2_with fail
  refine (full_any n d _ (by omega) (by omega) h0 (by omega) (by omega)).mono ?_
  rintro e w2 ⟨rfl, hb2⟩
  have B2 : Bl w w2 := bl_call B1 hb2
  have xR_2 : Bx w2 (w.heap.size) #[.int .i64 0, .int .i64 0] := xR_1.below hb2
  clear cR_1 fR_1 zR_1
  obtain ⟨cR_2, fR_2, zR_2⟩ := xR_2.out
  go_wp2
  refine bodyPost_ret (v := .tuple #[.agg #[.int .i64 (fullF n d).1, .int .i64 (fullF n d).2.1], .int .i64 (fullF n d).2.2]) (by simp only [results, Try.results21]; go_simp) rfl ⟨rfl, ?_⟩
  repeat first | (with_reducible exact B2) | (with_reducible exact bl_refl _) | (with_reducible refine bl_alloc ?_ _) | (with_reducible refine bl_set ?_ (by first | exact Nat.le_refl _ | omega | (simp; done) | (simp; omega)) _)

set_option maxRecDepth 100000 in
set_option maxHeartbeats 3200000 in
theorem EmitD_none (d : Db) (w : World) (e1 : okD d = true) (hq : knD d = none) : Calls Try.prog 22 #[.agg #[.int .i64 d.a, .int .i64 d.b, .int .i64 d.c, .int .i64 d.d, .int .i64 d.e, .int .i64 d.f, .int .i64 d.g, .int .i64 d.h]] w fun e w' => e = .returned (.tuple #[.int .i64 0, .agg #[.int .i64 0, .int .i64 0, .int .i64 0, .int .i64 0, .int .i64 0, .int .i64 0, .int .i64 0, .int .i64 0], .int .i64 10]) ∧ Bl w w' := by
  have E1 := Lib.hid e1
  have HK := Lib.hid (knr_none hq)
  clear e1 hq
  go_enter Try.func22, Try.ntmps22
  go_wp2_with fail
  have B1 : Bl w ((w.alloc (.cells #[.int .i64 d.a, .int .i64 d.b, .int .i64 d.c, .int .i64 d.d, .int .i64 d.e, .int .i64 d.f, .int .i64 d.g, .int .i64 d.h] 26)).alloc (.cells #[.int .i64 0, .int .i64 0, .int .i64 0, .int .i64 0, .int .i64 0, .int .i64 0, .int .i64 0, .int .i64 0] 26)) := (bl_alloc (bl_alloc (bl_refl _) _) _)
  have xS_1 : Bx ((w.alloc (.cells #[.int .i64 d.a, .int .i64 d.b, .int .i64 d.c, .int .i64 d.d, .int .i64 d.e, .int .i64 d.f, .int .i64 d.g, .int .i64 d.h] 26)).alloc (.cells #[.int .i64 0, .int .i64 0, .int .i64 0, .int .i64 0, .int .i64 0, .int .i64 0, .int .i64 0, .int .i64 0] 26)) (w.heap.size) #[.int .i64 d.a, .int .i64 d.b, .int .i64 d.c, .int .i64 d.d, .int .i64 d.e, .int .i64 d.f, .int .i64 d.g, .int .i64 d.h] := ((Bx.new (b := w.heap.size) _ #[.int .i64 d.a, .int .i64 d.b, .int .i64 d.c, .int .i64 d.d, .int .i64 d.e, .int .i64 d.f, .int .i64 d.g, .int .i64 d.h] 26 (by first | rfl | simp)).alloc _)
  have xR_1 : Bx ((w.alloc (.cells #[.int .i64 d.a, .int .i64 d.b, .int .i64 d.c, .int .i64 d.d, .int .i64 d.e, .int .i64 d.f, .int .i64 d.g, .int .i64 d.h] 26)).alloc (.cells #[.int .i64 0, .int .i64 0, .int .i64 0, .int .i64 0, .int .i64 0, .int .i64 0, .int .i64 0, .int .i64 0] 26)) (w.heap.size + 1) #[.int .i64 0, .int .i64 0, .int .i64 0, .int .i64 0, .int .i64 0, .int .i64 0, .int .i64 0, .int .i64 0] := (Bx.new (b := w.heap.size + 1) _ #[.int .i64 0, .int .i64 0, .int .i64 0, .int .i64 0, .int .i64 0, .int .i64 0, .int .i64 0, .int .i64 0] 26 (by first | rfl | simp))
  have zz1 : w.heap.size + 2 ≤ ((w.alloc (.cells #[.int .i64 d.a, .int .i64 d.b, .int .i64 d.c, .int .i64 d.d, .int .i64 d.e, .int .i64 d.f, .int .i64 d.g, .int .i64 d.h] 26)).alloc (.cells #[.int .i64 0, .int .i64 0, .int .i64 0, .int .i64 0, .int .i64 0, .int .i64 0, .int .i64 0, .int .i64 0] 26)).heap.size := (by simp)
  generalize ((w.alloc (.cells #[.int .i64 d.a, .int .i64 d.b, .int .i64 d.c, .int .i64 d.d, .int .i64 d.e, .int .i64 d.f, .int .i64 d.g, .int .i64 d.h] 26)).alloc (.cells #[.int .i64 0, .int .i64 0, .int .i64 0, .int .i64 0, .int .i64 0, .int .i64 0, .int .i64 0, .int .i64 0] 26)) = w1 at *
  obtain ⟨cS_1, fS_1, zS_1⟩ := xS_1.out
  obtain ⟨cR_1, fR_1, zR_1⟩ := xR_1.out
  refine (iokD_eq E1.out _).mono ?_
  rintro e w2 ⟨rfl, hb2⟩
  have B2 : Bl w w2 := bl_call B1 hb2
  have xS_2 : Bx w2 (w.heap.size) #[.int .i64 d.a, .int .i64 d.b, .int .i64 d.c, .int .i64 d.d, .int .i64 d.e, .int .i64 d.f, .int .i64 d.g, .int .i64 d.h] := xS_1.below hb2
  have xR_2 : Bx w2 (w.heap.size + 1) #[.int .i64 0, .int .i64 0, .int .i64 0, .int .i64 0, .int .i64 0, .int .i64 0, .int .i64 0, .int .i64 0] := xR_1.below hb2
  clear cS_1 fS_1 zS_1 cR_1 fR_1 zR_1
  obtain ⟨cS_2, fS_2, zS_2⟩ := xS_2.out
  obtain ⟨cR_2, fR_2, zR_2⟩ := xR_2.out
  go_wp2_with fail
  refine (iknD_at HK.out _ (okD_bd E1.out)).mono ?_
  rintro e w3 ⟨rfl, hb3⟩
  have B3 : Bl w w3 := bl_call B2 hb3
  have xS_3 : Bx w3 (w.heap.size) #[.int .i64 d.a, .int .i64 d.b, .int .i64 d.c, .int .i64 d.d, .int .i64 d.e, .int .i64 d.f, .int .i64 d.g, .int .i64 d.h] := xS_2.below hb3
  have xR_3 : Bx w3 (w.heap.size + 1) #[.int .i64 0, .int .i64 0, .int .i64 0, .int .i64 0, .int .i64 0, .int .i64 0, .int .i64 0, .int .i64 0] := xR_2.below hb3
  clear cS_2 fS_2 zS_2 cR_2 fR_2 zR_2
  obtain ⟨cS_3, fS_3, zS_3⟩ := xS_3.out
  obtain ⟨cR_3, fR_3, zR_3⟩ := xR_3.out
  go_wp2
  refine bodyPost_ret (v := .tuple #[.int .i64 0, .agg #[.int .i64 0, .int .i64 0, .int .i64 0, .int .i64 0, .int .i64 0, .int .i64 0, .int .i64 0, .int .i64 0], .int .i64 10]) (by simp only [results, Try.results22]; go_simp) rfl ⟨rfl, ?_⟩
  repeat first | (with_reducible exact B3) | (with_reducible exact bl_refl _) | (with_reducible refine bl_alloc ?_ _) | (with_reducible refine bl_set ?_ (by first | exact Nat.le_refl _ | omega | (simp; done) | (simp; omega)) _)

set_option maxRecDepth 100000 in
set_option maxHeartbeats 3200000 in
theorem EmitD_some (d : Db) (q : Int) (w : World) (e1 : okD d = true) (hq : knD d = some q) (e2 : okD (emD d q) = true) : Calls Try.prog 22 #[.agg #[.int .i64 d.a, .int .i64 d.b, .int .i64 d.c, .int .i64 d.d, .int .i64 d.e, .int .i64 d.f, .int .i64 d.g, .int .i64 d.h]] w fun e w' => e = .returned (.tuple #[.int .i64 q, .agg #[.int .i64 (emD d q).a, .int .i64 (emD d q).b, .int .i64 (emD d q).c, .int .i64 (emD d q).d, .int .i64 (emD d q).e, .int .i64 (emD d q).f, .int .i64 (emD d q).g, .int .i64 (emD d q).h], .int .i64 0]) ∧ Bl w w' := by
  have E1 := Lib.hid e1
  have E2 := Lib.hid e2
  have HK := Lib.hid (knr_some hq)
  have hqb := knD_bd (okD_bd e1) hq
  clear e1 hq e2
  go_enter Try.func22, Try.ntmps22
  go_wp2_with fail
  have B1 : Bl w ((w.alloc (.cells #[.int .i64 d.a, .int .i64 d.b, .int .i64 d.c, .int .i64 d.d, .int .i64 d.e, .int .i64 d.f, .int .i64 d.g, .int .i64 d.h] 26)).alloc (.cells #[.int .i64 0, .int .i64 0, .int .i64 0, .int .i64 0, .int .i64 0, .int .i64 0, .int .i64 0, .int .i64 0] 26)) := (bl_alloc (bl_alloc (bl_refl _) _) _)
  have xS_1 : Bx ((w.alloc (.cells #[.int .i64 d.a, .int .i64 d.b, .int .i64 d.c, .int .i64 d.d, .int .i64 d.e, .int .i64 d.f, .int .i64 d.g, .int .i64 d.h] 26)).alloc (.cells #[.int .i64 0, .int .i64 0, .int .i64 0, .int .i64 0, .int .i64 0, .int .i64 0, .int .i64 0, .int .i64 0] 26)) (w.heap.size) #[.int .i64 d.a, .int .i64 d.b, .int .i64 d.c, .int .i64 d.d, .int .i64 d.e, .int .i64 d.f, .int .i64 d.g, .int .i64 d.h] := ((Bx.new (b := w.heap.size) _ #[.int .i64 d.a, .int .i64 d.b, .int .i64 d.c, .int .i64 d.d, .int .i64 d.e, .int .i64 d.f, .int .i64 d.g, .int .i64 d.h] 26 (by first | rfl | simp)).alloc _)
  have xR_1 : Bx ((w.alloc (.cells #[.int .i64 d.a, .int .i64 d.b, .int .i64 d.c, .int .i64 d.d, .int .i64 d.e, .int .i64 d.f, .int .i64 d.g, .int .i64 d.h] 26)).alloc (.cells #[.int .i64 0, .int .i64 0, .int .i64 0, .int .i64 0, .int .i64 0, .int .i64 0, .int .i64 0, .int .i64 0] 26)) (w.heap.size + 1) #[.int .i64 0, .int .i64 0, .int .i64 0, .int .i64 0, .int .i64 0, .int .i64 0, .int .i64 0, .int .i64 0] := (Bx.new (b := w.heap.size + 1) _ #[.int .i64 0, .int .i64 0, .int .i64 0, .int .i64 0, .int .i64 0, .int .i64 0, .int .i64 0, .int .i64 0] 26 (by first | rfl | simp))
  have zz1 : w.heap.size + 2 ≤ ((w.alloc (.cells #[.int .i64 d.a, .int .i64 d.b, .int .i64 d.c, .int .i64 d.d, .int .i64 d.e, .int .i64 d.f, .int .i64 d.g, .int .i64 d.h] 26)).alloc (.cells #[.int .i64 0, .int .i64 0, .int .i64 0, .int .i64 0, .int .i64 0, .int .i64 0, .int .i64 0, .int .i64 0] 26)).heap.size := (by simp)
  generalize ((w.alloc (.cells #[.int .i64 d.a, .int .i64 d.b, .int .i64 d.c, .int .i64 d.d, .int .i64 d.e, .int .i64 d.f, .int .i64 d.g, .int .i64 d.h] 26)).alloc (.cells #[.int .i64 0, .int .i64 0, .int .i64 0, .int .i64 0, .int .i64 0, .int .i64 0, .int .i64 0, .int .i64 0] 26)) = w1 at *
  obtain ⟨cS_1, fS_1, zS_1⟩ := xS_1.out
  obtain ⟨cR_1, fR_1, zR_1⟩ := xR_1.out
  refine (iokD_eq E1.out _).mono ?_
  rintro e w2 ⟨rfl, hb2⟩
  have B2 : Bl w w2 := bl_call B1 hb2
  have xS_2 : Bx w2 (w.heap.size) #[.int .i64 d.a, .int .i64 d.b, .int .i64 d.c, .int .i64 d.d, .int .i64 d.e, .int .i64 d.f, .int .i64 d.g, .int .i64 d.h] := xS_1.below hb2
  have xR_2 : Bx w2 (w.heap.size + 1) #[.int .i64 0, .int .i64 0, .int .i64 0, .int .i64 0, .int .i64 0, .int .i64 0, .int .i64 0, .int .i64 0] := xR_1.below hb2
  clear cS_1 fS_1 zS_1 cR_1 fR_1 zR_1
  obtain ⟨cS_2, fS_2, zS_2⟩ := xS_2.out
  obtain ⟨cR_2, fR_2, zR_2⟩ := xR_2.out
  go_wp2_with fail
  refine (iknD_at HK.out _ (okD_bd E1.out)).mono ?_
  rintro e w3 ⟨rfl, hb3⟩
  have B3 : Bl w w3 := bl_call B2 hb3
  have xS_3 : Bx w3 (w.heap.size) #[.int .i64 d.a, .int .i64 d.b, .int .i64 d.c, .int .i64 d.d, .int .i64 d.e, .int .i64 d.f, .int .i64 d.g, .int .i64 d.h] := xS_2.below hb3
  have xR_3 : Bx w3 (w.heap.size + 1) #[.int .i64 0, .int .i64 0, .int .i64 0, .int .i64 0, .int .i64 0, .int .i64 0, .int .i64 0, .int .i64 0] := xR_2.below hb3
  clear cS_2 fS_2 zS_2 cR_2 fR_2 zR_2
  obtain ⟨cS_3, fS_3, zS_3⟩ := xS_3.out
  obtain ⟨cR_3, fR_3, zR_3⟩ := xR_3.out
  go_wp2_with fail
  refine (iemD_any d q _ (okD_bd E1.out) hqb).mono ?_
  rintro e w4 ⟨rfl, hb4⟩
  have B4 : Bl w w4 := bl_call B3 hb4
  have xS_4 : Bx w4 (w.heap.size) #[.int .i64 d.a, .int .i64 d.b, .int .i64 d.c, .int .i64 d.d, .int .i64 d.e, .int .i64 d.f, .int .i64 d.g, .int .i64 d.h] := xS_3.below hb4
  have xR_4 : Bx w4 (w.heap.size + 1) #[.int .i64 0, .int .i64 0, .int .i64 0, .int .i64 0, .int .i64 0, .int .i64 0, .int .i64 0, .int .i64 0] := xR_3.below hb4
  clear cS_3 fS_3 zS_3 cR_3 fR_3 zR_3
  obtain ⟨cS_4, fS_4, zS_4⟩ := xS_4.out
  obtain ⟨cR_4, fR_4, zR_4⟩ := xR_4.out
  go_wp2_with fail
  have B5 : Bl w (w4.alloc (.cells #[.int .i64 (emD d q).a, .int .i64 (emD d q).b, .int .i64 (emD d q).c, .int .i64 (emD d q).d, .int .i64 (emD d q).e, .int .i64 (emD d q).f, .int .i64 (emD d q).g, .int .i64 (emD d q).h] 26)) := (bl_alloc B4 _)
  have xS_5 : Bx (w4.alloc (.cells #[.int .i64 (emD d q).a, .int .i64 (emD d q).b, .int .i64 (emD d q).c, .int .i64 (emD d q).d, .int .i64 (emD d q).e, .int .i64 (emD d q).f, .int .i64 (emD d q).g, .int .i64 (emD d q).h] 26)) (w.heap.size) #[.int .i64 d.a, .int .i64 d.b, .int .i64 d.c, .int .i64 d.d, .int .i64 d.e, .int .i64 d.f, .int .i64 d.g, .int .i64 d.h] := (xS_4.alloc _)
  have xR_5 : Bx (w4.alloc (.cells #[.int .i64 (emD d q).a, .int .i64 (emD d q).b, .int .i64 (emD d q).c, .int .i64 (emD d q).d, .int .i64 (emD d q).e, .int .i64 (emD d q).f, .int .i64 (emD d q).g, .int .i64 (emD d q).h] 26)) (w.heap.size + 1) #[.int .i64 0, .int .i64 0, .int .i64 0, .int .i64 0, .int .i64 0, .int .i64 0, .int .i64 0, .int .i64 0] := (xR_4.alloc _)
  have xN_5 : Bx (w4.alloc (.cells #[.int .i64 (emD d q).a, .int .i64 (emD d q).b, .int .i64 (emD d q).c, .int .i64 (emD d q).d, .int .i64 (emD d q).e, .int .i64 (emD d q).f, .int .i64 (emD d q).g, .int .i64 (emD d q).h] 26)) (w4.heap.size) #[.int .i64 (emD d q).a, .int .i64 (emD d q).b, .int .i64 (emD d q).c, .int .i64 (emD d q).d, .int .i64 (emD d q).e, .int .i64 (emD d q).f, .int .i64 (emD d q).g, .int .i64 (emD d q).h] := (Bx.new (b := w4.heap.size) _ #[.int .i64 (emD d q).a, .int .i64 (emD d q).b, .int .i64 (emD d q).c, .int .i64 (emD d q).d, .int .i64 (emD d q).e, .int .i64 (emD d q).f, .int .i64 (emD d q).g, .int .i64 (emD d q).h] 26 (by first | rfl | simp))
  have zz5 : w4.heap.size + 1 ≤ (w4.alloc (.cells #[.int .i64 (emD d q).a, .int .i64 (emD d q).b, .int .i64 (emD d q).c, .int .i64 (emD d q).d, .int .i64 (emD d q).e, .int .i64 (emD d q).f, .int .i64 (emD d q).g, .int .i64 (emD d q).h] 26)).heap.size := (by simp)
  clear cS_4 fS_4 zS_4 cR_4 fR_4 zR_4
  generalize (w4.alloc (.cells #[.int .i64 (emD d q).a, .int .i64 (emD d q).b, .int .i64 (emD d q).c, .int .i64 (emD d q).d, .int .i64 (emD d q).e, .int .i64 (emD d q).f, .int .i64 (emD d q).g, .int .i64 (emD d q).h] 26)) = w5 at *
  obtain ⟨cS_5, fS_5, zS_5⟩ := xS_5.out
  obtain ⟨cR_5, fR_5, zR_5⟩ := xR_5.out
  obtain ⟨cN_5, fN_5, zN_5⟩ := xN_5.out
  refine (iokD_eq E2.out _).mono ?_
  rintro e w6 ⟨rfl, hb6⟩
  have B6 : Bl w w6 := bl_call B5 hb6
  have xS_6 : Bx w6 (w.heap.size) #[.int .i64 d.a, .int .i64 d.b, .int .i64 d.c, .int .i64 d.d, .int .i64 d.e, .int .i64 d.f, .int .i64 d.g, .int .i64 d.h] := xS_5.below hb6
  have xR_6 : Bx w6 (w.heap.size + 1) #[.int .i64 0, .int .i64 0, .int .i64 0, .int .i64 0, .int .i64 0, .int .i64 0, .int .i64 0, .int .i64 0] := xR_5.below hb6
  have xN_6 : Bx w6 (w4.heap.size) #[.int .i64 (emD d q).a, .int .i64 (emD d q).b, .int .i64 (emD d q).c, .int .i64 (emD d q).d, .int .i64 (emD d q).e, .int .i64 (emD d q).f, .int .i64 (emD d q).g, .int .i64 (emD d q).h] := xN_5.below hb6
  clear cS_5 fS_5 zS_5 cR_5 fR_5 zR_5 cN_5 fN_5 zN_5
  obtain ⟨cS_6, fS_6, zS_6⟩ := xS_6.out
  obtain ⟨cR_6, fR_6, zR_6⟩ := xR_6.out
  obtain ⟨cN_6, fN_6, zN_6⟩ := xN_6.out
  go_wp2_with fail
  go_region
  go_wp2
  refine bodyPost_ret (v := .tuple #[.int .i64 q, .agg #[.int .i64 (emD d q).a, .int .i64 (emD d q).b, .int .i64 (emD d q).c, .int .i64 (emD d q).d, .int .i64 (emD d q).e, .int .i64 (emD d q).f, .int .i64 (emD d q).g, .int .i64 (emD d q).h], .int .i64 0]) (by simp only [results, Try.results22]; go_simp) rfl ⟨rfl, ?_⟩
  repeat first | (with_reducible exact B6) | (with_reducible refine bl_drew ?_) | (with_reducible refine bl_dN ?_ _) | (with_reducible exact bl_refl _) | (with_reducible refine bl_alloc ?_ _) | (with_reducible refine bl_set ?_ (by first | exact Nat.le_refl _ | omega | (simp; done) | (simp; omega)) _)

theorem okW_eq {n d : Int} {b : Bool} (h : okF n d = b) (w : World) : Calls Try.prog 70 #[.agg #[.int .i64 n, .int .i64 d]] w fun e w' => e = .returned (.bool b) ∧ Bl w w' := h ▸ ok_any n d w

set_option maxRecDepth 100000 in
set_option maxHeartbeats 3200000 in
theorem sfloor_of (n d : Int) (w : World) (h : okF n d = true) : Calls Try.prog 23 #[.agg #[.int .i64 n, .int .i64 d]] w fun e w' => e = .returned (.tuple #[.int .i64 (n / d), .int .i64 0]) ∧ Bl w w' := by
  have hb := okF_iff.1 h
  have H := Lib.hid h
  clear h
  go_enter Try.func23, Try.ntmps23
  go_wp2_with fail
  refine (okW_eq H.out _).mono ?_
  rintro e w1 ⟨rfl, hb1⟩
  have B1 : Bl w w1 := bl_call (bl_alloc (bl_refl _) _) hb1
  have xS_1 : Bx w1 (w.heap.size) #[.int .i64 n, .int .i64 d] := (Bx.new (b := w.heap.size) _ #[.int .i64 n, .int .i64 d] 32 (by first | rfl | simp)).below hb1
  obtain ⟨cS_1, fS_1, zS_1⟩ := xS_1.out
  go_wp2_with fail
  refine (floor_any n d _ (by omega) (by omega) (by omega) (by omega)).mono ?_
  rintro e w9 ⟨rfl, rfl⟩
  go_wp2
  go_ret2
  exact ⟨rfl, B1⟩

theorem iokS_eqW {s : St} {b : Bool} (h : okS s = b) (w : World) : Calls Try.prog 83 #[.agg #[.int .i64 s.a, .int .i64 s.b, .int .i64 s.c, .int .i64 s.d]] w fun e w' => e = .returned (.bool b) ∧ Bl w w' := h ▸ iok_any s w

set_option maxRecDepth 100000 in
set_option maxHeartbeats 3200000 in
theorem endD_yes (d : Db) (w : World) (e1 : okD d = true) (e2 : okS (leX d) = true) : Calls Try.prog 78 #[.agg #[.int .i64 d.a, .int .i64 d.b, .int .i64 d.c, .int .i64 d.d, .int .i64 d.e, .int .i64 d.f, .int .i64 d.g, .int .i64 d.h], .func (.func 79) #[] #[]] w fun e w' => e = .returned (.tuple #[.agg #[.int .i64 (leX d).a, .int .i64 (leX d).b, .int .i64 (leX d).c, .int .i64 (leX d).d], .int .i64 0]) ∧ Bl w w' := by
  have E1 := Lib.hid e1
  have E2 := Lib.hid e2
  clear e1 e2
  go_enter Try.func78, Try.ntmps78
  go_wp2_with fail
  have B1 : Bl w ((w.alloc (.cells #[.int .i64 d.a, .int .i64 d.b, .int .i64 d.c, .int .i64 d.d, .int .i64 d.e, .int .i64 d.f, .int .i64 d.g, .int .i64 d.h] 26)).alloc (.cells #[.int .i64 0, .int .i64 0, .int .i64 0, .int .i64 0] 41)) := (bl_alloc (bl_alloc (bl_refl _) _) _)
  have xS_1 : Bx ((w.alloc (.cells #[.int .i64 d.a, .int .i64 d.b, .int .i64 d.c, .int .i64 d.d, .int .i64 d.e, .int .i64 d.f, .int .i64 d.g, .int .i64 d.h] 26)).alloc (.cells #[.int .i64 0, .int .i64 0, .int .i64 0, .int .i64 0] 41)) (w.heap.size) #[.int .i64 d.a, .int .i64 d.b, .int .i64 d.c, .int .i64 d.d, .int .i64 d.e, .int .i64 d.f, .int .i64 d.g, .int .i64 d.h] := ((Bx.new (b := w.heap.size) _ #[.int .i64 d.a, .int .i64 d.b, .int .i64 d.c, .int .i64 d.d, .int .i64 d.e, .int .i64 d.f, .int .i64 d.g, .int .i64 d.h] 26 (by first | rfl | simp)).alloc _)
  have xR_1 : Bx ((w.alloc (.cells #[.int .i64 d.a, .int .i64 d.b, .int .i64 d.c, .int .i64 d.d, .int .i64 d.e, .int .i64 d.f, .int .i64 d.g, .int .i64 d.h] 26)).alloc (.cells #[.int .i64 0, .int .i64 0, .int .i64 0, .int .i64 0] 41)) (w.heap.size + 1) #[.int .i64 0, .int .i64 0, .int .i64 0, .int .i64 0] := (Bx.new (b := w.heap.size + 1) _ #[.int .i64 0, .int .i64 0, .int .i64 0, .int .i64 0] 41 (by first | rfl | simp))
  have zz1 : w.heap.size + 2 ≤ ((w.alloc (.cells #[.int .i64 d.a, .int .i64 d.b, .int .i64 d.c, .int .i64 d.d, .int .i64 d.e, .int .i64 d.f, .int .i64 d.g, .int .i64 d.h] 26)).alloc (.cells #[.int .i64 0, .int .i64 0, .int .i64 0, .int .i64 0] 41)).heap.size := (by simp)
  generalize ((w.alloc (.cells #[.int .i64 d.a, .int .i64 d.b, .int .i64 d.c, .int .i64 d.d, .int .i64 d.e, .int .i64 d.f, .int .i64 d.g, .int .i64 d.h] 26)).alloc (.cells #[.int .i64 0, .int .i64 0, .int .i64 0, .int .i64 0] 41)) = w1 at *
  obtain ⟨cS_1, fS_1, zS_1⟩ := xS_1.out
  obtain ⟨cR_1, fR_1, zR_1⟩ := xR_1.out
  refine (iokD_eq E1.out _).mono ?_
  rintro e w2 ⟨rfl, hb2⟩
  have B2 : Bl w w2 := bl_call B1 hb2
  have xS_2 : Bx w2 (w.heap.size) #[.int .i64 d.a, .int .i64 d.b, .int .i64 d.c, .int .i64 d.d, .int .i64 d.e, .int .i64 d.f, .int .i64 d.g, .int .i64 d.h] := xS_1.below hb2
  have xR_2 : Bx w2 (w.heap.size + 1) #[.int .i64 0, .int .i64 0, .int .i64 0, .int .i64 0] := xR_1.below hb2
  clear cS_1 fS_1 zS_1 cR_1 fR_1 zR_1
  obtain ⟨cS_2, fS_2, zS_2⟩ := xS_2.out
  obtain ⟨cR_2, fR_2, zR_2⟩ := xR_2.out
  go_wp2_with fail
  refine (ileX_any d _).mono ?_
  rintro e w3 ⟨rfl, hb3⟩
  have B3 : Bl w w3 := bl_call B2 hb3
  have xS_3 : Bx w3 (w.heap.size) #[.int .i64 d.a, .int .i64 d.b, .int .i64 d.c, .int .i64 d.d, .int .i64 d.e, .int .i64 d.f, .int .i64 d.g, .int .i64 d.h] := xS_2.below hb3
  have xR_3 : Bx w3 (w.heap.size + 1) #[.int .i64 0, .int .i64 0, .int .i64 0, .int .i64 0] := xR_2.below hb3
  clear cS_2 fS_2 zS_2 cR_2 fR_2 zR_2
  obtain ⟨cS_3, fS_3, zS_3⟩ := xS_3.out
  obtain ⟨cR_3, fR_3, zR_3⟩ := xR_3.out
  go_wp2_with fail
  have B4 : Bl w (w3.alloc (.cells #[.int .i64 (leX d).a, .int .i64 (leX d).b, .int .i64 (leX d).c, .int .i64 (leX d).d] 41)) := (bl_alloc B3 _)
  have xS_4 : Bx (w3.alloc (.cells #[.int .i64 (leX d).a, .int .i64 (leX d).b, .int .i64 (leX d).c, .int .i64 (leX d).d] 41)) (w.heap.size) #[.int .i64 d.a, .int .i64 d.b, .int .i64 d.c, .int .i64 d.d, .int .i64 d.e, .int .i64 d.f, .int .i64 d.g, .int .i64 d.h] := (xS_3.alloc _)
  have xR_4 : Bx (w3.alloc (.cells #[.int .i64 (leX d).a, .int .i64 (leX d).b, .int .i64 (leX d).c, .int .i64 (leX d).d] 41)) (w.heap.size + 1) #[.int .i64 0, .int .i64 0, .int .i64 0, .int .i64 0] := (xR_3.alloc _)
  have xN_4 : Bx (w3.alloc (.cells #[.int .i64 (leX d).a, .int .i64 (leX d).b, .int .i64 (leX d).c, .int .i64 (leX d).d] 41)) (w3.heap.size) #[.int .i64 (leX d).a, .int .i64 (leX d).b, .int .i64 (leX d).c, .int .i64 (leX d).d] := (Bx.new (b := w3.heap.size) _ #[.int .i64 (leX d).a, .int .i64 (leX d).b, .int .i64 (leX d).c, .int .i64 (leX d).d] 41 (by first | rfl | simp))
  have zz4 : w3.heap.size + 1 ≤ (w3.alloc (.cells #[.int .i64 (leX d).a, .int .i64 (leX d).b, .int .i64 (leX d).c, .int .i64 (leX d).d] 41)).heap.size := (by simp)
  clear cS_3 fS_3 zS_3 cR_3 fR_3 zR_3
  generalize (w3.alloc (.cells #[.int .i64 (leX d).a, .int .i64 (leX d).b, .int .i64 (leX d).c, .int .i64 (leX d).d] 41)) = w4 at *
  obtain ⟨cS_4, fS_4, zS_4⟩ := xS_4.out
  obtain ⟨cR_4, fR_4, zR_4⟩ := xR_4.out
  obtain ⟨cN_4, fN_4, zN_4⟩ := xN_4.out
  refine (iokS_eqW E2.out _).mono ?_
  rintro e w5 ⟨rfl, hb5⟩
  have B5 : Bl w w5 := bl_call B4 hb5
  have xS_5 : Bx w5 (w.heap.size) #[.int .i64 d.a, .int .i64 d.b, .int .i64 d.c, .int .i64 d.d, .int .i64 d.e, .int .i64 d.f, .int .i64 d.g, .int .i64 d.h] := xS_4.below hb5
  have xR_5 : Bx w5 (w.heap.size + 1) #[.int .i64 0, .int .i64 0, .int .i64 0, .int .i64 0] := xR_4.below hb5
  have xN_5 : Bx w5 (w3.heap.size) #[.int .i64 (leX d).a, .int .i64 (leX d).b, .int .i64 (leX d).c, .int .i64 (leX d).d] := xN_4.below hb5
  clear cS_4 fS_4 zS_4 cR_4 fR_4 zR_4 cN_4 fN_4 zN_4
  obtain ⟨cS_5, fS_5, zS_5⟩ := xS_5.out
  obtain ⟨cR_5, fR_5, zR_5⟩ := xR_5.out
  obtain ⟨cN_5, fN_5, zN_5⟩ := xN_5.out
  go_wp2
  refine bodyPost_ret (v := .tuple #[.agg #[.int .i64 (leX d).a, .int .i64 (leX d).b, .int .i64 (leX d).c, .int .i64 (leX d).d], .int .i64 0]) (by simp only [results, Try.results78]; go_simp) rfl ⟨rfl, ?_⟩
  repeat first | (with_reducible exact B5) | (with_reducible exact bl_refl _) | (with_reducible refine bl_alloc ?_ _) | (with_reducible refine bl_set ?_ (by first | exact Nat.le_refl _ | omega | (simp; done) | (simp; omega)) _)

set_option maxRecDepth 100000 in
set_option maxHeartbeats 3200000 in
theorem EndF_yes (d : Db) (w : World) (e1 : okD d = true) (e2 : okS (leX d) = true) : Calls Try.prog 24 #[.agg #[.int .i64 d.a, .int .i64 d.b, .int .i64 d.c, .int .i64 d.d, .int .i64 d.e, .int .i64 d.f, .int .i64 d.g, .int .i64 d.h]] w fun e w' => e = .returned (.tuple #[.agg #[.int .i64 (leX d).a, .int .i64 (leX d).b, .int .i64 (leX d).c, .int .i64 (leX d).d], .int .i64 0]) ∧ Bl w w' := by
  have E1 := Lib.hid e1
  have E2 := Lib.hid e2
  clear e1 e2
  go_enter Try.func24, Try.ntmps24
  go_wp2_with fail
  have B1 : Bl w ((w.alloc (.cells #[.int .i64 d.a, .int .i64 d.b, .int .i64 d.c, .int .i64 d.d, .int .i64 d.e, .int .i64 d.f, .int .i64 d.g, .int .i64 d.h] 26)).alloc (.cells #[.int .i64 0, .int .i64 0, .int .i64 0, .int .i64 0] 41)) := (bl_alloc (bl_alloc (bl_refl _) _) _)
  have xS_1 : Bx ((w.alloc (.cells #[.int .i64 d.a, .int .i64 d.b, .int .i64 d.c, .int .i64 d.d, .int .i64 d.e, .int .i64 d.f, .int .i64 d.g, .int .i64 d.h] 26)).alloc (.cells #[.int .i64 0, .int .i64 0, .int .i64 0, .int .i64 0] 41)) (w.heap.size) #[.int .i64 d.a, .int .i64 d.b, .int .i64 d.c, .int .i64 d.d, .int .i64 d.e, .int .i64 d.f, .int .i64 d.g, .int .i64 d.h] := ((Bx.new (b := w.heap.size) _ #[.int .i64 d.a, .int .i64 d.b, .int .i64 d.c, .int .i64 d.d, .int .i64 d.e, .int .i64 d.f, .int .i64 d.g, .int .i64 d.h] 26 (by first | rfl | simp)).alloc _)
  have xR_1 : Bx ((w.alloc (.cells #[.int .i64 d.a, .int .i64 d.b, .int .i64 d.c, .int .i64 d.d, .int .i64 d.e, .int .i64 d.f, .int .i64 d.g, .int .i64 d.h] 26)).alloc (.cells #[.int .i64 0, .int .i64 0, .int .i64 0, .int .i64 0] 41)) (w.heap.size + 1) #[.int .i64 0, .int .i64 0, .int .i64 0, .int .i64 0] := (Bx.new (b := w.heap.size + 1) _ #[.int .i64 0, .int .i64 0, .int .i64 0, .int .i64 0] 41 (by first | rfl | simp))
  have zz1 : w.heap.size + 2 ≤ ((w.alloc (.cells #[.int .i64 d.a, .int .i64 d.b, .int .i64 d.c, .int .i64 d.d, .int .i64 d.e, .int .i64 d.f, .int .i64 d.g, .int .i64 d.h] 26)).alloc (.cells #[.int .i64 0, .int .i64 0, .int .i64 0, .int .i64 0] 41)).heap.size := (by simp)
  generalize ((w.alloc (.cells #[.int .i64 d.a, .int .i64 d.b, .int .i64 d.c, .int .i64 d.d, .int .i64 d.e, .int .i64 d.f, .int .i64 d.g, .int .i64 d.h] 26)).alloc (.cells #[.int .i64 0, .int .i64 0, .int .i64 0, .int .i64 0] 41)) = w1 at *
  obtain ⟨cS_1, fS_1, zS_1⟩ := xS_1.out
  obtain ⟨cR_1, fR_1, zR_1⟩ := xR_1.out
  refine (endD_yes d _ E1.out E2.out).mono ?_
  rintro e w2 ⟨rfl, hb2⟩
  have B2 : Bl w w2 := bl_call B1 hb2
  have xS_2 : Bx w2 (w.heap.size) #[.int .i64 d.a, .int .i64 d.b, .int .i64 d.c, .int .i64 d.d, .int .i64 d.e, .int .i64 d.f, .int .i64 d.g, .int .i64 d.h] := xS_1.below hb2
  have xR_2 : Bx w2 (w.heap.size + 1) #[.int .i64 0, .int .i64 0, .int .i64 0, .int .i64 0] := xR_1.below hb2
  clear cS_1 fS_1 zS_1 cR_1 fR_1 zR_1
  obtain ⟨cS_2, fS_2, zS_2⟩ := xS_2.out
  obtain ⟨cR_2, fR_2, zR_2⟩ := xR_2.out
  go_wp2
  refine bodyPost_ret (v := .tuple #[.agg #[.int .i64 (leX d).a, .int .i64 (leX d).b, .int .i64 (leX d).c, .int .i64 (leX d).d], .int .i64 0]) (by simp only [results, Try.results24]; go_simp) rfl ⟨rfl, ?_⟩
  repeat first | (with_reducible exact B2) | (with_reducible exact bl_refl _) | (with_reducible refine bl_alloc ?_ _) | (with_reducible refine bl_set ?_ (by first | exact Nat.le_refl _ | omega | (simp; done) | (simp; omega)) _)

set_option maxRecDepth 100000 in
set_option maxHeartbeats 3200000 in
theorem endD_no (d : Db) (w : World) (e1 : okD d = true) (e2 : okS (leX d) = false) : Calls Try.prog 78 #[.agg #[.int .i64 d.a, .int .i64 d.b, .int .i64 d.c, .int .i64 d.d, .int .i64 d.e, .int .i64 d.f, .int .i64 d.g, .int .i64 d.h], .func (.func 79) #[] #[]] w fun e w' => e = .returned (.tuple #[.agg #[.int .i64 0, .int .i64 0, .int .i64 0, .int .i64 0], .int .i64 6]) ∧ Bl w w' := by
  have E1 := Lib.hid e1
  have E2 := Lib.hid e2
  clear e1 e2
  go_enter Try.func78, Try.ntmps78
  go_wp2_with fail
  have B1 : Bl w ((w.alloc (.cells #[.int .i64 d.a, .int .i64 d.b, .int .i64 d.c, .int .i64 d.d, .int .i64 d.e, .int .i64 d.f, .int .i64 d.g, .int .i64 d.h] 26)).alloc (.cells #[.int .i64 0, .int .i64 0, .int .i64 0, .int .i64 0] 41)) := (bl_alloc (bl_alloc (bl_refl _) _) _)
  have xS_1 : Bx ((w.alloc (.cells #[.int .i64 d.a, .int .i64 d.b, .int .i64 d.c, .int .i64 d.d, .int .i64 d.e, .int .i64 d.f, .int .i64 d.g, .int .i64 d.h] 26)).alloc (.cells #[.int .i64 0, .int .i64 0, .int .i64 0, .int .i64 0] 41)) (w.heap.size) #[.int .i64 d.a, .int .i64 d.b, .int .i64 d.c, .int .i64 d.d, .int .i64 d.e, .int .i64 d.f, .int .i64 d.g, .int .i64 d.h] := ((Bx.new (b := w.heap.size) _ #[.int .i64 d.a, .int .i64 d.b, .int .i64 d.c, .int .i64 d.d, .int .i64 d.e, .int .i64 d.f, .int .i64 d.g, .int .i64 d.h] 26 (by first | rfl | simp)).alloc _)
  have xR_1 : Bx ((w.alloc (.cells #[.int .i64 d.a, .int .i64 d.b, .int .i64 d.c, .int .i64 d.d, .int .i64 d.e, .int .i64 d.f, .int .i64 d.g, .int .i64 d.h] 26)).alloc (.cells #[.int .i64 0, .int .i64 0, .int .i64 0, .int .i64 0] 41)) (w.heap.size + 1) #[.int .i64 0, .int .i64 0, .int .i64 0, .int .i64 0] := (Bx.new (b := w.heap.size + 1) _ #[.int .i64 0, .int .i64 0, .int .i64 0, .int .i64 0] 41 (by first | rfl | simp))
  have zz1 : w.heap.size + 2 ≤ ((w.alloc (.cells #[.int .i64 d.a, .int .i64 d.b, .int .i64 d.c, .int .i64 d.d, .int .i64 d.e, .int .i64 d.f, .int .i64 d.g, .int .i64 d.h] 26)).alloc (.cells #[.int .i64 0, .int .i64 0, .int .i64 0, .int .i64 0] 41)).heap.size := (by simp)
  generalize ((w.alloc (.cells #[.int .i64 d.a, .int .i64 d.b, .int .i64 d.c, .int .i64 d.d, .int .i64 d.e, .int .i64 d.f, .int .i64 d.g, .int .i64 d.h] 26)).alloc (.cells #[.int .i64 0, .int .i64 0, .int .i64 0, .int .i64 0] 41)) = w1 at *
  obtain ⟨cS_1, fS_1, zS_1⟩ := xS_1.out
  obtain ⟨cR_1, fR_1, zR_1⟩ := xR_1.out
  refine (iokD_eq E1.out _).mono ?_
  rintro e w2 ⟨rfl, hb2⟩
  have B2 : Bl w w2 := bl_call B1 hb2
  have xS_2 : Bx w2 (w.heap.size) #[.int .i64 d.a, .int .i64 d.b, .int .i64 d.c, .int .i64 d.d, .int .i64 d.e, .int .i64 d.f, .int .i64 d.g, .int .i64 d.h] := xS_1.below hb2
  have xR_2 : Bx w2 (w.heap.size + 1) #[.int .i64 0, .int .i64 0, .int .i64 0, .int .i64 0] := xR_1.below hb2
  clear cS_1 fS_1 zS_1 cR_1 fR_1 zR_1
  obtain ⟨cS_2, fS_2, zS_2⟩ := xS_2.out
  obtain ⟨cR_2, fR_2, zR_2⟩ := xR_2.out
  go_wp2_with fail
  refine (ileX_any d _).mono ?_
  rintro e w3 ⟨rfl, hb3⟩
  have B3 : Bl w w3 := bl_call B2 hb3
  have xS_3 : Bx w3 (w.heap.size) #[.int .i64 d.a, .int .i64 d.b, .int .i64 d.c, .int .i64 d.d, .int .i64 d.e, .int .i64 d.f, .int .i64 d.g, .int .i64 d.h] := xS_2.below hb3
  have xR_3 : Bx w3 (w.heap.size + 1) #[.int .i64 0, .int .i64 0, .int .i64 0, .int .i64 0] := xR_2.below hb3
  clear cS_2 fS_2 zS_2 cR_2 fR_2 zR_2
  obtain ⟨cS_3, fS_3, zS_3⟩ := xS_3.out
  obtain ⟨cR_3, fR_3, zR_3⟩ := xR_3.out
  go_wp2_with fail
  have B4 : Bl w (w3.alloc (.cells #[.int .i64 (leX d).a, .int .i64 (leX d).b, .int .i64 (leX d).c, .int .i64 (leX d).d] 41)) := (bl_alloc B3 _)
  have xS_4 : Bx (w3.alloc (.cells #[.int .i64 (leX d).a, .int .i64 (leX d).b, .int .i64 (leX d).c, .int .i64 (leX d).d] 41)) (w.heap.size) #[.int .i64 d.a, .int .i64 d.b, .int .i64 d.c, .int .i64 d.d, .int .i64 d.e, .int .i64 d.f, .int .i64 d.g, .int .i64 d.h] := (xS_3.alloc _)
  have xR_4 : Bx (w3.alloc (.cells #[.int .i64 (leX d).a, .int .i64 (leX d).b, .int .i64 (leX d).c, .int .i64 (leX d).d] 41)) (w.heap.size + 1) #[.int .i64 0, .int .i64 0, .int .i64 0, .int .i64 0] := (xR_3.alloc _)
  have xN_4 : Bx (w3.alloc (.cells #[.int .i64 (leX d).a, .int .i64 (leX d).b, .int .i64 (leX d).c, .int .i64 (leX d).d] 41)) (w3.heap.size) #[.int .i64 (leX d).a, .int .i64 (leX d).b, .int .i64 (leX d).c, .int .i64 (leX d).d] := (Bx.new (b := w3.heap.size) _ #[.int .i64 (leX d).a, .int .i64 (leX d).b, .int .i64 (leX d).c, .int .i64 (leX d).d] 41 (by first | rfl | simp))
  have zz4 : w3.heap.size + 1 ≤ (w3.alloc (.cells #[.int .i64 (leX d).a, .int .i64 (leX d).b, .int .i64 (leX d).c, .int .i64 (leX d).d] 41)).heap.size := (by simp)
  clear cS_3 fS_3 zS_3 cR_3 fR_3 zR_3
  generalize (w3.alloc (.cells #[.int .i64 (leX d).a, .int .i64 (leX d).b, .int .i64 (leX d).c, .int .i64 (leX d).d] 41)) = w4 at *
  obtain ⟨cS_4, fS_4, zS_4⟩ := xS_4.out
  obtain ⟨cR_4, fR_4, zR_4⟩ := xR_4.out
  obtain ⟨cN_4, fN_4, zN_4⟩ := xN_4.out
  refine (iokS_eqW E2.out _).mono ?_
  rintro e w5 ⟨rfl, hb5⟩
  have B5 : Bl w w5 := bl_call B4 hb5
  have xS_5 : Bx w5 (w.heap.size) #[.int .i64 d.a, .int .i64 d.b, .int .i64 d.c, .int .i64 d.d, .int .i64 d.e, .int .i64 d.f, .int .i64 d.g, .int .i64 d.h] := xS_4.below hb5
  have xR_5 : Bx w5 (w.heap.size + 1) #[.int .i64 0, .int .i64 0, .int .i64 0, .int .i64 0] := xR_4.below hb5
  have xN_5 : Bx w5 (w3.heap.size) #[.int .i64 (leX d).a, .int .i64 (leX d).b, .int .i64 (leX d).c, .int .i64 (leX d).d] := xN_4.below hb5
  clear cS_4 fS_4 zS_4 cR_4 fR_4 zR_4 cN_4 fN_4 zN_4
  obtain ⟨cS_5, fS_5, zS_5⟩ := xS_5.out
  obtain ⟨cR_5, fR_5, zR_5⟩ := xR_5.out
  obtain ⟨cN_5, fN_5, zN_5⟩ := xN_5.out
  go_wp2
  refine bodyPost_ret (v := .tuple #[.agg #[.int .i64 0, .int .i64 0, .int .i64 0, .int .i64 0], .int .i64 6]) (by simp only [results, Try.results78]; go_simp) rfl ⟨rfl, ?_⟩
  repeat first | (with_reducible exact B5) | (with_reducible exact bl_refl _) | (with_reducible refine bl_alloc ?_ _) | (with_reducible refine bl_set ?_ (by first | exact Nat.le_refl _ | omega | (simp; done) | (simp; omega)) _)

set_option maxRecDepth 100000 in
set_option maxHeartbeats 3200000 in
theorem EndF_no (d : Db) (w : World) (e1 : okD d = true) (e2 : okS (leX d) = false) : Calls Try.prog 24 #[.agg #[.int .i64 d.a, .int .i64 d.b, .int .i64 d.c, .int .i64 d.d, .int .i64 d.e, .int .i64 d.f, .int .i64 d.g, .int .i64 d.h]] w fun e w' => e = .returned (.tuple #[.agg #[.int .i64 0, .int .i64 0, .int .i64 0, .int .i64 0], .int .i64 6]) ∧ Bl w w' := by
  have E1 := Lib.hid e1
  have E2 := Lib.hid e2
  clear e1 e2
  go_enter Try.func24, Try.ntmps24
  go_wp2_with fail
  have B1 : Bl w ((w.alloc (.cells #[.int .i64 d.a, .int .i64 d.b, .int .i64 d.c, .int .i64 d.d, .int .i64 d.e, .int .i64 d.f, .int .i64 d.g, .int .i64 d.h] 26)).alloc (.cells #[.int .i64 0, .int .i64 0, .int .i64 0, .int .i64 0] 41)) := (bl_alloc (bl_alloc (bl_refl _) _) _)
  have xS_1 : Bx ((w.alloc (.cells #[.int .i64 d.a, .int .i64 d.b, .int .i64 d.c, .int .i64 d.d, .int .i64 d.e, .int .i64 d.f, .int .i64 d.g, .int .i64 d.h] 26)).alloc (.cells #[.int .i64 0, .int .i64 0, .int .i64 0, .int .i64 0] 41)) (w.heap.size) #[.int .i64 d.a, .int .i64 d.b, .int .i64 d.c, .int .i64 d.d, .int .i64 d.e, .int .i64 d.f, .int .i64 d.g, .int .i64 d.h] := ((Bx.new (b := w.heap.size) _ #[.int .i64 d.a, .int .i64 d.b, .int .i64 d.c, .int .i64 d.d, .int .i64 d.e, .int .i64 d.f, .int .i64 d.g, .int .i64 d.h] 26 (by first | rfl | simp)).alloc _)
  have xR_1 : Bx ((w.alloc (.cells #[.int .i64 d.a, .int .i64 d.b, .int .i64 d.c, .int .i64 d.d, .int .i64 d.e, .int .i64 d.f, .int .i64 d.g, .int .i64 d.h] 26)).alloc (.cells #[.int .i64 0, .int .i64 0, .int .i64 0, .int .i64 0] 41)) (w.heap.size + 1) #[.int .i64 0, .int .i64 0, .int .i64 0, .int .i64 0] := (Bx.new (b := w.heap.size + 1) _ #[.int .i64 0, .int .i64 0, .int .i64 0, .int .i64 0] 41 (by first | rfl | simp))
  have zz1 : w.heap.size + 2 ≤ ((w.alloc (.cells #[.int .i64 d.a, .int .i64 d.b, .int .i64 d.c, .int .i64 d.d, .int .i64 d.e, .int .i64 d.f, .int .i64 d.g, .int .i64 d.h] 26)).alloc (.cells #[.int .i64 0, .int .i64 0, .int .i64 0, .int .i64 0] 41)).heap.size := (by simp)
  generalize ((w.alloc (.cells #[.int .i64 d.a, .int .i64 d.b, .int .i64 d.c, .int .i64 d.d, .int .i64 d.e, .int .i64 d.f, .int .i64 d.g, .int .i64 d.h] 26)).alloc (.cells #[.int .i64 0, .int .i64 0, .int .i64 0, .int .i64 0] 41)) = w1 at *
  obtain ⟨cS_1, fS_1, zS_1⟩ := xS_1.out
  obtain ⟨cR_1, fR_1, zR_1⟩ := xR_1.out
  refine (endD_no d _ E1.out E2.out).mono ?_
  rintro e w2 ⟨rfl, hb2⟩
  have B2 : Bl w w2 := bl_call B1 hb2
  have xS_2 : Bx w2 (w.heap.size) #[.int .i64 d.a, .int .i64 d.b, .int .i64 d.c, .int .i64 d.d, .int .i64 d.e, .int .i64 d.f, .int .i64 d.g, .int .i64 d.h] := xS_1.below hb2
  have xR_2 : Bx w2 (w.heap.size + 1) #[.int .i64 0, .int .i64 0, .int .i64 0, .int .i64 0] := xR_1.below hb2
  clear cS_1 fS_1 zS_1 cR_1 fR_1 zR_1
  obtain ⟨cS_2, fS_2, zS_2⟩ := xS_2.out
  obtain ⟨cR_2, fR_2, zR_2⟩ := xR_2.out
  go_wp2
  refine bodyPost_ret (v := .tuple #[.agg #[.int .i64 0, .int .i64 0, .int .i64 0, .int .i64 0], .int .i64 6]) (by simp only [results, Try.results24]; go_simp) rfl ⟨rfl, ?_⟩
  repeat first | (with_reducible exact B2) | (with_reducible exact bl_refl _) | (with_reducible refine bl_alloc ?_ _) | (with_reducible refine bl_set ?_ (by first | exact Nat.le_refl _ | omega | (simp; done) | (simp; omega)) _)

set_option maxRecDepth 100000 in
set_option maxHeartbeats 3200000 in
theorem svS_any {s : St} {b : Bool} (h : okS s = b) (w : World) : Calls Try.prog 25 #[.agg #[.int .i64 s.a, .int .i64 s.b, .int .i64 s.c, .int .i64 s.d]] w fun e w' => e = .returned (.bool b) ∧ Bl w w' := by
  subst h
  go_enter Try.func25, Try.ntmps25
  go_wp2_with fail
  refine (sok_any s _).mono ?_
  rintro e w1 ⟨rfl, hb1⟩
  have B1 : Bl w w1 := bl_call (bl_alloc (bl_refl _) _) hb1
  have xS_1 : Bx w1 (w.heap.size) #[.int .i64 s.a, .int .i64 s.b, .int .i64 s.c, .int .i64 s.d] := (Bx.new (b := w.heap.size) _ #[.int .i64 s.a, .int .i64 s.b, .int .i64 s.c, .int .i64 s.d] 41 (by first | rfl | simp)).below hb1
  obtain ⟨cS_1, fS_1, zS_1⟩ := xS_1.out
  go_wp2
  go_ret
  exact ⟨rfl, B1⟩

end Go.Proofs.Ytbncinbngmfamaa
