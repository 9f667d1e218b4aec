/- CompareErrors of the reference. No condition. -/
import Derived.Test.YtgmofofokhlhnaaBestC
namespace Go.Proofs.Ytgmofofokhlhnaa
open Go.RowKit
set_option linter.unusedVariables false
set_option linter.unusedSimpArgs false

/-- The first results of a comparison of errors, and its code. -/
def compErrF (n d a b p q : Int) : Int × Int :=
  if bestC true [(n, d), (a, b), (p, q)] = 0 then (cmpErrF n d a b p q, 0) else (0, bestC true [(n, d), (a, b), (p, q)])
theorem ret_ii' {r : Int × Int} {x b : Int} (h : r = (x, b)) : Ending.returned (.tuple #[.int .i64 x, .int .i64 b]) = .returned (.tuple #[.int .i64 r.1, .int .i64 r.2]) := by subst h; rfl
theorem small_of {n d a b p q : Int} (h : bestC true [(n, d), (a, b), (p, q)] = 0) : SmallP n d a b p q := by
  obtain ⟨_, h1, h2⟩ := bestC_zero h
  have o1 := okP_bd (h1 (n, d) (by simp)); have o2 := okP_bd (h1 (a, b) (by simp)); have o3 := okP_bd (h1 (p, q) (by simp))
  have s1 := smP_bd (h2 (n, d) (by simp)); have s2 := smP_bd (h2 (a, b) (by simp)); have s3 := smP_bd (h2 (p, q) (by simp))
  constructor <;> omega

set_option maxRecDepth 100000 in
set_option maxHeartbeats 1600000 in
theorem spec_CompareErrors (n d a b p q : Int) (w : World) :
    Calls Try.prog 52 #[.agg #[.int .i64 n, .int .i64 d], .agg #[.int .i64 a, .int .i64 b], .agg #[.int .i64 p, .int .i64 q]] w fun r w' => r = .returned (.tuple #[.int .i64 (compErrF n d a b p q).1, .int .i64 (compErrF n d a b p q).2]) ∧ Bl w w' := by
  by_cases hc : bestC true [(n, d), (a, b), (p, q)] = 0
  · have HR := Lib.hid (show compErrF n d a b p q = (cmpErrF n d a b p q, 0) by rw [compErrF, if_pos hc])
    have hb := beq_iff_eq.2 hc
    have hb : (bestC true [(n, d), (a, b), (p, q)] != 0) = false := by simp [hc]
    have HS := Lib.hid (small_of hc)
    clear hc
    generalize hcc : bestC true [(n, d), (a, b), (p, q)] = cc at *
    have HC := Lib.hid hcc
    clear hcc
    go_enter Try.func52, Try.ntmps52
    go_wp2_with fail
    refine (l18Code_any _ _ _ (SlF.lit (fs := [(n, d), (a, b), (p, q)]) (Bx.new (b := w.heap.size + 1 + 1 + 1) _ #[.int .i64 n, .int .i64 d, .int .i64 a, .int .i64 b, .int .i64 p, .int .i64 q] 55 (by first | rfl | simp)) rfl (Nat.le_refl _) (by simp [maxLen]) (lit3 n d a b p q))).mono ?_
    rintro e w1 ⟨rfl, hb1⟩
    have B1 : Bl w w1 := bl_call (bl_alloc (bl_alloc (bl_alloc (bl_alloc (bl_refl _) _) _) _) _) hb1
    have xF_1 : Bx w1 (w.heap.size) #[.int .i64 n, .int .i64 d] := ((((Bx.new (b := w.heap.size) _ #[.int .i64 n, .int .i64 d] 55 (by first | rfl | simp)).alloc _).alloc _).alloc _).below hb1
    have xA_1 : Bx w1 (w.heap.size + 1) #[.int .i64 a, .int .i64 b] := (((Bx.new (b := w.heap.size + 1) _ #[.int .i64 a, .int .i64 b] 55 (by first | rfl | simp)).alloc _).alloc _).below hb1
    have xB_1 : Bx w1 (w.heap.size + 1 + 1) #[.int .i64 p, .int .i64 q] := ((Bx.new (b := w.heap.size + 1 + 1) _ #[.int .i64 p, .int .i64 q] 55 (by first | rfl | simp)).alloc _).below hb1
    have xL_1 : Bx w1 (w.heap.size + 1 + 1 + 1) #[.int .i64 n, .int .i64 d, .int .i64 a, .int .i64 b, .int .i64 p, .int .i64 q] := (Bx.new (b := w.heap.size + 1 + 1 + 1) _ #[.int .i64 n, .int .i64 d, .int .i64 a, .int .i64 b, .int .i64 p, .int .i64 q] 55 (by first | rfl | simp)).below hb1
    obtain ⟨cF_1, fF_1, zF_1⟩ := xF_1.out
    obtain ⟨cA_1, fA_1, zA_1⟩ := xA_1.out
    obtain ⟨cB_1, fB_1, zB_1⟩ := xB_1.out
    obtain ⟨cL_1, fL_1, zL_1⟩ := xL_1.out
    rw [HC.out]
    go_wp2_with fail
    refine (scmpErr_any n d a b p q _ HS.out).mono ?_
    rintro e w2 ⟨rfl, hb2⟩
    have B2 : Bl w w2 := bl_call B1 hb2
    have xF_2 : Bx w2 (w.heap.size) #[.int .i64 n, .int .i64 d] := xF_1.below hb2
    have xA_2 : Bx w2 (w.heap.size + 1) #[.int .i64 a, .int .i64 b] := xA_1.below hb2
    have xB_2 : Bx w2 (w.heap.size + 1 + 1) #[.int .i64 p, .int .i64 q] := xB_1.below hb2
    have xL_2 : Bx w2 (w.heap.size + 1 + 1 + 1) #[.int .i64 n, .int .i64 d, .int .i64 a, .int .i64 b, .int .i64 p, .int .i64 q] := xL_1.below hb2
    clear cF_1 fF_1 zF_1 cA_1 fA_1 zA_1 cB_1 fB_1 zB_1 cL_1 fL_1 zL_1
    obtain ⟨cF_2, fF_2, zF_2⟩ := xF_2.out
    obtain ⟨cA_2, fA_2, zA_2⟩ := xA_2.out
    obtain ⟨cB_2, fB_2, zB_2⟩ := xB_2.out
    obtain ⟨cL_2, fL_2, zL_2⟩ := xL_2.out
    go_wp2
    go_ret2
    exact ⟨ret_ii' HR.out, B2⟩
  · have HR := Lib.hid (show compErrF n d a b p q = (0, bestC true [(n, d), (a, b), (p, q)]) by rw [compErrF, if_neg hc])
    have hb : (bestC true [(n, d), (a, b), (p, q)] != 0) = true := by simp [hc]
    clear hc
    generalize hcc : bestC true [(n, d), (a, b), (p, q)] = cc at *
    have HC := Lib.hid hcc
    clear hcc
    go_enter Try.func52, Try.ntmps52
    go_wp2_with fail
    refine (l18Code_any _ _ _ (SlF.lit (fs := [(n, d), (a, b), (p, q)]) (Bx.new (b := w.heap.size + 1 + 1 + 1) _ #[.int .i64 n, .int .i64 d, .int .i64 a, .int .i64 b, .int .i64 p, .int .i64 q] 55 (by first | rfl | simp)) rfl (Nat.le_refl _) (by simp [maxLen]) (lit3 n d a b p q))).mono ?_
    rintro e w1 ⟨rfl, hb1⟩
    have B1 : Bl w w1 := bl_call (bl_alloc (bl_alloc (bl_alloc (bl_alloc (bl_refl _) _) _) _) _) hb1
    have xF_1 : Bx w1 (w.heap.size) #[.int .i64 n, .int .i64 d] := ((((Bx.new (b := w.heap.size) _ #[.int .i64 n, .int .i64 d] 55 (by first | rfl | simp)).alloc _).alloc _).alloc _).below hb1
    have xA_1 : Bx w1 (w.heap.size + 1) #[.int .i64 a, .int .i64 b] := (((Bx.new (b := w.heap.size + 1) _ #[.int .i64 a, .int .i64 b] 55 (by first | rfl | simp)).alloc _).alloc _).below hb1
    have xB_1 : Bx w1 (w.heap.size + 1 + 1) #[.int .i64 p, .int .i64 q] := ((Bx.new (b := w.heap.size + 1 + 1) _ #[.int .i64 p, .int .i64 q] 55 (by first | rfl | simp)).alloc _).below hb1
    have xL_1 : Bx w1 (w.heap.size + 1 + 1 + 1) #[.int .i64 n, .int .i64 d, .int .i64 a, .int .i64 b, .int .i64 p, .int .i64 q] := (Bx.new (b := w.heap.size + 1 + 1 + 1) _ #[.int .i64 n, .int .i64 d, .int .i64 a, .int .i64 b, .int .i64 p, .int .i64 q] 55 (by first | rfl | simp)).below hb1
    obtain ⟨cF_1, fF_1, zF_1⟩ := xF_1.out
    obtain ⟨cA_1, fA_1, zA_1⟩ := xA_1.out
    obtain ⟨cB_1, fB_1, zB_1⟩ := xB_1.out
    obtain ⟨cL_1, fL_1, zL_1⟩ := xL_1.out
    rw [HC.out]
    go_wp2
    go_ret2
    exact ⟨ret_ii' HR.out, B1⟩

end Go.Proofs.Ytgmofofokhlhnaa
