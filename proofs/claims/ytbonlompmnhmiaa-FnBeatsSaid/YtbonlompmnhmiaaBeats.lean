/- BeatsFirst: the program and the reference give the same. No condition. -/
import Derived.Test.YtbonlompmnhmiaaFirst
import Derived.Test.YtbonlompmnhmiaaNearest
namespace Go.Proofs.Ytbonlompmnhmiaa
open Go.RowKit
set_option linter.unusedVariables false
set_option linter.unusedSimpArgs false


noncomputable def beatsF (n d x y : Int) : (Int × Int) × Int :=
  if bestC true [(n, d), (x, y)] = 0 then
    (if firstF n d x y = true then ((0, 0), 3)
     else if (nearestF n d y).1 = x ∧ (nearestF n d y).2 = y then
       (if (sidesF n d y).1.1 = x ∧ (sidesF n d y).1.2 = y then ((sidesF n d y).2, 0) else ((sidesF n d y).1, 0))
     else (nearestF n d y, 0))
  else ((0, 0), bestC true [(n, d), (x, y)])

set_option maxRecDepth 100000 in
set_option maxHeartbeats 6400000 in
theorem impl_BeatsFirst (n d x y : Int) (w : World) :
    Calls Try.prog 31 #[.agg #[.int .i64 n, .int .i64 d], .agg #[.int .i64 x, .int .i64 y]] w fun r w' => r = .returned (.tuple #[.agg #[.int .i64 (beatsF n d x y).1.1, .int .i64 (beatsF n d x y).1.2], .int .i64 (beatsF n d x y).2]) ∧ Bl w w' := by
  by_cases hc : bestC true [(n, d), (x, y)] = 0
  · have HS := Lib.hid (sm2_of hc)
    cases hf : firstF n d x y with
    | true =>
      have HF := Lib.hid hf
      have HR := Lib.hid (show beatsF n d x y = ((0, 0), 3) by rw [beatsF, if_pos hc, if_pos hf])
      have hb : (bestC true [(n, d), (x, y)] != 0) = false := by simp [hc]
      clear hc hf
      generalize hcc : bestC true [(n, d), (x, y)] = cc at *
      have HC := Lib.hid hcc
      clear hcc
      go_enter Try.func31, Try.ntmps31
      go_wp2_with fail
      refine (checkBest_any true _ _ _ (SlF.lit (fs := [(n, d), (x, y)]) (Bx.new (b := w.heap.size + 1 + 1 + 1) _ #[.int .i64 (n), .int .i64 (d), .int .i64 (x), .int .i64 (y)] 26 (by first | rfl | simp)) rfl (Nat.le_refl _) (by simp [maxLen]) (lit2 n d x y))).mono ?_
      rintro e w1 ⟨rfl, hb1⟩
      have B1 : Bl w w1 := bl_call (bl_alloc (bl_alloc (bl_alloc (bl_alloc (bl_refl _) _) _) _) _) hb1
      have xF_1 : Bx w1 (w.heap.size) #[.int .i64 (n), .int .i64 (d)] := ((((Bx.new (b := w.heap.size) _ #[.int .i64 (n), .int .i64 (d)] 26 (by first | rfl | simp)).alloc _).alloc _).alloc _).below hb1
      have xG_1 : Bx w1 (w.heap.size + 1) #[.int .i64 (x), .int .i64 (y)] := (((Bx.new (b := w.heap.size + 1) _ #[.int .i64 (x), .int .i64 (y)] 26 (by first | rfl | simp)).alloc _).alloc _).below hb1
      have xR_1 : Bx w1 (w.heap.size + 1 + 1) #[.int .i64 (0), .int .i64 (0)] := ((Bx.new (b := w.heap.size + 1 + 1) _ #[.int .i64 (0), .int .i64 (0)] 26 (by first | rfl | simp)).alloc _).below hb1
      have xL_1 : Bx w1 (w.heap.size + 1 + 1 + 1) #[.int .i64 (n), .int .i64 (d), .int .i64 (x), .int .i64 (y)] := (Bx.new (b := w.heap.size + 1 + 1 + 1) _ #[.int .i64 (n), .int .i64 (d), .int .i64 (x), .int .i64 (y)] 26 (by first | rfl | simp)).below hb1
      obtain ⟨cF_1, fF_1, zF_1⟩ := xF_1.out
      obtain ⟨cG_1, fG_1, zG_1⟩ := xG_1.out
      obtain ⟨cR_1, fR_1, zR_1⟩ := xR_1.out
      obtain ⟨cL_1, fL_1, zL_1⟩ := xL_1.out
      rw [HC.out]
      go_wp2_with fail
      refine (ifirst_any n d x y _ HS.out).mono ?_
      rintro e w2 ⟨rfl, hb2⟩
      have B2 : Bl w w2 := bl_call B1 hb2
      have xF_2 : Bx w2 (w.heap.size) #[.int .i64 (n), .int .i64 (d)] := xF_1.below hb2
      have xG_2 : Bx w2 (w.heap.size + 1) #[.int .i64 (x), .int .i64 (y)] := xG_1.below hb2
      have xR_2 : Bx w2 (w.heap.size + 1 + 1) #[.int .i64 (0), .int .i64 (0)] := xR_1.below hb2
      have xL_2 : Bx w2 (w.heap.size + 1 + 1 + 1) #[.int .i64 (n), .int .i64 (d), .int .i64 (x), .int .i64 (y)] := xL_1.below hb2
      clear cF_1 fF_1 zF_1 cG_1 fG_1 zG_1 cR_1 fR_1 zR_1 cL_1 fL_1 zL_1
      obtain ⟨cF_2, fF_2, zF_2⟩ := xF_2.out
      obtain ⟨cG_2, fG_2, zG_2⟩ := xG_2.out
      obtain ⟨cR_2, fR_2, zR_2⟩ := xR_2.out
      obtain ⟨cL_2, fL_2, zL_2⟩ := xL_2.out
      rw [HF.out]
      go_wp2
      refine bodyPost_ret (v := .tuple #[.agg #[.int .i64 (0), .int .i64 (0)], .int .i64 (3)]) (by simp only [results, Try.results31]; go_simp) rfl ?_
      refine ⟨ret_fi2 HR.out, ?_⟩
      repeat first | (with_reducible exact B2) | (with_reducible refine bl_alloc ?_ _) | (with_reducible refine bl_drew ?_) | (with_reducible refine bl_set ?_ (by first | exact Nat.le_refl _ | (simp; done) | (simp; omega)) _)
    | false =>
      have HF := Lib.hid hf
      obtain ⟨⟨⟨a, b⟩, ⟨p, q⟩⟩, hs⟩ : ∃ z, z = sidesF n d y := ⟨_, rfl⟩
      have HSD := Lib.hid hs.symm
      obtain ⟨⟨u, v⟩, hnn⟩ : ∃ z, z = nearestF n d y := ⟨_, rfl⟩
      have HNN := Lib.hid hnn.symm
      by_cases hu : u = x
      · by_cases hv : v = y
        · by_cases ha : a = x
          · by_cases hb2 : b = y
            ·
              have HR := Lib.hid (show beatsF n d x y = ((p, q), 0) by rw [beatsF, if_pos hc, if_neg (by rw [hf]; decide), ← hnn, if_pos (by exact ⟨hu, hv⟩), ← hs, if_pos (by exact ⟨ha, hb2⟩)])
              have hb : (bestC true [(n, d), (x, y)] != 0) = false := by simp [hc]
              have kux : (u == x) = true := by simp; omega
              have kvy : (v == y) = true := by simp; omega
              have kax : (a == x) = true := by simp; omega
              have kby : (b == y) = true := by simp; omega
              clear hc hf hs hnn hu hv ha hb2
              generalize hcc : bestC true [(n, d), (x, y)] = cc at *
              have HC := Lib.hid hcc
              clear hcc
              go_enter Try.func31, Try.ntmps31
              go_wp2_with fail
              refine (checkBest_any true _ _ _ (SlF.lit (fs := [(n, d), (x, y)]) (Bx.new (b := w.heap.size + 1 + 1 + 1) _ #[.int .i64 (n), .int .i64 (d), .int .i64 (x), .int .i64 (y)] 26 (by first | rfl | simp)) rfl (Nat.le_refl _) (by simp [maxLen]) (lit2 n d x y))).mono ?_
              rintro e w1 ⟨rfl, hb1⟩
              have B1 : Bl w w1 := bl_call (bl_alloc (bl_alloc (bl_alloc (bl_alloc (bl_refl _) _) _) _) _) hb1
              have xF_1 : Bx w1 (w.heap.size) #[.int .i64 (n), .int .i64 (d)] := ((((Bx.new (b := w.heap.size) _ #[.int .i64 (n), .int .i64 (d)] 26 (by first | rfl | simp)).alloc _).alloc _).alloc _).below hb1
              have xG_1 : Bx w1 (w.heap.size + 1) #[.int .i64 (x), .int .i64 (y)] := (((Bx.new (b := w.heap.size + 1) _ #[.int .i64 (x), .int .i64 (y)] 26 (by first | rfl | simp)).alloc _).alloc _).below hb1
              have xR_1 : Bx w1 (w.heap.size + 1 + 1) #[.int .i64 (0), .int .i64 (0)] := ((Bx.new (b := w.heap.size + 1 + 1) _ #[.int .i64 (0), .int .i64 (0)] 26 (by first | rfl | simp)).alloc _).below hb1
              have xL_1 : Bx w1 (w.heap.size + 1 + 1 + 1) #[.int .i64 (n), .int .i64 (d), .int .i64 (x), .int .i64 (y)] := (Bx.new (b := w.heap.size + 1 + 1 + 1) _ #[.int .i64 (n), .int .i64 (d), .int .i64 (x), .int .i64 (y)] 26 (by first | rfl | simp)).below hb1
              obtain ⟨cF_1, fF_1, zF_1⟩ := xF_1.out
              obtain ⟨cG_1, fG_1, zG_1⟩ := xG_1.out
              obtain ⟨cR_1, fR_1, zR_1⟩ := xR_1.out
              obtain ⟨cL_1, fL_1, zL_1⟩ := xL_1.out
              rw [HC.out]
              go_wp2_with fail
              refine (ifirst_any n d x y _ HS.out).mono ?_
              rintro e w2 ⟨rfl, hb2⟩
              have B2 : Bl w w2 := bl_call B1 hb2
              have xF_2 : Bx w2 (w.heap.size) #[.int .i64 (n), .int .i64 (d)] := xF_1.below hb2
              have xG_2 : Bx w2 (w.heap.size + 1) #[.int .i64 (x), .int .i64 (y)] := xG_1.below hb2
              have xR_2 : Bx w2 (w.heap.size + 1 + 1) #[.int .i64 (0), .int .i64 (0)] := xR_1.below hb2
              have xL_2 : Bx w2 (w.heap.size + 1 + 1 + 1) #[.int .i64 (n), .int .i64 (d), .int .i64 (x), .int .i64 (y)] := xL_1.below hb2
              clear cF_1 fF_1 zF_1 cG_1 fG_1 zG_1 cR_1 fR_1 zR_1 cL_1 fL_1 zL_1
              obtain ⟨cF_2, fF_2, zF_2⟩ := xF_2.out
              obtain ⟨cG_2, fG_2, zG_2⟩ := xG_2.out
              obtain ⟨cR_2, fR_2, zR_2⟩ := xR_2.out
              obtain ⟨cL_2, fL_2, zL_2⟩ := xL_2.out
              rw [HF.out]
              go_wp2_with fail
              refine (inearest_any n d y _ HS.out.o ⟨HS.out.n1, HS.out.n2⟩ HS.out.d2 HS.out.y1).mono ?_
              rintro e w3 ⟨rfl, hb3⟩
              have B3 : Bl w w3 := bl_call B2 hb3
              have xF_3 : Bx w3 (w.heap.size) #[.int .i64 (n), .int .i64 (d)] := xF_2.below hb3
              have xG_3 : Bx w3 (w.heap.size + 1) #[.int .i64 (x), .int .i64 (y)] := xG_2.below hb3
              have xR_3 : Bx w3 (w.heap.size + 1 + 1) #[.int .i64 (0), .int .i64 (0)] := xR_2.below hb3
              have xL_3 : Bx w3 (w.heap.size + 1 + 1 + 1) #[.int .i64 (n), .int .i64 (d), .int .i64 (x), .int .i64 (y)] := xL_2.below hb3
              clear cF_2 fF_2 zF_2 cG_2 fG_2 zG_2 cR_2 fR_2 zR_2 cL_2 fL_2 zL_2
              obtain ⟨cF_3, fF_3, zF_3⟩ := xF_3.out
              obtain ⟨cG_3, fG_3, zG_3⟩ := xG_3.out
              obtain ⟨cR_3, fR_3, zR_3⟩ := xR_3.out
              obtain ⟨cL_3, fL_3, zL_3⟩ := xL_3.out
              rw [HNN.out]
              simp only []
              go_wp2_with fail
              refine (around_eq HS.out.o y HS.out.y1 HSD.out _).mono ?_
              rintro e w4 ⟨rfl, hb4⟩
              have B4 : Bl w w4 := bl_call (bl_alloc B3 _) hb4
              have xF_4 : Bx w4 (w.heap.size) #[.int .i64 (n), .int .i64 (d)] := (xF_3.alloc _).below hb4
              have xG_4 : Bx w4 (w.heap.size + 1) #[.int .i64 (x), .int .i64 (y)] := (xG_3.alloc _).below hb4
              have xR_4 : Bx w4 (w.heap.size + 1 + 1) #[.int .i64 (0), .int .i64 (0)] := (xR_3.alloc _).below hb4
              have xL_4 : Bx w4 (w.heap.size + 1 + 1 + 1) #[.int .i64 (n), .int .i64 (d), .int .i64 (x), .int .i64 (y)] := (xL_3.alloc _).below hb4
              have xX_4 : Bx w4 (w3.heap.size) #[.int .i64 (u), .int .i64 (v)] := (Bx.new (b := w3.heap.size) _ #[.int .i64 (u), .int .i64 (v)] 26 (by first | rfl | simp)).below hb4
              clear cF_3 fF_3 zF_3 cG_3 fG_3 zG_3 cR_3 fR_3 zR_3 cL_3 fL_3 zL_3
              obtain ⟨cF_4, fF_4, zF_4⟩ := xF_4.out
              obtain ⟨cG_4, fG_4, zG_4⟩ := xG_4.out
              obtain ⟨cR_4, fR_4, zR_4⟩ := xR_4.out
              obtain ⟨cL_4, fL_4, zL_4⟩ := xL_4.out
              obtain ⟨cX_4, fX_4, zX_4⟩ := xX_4.out
              go_wp2
              refine bodyPost_ret (v := .tuple #[.agg #[.int .i64 (p), .int .i64 (q)], .int .i64 (0)]) (by simp only [results, Try.results31]; go_simp) rfl ?_
              refine ⟨ret_fi2 HR.out, ?_⟩
              repeat first | (with_reducible exact B4) | (with_reducible refine bl_alloc ?_ _) | (with_reducible refine bl_drew ?_) | (with_reducible refine bl_set ?_ (by first | exact Nat.le_refl _ | (simp; done) | (simp; omega)) _)
            ·
              have HR := Lib.hid (show beatsF n d x y = ((a, b), 0) by rw [beatsF, if_pos hc, if_neg (by rw [hf]; decide), ← hnn, if_pos (by exact ⟨hu, hv⟩), ← hs, if_neg (by simp; omega)])
              have hb : (bestC true [(n, d), (x, y)] != 0) = false := by simp [hc]
              have kux : (u == x) = true := by simp; omega
              have kvy : (v == y) = true := by simp; omega
              have kax : (a == x) = true := by simp; omega
              have kby : (b == y) = false := by simp; omega
              clear hc hf hs hnn hu hv ha hb2
              generalize hcc : bestC true [(n, d), (x, y)] = cc at *
              have HC := Lib.hid hcc
              clear hcc
              go_enter Try.func31, Try.ntmps31
              go_wp2_with fail
              refine (checkBest_any true _ _ _ (SlF.lit (fs := [(n, d), (x, y)]) (Bx.new (b := w.heap.size + 1 + 1 + 1) _ #[.int .i64 (n), .int .i64 (d), .int .i64 (x), .int .i64 (y)] 26 (by first | rfl | simp)) rfl (Nat.le_refl _) (by simp [maxLen]) (lit2 n d x y))).mono ?_
              rintro e w1 ⟨rfl, hb1⟩
              have B1 : Bl w w1 := bl_call (bl_alloc (bl_alloc (bl_alloc (bl_alloc (bl_refl _) _) _) _) _) hb1
              have xF_1 : Bx w1 (w.heap.size) #[.int .i64 (n), .int .i64 (d)] := ((((Bx.new (b := w.heap.size) _ #[.int .i64 (n), .int .i64 (d)] 26 (by first | rfl | simp)).alloc _).alloc _).alloc _).below hb1
              have xG_1 : Bx w1 (w.heap.size + 1) #[.int .i64 (x), .int .i64 (y)] := (((Bx.new (b := w.heap.size + 1) _ #[.int .i64 (x), .int .i64 (y)] 26 (by first | rfl | simp)).alloc _).alloc _).below hb1
              have xR_1 : Bx w1 (w.heap.size + 1 + 1) #[.int .i64 (0), .int .i64 (0)] := ((Bx.new (b := w.heap.size + 1 + 1) _ #[.int .i64 (0), .int .i64 (0)] 26 (by first | rfl | simp)).alloc _).below hb1
              have xL_1 : Bx w1 (w.heap.size + 1 + 1 + 1) #[.int .i64 (n), .int .i64 (d), .int .i64 (x), .int .i64 (y)] := (Bx.new (b := w.heap.size + 1 + 1 + 1) _ #[.int .i64 (n), .int .i64 (d), .int .i64 (x), .int .i64 (y)] 26 (by first | rfl | simp)).below hb1
              obtain ⟨cF_1, fF_1, zF_1⟩ := xF_1.out
              obtain ⟨cG_1, fG_1, zG_1⟩ := xG_1.out
              obtain ⟨cR_1, fR_1, zR_1⟩ := xR_1.out
              obtain ⟨cL_1, fL_1, zL_1⟩ := xL_1.out
              rw [HC.out]
              go_wp2_with fail
              refine (ifirst_any n d x y _ HS.out).mono ?_
              rintro e w2 ⟨rfl, hb2⟩
              have B2 : Bl w w2 := bl_call B1 hb2
              have xF_2 : Bx w2 (w.heap.size) #[.int .i64 (n), .int .i64 (d)] := xF_1.below hb2
              have xG_2 : Bx w2 (w.heap.size + 1) #[.int .i64 (x), .int .i64 (y)] := xG_1.below hb2
              have xR_2 : Bx w2 (w.heap.size + 1 + 1) #[.int .i64 (0), .int .i64 (0)] := xR_1.below hb2
              have xL_2 : Bx w2 (w.heap.size + 1 + 1 + 1) #[.int .i64 (n), .int .i64 (d), .int .i64 (x), .int .i64 (y)] := xL_1.below hb2
              clear cF_1 fF_1 zF_1 cG_1 fG_1 zG_1 cR_1 fR_1 zR_1 cL_1 fL_1 zL_1
              obtain ⟨cF_2, fF_2, zF_2⟩ := xF_2.out
              obtain ⟨cG_2, fG_2, zG_2⟩ := xG_2.out
              obtain ⟨cR_2, fR_2, zR_2⟩ := xR_2.out
              obtain ⟨cL_2, fL_2, zL_2⟩ := xL_2.out
              rw [HF.out]
              go_wp2_with fail
              refine (inearest_any n d y _ HS.out.o ⟨HS.out.n1, HS.out.n2⟩ HS.out.d2 HS.out.y1).mono ?_
              rintro e w3 ⟨rfl, hb3⟩
              have B3 : Bl w w3 := bl_call B2 hb3
              have xF_3 : Bx w3 (w.heap.size) #[.int .i64 (n), .int .i64 (d)] := xF_2.below hb3
              have xG_3 : Bx w3 (w.heap.size + 1) #[.int .i64 (x), .int .i64 (y)] := xG_2.below hb3
              have xR_3 : Bx w3 (w.heap.size + 1 + 1) #[.int .i64 (0), .int .i64 (0)] := xR_2.below hb3
              have xL_3 : Bx w3 (w.heap.size + 1 + 1 + 1) #[.int .i64 (n), .int .i64 (d), .int .i64 (x), .int .i64 (y)] := xL_2.below hb3
              clear cF_2 fF_2 zF_2 cG_2 fG_2 zG_2 cR_2 fR_2 zR_2 cL_2 fL_2 zL_2
              obtain ⟨cF_3, fF_3, zF_3⟩ := xF_3.out
              obtain ⟨cG_3, fG_3, zG_3⟩ := xG_3.out
              obtain ⟨cR_3, fR_3, zR_3⟩ := xR_3.out
              obtain ⟨cL_3, fL_3, zL_3⟩ := xL_3.out
              rw [HNN.out]
              simp only []
              go_wp2_with fail
              refine (around_eq HS.out.o y HS.out.y1 HSD.out _).mono ?_
              rintro e w4 ⟨rfl, hb4⟩
              have B4 : Bl w w4 := bl_call (bl_alloc B3 _) hb4
              have xF_4 : Bx w4 (w.heap.size) #[.int .i64 (n), .int .i64 (d)] := (xF_3.alloc _).below hb4
              have xG_4 : Bx w4 (w.heap.size + 1) #[.int .i64 (x), .int .i64 (y)] := (xG_3.alloc _).below hb4
              have xR_4 : Bx w4 (w.heap.size + 1 + 1) #[.int .i64 (0), .int .i64 (0)] := (xR_3.alloc _).below hb4
              have xL_4 : Bx w4 (w.heap.size + 1 + 1 + 1) #[.int .i64 (n), .int .i64 (d), .int .i64 (x), .int .i64 (y)] := (xL_3.alloc _).below hb4
              have xX_4 : Bx w4 (w3.heap.size) #[.int .i64 (u), .int .i64 (v)] := (Bx.new (b := w3.heap.size) _ #[.int .i64 (u), .int .i64 (v)] 26 (by first | rfl | simp)).below hb4
              clear cF_3 fF_3 zF_3 cG_3 fG_3 zG_3 cR_3 fR_3 zR_3 cL_3 fL_3 zL_3
              obtain ⟨cF_4, fF_4, zF_4⟩ := xF_4.out
              obtain ⟨cG_4, fG_4, zG_4⟩ := xG_4.out
              obtain ⟨cR_4, fR_4, zR_4⟩ := xR_4.out
              obtain ⟨cL_4, fL_4, zL_4⟩ := xL_4.out
              obtain ⟨cX_4, fX_4, zX_4⟩ := xX_4.out
              go_wp2
              refine bodyPost_ret (v := .tuple #[.agg #[.int .i64 (a), .int .i64 (b)], .int .i64 (0)]) (by simp only [results, Try.results31]; go_simp) rfl ?_
              refine ⟨ret_fi2 HR.out, ?_⟩
              repeat first | (with_reducible exact B4) | (with_reducible refine bl_alloc ?_ _) | (with_reducible refine bl_drew ?_) | (with_reducible refine bl_set ?_ (by first | exact Nat.le_refl _ | (simp; done) | (simp; omega)) _)
          ·
            have HR := Lib.hid (show beatsF n d x y = ((a, b), 0) by rw [beatsF, if_pos hc, if_neg (by rw [hf]; decide), ← hnn, if_pos (by exact ⟨hu, hv⟩), ← hs, if_neg (by simp; omega)])
            have hb : (bestC true [(n, d), (x, y)] != 0) = false := by simp [hc]
            have kux : (u == x) = true := by simp; omega
            have kvy : (v == y) = true := by simp; omega
            have kax : (a == x) = false := by simp; omega
            clear hc hf hs hnn hu hv ha
            generalize hcc : bestC true [(n, d), (x, y)] = cc at *
            have HC := Lib.hid hcc
            clear hcc
            go_enter Try.func31, Try.ntmps31
            go_wp2_with fail
            refine (checkBest_any true _ _ _ (SlF.lit (fs := [(n, d), (x, y)]) (Bx.new (b := w.heap.size + 1 + 1 + 1) _ #[.int .i64 (n), .int .i64 (d), .int .i64 (x), .int .i64 (y)] 26 (by first | rfl | simp)) rfl (Nat.le_refl _) (by simp [maxLen]) (lit2 n d x y))).mono ?_
            rintro e w1 ⟨rfl, hb1⟩
            have B1 : Bl w w1 := bl_call (bl_alloc (bl_alloc (bl_alloc (bl_alloc (bl_refl _) _) _) _) _) hb1
            have xF_1 : Bx w1 (w.heap.size) #[.int .i64 (n), .int .i64 (d)] := ((((Bx.new (b := w.heap.size) _ #[.int .i64 (n), .int .i64 (d)] 26 (by first | rfl | simp)).alloc _).alloc _).alloc _).below hb1
            have xG_1 : Bx w1 (w.heap.size + 1) #[.int .i64 (x), .int .i64 (y)] := (((Bx.new (b := w.heap.size + 1) _ #[.int .i64 (x), .int .i64 (y)] 26 (by first | rfl | simp)).alloc _).alloc _).below hb1
            have xR_1 : Bx w1 (w.heap.size + 1 + 1) #[.int .i64 (0), .int .i64 (0)] := ((Bx.new (b := w.heap.size + 1 + 1) _ #[.int .i64 (0), .int .i64 (0)] 26 (by first | rfl | simp)).alloc _).below hb1
            have xL_1 : Bx w1 (w.heap.size + 1 + 1 + 1) #[.int .i64 (n), .int .i64 (d), .int .i64 (x), .int .i64 (y)] := (Bx.new (b := w.heap.size + 1 + 1 + 1) _ #[.int .i64 (n), .int .i64 (d), .int .i64 (x), .int .i64 (y)] 26 (by first | rfl | simp)).below hb1
            obtain ⟨cF_1, fF_1, zF_1⟩ := xF_1.out
            obtain ⟨cG_1, fG_1, zG_1⟩ := xG_1.out
            obtain ⟨cR_1, fR_1, zR_1⟩ := xR_1.out
            obtain ⟨cL_1, fL_1, zL_1⟩ := xL_1.out
            rw [HC.out]
            go_wp2_with fail
            refine (ifirst_any n d x y _ HS.out).mono ?_
            rintro e w2 ⟨rfl, hb2⟩
            have B2 : Bl w w2 := bl_call B1 hb2
            have xF_2 : Bx w2 (w.heap.size) #[.int .i64 (n), .int .i64 (d)] := xF_1.below hb2
            have xG_2 : Bx w2 (w.heap.size + 1) #[.int .i64 (x), .int .i64 (y)] := xG_1.below hb2
            have xR_2 : Bx w2 (w.heap.size + 1 + 1) #[.int .i64 (0), .int .i64 (0)] := xR_1.below hb2
            have xL_2 : Bx w2 (w.heap.size + 1 + 1 + 1) #[.int .i64 (n), .int .i64 (d), .int .i64 (x), .int .i64 (y)] := xL_1.below hb2
            clear cF_1 fF_1 zF_1 cG_1 fG_1 zG_1 cR_1 fR_1 zR_1 cL_1 fL_1 zL_1
            obtain ⟨cF_2, fF_2, zF_2⟩ := xF_2.out
            obtain ⟨cG_2, fG_2, zG_2⟩ := xG_2.out
            obtain ⟨cR_2, fR_2, zR_2⟩ := xR_2.out
            obtain ⟨cL_2, fL_2, zL_2⟩ := xL_2.out
            rw [HF.out]
            go_wp2_with fail
            refine (inearest_any n d y _ HS.out.o ⟨HS.out.n1, HS.out.n2⟩ HS.out.d2 HS.out.y1).mono ?_
            rintro e w3 ⟨rfl, hb3⟩
            have B3 : Bl w w3 := bl_call B2 hb3
            have xF_3 : Bx w3 (w.heap.size) #[.int .i64 (n), .int .i64 (d)] := xF_2.below hb3
            have xG_3 : Bx w3 (w.heap.size + 1) #[.int .i64 (x), .int .i64 (y)] := xG_2.below hb3
            have xR_3 : Bx w3 (w.heap.size + 1 + 1) #[.int .i64 (0), .int .i64 (0)] := xR_2.below hb3
            have xL_3 : Bx w3 (w.heap.size + 1 + 1 + 1) #[.int .i64 (n), .int .i64 (d), .int .i64 (x), .int .i64 (y)] := xL_2.below hb3
            clear cF_2 fF_2 zF_2 cG_2 fG_2 zG_2 cR_2 fR_2 zR_2 cL_2 fL_2 zL_2
            obtain ⟨cF_3, fF_3, zF_3⟩ := xF_3.out
            obtain ⟨cG_3, fG_3, zG_3⟩ := xG_3.out
            obtain ⟨cR_3, fR_3, zR_3⟩ := xR_3.out
            obtain ⟨cL_3, fL_3, zL_3⟩ := xL_3.out
            rw [HNN.out]
            simp only []
            go_wp2_with fail
            refine (around_eq HS.out.o y HS.out.y1 HSD.out _).mono ?_
            rintro e w4 ⟨rfl, hb4⟩
            have B4 : Bl w w4 := bl_call (bl_alloc B3 _) hb4
            have xF_4 : Bx w4 (w.heap.size) #[.int .i64 (n), .int .i64 (d)] := (xF_3.alloc _).below hb4
            have xG_4 : Bx w4 (w.heap.size + 1) #[.int .i64 (x), .int .i64 (y)] := (xG_3.alloc _).below hb4
            have xR_4 : Bx w4 (w.heap.size + 1 + 1) #[.int .i64 (0), .int .i64 (0)] := (xR_3.alloc _).below hb4
            have xL_4 : Bx w4 (w.heap.size + 1 + 1 + 1) #[.int .i64 (n), .int .i64 (d), .int .i64 (x), .int .i64 (y)] := (xL_3.alloc _).below hb4
            have xX_4 : Bx w4 (w3.heap.size) #[.int .i64 (u), .int .i64 (v)] := (Bx.new (b := w3.heap.size) _ #[.int .i64 (u), .int .i64 (v)] 26 (by first | rfl | simp)).below hb4
            clear cF_3 fF_3 zF_3 cG_3 fG_3 zG_3 cR_3 fR_3 zR_3 cL_3 fL_3 zL_3
            obtain ⟨cF_4, fF_4, zF_4⟩ := xF_4.out
            obtain ⟨cG_4, fG_4, zG_4⟩ := xG_4.out
            obtain ⟨cR_4, fR_4, zR_4⟩ := xR_4.out
            obtain ⟨cL_4, fL_4, zL_4⟩ := xL_4.out
            obtain ⟨cX_4, fX_4, zX_4⟩ := xX_4.out
            go_wp2
            refine bodyPost_ret (v := .tuple #[.agg #[.int .i64 (a), .int .i64 (b)], .int .i64 (0)]) (by simp only [results, Try.results31]; go_simp) rfl ?_
            refine ⟨ret_fi2 HR.out, ?_⟩
            repeat first | (with_reducible exact B4) | (with_reducible refine bl_alloc ?_ _) | (with_reducible refine bl_drew ?_) | (with_reducible refine bl_set ?_ (by first | exact Nat.le_refl _ | (simp; done) | (simp; omega)) _)
        ·
          have HR := Lib.hid (show beatsF n d x y = ((u, v), 0) by rw [beatsF, if_pos hc, if_neg (by rw [hf]; decide), ← hnn, if_neg (by simp; omega)])
          have hb : (bestC true [(n, d), (x, y)] != 0) = false := by simp [hc]
          have kux : (u == x) = true := by simp; omega
          have kvy : (v == y) = false := by simp; omega
          clear hc hf hs hnn hu hv
          generalize hcc : bestC true [(n, d), (x, y)] = cc at *
          have HC := Lib.hid hcc
          clear hcc
          go_enter Try.func31, Try.ntmps31
          go_wp2_with fail
          refine (checkBest_any true _ _ _ (SlF.lit (fs := [(n, d), (x, y)]) (Bx.new (b := w.heap.size + 1 + 1 + 1) _ #[.int .i64 (n), .int .i64 (d), .int .i64 (x), .int .i64 (y)] 26 (by first | rfl | simp)) rfl (Nat.le_refl _) (by simp [maxLen]) (lit2 n d x y))).mono ?_
          rintro e w1 ⟨rfl, hb1⟩
          have B1 : Bl w w1 := bl_call (bl_alloc (bl_alloc (bl_alloc (bl_alloc (bl_refl _) _) _) _) _) hb1
          have xF_1 : Bx w1 (w.heap.size) #[.int .i64 (n), .int .i64 (d)] := ((((Bx.new (b := w.heap.size) _ #[.int .i64 (n), .int .i64 (d)] 26 (by first | rfl | simp)).alloc _).alloc _).alloc _).below hb1
          have xG_1 : Bx w1 (w.heap.size + 1) #[.int .i64 (x), .int .i64 (y)] := (((Bx.new (b := w.heap.size + 1) _ #[.int .i64 (x), .int .i64 (y)] 26 (by first | rfl | simp)).alloc _).alloc _).below hb1
          have xR_1 : Bx w1 (w.heap.size + 1 + 1) #[.int .i64 (0), .int .i64 (0)] := ((Bx.new (b := w.heap.size + 1 + 1) _ #[.int .i64 (0), .int .i64 (0)] 26 (by first | rfl | simp)).alloc _).below hb1
          have xL_1 : Bx w1 (w.heap.size + 1 + 1 + 1) #[.int .i64 (n), .int .i64 (d), .int .i64 (x), .int .i64 (y)] := (Bx.new (b := w.heap.size + 1 + 1 + 1) _ #[.int .i64 (n), .int .i64 (d), .int .i64 (x), .int .i64 (y)] 26 (by first | rfl | simp)).below hb1
          obtain ⟨cF_1, fF_1, zF_1⟩ := xF_1.out
          obtain ⟨cG_1, fG_1, zG_1⟩ := xG_1.out
          obtain ⟨cR_1, fR_1, zR_1⟩ := xR_1.out
          obtain ⟨cL_1, fL_1, zL_1⟩ := xL_1.out
          rw [HC.out]
          go_wp2_with fail
          refine (ifirst_any n d x y _ HS.out).mono ?_
          rintro e w2 ⟨rfl, hb2⟩
          have B2 : Bl w w2 := bl_call B1 hb2
          have xF_2 : Bx w2 (w.heap.size) #[.int .i64 (n), .int .i64 (d)] := xF_1.below hb2
          have xG_2 : Bx w2 (w.heap.size + 1) #[.int .i64 (x), .int .i64 (y)] := xG_1.below hb2
          have xR_2 : Bx w2 (w.heap.size + 1 + 1) #[.int .i64 (0), .int .i64 (0)] := xR_1.below hb2
          have xL_2 : Bx w2 (w.heap.size + 1 + 1 + 1) #[.int .i64 (n), .int .i64 (d), .int .i64 (x), .int .i64 (y)] := xL_1.below hb2
          clear cF_1 fF_1 zF_1 cG_1 fG_1 zG_1 cR_1 fR_1 zR_1 cL_1 fL_1 zL_1
          obtain ⟨cF_2, fF_2, zF_2⟩ := xF_2.out
          obtain ⟨cG_2, fG_2, zG_2⟩ := xG_2.out
          obtain ⟨cR_2, fR_2, zR_2⟩ := xR_2.out
          obtain ⟨cL_2, fL_2, zL_2⟩ := xL_2.out
          rw [HF.out]
          go_wp2_with fail
          refine (inearest_any n d y _ HS.out.o ⟨HS.out.n1, HS.out.n2⟩ HS.out.d2 HS.out.y1).mono ?_
          rintro e w3 ⟨rfl, hb3⟩
          have B3 : Bl w w3 := bl_call B2 hb3
          have xF_3 : Bx w3 (w.heap.size) #[.int .i64 (n), .int .i64 (d)] := xF_2.below hb3
          have xG_3 : Bx w3 (w.heap.size + 1) #[.int .i64 (x), .int .i64 (y)] := xG_2.below hb3
          have xR_3 : Bx w3 (w.heap.size + 1 + 1) #[.int .i64 (0), .int .i64 (0)] := xR_2.below hb3
          have xL_3 : Bx w3 (w.heap.size + 1 + 1 + 1) #[.int .i64 (n), .int .i64 (d), .int .i64 (x), .int .i64 (y)] := xL_2.below hb3
          clear cF_2 fF_2 zF_2 cG_2 fG_2 zG_2 cR_2 fR_2 zR_2 cL_2 fL_2 zL_2
          obtain ⟨cF_3, fF_3, zF_3⟩ := xF_3.out
          obtain ⟨cG_3, fG_3, zG_3⟩ := xG_3.out
          obtain ⟨cR_3, fR_3, zR_3⟩ := xR_3.out
          obtain ⟨cL_3, fL_3, zL_3⟩ := xL_3.out
          rw [HNN.out]
          simp only []
          go_wp2
          refine bodyPost_ret (v := .tuple #[.agg #[.int .i64 (u), .int .i64 (v)], .int .i64 (0)]) (by simp only [results, Try.results31]; go_simp) rfl ?_
          refine ⟨ret_fi2 HR.out, ?_⟩
          repeat first | (with_reducible exact B3) | (with_reducible refine bl_alloc ?_ _) | (with_reducible refine bl_drew ?_) | (with_reducible refine bl_set ?_ (by first | exact Nat.le_refl _ | (simp; done) | (simp; omega)) _)
      ·
        have HR := Lib.hid (show beatsF n d x y = ((u, v), 0) by rw [beatsF, if_pos hc, if_neg (by rw [hf]; decide), ← hnn, if_neg (by simp; omega)])
        have hb : (bestC true [(n, d), (x, y)] != 0) = false := by simp [hc]
        have kux : (u == x) = false := by simp; omega
        clear hc hf hs hnn hu
        generalize hcc : bestC true [(n, d), (x, y)] = cc at *
        have HC := Lib.hid hcc
        clear hcc
        go_enter Try.func31, Try.ntmps31
        go_wp2_with fail
        refine (checkBest_any true _ _ _ (SlF.lit (fs := [(n, d), (x, y)]) (Bx.new (b := w.heap.size + 1 + 1 + 1) _ #[.int .i64 (n), .int .i64 (d), .int .i64 (x), .int .i64 (y)] 26 (by first | rfl | simp)) rfl (Nat.le_refl _) (by simp [maxLen]) (lit2 n d x y))).mono ?_
        rintro e w1 ⟨rfl, hb1⟩
        have B1 : Bl w w1 := bl_call (bl_alloc (bl_alloc (bl_alloc (bl_alloc (bl_refl _) _) _) _) _) hb1
        have xF_1 : Bx w1 (w.heap.size) #[.int .i64 (n), .int .i64 (d)] := ((((Bx.new (b := w.heap.size) _ #[.int .i64 (n), .int .i64 (d)] 26 (by first | rfl | simp)).alloc _).alloc _).alloc _).below hb1
        have xG_1 : Bx w1 (w.heap.size + 1) #[.int .i64 (x), .int .i64 (y)] := (((Bx.new (b := w.heap.size + 1) _ #[.int .i64 (x), .int .i64 (y)] 26 (by first | rfl | simp)).alloc _).alloc _).below hb1
        have xR_1 : Bx w1 (w.heap.size + 1 + 1) #[.int .i64 (0), .int .i64 (0)] := ((Bx.new (b := w.heap.size + 1 + 1) _ #[.int .i64 (0), .int .i64 (0)] 26 (by first | rfl | simp)).alloc _).below hb1
        have xL_1 : Bx w1 (w.heap.size + 1 + 1 + 1) #[.int .i64 (n), .int .i64 (d), .int .i64 (x), .int .i64 (y)] := (Bx.new (b := w.heap.size + 1 + 1 + 1) _ #[.int .i64 (n), .int .i64 (d), .int .i64 (x), .int .i64 (y)] 26 (by first | rfl | simp)).below hb1
        obtain ⟨cF_1, fF_1, zF_1⟩ := xF_1.out
        obtain ⟨cG_1, fG_1, zG_1⟩ := xG_1.out
        obtain ⟨cR_1, fR_1, zR_1⟩ := xR_1.out
        obtain ⟨cL_1, fL_1, zL_1⟩ := xL_1.out
        rw [HC.out]
        go_wp2_with fail
        refine (ifirst_any n d x y _ HS.out).mono ?_
        rintro e w2 ⟨rfl, hb2⟩
        have B2 : Bl w w2 := bl_call B1 hb2
        have xF_2 : Bx w2 (w.heap.size) #[.int .i64 (n), .int .i64 (d)] := xF_1.below hb2
        have xG_2 : Bx w2 (w.heap.size + 1) #[.int .i64 (x), .int .i64 (y)] := xG_1.below hb2
        have xR_2 : Bx w2 (w.heap.size + 1 + 1) #[.int .i64 (0), .int .i64 (0)] := xR_1.below hb2
        have xL_2 : Bx w2 (w.heap.size + 1 + 1 + 1) #[.int .i64 (n), .int .i64 (d), .int .i64 (x), .int .i64 (y)] := xL_1.below hb2
        clear cF_1 fF_1 zF_1 cG_1 fG_1 zG_1 cR_1 fR_1 zR_1 cL_1 fL_1 zL_1
        obtain ⟨cF_2, fF_2, zF_2⟩ := xF_2.out
        obtain ⟨cG_2, fG_2, zG_2⟩ := xG_2.out
        obtain ⟨cR_2, fR_2, zR_2⟩ := xR_2.out
        obtain ⟨cL_2, fL_2, zL_2⟩ := xL_2.out
        rw [HF.out]
        go_wp2_with fail
        refine (inearest_any n d y _ HS.out.o ⟨HS.out.n1, HS.out.n2⟩ HS.out.d2 HS.out.y1).mono ?_
        rintro e w3 ⟨rfl, hb3⟩
        have B3 : Bl w w3 := bl_call B2 hb3
        have xF_3 : Bx w3 (w.heap.size) #[.int .i64 (n), .int .i64 (d)] := xF_2.below hb3
        have xG_3 : Bx w3 (w.heap.size + 1) #[.int .i64 (x), .int .i64 (y)] := xG_2.below hb3
        have xR_3 : Bx w3 (w.heap.size + 1 + 1) #[.int .i64 (0), .int .i64 (0)] := xR_2.below hb3
        have xL_3 : Bx w3 (w.heap.size + 1 + 1 + 1) #[.int .i64 (n), .int .i64 (d), .int .i64 (x), .int .i64 (y)] := xL_2.below hb3
        clear cF_2 fF_2 zF_2 cG_2 fG_2 zG_2 cR_2 fR_2 zR_2 cL_2 fL_2 zL_2
        obtain ⟨cF_3, fF_3, zF_3⟩ := xF_3.out
        obtain ⟨cG_3, fG_3, zG_3⟩ := xG_3.out
        obtain ⟨cR_3, fR_3, zR_3⟩ := xR_3.out
        obtain ⟨cL_3, fL_3, zL_3⟩ := xL_3.out
        rw [HNN.out]
        simp only []
        go_wp2
        refine bodyPost_ret (v := .tuple #[.agg #[.int .i64 (u), .int .i64 (v)], .int .i64 (0)]) (by simp only [results, Try.results31]; go_simp) rfl ?_
        refine ⟨ret_fi2 HR.out, ?_⟩
        repeat first | (with_reducible exact B3) | (with_reducible refine bl_alloc ?_ _) | (with_reducible refine bl_drew ?_) | (with_reducible refine bl_set ?_ (by first | exact Nat.le_refl _ | (simp; done) | (simp; omega)) _)
  ·
    have HR := Lib.hid (show beatsF n d x y = ((0, 0), bestC true [(n, d), (x, y)]) by rw [beatsF, if_neg hc])
    have hb : (bestC true [(n, d), (x, y)] != 0) = true := by simp [hc]
    clear hc 
    generalize hcc : bestC true [(n, d), (x, y)] = cc at *
    have HC := Lib.hid hcc
    clear hcc
    go_enter Try.func31, Try.ntmps31
    go_wp2_with fail
    refine (checkBest_any true _ _ _ (SlF.lit (fs := [(n, d), (x, y)]) (Bx.new (b := w.heap.size + 1 + 1 + 1) _ #[.int .i64 (n), .int .i64 (d), .int .i64 (x), .int .i64 (y)] 26 (by first | rfl | simp)) rfl (Nat.le_refl _) (by simp [maxLen]) (lit2 n d x y))).mono ?_
    rintro e w1 ⟨rfl, hb1⟩
    have B1 : Bl w w1 := bl_call (bl_alloc (bl_alloc (bl_alloc (bl_alloc (bl_refl _) _) _) _) _) hb1
    have xF_1 : Bx w1 (w.heap.size) #[.int .i64 (n), .int .i64 (d)] := ((((Bx.new (b := w.heap.size) _ #[.int .i64 (n), .int .i64 (d)] 26 (by first | rfl | simp)).alloc _).alloc _).alloc _).below hb1
    have xG_1 : Bx w1 (w.heap.size + 1) #[.int .i64 (x), .int .i64 (y)] := (((Bx.new (b := w.heap.size + 1) _ #[.int .i64 (x), .int .i64 (y)] 26 (by first | rfl | simp)).alloc _).alloc _).below hb1
    have xR_1 : Bx w1 (w.heap.size + 1 + 1) #[.int .i64 (0), .int .i64 (0)] := ((Bx.new (b := w.heap.size + 1 + 1) _ #[.int .i64 (0), .int .i64 (0)] 26 (by first | rfl | simp)).alloc _).below hb1
    have xL_1 : Bx w1 (w.heap.size + 1 + 1 + 1) #[.int .i64 (n), .int .i64 (d), .int .i64 (x), .int .i64 (y)] := (Bx.new (b := w.heap.size + 1 + 1 + 1) _ #[.int .i64 (n), .int .i64 (d), .int .i64 (x), .int .i64 (y)] 26 (by first | rfl | simp)).below hb1
    obtain ⟨cF_1, fF_1, zF_1⟩ := xF_1.out
    obtain ⟨cG_1, fG_1, zG_1⟩ := xG_1.out
    obtain ⟨cR_1, fR_1, zR_1⟩ := xR_1.out
    obtain ⟨cL_1, fL_1, zL_1⟩ := xL_1.out
    rw [HC.out]
    go_wp2
    refine bodyPost_ret (v := .tuple #[.agg #[.int .i64 (0), .int .i64 (0)], .int .i64 (cc)]) (by simp only [results, Try.results31]; go_simp) rfl ?_
    refine ⟨ret_fi2 HR.out, ?_⟩
    repeat first | (with_reducible exact B1) | (with_reducible refine bl_alloc ?_ _) | (with_reducible refine bl_drew ?_) | (with_reducible refine bl_set ?_ (by first | exact Nat.le_refl _ | (simp; done) | (simp; omega)) _)

end Go.Proofs.Ytbonlompmnhmiaa
