/- IsBestSecond in the reference. Each theorem names its conditions. -/
import Derived.Test.YtgmofofokhlhnaaSecI
namespace Go.Proofs.Ytgmofofokhlhnaa
open Go.RowKit
set_option linter.unusedVariables false
set_option linter.unusedSimpArgs false


set_option maxRecDepth 100000 in
set_option maxHeartbeats 3200000 in
theorem second_any (n d x y : Int) (w : World) (ok : Sm2 n d x y) :
    Calls Try.prog 121 #[.agg #[.int .i64 n, .int .i64 d], .agg #[.int .i64 x, .int .i64 y]] w fun r w' => r = .returned (.bool (secondF n d x y)) ∧ Bl w w' := by
  have HS := Lib.hid ok
  obtain ⟨n1, n2, d1, d2, x1, x2, y1, y2, _, _⟩ := ok
  rcases Int.lt_trichotomy y d with hy | hy | hy
  ·
    obtain ⟨a, b, c, e, hs, hsp, hx, o1, o2⟩ := second_sides HS.out.g (show 1 ≤ y by omega) hy
    have hsm := sides_small HS.out.o (show 1 ≤ y by omega) ⟨n1, n2⟩ d2 hs
    obtain ⟨⟨w1, w2⟩, ⟨w3, w4⟩, ⟨w5, w6⟩, ⟨w7, w8⟩⟩ := hsm.1.prods
    have HSD := Lib.hid hs
    have HV : secondF n d x y = ((decide (offF n d a b < offF n d c e) && (decide (x = a) && decide (y = b))) || (decide (offF n d c e < offF n d a b) && (decide (x = c) && decide (y = e)))) := by
      unfold secondF
      rw [if_neg (by omega), if_neg (by omega), hs]
    generalize hX : offF n d a b = X at *
    generalize hY : offF n d c e = Y at *
    have HX := Lib.hid hX
    have HY := Lib.hid hY
    have HW := Lib.hid HV
    clear HV hX hY hs hsp hx o1 o2 hsm
    rcases Int.lt_trichotomy X Y with hxy | hxy | hxy
    ·
      by_cases h1 : x = a
      · by_cases h2 : y = b
        ·
          have HR := Lib.hid (show true = secondF n d x y by rw [HW.out]; simp; omega)
          have k1 : (x == a) = true := by simp; omega
          have k2 : (y == b) = true := by simp; omega
          clear h1 h2
          go_enter Try.func121, Try.ntmps121
          go_wp2_with fail
          refine (sides_eq HS.out.o y (by omega) HSD.out _).mono ?_
          rintro e w1 ⟨rfl, hb1⟩
          have B1 : Bl w w1 := bl_call (bl_alloc (bl_alloc (bl_refl _) _) _) hb1
          have xF_1 : Bx w1 (w.heap.size) #[.int .i64 (n), .int .i64 (d)] := ((Bx.new (b := w.heap.size) _ #[.int .i64 (n), .int .i64 (d)] 55 (by first | rfl | simp)).alloc _).below hb1
          have xG_1 : Bx w1 (w.heap.size + 1) #[.int .i64 (x), .int .i64 (y)] := (Bx.new (b := w.heap.size + 1) _ #[.int .i64 (x), .int .i64 (y)] 55 (by first | rfl | simp)).below hb1
          obtain ⟨cF_1, fF_1, zF_1⟩ := xF_1.out
          obtain ⟨cG_1, fG_1, zG_1⟩ := xG_1.out
          go_wp2_with fail
          refine (soffE HX.out _ (by omega) (by omega) (by omega) (by omega)).mono ?_
          rintro e w2 ⟨rfl, hb2⟩
          have B2 : Bl w w2 := bl_call (bl_alloc (bl_alloc B1 _) _) hb2
          have xF_2 : Bx w2 (w.heap.size) #[.int .i64 (n), .int .i64 (d)] := ((xF_1.alloc _).alloc _).below hb2
          have xG_2 : Bx w2 (w.heap.size + 1) #[.int .i64 (x), .int .i64 (y)] := ((xG_1.alloc _).alloc _).below hb2
          have xL_2 : Bx w2 (w1.heap.size) #[.int .i64 (a), .int .i64 (b)] := ((Bx.new (b := w1.heap.size) _ #[.int .i64 (a), .int .i64 (b)] 55 (by first | rfl | simp)).alloc _).below hb2
          have xH_2 : Bx w2 (w1.heap.size + 1) #[.int .i64 (c), .int .i64 (e)] := (Bx.new (b := w1.heap.size + 1) _ #[.int .i64 (c), .int .i64 (e)] 55 (by first | rfl | simp)).below hb2
          clear cF_1 fF_1 zF_1 cG_1 fG_1 zG_1
          obtain ⟨cF_2, fF_2, zF_2⟩ := xF_2.out
          obtain ⟨cG_2, fG_2, zG_2⟩ := xG_2.out
          obtain ⟨cL_2, fL_2, zL_2⟩ := xL_2.out
          obtain ⟨cH_2, fH_2, zH_2⟩ := xH_2.out
          go_wp2_with fail
          refine (soffE HY.out _ (by omega) (by omega) (by omega) (by omega)).mono ?_
          rintro e w3 ⟨rfl, hb3⟩
          have B3 : Bl w w3 := bl_call B2 hb3
          have xF_3 : Bx w3 (w.heap.size) #[.int .i64 (n), .int .i64 (d)] := xF_2.below hb3
          have xG_3 : Bx w3 (w.heap.size + 1) #[.int .i64 (x), .int .i64 (y)] := xG_2.below hb3
          have xL_3 : Bx w3 (w1.heap.size) #[.int .i64 (a), .int .i64 (b)] := xL_2.below hb3
          have xH_3 : Bx w3 (w1.heap.size + 1) #[.int .i64 (c), .int .i64 (e)] := xH_2.below hb3
          clear cF_2 fF_2 zF_2 cG_2 fG_2 zG_2 cL_2 fL_2 zL_2 cH_2 fH_2 zH_2
          obtain ⟨cF_3, fF_3, zF_3⟩ := xF_3.out
          obtain ⟨cG_3, fG_3, zG_3⟩ := xG_3.out
          obtain ⟨cL_3, fL_3, zL_3⟩ := xL_3.out
          obtain ⟨cH_3, fH_3, zH_3⟩ := xH_3.out
          go_wp2
          go_ret
          exact ⟨ret_bool HR.out, B3⟩
        ·
          have HR := Lib.hid (show false = secondF n d x y by rw [HW.out]; simp; omega)
          have k1 : (x == a) = true := by simp; omega
          have k2 : (y == b) = false := by simp; omega
          clear h1 h2
          go_enter Try.func121, Try.ntmps121
          go_wp2_with fail
          refine (sides_eq HS.out.o y (by omega) HSD.out _).mono ?_
          rintro e w1 ⟨rfl, hb1⟩
          have B1 : Bl w w1 := bl_call (bl_alloc (bl_alloc (bl_refl _) _) _) hb1
          have xF_1 : Bx w1 (w.heap.size) #[.int .i64 (n), .int .i64 (d)] := ((Bx.new (b := w.heap.size) _ #[.int .i64 (n), .int .i64 (d)] 55 (by first | rfl | simp)).alloc _).below hb1
          have xG_1 : Bx w1 (w.heap.size + 1) #[.int .i64 (x), .int .i64 (y)] := (Bx.new (b := w.heap.size + 1) _ #[.int .i64 (x), .int .i64 (y)] 55 (by first | rfl | simp)).below hb1
          obtain ⟨cF_1, fF_1, zF_1⟩ := xF_1.out
          obtain ⟨cG_1, fG_1, zG_1⟩ := xG_1.out
          go_wp2_with fail
          refine (soffE HX.out _ (by omega) (by omega) (by omega) (by omega)).mono ?_
          rintro e w2 ⟨rfl, hb2⟩
          have B2 : Bl w w2 := bl_call (bl_alloc (bl_alloc B1 _) _) hb2
          have xF_2 : Bx w2 (w.heap.size) #[.int .i64 (n), .int .i64 (d)] := ((xF_1.alloc _).alloc _).below hb2
          have xG_2 : Bx w2 (w.heap.size + 1) #[.int .i64 (x), .int .i64 (y)] := ((xG_1.alloc _).alloc _).below hb2
          have xL_2 : Bx w2 (w1.heap.size) #[.int .i64 (a), .int .i64 (b)] := ((Bx.new (b := w1.heap.size) _ #[.int .i64 (a), .int .i64 (b)] 55 (by first | rfl | simp)).alloc _).below hb2
          have xH_2 : Bx w2 (w1.heap.size + 1) #[.int .i64 (c), .int .i64 (e)] := (Bx.new (b := w1.heap.size + 1) _ #[.int .i64 (c), .int .i64 (e)] 55 (by first | rfl | simp)).below hb2
          clear cF_1 fF_1 zF_1 cG_1 fG_1 zG_1
          obtain ⟨cF_2, fF_2, zF_2⟩ := xF_2.out
          obtain ⟨cG_2, fG_2, zG_2⟩ := xG_2.out
          obtain ⟨cL_2, fL_2, zL_2⟩ := xL_2.out
          obtain ⟨cH_2, fH_2, zH_2⟩ := xH_2.out
          go_wp2_with fail
          refine (soffE HY.out _ (by omega) (by omega) (by omega) (by omega)).mono ?_
          rintro e w3 ⟨rfl, hb3⟩
          have B3 : Bl w w3 := bl_call B2 hb3
          have xF_3 : Bx w3 (w.heap.size) #[.int .i64 (n), .int .i64 (d)] := xF_2.below hb3
          have xG_3 : Bx w3 (w.heap.size + 1) #[.int .i64 (x), .int .i64 (y)] := xG_2.below hb3
          have xL_3 : Bx w3 (w1.heap.size) #[.int .i64 (a), .int .i64 (b)] := xL_2.below hb3
          have xH_3 : Bx w3 (w1.heap.size + 1) #[.int .i64 (c), .int .i64 (e)] := xH_2.below hb3
          clear cF_2 fF_2 zF_2 cG_2 fG_2 zG_2 cL_2 fL_2 zL_2 cH_2 fH_2 zH_2
          obtain ⟨cF_3, fF_3, zF_3⟩ := xF_3.out
          obtain ⟨cG_3, fG_3, zG_3⟩ := xG_3.out
          obtain ⟨cL_3, fL_3, zL_3⟩ := xL_3.out
          obtain ⟨cH_3, fH_3, zH_3⟩ := xH_3.out
          go_wp2
          go_ret
          exact ⟨ret_bool HR.out, B3⟩
      ·
        have HR := Lib.hid (show false = secondF n d x y by rw [HW.out]; simp; omega)
        have k1 : (x == a) = false := by simp; omega
        clear h1
        go_enter Try.func121, Try.ntmps121
        go_wp2_with fail
        refine (sides_eq HS.out.o y (by omega) HSD.out _).mono ?_
        rintro e w1 ⟨rfl, hb1⟩
        have B1 : Bl w w1 := bl_call (bl_alloc (bl_alloc (bl_refl _) _) _) hb1
        have xF_1 : Bx w1 (w.heap.size) #[.int .i64 (n), .int .i64 (d)] := ((Bx.new (b := w.heap.size) _ #[.int .i64 (n), .int .i64 (d)] 55 (by first | rfl | simp)).alloc _).below hb1
        have xG_1 : Bx w1 (w.heap.size + 1) #[.int .i64 (x), .int .i64 (y)] := (Bx.new (b := w.heap.size + 1) _ #[.int .i64 (x), .int .i64 (y)] 55 (by first | rfl | simp)).below hb1
        obtain ⟨cF_1, fF_1, zF_1⟩ := xF_1.out
        obtain ⟨cG_1, fG_1, zG_1⟩ := xG_1.out
        go_wp2_with fail
        refine (soffE HX.out _ (by omega) (by omega) (by omega) (by omega)).mono ?_
        rintro e w2 ⟨rfl, hb2⟩
        have B2 : Bl w w2 := bl_call (bl_alloc (bl_alloc B1 _) _) hb2
        have xF_2 : Bx w2 (w.heap.size) #[.int .i64 (n), .int .i64 (d)] := ((xF_1.alloc _).alloc _).below hb2
        have xG_2 : Bx w2 (w.heap.size + 1) #[.int .i64 (x), .int .i64 (y)] := ((xG_1.alloc _).alloc _).below hb2
        have xL_2 : Bx w2 (w1.heap.size) #[.int .i64 (a), .int .i64 (b)] := ((Bx.new (b := w1.heap.size) _ #[.int .i64 (a), .int .i64 (b)] 55 (by first | rfl | simp)).alloc _).below hb2
        have xH_2 : Bx w2 (w1.heap.size + 1) #[.int .i64 (c), .int .i64 (e)] := (Bx.new (b := w1.heap.size + 1) _ #[.int .i64 (c), .int .i64 (e)] 55 (by first | rfl | simp)).below hb2
        clear cF_1 fF_1 zF_1 cG_1 fG_1 zG_1
        obtain ⟨cF_2, fF_2, zF_2⟩ := xF_2.out
        obtain ⟨cG_2, fG_2, zG_2⟩ := xG_2.out
        obtain ⟨cL_2, fL_2, zL_2⟩ := xL_2.out
        obtain ⟨cH_2, fH_2, zH_2⟩ := xH_2.out
        go_wp2_with fail
        refine (soffE HY.out _ (by omega) (by omega) (by omega) (by omega)).mono ?_
        rintro e w3 ⟨rfl, hb3⟩
        have B3 : Bl w w3 := bl_call B2 hb3
        have xF_3 : Bx w3 (w.heap.size) #[.int .i64 (n), .int .i64 (d)] := xF_2.below hb3
        have xG_3 : Bx w3 (w.heap.size + 1) #[.int .i64 (x), .int .i64 (y)] := xG_2.below hb3
        have xL_3 : Bx w3 (w1.heap.size) #[.int .i64 (a), .int .i64 (b)] := xL_2.below hb3
        have xH_3 : Bx w3 (w1.heap.size + 1) #[.int .i64 (c), .int .i64 (e)] := xH_2.below hb3
        clear cF_2 fF_2 zF_2 cG_2 fG_2 zG_2 cL_2 fL_2 zL_2 cH_2 fH_2 zH_2
        obtain ⟨cF_3, fF_3, zF_3⟩ := xF_3.out
        obtain ⟨cG_3, fG_3, zG_3⟩ := xG_3.out
        obtain ⟨cL_3, fL_3, zL_3⟩ := xL_3.out
        obtain ⟨cH_3, fH_3, zH_3⟩ := xH_3.out
        go_wp2
        go_ret
        exact ⟨ret_bool HR.out, B3⟩
    ·
      have HR := Lib.hid (show false = secondF n d x y by rw [HW.out]; simp; omega)
      have k1 := Int.le_of_eq hxy
      have k2 := Int.le_of_eq hxy.symm
      clear hxy
      go_enter Try.func121, Try.ntmps121
      go_wp2_with fail
      refine (sides_eq HS.out.o y (by omega) HSD.out _).mono ?_
      rintro e w1 ⟨rfl, hb1⟩
      have B1 : Bl w w1 := bl_call (bl_alloc (bl_alloc (bl_refl _) _) _) hb1
      have xF_1 : Bx w1 (w.heap.size) #[.int .i64 (n), .int .i64 (d)] := ((Bx.new (b := w.heap.size) _ #[.int .i64 (n), .int .i64 (d)] 55 (by first | rfl | simp)).alloc _).below hb1
      have xG_1 : Bx w1 (w.heap.size + 1) #[.int .i64 (x), .int .i64 (y)] := (Bx.new (b := w.heap.size + 1) _ #[.int .i64 (x), .int .i64 (y)] 55 (by first | rfl | simp)).below hb1
      obtain ⟨cF_1, fF_1, zF_1⟩ := xF_1.out
      obtain ⟨cG_1, fG_1, zG_1⟩ := xG_1.out
      go_wp2_with fail
      refine (soffE HX.out _ (by omega) (by omega) (by omega) (by omega)).mono ?_
      rintro e w2 ⟨rfl, hb2⟩
      have B2 : Bl w w2 := bl_call (bl_alloc (bl_alloc B1 _) _) hb2
      have xF_2 : Bx w2 (w.heap.size) #[.int .i64 (n), .int .i64 (d)] := ((xF_1.alloc _).alloc _).below hb2
      have xG_2 : Bx w2 (w.heap.size + 1) #[.int .i64 (x), .int .i64 (y)] := ((xG_1.alloc _).alloc _).below hb2
      have xL_2 : Bx w2 (w1.heap.size) #[.int .i64 (a), .int .i64 (b)] := ((Bx.new (b := w1.heap.size) _ #[.int .i64 (a), .int .i64 (b)] 55 (by first | rfl | simp)).alloc _).below hb2
      have xH_2 : Bx w2 (w1.heap.size + 1) #[.int .i64 (c), .int .i64 (e)] := (Bx.new (b := w1.heap.size + 1) _ #[.int .i64 (c), .int .i64 (e)] 55 (by first | rfl | simp)).below hb2
      clear cF_1 fF_1 zF_1 cG_1 fG_1 zG_1
      obtain ⟨cF_2, fF_2, zF_2⟩ := xF_2.out
      obtain ⟨cG_2, fG_2, zG_2⟩ := xG_2.out
      obtain ⟨cL_2, fL_2, zL_2⟩ := xL_2.out
      obtain ⟨cH_2, fH_2, zH_2⟩ := xH_2.out
      go_wp2_with fail
      refine (soffE HY.out _ (by omega) (by omega) (by omega) (by omega)).mono ?_
      rintro e w3 ⟨rfl, hb3⟩
      have B3 : Bl w w3 := bl_call B2 hb3
      have xF_3 : Bx w3 (w.heap.size) #[.int .i64 (n), .int .i64 (d)] := xF_2.below hb3
      have xG_3 : Bx w3 (w.heap.size + 1) #[.int .i64 (x), .int .i64 (y)] := xG_2.below hb3
      have xL_3 : Bx w3 (w1.heap.size) #[.int .i64 (a), .int .i64 (b)] := xL_2.below hb3
      have xH_3 : Bx w3 (w1.heap.size + 1) #[.int .i64 (c), .int .i64 (e)] := xH_2.below hb3
      clear cF_2 fF_2 zF_2 cG_2 fG_2 zG_2 cL_2 fL_2 zL_2 cH_2 fH_2 zH_2
      obtain ⟨cF_3, fF_3, zF_3⟩ := xF_3.out
      obtain ⟨cG_3, fG_3, zG_3⟩ := xG_3.out
      obtain ⟨cL_3, fL_3, zL_3⟩ := xL_3.out
      obtain ⟨cH_3, fH_3, zH_3⟩ := xH_3.out
      go_wp2
      go_ret
      exact ⟨ret_bool HR.out, B3⟩
    ·
      by_cases h1 : x = c
      · by_cases h2 : y = e
        ·
          have HR := Lib.hid (show true = secondF n d x y by rw [HW.out]; simp; omega)
          have k1 : (x == c) = true := by simp; omega
          have k2 : (y == e) = true := by simp; omega
          clear h1 h2
          go_enter Try.func121, Try.ntmps121
          go_wp2_with fail
          refine (sides_eq HS.out.o y (by omega) HSD.out _).mono ?_
          rintro e w1 ⟨rfl, hb1⟩
          have B1 : Bl w w1 := bl_call (bl_alloc (bl_alloc (bl_refl _) _) _) hb1
          have xF_1 : Bx w1 (w.heap.size) #[.int .i64 (n), .int .i64 (d)] := ((Bx.new (b := w.heap.size) _ #[.int .i64 (n), .int .i64 (d)] 55 (by first | rfl | simp)).alloc _).below hb1
          have xG_1 : Bx w1 (w.heap.size + 1) #[.int .i64 (x), .int .i64 (y)] := (Bx.new (b := w.heap.size + 1) _ #[.int .i64 (x), .int .i64 (y)] 55 (by first | rfl | simp)).below hb1
          obtain ⟨cF_1, fF_1, zF_1⟩ := xF_1.out
          obtain ⟨cG_1, fG_1, zG_1⟩ := xG_1.out
          go_wp2_with fail
          refine (soffE HX.out _ (by omega) (by omega) (by omega) (by omega)).mono ?_
          rintro e w2 ⟨rfl, hb2⟩
          have B2 : Bl w w2 := bl_call (bl_alloc (bl_alloc B1 _) _) hb2
          have xF_2 : Bx w2 (w.heap.size) #[.int .i64 (n), .int .i64 (d)] := ((xF_1.alloc _).alloc _).below hb2
          have xG_2 : Bx w2 (w.heap.size + 1) #[.int .i64 (x), .int .i64 (y)] := ((xG_1.alloc _).alloc _).below hb2
          have xL_2 : Bx w2 (w1.heap.size) #[.int .i64 (a), .int .i64 (b)] := ((Bx.new (b := w1.heap.size) _ #[.int .i64 (a), .int .i64 (b)] 55 (by first | rfl | simp)).alloc _).below hb2
          have xH_2 : Bx w2 (w1.heap.size + 1) #[.int .i64 (c), .int .i64 (e)] := (Bx.new (b := w1.heap.size + 1) _ #[.int .i64 (c), .int .i64 (e)] 55 (by first | rfl | simp)).below hb2
          clear cF_1 fF_1 zF_1 cG_1 fG_1 zG_1
          obtain ⟨cF_2, fF_2, zF_2⟩ := xF_2.out
          obtain ⟨cG_2, fG_2, zG_2⟩ := xG_2.out
          obtain ⟨cL_2, fL_2, zL_2⟩ := xL_2.out
          obtain ⟨cH_2, fH_2, zH_2⟩ := xH_2.out
          go_wp2_with fail
          refine (soffE HY.out _ (by omega) (by omega) (by omega) (by omega)).mono ?_
          rintro e w3 ⟨rfl, hb3⟩
          have B3 : Bl w w3 := bl_call B2 hb3
          have xF_3 : Bx w3 (w.heap.size) #[.int .i64 (n), .int .i64 (d)] := xF_2.below hb3
          have xG_3 : Bx w3 (w.heap.size + 1) #[.int .i64 (x), .int .i64 (y)] := xG_2.below hb3
          have xL_3 : Bx w3 (w1.heap.size) #[.int .i64 (a), .int .i64 (b)] := xL_2.below hb3
          have xH_3 : Bx w3 (w1.heap.size + 1) #[.int .i64 (c), .int .i64 (e)] := xH_2.below hb3
          clear cF_2 fF_2 zF_2 cG_2 fG_2 zG_2 cL_2 fL_2 zL_2 cH_2 fH_2 zH_2
          obtain ⟨cF_3, fF_3, zF_3⟩ := xF_3.out
          obtain ⟨cG_3, fG_3, zG_3⟩ := xG_3.out
          obtain ⟨cL_3, fL_3, zL_3⟩ := xL_3.out
          obtain ⟨cH_3, fH_3, zH_3⟩ := xH_3.out
          go_wp2
          go_ret
          exact ⟨ret_bool HR.out, B3⟩
        ·
          have HR := Lib.hid (show false = secondF n d x y by rw [HW.out]; simp; omega)
          have k1 : (x == c) = true := by simp; omega
          have k2 : (y == e) = false := by simp; omega
          clear h1 h2
          go_enter Try.func121, Try.ntmps121
          go_wp2_with fail
          refine (sides_eq HS.out.o y (by omega) HSD.out _).mono ?_
          rintro e w1 ⟨rfl, hb1⟩
          have B1 : Bl w w1 := bl_call (bl_alloc (bl_alloc (bl_refl _) _) _) hb1
          have xF_1 : Bx w1 (w.heap.size) #[.int .i64 (n), .int .i64 (d)] := ((Bx.new (b := w.heap.size) _ #[.int .i64 (n), .int .i64 (d)] 55 (by first | rfl | simp)).alloc _).below hb1
          have xG_1 : Bx w1 (w.heap.size + 1) #[.int .i64 (x), .int .i64 (y)] := (Bx.new (b := w.heap.size + 1) _ #[.int .i64 (x), .int .i64 (y)] 55 (by first | rfl | simp)).below hb1
          obtain ⟨cF_1, fF_1, zF_1⟩ := xF_1.out
          obtain ⟨cG_1, fG_1, zG_1⟩ := xG_1.out
          go_wp2_with fail
          refine (soffE HX.out _ (by omega) (by omega) (by omega) (by omega)).mono ?_
          rintro e w2 ⟨rfl, hb2⟩
          have B2 : Bl w w2 := bl_call (bl_alloc (bl_alloc B1 _) _) hb2
          have xF_2 : Bx w2 (w.heap.size) #[.int .i64 (n), .int .i64 (d)] := ((xF_1.alloc _).alloc _).below hb2
          have xG_2 : Bx w2 (w.heap.size + 1) #[.int .i64 (x), .int .i64 (y)] := ((xG_1.alloc _).alloc _).below hb2
          have xL_2 : Bx w2 (w1.heap.size) #[.int .i64 (a), .int .i64 (b)] := ((Bx.new (b := w1.heap.size) _ #[.int .i64 (a), .int .i64 (b)] 55 (by first | rfl | simp)).alloc _).below hb2
          have xH_2 : Bx w2 (w1.heap.size + 1) #[.int .i64 (c), .int .i64 (e)] := (Bx.new (b := w1.heap.size + 1) _ #[.int .i64 (c), .int .i64 (e)] 55 (by first | rfl | simp)).below hb2
          clear cF_1 fF_1 zF_1 cG_1 fG_1 zG_1
          obtain ⟨cF_2, fF_2, zF_2⟩ := xF_2.out
          obtain ⟨cG_2, fG_2, zG_2⟩ := xG_2.out
          obtain ⟨cL_2, fL_2, zL_2⟩ := xL_2.out
          obtain ⟨cH_2, fH_2, zH_2⟩ := xH_2.out
          go_wp2_with fail
          refine (soffE HY.out _ (by omega) (by omega) (by omega) (by omega)).mono ?_
          rintro e w3 ⟨rfl, hb3⟩
          have B3 : Bl w w3 := bl_call B2 hb3
          have xF_3 : Bx w3 (w.heap.size) #[.int .i64 (n), .int .i64 (d)] := xF_2.below hb3
          have xG_3 : Bx w3 (w.heap.size + 1) #[.int .i64 (x), .int .i64 (y)] := xG_2.below hb3
          have xL_3 : Bx w3 (w1.heap.size) #[.int .i64 (a), .int .i64 (b)] := xL_2.below hb3
          have xH_3 : Bx w3 (w1.heap.size + 1) #[.int .i64 (c), .int .i64 (e)] := xH_2.below hb3
          clear cF_2 fF_2 zF_2 cG_2 fG_2 zG_2 cL_2 fL_2 zL_2 cH_2 fH_2 zH_2
          obtain ⟨cF_3, fF_3, zF_3⟩ := xF_3.out
          obtain ⟨cG_3, fG_3, zG_3⟩ := xG_3.out
          obtain ⟨cL_3, fL_3, zL_3⟩ := xL_3.out
          obtain ⟨cH_3, fH_3, zH_3⟩ := xH_3.out
          go_wp2
          go_ret
          exact ⟨ret_bool HR.out, B3⟩
      ·
        have HR := Lib.hid (show false = secondF n d x y by rw [HW.out]; simp; omega)
        have k1 : (x == c) = false := by simp; omega
        clear h1
        go_enter Try.func121, Try.ntmps121
        go_wp2_with fail
        refine (sides_eq HS.out.o y (by omega) HSD.out _).mono ?_
        rintro e w1 ⟨rfl, hb1⟩
        have B1 : Bl w w1 := bl_call (bl_alloc (bl_alloc (bl_refl _) _) _) hb1
        have xF_1 : Bx w1 (w.heap.size) #[.int .i64 (n), .int .i64 (d)] := ((Bx.new (b := w.heap.size) _ #[.int .i64 (n), .int .i64 (d)] 55 (by first | rfl | simp)).alloc _).below hb1
        have xG_1 : Bx w1 (w.heap.size + 1) #[.int .i64 (x), .int .i64 (y)] := (Bx.new (b := w.heap.size + 1) _ #[.int .i64 (x), .int .i64 (y)] 55 (by first | rfl | simp)).below hb1
        obtain ⟨cF_1, fF_1, zF_1⟩ := xF_1.out
        obtain ⟨cG_1, fG_1, zG_1⟩ := xG_1.out
        go_wp2_with fail
        refine (soffE HX.out _ (by omega) (by omega) (by omega) (by omega)).mono ?_
        rintro e w2 ⟨rfl, hb2⟩
        have B2 : Bl w w2 := bl_call (bl_alloc (bl_alloc B1 _) _) hb2
        have xF_2 : Bx w2 (w.heap.size) #[.int .i64 (n), .int .i64 (d)] := ((xF_1.alloc _).alloc _).below hb2
        have xG_2 : Bx w2 (w.heap.size + 1) #[.int .i64 (x), .int .i64 (y)] := ((xG_1.alloc _).alloc _).below hb2
        have xL_2 : Bx w2 (w1.heap.size) #[.int .i64 (a), .int .i64 (b)] := ((Bx.new (b := w1.heap.size) _ #[.int .i64 (a), .int .i64 (b)] 55 (by first | rfl | simp)).alloc _).below hb2
        have xH_2 : Bx w2 (w1.heap.size + 1) #[.int .i64 (c), .int .i64 (e)] := (Bx.new (b := w1.heap.size + 1) _ #[.int .i64 (c), .int .i64 (e)] 55 (by first | rfl | simp)).below hb2
        clear cF_1 fF_1 zF_1 cG_1 fG_1 zG_1
        obtain ⟨cF_2, fF_2, zF_2⟩ := xF_2.out
        obtain ⟨cG_2, fG_2, zG_2⟩ := xG_2.out
        obtain ⟨cL_2, fL_2, zL_2⟩ := xL_2.out
        obtain ⟨cH_2, fH_2, zH_2⟩ := xH_2.out
        go_wp2_with fail
        refine (soffE HY.out _ (by omega) (by omega) (by omega) (by omega)).mono ?_
        rintro e w3 ⟨rfl, hb3⟩
        have B3 : Bl w w3 := bl_call B2 hb3
        have xF_3 : Bx w3 (w.heap.size) #[.int .i64 (n), .int .i64 (d)] := xF_2.below hb3
        have xG_3 : Bx w3 (w.heap.size + 1) #[.int .i64 (x), .int .i64 (y)] := xG_2.below hb3
        have xL_3 : Bx w3 (w1.heap.size) #[.int .i64 (a), .int .i64 (b)] := xL_2.below hb3
        have xH_3 : Bx w3 (w1.heap.size + 1) #[.int .i64 (c), .int .i64 (e)] := xH_2.below hb3
        clear cF_2 fF_2 zF_2 cG_2 fG_2 zG_2 cL_2 fL_2 zL_2 cH_2 fH_2 zH_2
        obtain ⟨cF_3, fF_3, zF_3⟩ := xF_3.out
        obtain ⟨cG_3, fG_3, zG_3⟩ := xG_3.out
        obtain ⟨cL_3, fL_3, zL_3⟩ := xL_3.out
        obtain ⟨cH_3, fH_3, zH_3⟩ := xH_3.out
        go_wp2
        go_ret
        exact ⟨ret_bool HR.out, B3⟩
  · by_cases h1 : x = n
    ·
      have HR := Lib.hid (show true = secondF n d x y by unfold secondF; rw [if_pos hy]; simp [h1])
      have k0 : (y == d) = true := by simp [hy]
      have k1 : (x == n) = true := by simp [h1]
      clear hy h1
      go_enter Try.func121, Try.ntmps121
      go_wp2
      go_ret
      exact ⟨ret_bool HR.out, (bl_alloc (bl_alloc (bl_refl _) _) _)⟩
    ·
      have HR := Lib.hid (show false = secondF n d x y by unfold secondF; rw [if_pos hy]; simp [h1])
      have k0 : (y == d) = true := by simp [hy]
      have k1 : (x == n) = false := by simp [h1]
      clear hy h1
      go_enter Try.func121, Try.ntmps121
      go_wp2
      go_ret
      exact ⟨ret_bool HR.out, (bl_alloc (bl_alloc (bl_refl _) _) _)⟩
  ·
    have HR := Lib.hid (show false = secondF n d x y by unfold secondF; rw [if_neg (by omega), if_pos hy])
    have k0 : (y == d) = false := by simp; omega
    go_enter Try.func121, Try.ntmps121
    go_wp2
    go_ret
    exact ⟨ret_bool HR.out, (bl_alloc (bl_alloc (bl_refl _) _) _)⟩

set_option maxRecDepth 100000 in
set_option maxHeartbeats 3200000 in
theorem spec_IsBestSecond (n d x y : Int) (w : World) :
    Calls Try.prog 53 #[.agg #[.int .i64 n, .int .i64 d], .agg #[.int .i64 x, .int .i64 y]] w fun r w' => r = .returned (.tuple #[.bool (isSecF n d x y).1, .int .i64 (isSecF n d x y).2]) ∧ Bl w w' := by
  by_cases hc : bestC true [(n, d), (x, y)] = 0
  ·
    have HR := Lib.hid (show isSecF n d x y = (secondF n d x y, 0) by rw [isSecF, if_pos hc])
    have hb : (bestC true [(n, d), (x, y)] != 0) = false := by simp [hc]
    have HS := Lib.hid (sm2_of hc)
    clear hc
    generalize hcc : bestC true [(n, d), (x, y)] = cc at *
    have HC := Lib.hid hcc
    clear hcc
    obtain ⟨n1, n2, d1, d2, x1, x2, y1, y2, _, _⟩ := HS.out
    have m1 := mul_bd n1 n2 (show 0 ≤ y by omega) y2
    have m2 := mul_bd x1 x2 (show 0 ≤ d by omega) d2
    go_enter Try.func53, Try.ntmps53
    go_wp2_with fail
    refine (l18Code_any _ _ _ (SlF.lit (fs := [(n, d), (x, y)]) (Bx.new (b := w.heap.size + 1 + 1) _ #[.int .i64 (n), .int .i64 (d), .int .i64 (x), .int .i64 (y)] 55 (by first | rfl | simp)) rfl (Nat.le_refl _) (by simp [maxLen]) (lit2 n d x y))).mono ?_
    rintro e w1 ⟨rfl, hb1⟩
    have B1 : Bl w w1 := bl_call (bl_alloc (bl_alloc (bl_alloc (bl_refl _) _) _) _) hb1
    have xF_1 : Bx w1 (w.heap.size) #[.int .i64 (n), .int .i64 (d)] := (((Bx.new (b := w.heap.size) _ #[.int .i64 (n), .int .i64 (d)] 55 (by first | rfl | simp)).alloc _).alloc _).below hb1
    have xG_1 : Bx w1 (w.heap.size + 1) #[.int .i64 (x), .int .i64 (y)] := ((Bx.new (b := w.heap.size + 1) _ #[.int .i64 (x), .int .i64 (y)] 55 (by first | rfl | simp)).alloc _).below hb1
    have xL_1 : Bx w1 (w.heap.size + 1 + 1) #[.int .i64 (n), .int .i64 (d), .int .i64 (x), .int .i64 (y)] := (Bx.new (b := w.heap.size + 1 + 1) _ #[.int .i64 (n), .int .i64 (d), .int .i64 (x), .int .i64 (y)] 55 (by first | rfl | simp)).below hb1
    obtain ⟨cF_1, fF_1, zF_1⟩ := xF_1.out
    obtain ⟨cG_1, fG_1, zG_1⟩ := xG_1.out
    obtain ⟨cL_1, fL_1, zL_1⟩ := xL_1.out
    rw [HC.out]
    go_wp2_with fail
    refine (second_any n d x y _ HS.out).mono ?_
    rintro e w2 ⟨rfl, hb2⟩
    have B2 : Bl w w2 := bl_call B1 hb2
    have xF_2 : Bx w2 (w.heap.size) #[.int .i64 (n), .int .i64 (d)] := xF_1.below hb2
    have xG_2 : Bx w2 (w.heap.size + 1) #[.int .i64 (x), .int .i64 (y)] := xG_1.below hb2
    have xL_2 : Bx w2 (w.heap.size + 1 + 1) #[.int .i64 (n), .int .i64 (d), .int .i64 (x), .int .i64 (y)] := xL_1.below hb2
    clear cF_1 fF_1 zF_1 cG_1 fG_1 zG_1 cL_1 fL_1 zL_1
    obtain ⟨cF_2, fF_2, zF_2⟩ := xF_2.out
    obtain ⟨cG_2, fG_2, zG_2⟩ := xG_2.out
    obtain ⟨cL_2, fL_2, zL_2⟩ := xL_2.out
    go_wp2
    go_ret2
    exact ⟨ret_bi HR.out, B2⟩
  ·
    have HR := Lib.hid (show isSecF n d x y = (false, bestC true [(n, d), (x, y)]) by rw [isSecF, if_neg hc])
    have hb : (bestC true [(n, d), (x, y)] != 0) = true := by simp [hc]
    clear hc
    generalize hcc : bestC true [(n, d), (x, y)] = cc at *
    have HC := Lib.hid hcc
    clear hcc
    go_enter Try.func53, Try.ntmps53
    go_wp2_with fail
    refine (l18Code_any _ _ _ (SlF.lit (fs := [(n, d), (x, y)]) (Bx.new (b := w.heap.size + 1 + 1) _ #[.int .i64 (n), .int .i64 (d), .int .i64 (x), .int .i64 (y)] 55 (by first | rfl | simp)) rfl (Nat.le_refl _) (by simp [maxLen]) (lit2 n d x y))).mono ?_
    rintro e w1 ⟨rfl, hb1⟩
    have B1 : Bl w w1 := bl_call (bl_alloc (bl_alloc (bl_alloc (bl_refl _) _) _) _) hb1
    have xF_1 : Bx w1 (w.heap.size) #[.int .i64 (n), .int .i64 (d)] := (((Bx.new (b := w.heap.size) _ #[.int .i64 (n), .int .i64 (d)] 55 (by first | rfl | simp)).alloc _).alloc _).below hb1
    have xG_1 : Bx w1 (w.heap.size + 1) #[.int .i64 (x), .int .i64 (y)] := ((Bx.new (b := w.heap.size + 1) _ #[.int .i64 (x), .int .i64 (y)] 55 (by first | rfl | simp)).alloc _).below hb1
    have xL_1 : Bx w1 (w.heap.size + 1 + 1) #[.int .i64 (n), .int .i64 (d), .int .i64 (x), .int .i64 (y)] := (Bx.new (b := w.heap.size + 1 + 1) _ #[.int .i64 (n), .int .i64 (d), .int .i64 (x), .int .i64 (y)] 55 (by first | rfl | simp)).below hb1
    obtain ⟨cF_1, fF_1, zF_1⟩ := xF_1.out
    obtain ⟨cG_1, fG_1, zG_1⟩ := xG_1.out
    obtain ⟨cL_1, fL_1, zL_1⟩ := xL_1.out
    rw [HC.out]
    go_wp2
    go_ret2
    exact ⟨ret_bi HR.out, B1⟩

end Go.Proofs.Ytgmofofokhlhnaa
