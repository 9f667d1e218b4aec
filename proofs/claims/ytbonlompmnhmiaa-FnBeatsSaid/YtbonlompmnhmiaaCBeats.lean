/- FnBeats holds: a fraction is best just if none beats it, and the nearest ones on both sides are neighbours. Conditions: none. -/
import Derived.Test.YtbonlompmnhmiaaOpenB
import Derived.Test.YtbonlompmnhmiaaDraw
import Derived.Test.YtbonlompmnhmiaaFbeats
namespace Go.Proofs.Ytbonlompmnhmiaa
open Go.RowKit Go.ChangeShapes Go.WideShapes Go.ChangeAt
set_option linter.unusedVariables false
set_option linter.unusedSimpArgs false

set_option maxRecDepth 100000 in
set_option maxHeartbeats 6400000 in
theorem lawBeats (v0 : Value) (x0 : List Int) (v1 : Value) (x1 : List Int) (w : World) (S0 : SlB w v0 x0) (S1 : SlB w v1 x1) :
    Calls Try.prog 7 #[v0, v1] w fun e w' => e = .returned (.bool true) ∧ Bl w w' := by
  have H0 := Lib.hid S0
  have H1 := Lib.hid S1
  obtain ⟨a0, c0, rfl, _⟩ := S0.form
  obtain ⟨a1, c1, rfl, _⟩ := S1.form
  clear S0 S1
  by_cases hl : 3000 < x0.length ∨ 3000 < x1.length
  · have hL := Lib.hid (decide_eq_true hl)
    clear hl
    go_enter Try.func7, Try.ntmps7
    go_wp2_with fail
    refine (a2long_any H0.out H1.out).mono ?_
    rintro e w9 ⟨rfl, rfl⟩
    rw [hL.out]
    go_wp2
    go_ret
    exact ⟨rfl, bl_refl _⟩
  · have hL := Lib.hid (decide_eq_false hl)
    have hl0 : x0.length ≤ 3000 := by omega
    have hl1 : x1.length ≤ 3000 := by omega
    clear hl
    go_enter Try.func7, Try.ntmps7
    go_wp2_with fail
    refine (a2long_any H0.out H1.out).mono ?_
    rintro e w9 ⟨rfl, rfl⟩
    rw [hL.out]
    go_wp2_with fail
    refine (a2small_any H0.out hl0).mono ?_
    rintro e w1 ⟨n, d, rfl, hg, hd, hn, hb1⟩
    have B1 : Bl w w1 := bl_call (bl_refl _) hb1
    have HOK := Lib.hid (show okF n d = true from ok_make hg (by omega) (by omega))
    clear hg
    go_wp2_with fail
    have B2 : Bl w (w1.alloc (.cells #[.int .i64 (n), .int .i64 (d)] 26)) := (bl_alloc B1 _)
    have xF_2 : Bx (w1.alloc (.cells #[.int .i64 (n), .int .i64 (d)] 26)) (w1.heap.size) #[.int .i64 (n), .int .i64 (d)] := (Bx.new (b := w1.heap.size) _ #[.int .i64 (n), .int .i64 (d)] 26 (by first | rfl | simp))
    have zz2 : w1.heap.size + 1 ≤ (w1.alloc (.cells #[.int .i64 (n), .int .i64 (d)] 26)).heap.size := (by simp)
    generalize (w1.alloc (.cells #[.int .i64 (n), .int .i64 (d)] 26)) = w2 at *
    obtain ⟨cF_2, fF_2, zF_2⟩ := xF_2.out
    have H1c := Lib.hid (H1.out.below B2)
    refine (a2small_any H1c.out hl1).mono ?_
    rintro e w3 ⟨x, y, rfl, hg, hy, hx, hb3⟩
    have B3 : Bl w w3 := bl_call B2 hb3
    have xF_3 : Bx w3 (w1.heap.size) #[.int .i64 (n), .int .i64 (d)] := xF_2.below hb3
    clear cF_2 fF_2 zF_2
    obtain ⟨cF_3, fF_3, zF_3⟩ := xF_3.out
    have H1c := Lib.hid (H1c.out.below hb3)
    have HOG := Lib.hid (show okF x y = true from ok_make hg (by omega) (by omega))
    clear hg
    have HB2 := Lib.hid (best2_zero HOK.out HOG.out hn (by omega) (by omega) (by omega))
    cases hff : firstF n d x y with
    | true =>
      have HFF := Lib.hid hff
      clear hff
      cases hsc : secondF n d x y with
      | true =>
        have HSC := Lib.hid hsc
        clear hsc
        have HF1 := Lib.hid (show isFirF n d x y = (true, 0) by rw [isFirF, if_pos HB2.out, HFF.out])
        have HF3 := Lib.hid (show isSecF n d x y = (true, 0) by rw [isSecF, if_pos HB2.out, HSC.out])
        have HF2 := Lib.hid (show beatsF n d x y = ((0, 0), 3) by rw [beatsF, if_pos HB2.out, if_pos HFF.out])
        go_wp2_with fail
        refine (impl_IsBestFirst n d x y _).mono ?_
        rintro e w4 ⟨rfl, hb4⟩
        have B4 : Bl w w4 := bl_call (bl_alloc B3 _) hb4
        have xF_4 : Bx w4 (w1.heap.size) #[.int .i64 (n), .int .i64 (d)] := (xF_3.alloc _).below hb4
        have xG_4 : Bx w4 (w3.heap.size) #[.int .i64 (x), .int .i64 (y)] := (Bx.new (b := w3.heap.size) _ #[.int .i64 (x), .int .i64 (y)] 26 (by first | rfl | simp)).below hb4
        clear cF_3 fF_3 zF_3
        obtain ⟨cF_4, fF_4, zF_4⟩ := xF_4.out
        obtain ⟨cG_4, fG_4, zG_4⟩ := xG_4.out
        rw [HF1.out]
        simp only []
        go_wp2_with fail
        refine (impl_BeatsFirst n d x y _).mono ?_
        rintro e w5 ⟨rfl, hb5⟩
        have B5 : Bl w w5 := bl_call B4 hb5
        have xF_5 : Bx w5 (w1.heap.size) #[.int .i64 (n), .int .i64 (d)] := xF_4.below hb5
        have xG_5 : Bx w5 (w3.heap.size) #[.int .i64 (x), .int .i64 (y)] := xG_4.below hb5
        clear cF_4 fF_4 zF_4 cG_4 fG_4 zG_4
        obtain ⟨cF_5, fF_5, zF_5⟩ := xF_5.out
        obtain ⟨cG_5, fG_5, zG_5⟩ := xG_5.out
        rw [HF2.out]
        simp only []
        go_wp2_with fail
        refine (impl_IsBestSecond n d x y _).mono ?_
        rintro e w6 ⟨rfl, hb6⟩
        have B6 : Bl w w6 := bl_call (bl_alloc B5 _) hb6
        have xF_6 : Bx w6 (w1.heap.size) #[.int .i64 (n), .int .i64 (d)] := (xF_5.alloc _).below hb6
        have xG_6 : Bx w6 (w3.heap.size) #[.int .i64 (x), .int .i64 (y)] := (xG_5.alloc _).below hb6
        have xH_6 : Bx w6 (w5.heap.size) #[.int .i64 (0), .int .i64 (0)] := (Bx.new (b := w5.heap.size) _ #[.int .i64 (0), .int .i64 (0)] 26 (by first | rfl | simp)).below hb6
        clear cF_5 fF_5 zF_5 cG_5 fG_5 zG_5
        obtain ⟨cF_6, fF_6, zF_6⟩ := xF_6.out
        obtain ⟨cG_6, fG_6, zG_6⟩ := xG_6.out
        obtain ⟨cH_6, fH_6, zH_6⟩ := xH_6.out
        rw [HF3.out]
        simp only []
        have H1d := Lib.hid (H1.out.below B6)
        go_wp2_with fail
        refine (bytes_at H1d.out (by omega) 0 200 (by omega) (by omega)).mono ?_
        rintro e w9 ⟨t, rfl, ht0, ht1, rfl⟩
        obtain ⟨m, hm⟩ : ∃ m, m = 1 + t := ⟨_, rfl⟩
        have HM := Lib.hid hm.symm
        have hmb : 1 ≤ m ∧ m ≤ 200 := by omega
        clear hm
        obtain ⟨a, b, p, q, N⟩ := nbr_of (m := m) HOK.out hn (by omega) (by omega)
        have R1 := Lib.hid N.r1
        have R2 := Lib.hid N.r2
        have O1 := Lib.hid N.o1
        have O2 := Lib.hid N.o2
        have l1 := N.l1
        have l2 := N.l2
        have OWN := Lib.hid N.own
        have FAR := Lib.hid N.far
        have ss := N.s
        clear N
        go_wp2_with fail
        rw [HM.out]
        refine (impl_LowerFraction n d m _).mono ?_
        rintro e w7 ⟨rfl, hb7⟩
        have B7 : Bl w w7 := bl_call B6 hb7
        have xF_7 : Bx w7 (w1.heap.size) #[.int .i64 (n), .int .i64 (d)] := xF_6.below hb7
        have xG_7 : Bx w7 (w3.heap.size) #[.int .i64 (x), .int .i64 (y)] := xG_6.below hb7
        have xH_7 : Bx w7 (w5.heap.size) #[.int .i64 (0), .int .i64 (0)] := xH_6.below hb7
        clear cF_6 fF_6 zF_6 cG_6 fG_6 zG_6 cH_6 fH_6 zH_6
        obtain ⟨cF_7, fF_7, zF_7⟩ := xF_7.out
        obtain ⟨cG_7, fG_7, zG_7⟩ := xG_7.out
        obtain ⟨cH_7, fH_7, zH_7⟩ := xH_7.out
        rw [R1.out]
        simp only []
        go_wp2_with fail
        refine (impl_UpperFraction n d m _).mono ?_
        rintro e w8 ⟨rfl, hb8⟩
        have B8 : Bl w w8 := bl_call (bl_alloc B7 _) hb8
        have xF_8 : Bx w8 (w1.heap.size) #[.int .i64 (n), .int .i64 (d)] := (xF_7.alloc _).below hb8
        have xG_8 : Bx w8 (w3.heap.size) #[.int .i64 (x), .int .i64 (y)] := (xG_7.alloc _).below hb8
        have xH_8 : Bx w8 (w5.heap.size) #[.int .i64 (0), .int .i64 (0)] := (xH_7.alloc _).below hb8
        have xL_8 : Bx w8 (w7.heap.size) #[.int .i64 (a), .int .i64 (b)] := (Bx.new (b := w7.heap.size) _ #[.int .i64 (a), .int .i64 (b)] 26 (by first | rfl | simp)).below hb8
        clear cF_7 fF_7 zF_7 cG_7 fG_7 zG_7 cH_7 fH_7 zH_7
        obtain ⟨cF_8, fF_8, zF_8⟩ := xF_8.out
        obtain ⟨cG_8, fG_8, zG_8⟩ := xG_8.out
        obtain ⟨cH_8, fH_8, zH_8⟩ := xH_8.out
        obtain ⟨cL_8, fL_8, zL_8⟩ := xL_8.out
        rw [R2.out]
        simp only []
        go_wp2_with fail
        refine (svalid_eq O1.out _).mono ?_
        rintro e w9 ⟨rfl, hb9⟩
        have B9 : Bl w w9 := bl_call (bl_alloc B8 _) hb9
        have xF_9 : Bx w9 (w1.heap.size) #[.int .i64 (n), .int .i64 (d)] := (xF_8.alloc _).below hb9
        have xG_9 : Bx w9 (w3.heap.size) #[.int .i64 (x), .int .i64 (y)] := (xG_8.alloc _).below hb9
        have xH_9 : Bx w9 (w5.heap.size) #[.int .i64 (0), .int .i64 (0)] := (xH_8.alloc _).below hb9
        have xL_9 : Bx w9 (w7.heap.size) #[.int .i64 (a), .int .i64 (b)] := (xL_8.alloc _).below hb9
        have xU_9 : Bx w9 (w8.heap.size) #[.int .i64 (p), .int .i64 (q)] := (Bx.new (b := w8.heap.size) _ #[.int .i64 (p), .int .i64 (q)] 26 (by first | rfl | simp)).below hb9
        clear cF_8 fF_8 zF_8 cG_8 fG_8 zG_8 cH_8 fH_8 zH_8 cL_8 fL_8 zL_8
        obtain ⟨cF_9, fF_9, zF_9⟩ := xF_9.out
        obtain ⟨cG_9, fG_9, zG_9⟩ := xG_9.out
        obtain ⟨cH_9, fH_9, zH_9⟩ := xH_9.out
        obtain ⟨cL_9, fL_9, zL_9⟩ := xL_9.out
        obtain ⟨cU_9, fU_9, zU_9⟩ := xU_9.out
        go_wp2_with fail
        refine (svalid_eq O2.out _).mono ?_
        rintro e w10 ⟨rfl, hb10⟩
        have B10 : Bl w w10 := bl_call B9 hb10
        have xF_10 : Bx w10 (w1.heap.size) #[.int .i64 (n), .int .i64 (d)] := xF_9.below hb10
        have xG_10 : Bx w10 (w3.heap.size) #[.int .i64 (x), .int .i64 (y)] := xG_9.below hb10
        have xH_10 : Bx w10 (w5.heap.size) #[.int .i64 (0), .int .i64 (0)] := xH_9.below hb10
        have xL_10 : Bx w10 (w7.heap.size) #[.int .i64 (a), .int .i64 (b)] := xL_9.below hb10
        have xU_10 : Bx w10 (w8.heap.size) #[.int .i64 (p), .int .i64 (q)] := xU_9.below hb10
        clear cF_9 fF_9 zF_9 cG_9 fG_9 zG_9 cH_9 fH_9 zH_9 cL_9 fL_9 zL_9 cU_9 fU_9 zU_9
        obtain ⟨cF_10, fF_10, zF_10⟩ := xF_10.out
        obtain ⟨cG_10, fG_10, zG_10⟩ := xG_10.out
        obtain ⟨cH_10, fH_10, zH_10⟩ := xH_10.out
        obtain ⟨cL_10, fL_10, zL_10⟩ := xL_10.out
        obtain ⟨cU_10, fU_10, zU_10⟩ := xU_10.out
        by_cases hdm : d ≤ m
        ·
          obtain ⟨⟨e1, e2⟩, e3, e4⟩ := OWN.out hdm
          have k1 : (a == n) = true := by simp [e1]
          have k2 : (b == d) = true := by simp [e2]
          have k3 : (p == n) = true := by simp [e3]
          have k4 : (q == d) = true := by simp [e4]
          clear e1 e2 e3 e4
          go_wp2
          go_ret
          exact ⟨rfl, B10⟩
        ·
          obtain ⟨s1, s2, s3, s4⟩ := FAR.out (by omega)
          have S1 := Lib.hid s1
          have S2 := Lib.hid s2
          have S3 := Lib.hid s3
          clear s1 s2 s3
          go_wp2_with fail
          refine (cmpFrS_eq O1.out HOK.out S1.out _ ss.1 (by omega) (by omega) (by omega)).mono ?_
          rintro e w11 ⟨rfl, hb11⟩
          have B11 : Bl w w11 := bl_call B10 hb11
          have xF_11 : Bx w11 (w1.heap.size) #[.int .i64 (n), .int .i64 (d)] := xF_10.below hb11
          have xG_11 : Bx w11 (w3.heap.size) #[.int .i64 (x), .int .i64 (y)] := xG_10.below hb11
          have xH_11 : Bx w11 (w5.heap.size) #[.int .i64 (0), .int .i64 (0)] := xH_10.below hb11
          have xL_11 : Bx w11 (w7.heap.size) #[.int .i64 (a), .int .i64 (b)] := xL_10.below hb11
          have xU_11 : Bx w11 (w8.heap.size) #[.int .i64 (p), .int .i64 (q)] := xU_10.below hb11
          clear cF_10 fF_10 zF_10 cG_10 fG_10 zG_10 cH_10 fH_10 zH_10 cL_10 fL_10 zL_10 cU_10 fU_10 zU_10
          obtain ⟨cF_11, fF_11, zF_11⟩ := xF_11.out
          obtain ⟨cG_11, fG_11, zG_11⟩ := xG_11.out
          obtain ⟨cH_11, fH_11, zH_11⟩ := xH_11.out
          obtain ⟨cL_11, fL_11, zL_11⟩ := xL_11.out
          obtain ⟨cU_11, fU_11, zU_11⟩ := xU_11.out
          go_wp2_with fail
          refine (cmpFrS_eq HOK.out O2.out S2.out _ (by omega) (by omega) ss.2 (by omega)).mono ?_
          rintro e w12 ⟨rfl, hb12⟩
          have B12 : Bl w w12 := bl_call B11 hb12
          have xF_12 : Bx w12 (w1.heap.size) #[.int .i64 (n), .int .i64 (d)] := xF_11.below hb12
          have xG_12 : Bx w12 (w3.heap.size) #[.int .i64 (x), .int .i64 (y)] := xG_11.below hb12
          have xH_12 : Bx w12 (w5.heap.size) #[.int .i64 (0), .int .i64 (0)] := xH_11.below hb12
          have xL_12 : Bx w12 (w7.heap.size) #[.int .i64 (a), .int .i64 (b)] := xL_11.below hb12
          have xU_12 : Bx w12 (w8.heap.size) #[.int .i64 (p), .int .i64 (q)] := xU_11.below hb12
          clear cF_11 fF_11 zF_11 cG_11 fG_11 zG_11 cH_11 fH_11 zH_11 cL_11 fL_11 zL_11 cU_11 fU_11 zU_11
          obtain ⟨cF_12, fF_12, zF_12⟩ := xF_12.out
          obtain ⟨cG_12, fG_12, zG_12⟩ := xG_12.out
          obtain ⟨cH_12, fH_12, zH_12⟩ := xH_12.out
          obtain ⟨cL_12, fL_12, zL_12⟩ := xL_12.out
          obtain ⟨cU_12, fU_12, zU_12⟩ := xU_12.out
          go_wp2_with fail
          refine (nbrS_eq O1.out O2.out S3.out _ ss.1 (by omega) ss.2 (by omega)).mono ?_
          rintro e w13 ⟨rfl, hb13⟩
          have B13 : Bl w w13 := bl_call B12 hb13
          have xF_13 : Bx w13 (w1.heap.size) #[.int .i64 (n), .int .i64 (d)] := xF_12.below hb13
          have xG_13 : Bx w13 (w3.heap.size) #[.int .i64 (x), .int .i64 (y)] := xG_12.below hb13
          have xH_13 : Bx w13 (w5.heap.size) #[.int .i64 (0), .int .i64 (0)] := xH_12.below hb13
          have xL_13 : Bx w13 (w7.heap.size) #[.int .i64 (a), .int .i64 (b)] := xL_12.below hb13
          have xU_13 : Bx w13 (w8.heap.size) #[.int .i64 (p), .int .i64 (q)] := xU_12.below hb13
          clear cF_12 fF_12 zF_12 cG_12 fG_12 zG_12 cH_12 fH_12 zH_12 cL_12 fL_12 zL_12 cU_12 fU_12 zU_12
          obtain ⟨cF_13, fF_13, zF_13⟩ := xF_13.out
          obtain ⟨cG_13, fG_13, zG_13⟩ := xG_13.out
          obtain ⟨cH_13, fH_13, zH_13⟩ := xH_13.out
          obtain ⟨cL_13, fL_13, zL_13⟩ := xL_13.out
          obtain ⟨cU_13, fU_13, zU_13⟩ := xU_13.out
          have hbq1 := (okF_bd O1.out).1
          have hbq2 := (okF_bd O2.out).1
          go_wp2
          go_ret
          exact ⟨rfl, B13⟩
      | false =>
        have HSC := Lib.hid hsc
        clear hsc
        have HF1 := Lib.hid (show isFirF n d x y = (true, 0) by rw [isFirF, if_pos HB2.out, HFF.out])
        have HF3 := Lib.hid (show isSecF n d x y = (false, 0) by rw [isSecF, if_pos HB2.out, HSC.out])
        have HF2 := Lib.hid (show beatsF n d x y = ((0, 0), 3) by rw [beatsF, if_pos HB2.out, if_pos HFF.out])
        go_wp2_with fail
        refine (impl_IsBestFirst n d x y _).mono ?_
        rintro e w4 ⟨rfl, hb4⟩
        have B4 : Bl w w4 := bl_call (bl_alloc B3 _) hb4
        have xF_4 : Bx w4 (w1.heap.size) #[.int .i64 (n), .int .i64 (d)] := (xF_3.alloc _).below hb4
        have xG_4 : Bx w4 (w3.heap.size) #[.int .i64 (x), .int .i64 (y)] := (Bx.new (b := w3.heap.size) _ #[.int .i64 (x), .int .i64 (y)] 26 (by first | rfl | simp)).below hb4
        clear cF_3 fF_3 zF_3
        obtain ⟨cF_4, fF_4, zF_4⟩ := xF_4.out
        obtain ⟨cG_4, fG_4, zG_4⟩ := xG_4.out
        rw [HF1.out]
        simp only []
        go_wp2_with fail
        refine (impl_BeatsFirst n d x y _).mono ?_
        rintro e w5 ⟨rfl, hb5⟩
        have B5 : Bl w w5 := bl_call B4 hb5
        have xF_5 : Bx w5 (w1.heap.size) #[.int .i64 (n), .int .i64 (d)] := xF_4.below hb5
        have xG_5 : Bx w5 (w3.heap.size) #[.int .i64 (x), .int .i64 (y)] := xG_4.below hb5
        clear cF_4 fF_4 zF_4 cG_4 fG_4 zG_4
        obtain ⟨cF_5, fF_5, zF_5⟩ := xF_5.out
        obtain ⟨cG_5, fG_5, zG_5⟩ := xG_5.out
        rw [HF2.out]
        simp only []
        go_wp2_with fail
        refine (impl_IsBestSecond n d x y _).mono ?_
        rintro e w6 ⟨rfl, hb6⟩
        have B6 : Bl w w6 := bl_call (bl_alloc B5 _) hb6
        have xF_6 : Bx w6 (w1.heap.size) #[.int .i64 (n), .int .i64 (d)] := (xF_5.alloc _).below hb6
        have xG_6 : Bx w6 (w3.heap.size) #[.int .i64 (x), .int .i64 (y)] := (xG_5.alloc _).below hb6
        have xH_6 : Bx w6 (w5.heap.size) #[.int .i64 (0), .int .i64 (0)] := (Bx.new (b := w5.heap.size) _ #[.int .i64 (0), .int .i64 (0)] 26 (by first | rfl | simp)).below hb6
        clear cF_5 fF_5 zF_5 cG_5 fG_5 zG_5
        obtain ⟨cF_6, fF_6, zF_6⟩ := xF_6.out
        obtain ⟨cG_6, fG_6, zG_6⟩ := xG_6.out
        obtain ⟨cH_6, fH_6, zH_6⟩ := xH_6.out
        rw [HF3.out]
        simp only []
        have H1d := Lib.hid (H1.out.below B6)
        go_wp2_with fail
        refine (bytes_at H1d.out (by omega) 0 200 (by omega) (by omega)).mono ?_
        rintro e w9 ⟨t, rfl, ht0, ht1, rfl⟩
        obtain ⟨m, hm⟩ : ∃ m, m = 1 + t := ⟨_, rfl⟩
        have HM := Lib.hid hm.symm
        have hmb : 1 ≤ m ∧ m ≤ 200 := by omega
        clear hm
        obtain ⟨a, b, p, q, N⟩ := nbr_of (m := m) HOK.out hn (by omega) (by omega)
        have R1 := Lib.hid N.r1
        have R2 := Lib.hid N.r2
        have O1 := Lib.hid N.o1
        have O2 := Lib.hid N.o2
        have l1 := N.l1
        have l2 := N.l2
        have OWN := Lib.hid N.own
        have FAR := Lib.hid N.far
        have ss := N.s
        clear N
        go_wp2_with fail
        rw [HM.out]
        refine (impl_LowerFraction n d m _).mono ?_
        rintro e w7 ⟨rfl, hb7⟩
        have B7 : Bl w w7 := bl_call B6 hb7
        have xF_7 : Bx w7 (w1.heap.size) #[.int .i64 (n), .int .i64 (d)] := xF_6.below hb7
        have xG_7 : Bx w7 (w3.heap.size) #[.int .i64 (x), .int .i64 (y)] := xG_6.below hb7
        have xH_7 : Bx w7 (w5.heap.size) #[.int .i64 (0), .int .i64 (0)] := xH_6.below hb7
        clear cF_6 fF_6 zF_6 cG_6 fG_6 zG_6 cH_6 fH_6 zH_6
        obtain ⟨cF_7, fF_7, zF_7⟩ := xF_7.out
        obtain ⟨cG_7, fG_7, zG_7⟩ := xG_7.out
        obtain ⟨cH_7, fH_7, zH_7⟩ := xH_7.out
        rw [R1.out]
        simp only []
        go_wp2_with fail
        refine (impl_UpperFraction n d m _).mono ?_
        rintro e w8 ⟨rfl, hb8⟩
        have B8 : Bl w w8 := bl_call (bl_alloc B7 _) hb8
        have xF_8 : Bx w8 (w1.heap.size) #[.int .i64 (n), .int .i64 (d)] := (xF_7.alloc _).below hb8
        have xG_8 : Bx w8 (w3.heap.size) #[.int .i64 (x), .int .i64 (y)] := (xG_7.alloc _).below hb8
        have xH_8 : Bx w8 (w5.heap.size) #[.int .i64 (0), .int .i64 (0)] := (xH_7.alloc _).below hb8
        have xL_8 : Bx w8 (w7.heap.size) #[.int .i64 (a), .int .i64 (b)] := (Bx.new (b := w7.heap.size) _ #[.int .i64 (a), .int .i64 (b)] 26 (by first | rfl | simp)).below hb8
        clear cF_7 fF_7 zF_7 cG_7 fG_7 zG_7 cH_7 fH_7 zH_7
        obtain ⟨cF_8, fF_8, zF_8⟩ := xF_8.out
        obtain ⟨cG_8, fG_8, zG_8⟩ := xG_8.out
        obtain ⟨cH_8, fH_8, zH_8⟩ := xH_8.out
        obtain ⟨cL_8, fL_8, zL_8⟩ := xL_8.out
        rw [R2.out]
        simp only []
        go_wp2_with fail
        refine (svalid_eq O1.out _).mono ?_
        rintro e w9 ⟨rfl, hb9⟩
        have B9 : Bl w w9 := bl_call (bl_alloc B8 _) hb9
        have xF_9 : Bx w9 (w1.heap.size) #[.int .i64 (n), .int .i64 (d)] := (xF_8.alloc _).below hb9
        have xG_9 : Bx w9 (w3.heap.size) #[.int .i64 (x), .int .i64 (y)] := (xG_8.alloc _).below hb9
        have xH_9 : Bx w9 (w5.heap.size) #[.int .i64 (0), .int .i64 (0)] := (xH_8.alloc _).below hb9
        have xL_9 : Bx w9 (w7.heap.size) #[.int .i64 (a), .int .i64 (b)] := (xL_8.alloc _).below hb9
        have xU_9 : Bx w9 (w8.heap.size) #[.int .i64 (p), .int .i64 (q)] := (Bx.new (b := w8.heap.size) _ #[.int .i64 (p), .int .i64 (q)] 26 (by first | rfl | simp)).below hb9
        clear cF_8 fF_8 zF_8 cG_8 fG_8 zG_8 cH_8 fH_8 zH_8 cL_8 fL_8 zL_8
        obtain ⟨cF_9, fF_9, zF_9⟩ := xF_9.out
        obtain ⟨cG_9, fG_9, zG_9⟩ := xG_9.out
        obtain ⟨cH_9, fH_9, zH_9⟩ := xH_9.out
        obtain ⟨cL_9, fL_9, zL_9⟩ := xL_9.out
        obtain ⟨cU_9, fU_9, zU_9⟩ := xU_9.out
        go_wp2_with fail
        refine (svalid_eq O2.out _).mono ?_
        rintro e w10 ⟨rfl, hb10⟩
        have B10 : Bl w w10 := bl_call B9 hb10
        have xF_10 : Bx w10 (w1.heap.size) #[.int .i64 (n), .int .i64 (d)] := xF_9.below hb10
        have xG_10 : Bx w10 (w3.heap.size) #[.int .i64 (x), .int .i64 (y)] := xG_9.below hb10
        have xH_10 : Bx w10 (w5.heap.size) #[.int .i64 (0), .int .i64 (0)] := xH_9.below hb10
        have xL_10 : Bx w10 (w7.heap.size) #[.int .i64 (a), .int .i64 (b)] := xL_9.below hb10
        have xU_10 : Bx w10 (w8.heap.size) #[.int .i64 (p), .int .i64 (q)] := xU_9.below hb10
        clear cF_9 fF_9 zF_9 cG_9 fG_9 zG_9 cH_9 fH_9 zH_9 cL_9 fL_9 zL_9 cU_9 fU_9 zU_9
        obtain ⟨cF_10, fF_10, zF_10⟩ := xF_10.out
        obtain ⟨cG_10, fG_10, zG_10⟩ := xG_10.out
        obtain ⟨cH_10, fH_10, zH_10⟩ := xH_10.out
        obtain ⟨cL_10, fL_10, zL_10⟩ := xL_10.out
        obtain ⟨cU_10, fU_10, zU_10⟩ := xU_10.out
        by_cases hdm : d ≤ m
        ·
          obtain ⟨⟨e1, e2⟩, e3, e4⟩ := OWN.out hdm
          have k1 : (a == n) = true := by simp [e1]
          have k2 : (b == d) = true := by simp [e2]
          have k3 : (p == n) = true := by simp [e3]
          have k4 : (q == d) = true := by simp [e4]
          clear e1 e2 e3 e4
          go_wp2
          go_ret
          exact ⟨rfl, B10⟩
        ·
          obtain ⟨s1, s2, s3, s4⟩ := FAR.out (by omega)
          have S1 := Lib.hid s1
          have S2 := Lib.hid s2
          have S3 := Lib.hid s3
          clear s1 s2 s3
          go_wp2_with fail
          refine (cmpFrS_eq O1.out HOK.out S1.out _ ss.1 (by omega) (by omega) (by omega)).mono ?_
          rintro e w11 ⟨rfl, hb11⟩
          have B11 : Bl w w11 := bl_call B10 hb11
          have xF_11 : Bx w11 (w1.heap.size) #[.int .i64 (n), .int .i64 (d)] := xF_10.below hb11
          have xG_11 : Bx w11 (w3.heap.size) #[.int .i64 (x), .int .i64 (y)] := xG_10.below hb11
          have xH_11 : Bx w11 (w5.heap.size) #[.int .i64 (0), .int .i64 (0)] := xH_10.below hb11
          have xL_11 : Bx w11 (w7.heap.size) #[.int .i64 (a), .int .i64 (b)] := xL_10.below hb11
          have xU_11 : Bx w11 (w8.heap.size) #[.int .i64 (p), .int .i64 (q)] := xU_10.below hb11
          clear cF_10 fF_10 zF_10 cG_10 fG_10 zG_10 cH_10 fH_10 zH_10 cL_10 fL_10 zL_10 cU_10 fU_10 zU_10
          obtain ⟨cF_11, fF_11, zF_11⟩ := xF_11.out
          obtain ⟨cG_11, fG_11, zG_11⟩ := xG_11.out
          obtain ⟨cH_11, fH_11, zH_11⟩ := xH_11.out
          obtain ⟨cL_11, fL_11, zL_11⟩ := xL_11.out
          obtain ⟨cU_11, fU_11, zU_11⟩ := xU_11.out
          go_wp2_with fail
          refine (cmpFrS_eq HOK.out O2.out S2.out _ (by omega) (by omega) ss.2 (by omega)).mono ?_
          rintro e w12 ⟨rfl, hb12⟩
          have B12 : Bl w w12 := bl_call B11 hb12
          have xF_12 : Bx w12 (w1.heap.size) #[.int .i64 (n), .int .i64 (d)] := xF_11.below hb12
          have xG_12 : Bx w12 (w3.heap.size) #[.int .i64 (x), .int .i64 (y)] := xG_11.below hb12
          have xH_12 : Bx w12 (w5.heap.size) #[.int .i64 (0), .int .i64 (0)] := xH_11.below hb12
          have xL_12 : Bx w12 (w7.heap.size) #[.int .i64 (a), .int .i64 (b)] := xL_11.below hb12
          have xU_12 : Bx w12 (w8.heap.size) #[.int .i64 (p), .int .i64 (q)] := xU_11.below hb12
          clear cF_11 fF_11 zF_11 cG_11 fG_11 zG_11 cH_11 fH_11 zH_11 cL_11 fL_11 zL_11 cU_11 fU_11 zU_11
          obtain ⟨cF_12, fF_12, zF_12⟩ := xF_12.out
          obtain ⟨cG_12, fG_12, zG_12⟩ := xG_12.out
          obtain ⟨cH_12, fH_12, zH_12⟩ := xH_12.out
          obtain ⟨cL_12, fL_12, zL_12⟩ := xL_12.out
          obtain ⟨cU_12, fU_12, zU_12⟩ := xU_12.out
          go_wp2_with fail
          refine (nbrS_eq O1.out O2.out S3.out _ ss.1 (by omega) ss.2 (by omega)).mono ?_
          rintro e w13 ⟨rfl, hb13⟩
          have B13 : Bl w w13 := bl_call B12 hb13
          have xF_13 : Bx w13 (w1.heap.size) #[.int .i64 (n), .int .i64 (d)] := xF_12.below hb13
          have xG_13 : Bx w13 (w3.heap.size) #[.int .i64 (x), .int .i64 (y)] := xG_12.below hb13
          have xH_13 : Bx w13 (w5.heap.size) #[.int .i64 (0), .int .i64 (0)] := xH_12.below hb13
          have xL_13 : Bx w13 (w7.heap.size) #[.int .i64 (a), .int .i64 (b)] := xL_12.below hb13
          have xU_13 : Bx w13 (w8.heap.size) #[.int .i64 (p), .int .i64 (q)] := xU_12.below hb13
          clear cF_12 fF_12 zF_12 cG_12 fG_12 zG_12 cH_12 fH_12 zH_12 cL_12 fL_12 zL_12 cU_12 fU_12 zU_12
          obtain ⟨cF_13, fF_13, zF_13⟩ := xF_13.out
          obtain ⟨cG_13, fG_13, zG_13⟩ := xG_13.out
          obtain ⟨cH_13, fH_13, zH_13⟩ := xH_13.out
          obtain ⟨cL_13, fL_13, zL_13⟩ := xL_13.out
          obtain ⟨cU_13, fU_13, zU_13⟩ := xU_13.out
          have hbq1 := (okF_bd O1.out).1
          have hbq2 := (okF_bd O2.out).1
          go_wp2
          go_ret
          exact ⟨rfl, B13⟩
    | false =>
      have HSC := Lib.hid (show secondF n d x y = false by cases hsc : secondF n d x y with | false => rfl | true => (have := sec_first HOK.out hy.1 hsc; rw [this] at hff; cases hff))
      have HFF := Lib.hid hff
      clear hff
      obtain ⟨hx1, hy1, c, L⟩ := bts_of HOK.out HOG.out hn (by omega) hx (by omega) HFF.out
      have HF2 := Lib.hid L.r
      have HC := Lib.hid L.cmp
      have c0 := L.c0
      have HNE := Lib.hid L.ne
      have hle := L.le
      have HOH := Lib.hid L.ok
      clear L
      by_cases ex : hx1 = x
      ·
        obtain rfl : x = hx1 := ex.symm
        have hyn : ¬ hy1 = y := fun e => HNE.out ⟨rfl, e⟩
        have HF1 := Lib.hid (show isFirF n d x y = (false, 0) by rw [isFirF, if_pos HB2.out, HFF.out])
        have HF3 := Lib.hid (show isSecF n d x y = (false, 0) by rw [isSecF, if_pos HB2.out, HSC.out])
        go_wp2_with fail
        refine (impl_IsBestFirst n d x y _).mono ?_
        rintro e w4 ⟨rfl, hb4⟩
        have B4 : Bl w w4 := bl_call (bl_alloc B3 _) hb4
        have xF_4 : Bx w4 (w1.heap.size) #[.int .i64 (n), .int .i64 (d)] := (xF_3.alloc _).below hb4
        have xG_4 : Bx w4 (w3.heap.size) #[.int .i64 (x), .int .i64 (y)] := (Bx.new (b := w3.heap.size) _ #[.int .i64 (x), .int .i64 (y)] 26 (by first | rfl | simp)).below hb4
        clear cF_3 fF_3 zF_3
        obtain ⟨cF_4, fF_4, zF_4⟩ := xF_4.out
        obtain ⟨cG_4, fG_4, zG_4⟩ := xG_4.out
        rw [HF1.out]
        simp only []
        go_wp2_with fail
        refine (impl_BeatsFirst n d x y _).mono ?_
        rintro e w5 ⟨rfl, hb5⟩
        have B5 : Bl w w5 := bl_call B4 hb5
        have xF_5 : Bx w5 (w1.heap.size) #[.int .i64 (n), .int .i64 (d)] := xF_4.below hb5
        have xG_5 : Bx w5 (w3.heap.size) #[.int .i64 (x), .int .i64 (y)] := xG_4.below hb5
        clear cF_4 fF_4 zF_4 cG_4 fG_4 zG_4
        obtain ⟨cF_5, fF_5, zF_5⟩ := xF_5.out
        obtain ⟨cG_5, fG_5, zG_5⟩ := xG_5.out
        rw [HF2.out]
        simp only []
        go_wp2_with fail
        refine (impl_IsBestSecond n d x y _).mono ?_
        rintro e w6 ⟨rfl, hb6⟩
        have B6 : Bl w w6 := bl_call (bl_alloc B5 _) hb6
        have xF_6 : Bx w6 (w1.heap.size) #[.int .i64 (n), .int .i64 (d)] := (xF_5.alloc _).below hb6
        have xG_6 : Bx w6 (w3.heap.size) #[.int .i64 (x), .int .i64 (y)] := (xG_5.alloc _).below hb6
        have xH_6 : Bx w6 (w5.heap.size) #[.int .i64 (x), .int .i64 (hy1)] := (Bx.new (b := w5.heap.size) _ #[.int .i64 (x), .int .i64 (hy1)] 26 (by first | rfl | simp)).below hb6
        clear cF_5 fF_5 zF_5 cG_5 fG_5 zG_5
        obtain ⟨cF_6, fF_6, zF_6⟩ := xF_6.out
        obtain ⟨cG_6, fG_6, zG_6⟩ := xG_6.out
        obtain ⟨cH_6, fH_6, zH_6⟩ := xH_6.out
        rw [HF3.out]
        simp only []
        go_wp2_with fail
        refine (spec_CompareErrors n d x hy1 x y _).mono ?_
        rintro e w7 ⟨rfl, hb7⟩
        have B7 : Bl w w7 := bl_call B6 hb7
        have xF_7 : Bx w7 (w1.heap.size) #[.int .i64 (n), .int .i64 (d)] := xF_6.below hb7
        have xG_7 : Bx w7 (w3.heap.size) #[.int .i64 (x), .int .i64 (y)] := xG_6.below hb7
        have xH_7 : Bx w7 (w5.heap.size) #[.int .i64 (x), .int .i64 (hy1)] := xH_6.below hb7
        clear cF_6 fF_6 zF_6 cG_6 fG_6 zG_6 cH_6 fH_6 zH_6
        obtain ⟨cF_7, fF_7, zF_7⟩ := xF_7.out
        obtain ⟨cG_7, fG_7, zG_7⟩ := xG_7.out
        obtain ⟨cH_7, fH_7, zH_7⟩ := xH_7.out
        rw [HC.out]
        simp only []
        go_wp2_with fail
        refine (svalid_eq HOH.out _).mono ?_
        rintro e w8 ⟨rfl, hb8⟩
        have B8 : Bl w w8 := bl_call B7 hb8
        have xF_8 : Bx w8 (w1.heap.size) #[.int .i64 (n), .int .i64 (d)] := xF_7.below hb8
        have xG_8 : Bx w8 (w3.heap.size) #[.int .i64 (x), .int .i64 (y)] := xG_7.below hb8
        have xH_8 : Bx w8 (w5.heap.size) #[.int .i64 (x), .int .i64 (hy1)] := xH_7.below hb8
        clear cF_7 fF_7 zF_7 cG_7 fG_7 zG_7 cH_7 fH_7 zH_7
        obtain ⟨cF_8, fF_8, zF_8⟩ := xF_8.out
        obtain ⟨cG_8, fG_8, zG_8⟩ := xG_8.out
        obtain ⟨cH_8, fH_8, zH_8⟩ := xH_8.out
        have H1d := Lib.hid (H1.out.below B8)
        go_wp2_with fail
        refine (bytes_at H1d.out (by omega) 0 200 (by omega) (by omega)).mono ?_
        rintro e w9 ⟨t, rfl, ht0, ht1, rfl⟩
        obtain ⟨m, hm⟩ : ∃ m, m = 1 + t := ⟨_, rfl⟩
        have HM := Lib.hid hm.symm
        have hmb : 1 ≤ m ∧ m ≤ 200 := by omega
        clear hm
        obtain ⟨a, b, p, q, N⟩ := nbr_of (m := m) HOK.out hn (by omega) (by omega)
        have R1 := Lib.hid N.r1
        have R2 := Lib.hid N.r2
        have O1 := Lib.hid N.o1
        have O2 := Lib.hid N.o2
        have l1 := N.l1
        have l2 := N.l2
        have OWN := Lib.hid N.own
        have FAR := Lib.hid N.far
        have ss := N.s
        clear N
        go_wp2_with fail
        rw [HM.out]
        refine (impl_LowerFraction n d m _).mono ?_
        rintro e w9 ⟨rfl, hb9⟩
        have B9 : Bl w w9 := bl_call B8 hb9
        have xF_9 : Bx w9 (w1.heap.size) #[.int .i64 (n), .int .i64 (d)] := xF_8.below hb9
        have xG_9 : Bx w9 (w3.heap.size) #[.int .i64 (x), .int .i64 (y)] := xG_8.below hb9
        have xH_9 : Bx w9 (w5.heap.size) #[.int .i64 (x), .int .i64 (hy1)] := xH_8.below hb9
        clear cF_8 fF_8 zF_8 cG_8 fG_8 zG_8 cH_8 fH_8 zH_8
        obtain ⟨cF_9, fF_9, zF_9⟩ := xF_9.out
        obtain ⟨cG_9, fG_9, zG_9⟩ := xG_9.out
        obtain ⟨cH_9, fH_9, zH_9⟩ := xH_9.out
        rw [R1.out]
        simp only []
        go_wp2_with fail
        refine (impl_UpperFraction n d m _).mono ?_
        rintro e w10 ⟨rfl, hb10⟩
        have B10 : Bl w w10 := bl_call (bl_alloc B9 _) hb10
        have xF_10 : Bx w10 (w1.heap.size) #[.int .i64 (n), .int .i64 (d)] := (xF_9.alloc _).below hb10
        have xG_10 : Bx w10 (w3.heap.size) #[.int .i64 (x), .int .i64 (y)] := (xG_9.alloc _).below hb10
        have xH_10 : Bx w10 (w5.heap.size) #[.int .i64 (x), .int .i64 (hy1)] := (xH_9.alloc _).below hb10
        have xL_10 : Bx w10 (w9.heap.size) #[.int .i64 (a), .int .i64 (b)] := (Bx.new (b := w9.heap.size) _ #[.int .i64 (a), .int .i64 (b)] 26 (by first | rfl | simp)).below hb10
        clear cF_9 fF_9 zF_9 cG_9 fG_9 zG_9 cH_9 fH_9 zH_9
        obtain ⟨cF_10, fF_10, zF_10⟩ := xF_10.out
        obtain ⟨cG_10, fG_10, zG_10⟩ := xG_10.out
        obtain ⟨cH_10, fH_10, zH_10⟩ := xH_10.out
        obtain ⟨cL_10, fL_10, zL_10⟩ := xL_10.out
        rw [R2.out]
        simp only []
        go_wp2_with fail
        refine (svalid_eq O1.out _).mono ?_
        rintro e w11 ⟨rfl, hb11⟩
        have B11 : Bl w w11 := bl_call (bl_alloc B10 _) hb11
        have xF_11 : Bx w11 (w1.heap.size) #[.int .i64 (n), .int .i64 (d)] := (xF_10.alloc _).below hb11
        have xG_11 : Bx w11 (w3.heap.size) #[.int .i64 (x), .int .i64 (y)] := (xG_10.alloc _).below hb11
        have xH_11 : Bx w11 (w5.heap.size) #[.int .i64 (x), .int .i64 (hy1)] := (xH_10.alloc _).below hb11
        have xL_11 : Bx w11 (w9.heap.size) #[.int .i64 (a), .int .i64 (b)] := (xL_10.alloc _).below hb11
        have xU_11 : Bx w11 (w10.heap.size) #[.int .i64 (p), .int .i64 (q)] := (Bx.new (b := w10.heap.size) _ #[.int .i64 (p), .int .i64 (q)] 26 (by first | rfl | simp)).below hb11
        clear cF_10 fF_10 zF_10 cG_10 fG_10 zG_10 cH_10 fH_10 zH_10 cL_10 fL_10 zL_10
        obtain ⟨cF_11, fF_11, zF_11⟩ := xF_11.out
        obtain ⟨cG_11, fG_11, zG_11⟩ := xG_11.out
        obtain ⟨cH_11, fH_11, zH_11⟩ := xH_11.out
        obtain ⟨cL_11, fL_11, zL_11⟩ := xL_11.out
        obtain ⟨cU_11, fU_11, zU_11⟩ := xU_11.out
        go_wp2_with fail
        refine (svalid_eq O2.out _).mono ?_
        rintro e w12 ⟨rfl, hb12⟩
        have B12 : Bl w w12 := bl_call B11 hb12
        have xF_12 : Bx w12 (w1.heap.size) #[.int .i64 (n), .int .i64 (d)] := xF_11.below hb12
        have xG_12 : Bx w12 (w3.heap.size) #[.int .i64 (x), .int .i64 (y)] := xG_11.below hb12
        have xH_12 : Bx w12 (w5.heap.size) #[.int .i64 (x), .int .i64 (hy1)] := xH_11.below hb12
        have xL_12 : Bx w12 (w9.heap.size) #[.int .i64 (a), .int .i64 (b)] := xL_11.below hb12
        have xU_12 : Bx w12 (w10.heap.size) #[.int .i64 (p), .int .i64 (q)] := xU_11.below hb12
        clear cF_11 fF_11 zF_11 cG_11 fG_11 zG_11 cH_11 fH_11 zH_11 cL_11 fL_11 zL_11 cU_11 fU_11 zU_11
        obtain ⟨cF_12, fF_12, zF_12⟩ := xF_12.out
        obtain ⟨cG_12, fG_12, zG_12⟩ := xG_12.out
        obtain ⟨cH_12, fH_12, zH_12⟩ := xH_12.out
        obtain ⟨cL_12, fL_12, zL_12⟩ := xL_12.out
        obtain ⟨cU_12, fU_12, zU_12⟩ := xU_12.out
        by_cases hdm : d ≤ m
        ·
          obtain ⟨⟨e1, e2⟩, e3, e4⟩ := OWN.out hdm
          have k1 : (a == n) = true := by simp [e1]
          have k2 : (b == d) = true := by simp [e2]
          have k3 : (p == n) = true := by simp [e3]
          have k4 : (q == d) = true := by simp [e4]
          clear e1 e2 e3 e4
          go_wp2
          go_ret
          exact ⟨rfl, B12⟩
        ·
          obtain ⟨s1, s2, s3, s4⟩ := FAR.out (by omega)
          have S1 := Lib.hid s1
          have S2 := Lib.hid s2
          have S3 := Lib.hid s3
          clear s1 s2 s3
          go_wp2_with fail
          refine (cmpFrS_eq O1.out HOK.out S1.out _ ss.1 (by omega) (by omega) (by omega)).mono ?_
          rintro e w13 ⟨rfl, hb13⟩
          have B13 : Bl w w13 := bl_call B12 hb13
          have xF_13 : Bx w13 (w1.heap.size) #[.int .i64 (n), .int .i64 (d)] := xF_12.below hb13
          have xG_13 : Bx w13 (w3.heap.size) #[.int .i64 (x), .int .i64 (y)] := xG_12.below hb13
          have xH_13 : Bx w13 (w5.heap.size) #[.int .i64 (x), .int .i64 (hy1)] := xH_12.below hb13
          have xL_13 : Bx w13 (w9.heap.size) #[.int .i64 (a), .int .i64 (b)] := xL_12.below hb13
          have xU_13 : Bx w13 (w10.heap.size) #[.int .i64 (p), .int .i64 (q)] := xU_12.below hb13
          clear cF_12 fF_12 zF_12 cG_12 fG_12 zG_12 cH_12 fH_12 zH_12 cL_12 fL_12 zL_12 cU_12 fU_12 zU_12
          obtain ⟨cF_13, fF_13, zF_13⟩ := xF_13.out
          obtain ⟨cG_13, fG_13, zG_13⟩ := xG_13.out
          obtain ⟨cH_13, fH_13, zH_13⟩ := xH_13.out
          obtain ⟨cL_13, fL_13, zL_13⟩ := xL_13.out
          obtain ⟨cU_13, fU_13, zU_13⟩ := xU_13.out
          go_wp2_with fail
          refine (cmpFrS_eq HOK.out O2.out S2.out _ (by omega) (by omega) ss.2 (by omega)).mono ?_
          rintro e w14 ⟨rfl, hb14⟩
          have B14 : Bl w w14 := bl_call B13 hb14
          have xF_14 : Bx w14 (w1.heap.size) #[.int .i64 (n), .int .i64 (d)] := xF_13.below hb14
          have xG_14 : Bx w14 (w3.heap.size) #[.int .i64 (x), .int .i64 (y)] := xG_13.below hb14
          have xH_14 : Bx w14 (w5.heap.size) #[.int .i64 (x), .int .i64 (hy1)] := xH_13.below hb14
          have xL_14 : Bx w14 (w9.heap.size) #[.int .i64 (a), .int .i64 (b)] := xL_13.below hb14
          have xU_14 : Bx w14 (w10.heap.size) #[.int .i64 (p), .int .i64 (q)] := xU_13.below hb14
          clear cF_13 fF_13 zF_13 cG_13 fG_13 zG_13 cH_13 fH_13 zH_13 cL_13 fL_13 zL_13 cU_13 fU_13 zU_13
          obtain ⟨cF_14, fF_14, zF_14⟩ := xF_14.out
          obtain ⟨cG_14, fG_14, zG_14⟩ := xG_14.out
          obtain ⟨cH_14, fH_14, zH_14⟩ := xH_14.out
          obtain ⟨cL_14, fL_14, zL_14⟩ := xL_14.out
          obtain ⟨cU_14, fU_14, zU_14⟩ := xU_14.out
          go_wp2_with fail
          refine (nbrS_eq O1.out O2.out S3.out _ ss.1 (by omega) ss.2 (by omega)).mono ?_
          rintro e w15 ⟨rfl, hb15⟩
          have B15 : Bl w w15 := bl_call B14 hb15
          have xF_15 : Bx w15 (w1.heap.size) #[.int .i64 (n), .int .i64 (d)] := xF_14.below hb15
          have xG_15 : Bx w15 (w3.heap.size) #[.int .i64 (x), .int .i64 (y)] := xG_14.below hb15
          have xH_15 : Bx w15 (w5.heap.size) #[.int .i64 (x), .int .i64 (hy1)] := xH_14.below hb15
          have xL_15 : Bx w15 (w9.heap.size) #[.int .i64 (a), .int .i64 (b)] := xL_14.below hb15
          have xU_15 : Bx w15 (w10.heap.size) #[.int .i64 (p), .int .i64 (q)] := xU_14.below hb15
          clear cF_14 fF_14 zF_14 cG_14 fG_14 zG_14 cH_14 fH_14 zH_14 cL_14 fL_14 zL_14 cU_14 fU_14 zU_14
          obtain ⟨cF_15, fF_15, zF_15⟩ := xF_15.out
          obtain ⟨cG_15, fG_15, zG_15⟩ := xG_15.out
          obtain ⟨cH_15, fH_15, zH_15⟩ := xH_15.out
          obtain ⟨cL_15, fL_15, zL_15⟩ := xL_15.out
          obtain ⟨cU_15, fU_15, zU_15⟩ := xU_15.out
          have hbq1 := (okF_bd O1.out).1
          have hbq2 := (okF_bd O2.out).1
          go_wp2
          go_ret
          exact ⟨rfl, B15⟩
      ·
        have HF1 := Lib.hid (show isFirF n d x y = (false, 0) by rw [isFirF, if_pos HB2.out, HFF.out])
        have HF3 := Lib.hid (show isSecF n d x y = (false, 0) by rw [isSecF, if_pos HB2.out, HSC.out])
        go_wp2_with fail
        refine (impl_IsBestFirst n d x y _).mono ?_
        rintro e w4 ⟨rfl, hb4⟩
        have B4 : Bl w w4 := bl_call (bl_alloc B3 _) hb4
        have xF_4 : Bx w4 (w1.heap.size) #[.int .i64 (n), .int .i64 (d)] := (xF_3.alloc _).below hb4
        have xG_4 : Bx w4 (w3.heap.size) #[.int .i64 (x), .int .i64 (y)] := (Bx.new (b := w3.heap.size) _ #[.int .i64 (x), .int .i64 (y)] 26 (by first | rfl | simp)).below hb4
        clear cF_3 fF_3 zF_3
        obtain ⟨cF_4, fF_4, zF_4⟩ := xF_4.out
        obtain ⟨cG_4, fG_4, zG_4⟩ := xG_4.out
        rw [HF1.out]
        simp only []
        go_wp2_with fail
        refine (impl_BeatsFirst n d x y _).mono ?_
        rintro e w5 ⟨rfl, hb5⟩
        have B5 : Bl w w5 := bl_call B4 hb5
        have xF_5 : Bx w5 (w1.heap.size) #[.int .i64 (n), .int .i64 (d)] := xF_4.below hb5
        have xG_5 : Bx w5 (w3.heap.size) #[.int .i64 (x), .int .i64 (y)] := xG_4.below hb5
        clear cF_4 fF_4 zF_4 cG_4 fG_4 zG_4
        obtain ⟨cF_5, fF_5, zF_5⟩ := xF_5.out
        obtain ⟨cG_5, fG_5, zG_5⟩ := xG_5.out
        rw [HF2.out]
        simp only []
        go_wp2_with fail
        refine (impl_IsBestSecond n d x y _).mono ?_
        rintro e w6 ⟨rfl, hb6⟩
        have B6 : Bl w w6 := bl_call (bl_alloc B5 _) hb6
        have xF_6 : Bx w6 (w1.heap.size) #[.int .i64 (n), .int .i64 (d)] := (xF_5.alloc _).below hb6
        have xG_6 : Bx w6 (w3.heap.size) #[.int .i64 (x), .int .i64 (y)] := (xG_5.alloc _).below hb6
        have xH_6 : Bx w6 (w5.heap.size) #[.int .i64 (hx1), .int .i64 (hy1)] := (Bx.new (b := w5.heap.size) _ #[.int .i64 (hx1), .int .i64 (hy1)] 26 (by first | rfl | simp)).below hb6
        clear cF_5 fF_5 zF_5 cG_5 fG_5 zG_5
        obtain ⟨cF_6, fF_6, zF_6⟩ := xF_6.out
        obtain ⟨cG_6, fG_6, zG_6⟩ := xG_6.out
        obtain ⟨cH_6, fH_6, zH_6⟩ := xH_6.out
        rw [HF3.out]
        simp only []
        go_wp2_with fail
        refine (spec_CompareErrors n d hx1 hy1 x y _).mono ?_
        rintro e w7 ⟨rfl, hb7⟩
        have B7 : Bl w w7 := bl_call B6 hb7
        have xF_7 : Bx w7 (w1.heap.size) #[.int .i64 (n), .int .i64 (d)] := xF_6.below hb7
        have xG_7 : Bx w7 (w3.heap.size) #[.int .i64 (x), .int .i64 (y)] := xG_6.below hb7
        have xH_7 : Bx w7 (w5.heap.size) #[.int .i64 (hx1), .int .i64 (hy1)] := xH_6.below hb7
        clear cF_6 fF_6 zF_6 cG_6 fG_6 zG_6 cH_6 fH_6 zH_6
        obtain ⟨cF_7, fF_7, zF_7⟩ := xF_7.out
        obtain ⟨cG_7, fG_7, zG_7⟩ := xG_7.out
        obtain ⟨cH_7, fH_7, zH_7⟩ := xH_7.out
        rw [HC.out]
        simp only []
        go_wp2_with fail
        refine (svalid_eq HOH.out _).mono ?_
        rintro e w8 ⟨rfl, hb8⟩
        have B8 : Bl w w8 := bl_call B7 hb8
        have xF_8 : Bx w8 (w1.heap.size) #[.int .i64 (n), .int .i64 (d)] := xF_7.below hb8
        have xG_8 : Bx w8 (w3.heap.size) #[.int .i64 (x), .int .i64 (y)] := xG_7.below hb8
        have xH_8 : Bx w8 (w5.heap.size) #[.int .i64 (hx1), .int .i64 (hy1)] := xH_7.below hb8
        clear cF_7 fF_7 zF_7 cG_7 fG_7 zG_7 cH_7 fH_7 zH_7
        obtain ⟨cF_8, fF_8, zF_8⟩ := xF_8.out
        obtain ⟨cG_8, fG_8, zG_8⟩ := xG_8.out
        obtain ⟨cH_8, fH_8, zH_8⟩ := xH_8.out
        have H1d := Lib.hid (H1.out.below B8)
        go_wp2_with fail
        refine (bytes_at H1d.out (by omega) 0 200 (by omega) (by omega)).mono ?_
        rintro e w9 ⟨t, rfl, ht0, ht1, rfl⟩
        obtain ⟨m, hm⟩ : ∃ m, m = 1 + t := ⟨_, rfl⟩
        have HM := Lib.hid hm.symm
        have hmb : 1 ≤ m ∧ m ≤ 200 := by omega
        clear hm
        obtain ⟨a, b, p, q, N⟩ := nbr_of (m := m) HOK.out hn (by omega) (by omega)
        have R1 := Lib.hid N.r1
        have R2 := Lib.hid N.r2
        have O1 := Lib.hid N.o1
        have O2 := Lib.hid N.o2
        have l1 := N.l1
        have l2 := N.l2
        have OWN := Lib.hid N.own
        have FAR := Lib.hid N.far
        have ss := N.s
        clear N
        go_wp2_with fail
        rw [HM.out]
        refine (impl_LowerFraction n d m _).mono ?_
        rintro e w9 ⟨rfl, hb9⟩
        have B9 : Bl w w9 := bl_call B8 hb9
        have xF_9 : Bx w9 (w1.heap.size) #[.int .i64 (n), .int .i64 (d)] := xF_8.below hb9
        have xG_9 : Bx w9 (w3.heap.size) #[.int .i64 (x), .int .i64 (y)] := xG_8.below hb9
        have xH_9 : Bx w9 (w5.heap.size) #[.int .i64 (hx1), .int .i64 (hy1)] := xH_8.below hb9
        clear cF_8 fF_8 zF_8 cG_8 fG_8 zG_8 cH_8 fH_8 zH_8
        obtain ⟨cF_9, fF_9, zF_9⟩ := xF_9.out
        obtain ⟨cG_9, fG_9, zG_9⟩ := xG_9.out
        obtain ⟨cH_9, fH_9, zH_9⟩ := xH_9.out
        rw [R1.out]
        simp only []
        go_wp2_with fail
        refine (impl_UpperFraction n d m _).mono ?_
        rintro e w10 ⟨rfl, hb10⟩
        have B10 : Bl w w10 := bl_call (bl_alloc B9 _) hb10
        have xF_10 : Bx w10 (w1.heap.size) #[.int .i64 (n), .int .i64 (d)] := (xF_9.alloc _).below hb10
        have xG_10 : Bx w10 (w3.heap.size) #[.int .i64 (x), .int .i64 (y)] := (xG_9.alloc _).below hb10
        have xH_10 : Bx w10 (w5.heap.size) #[.int .i64 (hx1), .int .i64 (hy1)] := (xH_9.alloc _).below hb10
        have xL_10 : Bx w10 (w9.heap.size) #[.int .i64 (a), .int .i64 (b)] := (Bx.new (b := w9.heap.size) _ #[.int .i64 (a), .int .i64 (b)] 26 (by first | rfl | simp)).below hb10
        clear cF_9 fF_9 zF_9 cG_9 fG_9 zG_9 cH_9 fH_9 zH_9
        obtain ⟨cF_10, fF_10, zF_10⟩ := xF_10.out
        obtain ⟨cG_10, fG_10, zG_10⟩ := xG_10.out
        obtain ⟨cH_10, fH_10, zH_10⟩ := xH_10.out
        obtain ⟨cL_10, fL_10, zL_10⟩ := xL_10.out
        rw [R2.out]
        simp only []
        go_wp2_with fail
        refine (svalid_eq O1.out _).mono ?_
        rintro e w11 ⟨rfl, hb11⟩
        have B11 : Bl w w11 := bl_call (bl_alloc B10 _) hb11
        have xF_11 : Bx w11 (w1.heap.size) #[.int .i64 (n), .int .i64 (d)] := (xF_10.alloc _).below hb11
        have xG_11 : Bx w11 (w3.heap.size) #[.int .i64 (x), .int .i64 (y)] := (xG_10.alloc _).below hb11
        have xH_11 : Bx w11 (w5.heap.size) #[.int .i64 (hx1), .int .i64 (hy1)] := (xH_10.alloc _).below hb11
        have xL_11 : Bx w11 (w9.heap.size) #[.int .i64 (a), .int .i64 (b)] := (xL_10.alloc _).below hb11
        have xU_11 : Bx w11 (w10.heap.size) #[.int .i64 (p), .int .i64 (q)] := (Bx.new (b := w10.heap.size) _ #[.int .i64 (p), .int .i64 (q)] 26 (by first | rfl | simp)).below hb11
        clear cF_10 fF_10 zF_10 cG_10 fG_10 zG_10 cH_10 fH_10 zH_10 cL_10 fL_10 zL_10
        obtain ⟨cF_11, fF_11, zF_11⟩ := xF_11.out
        obtain ⟨cG_11, fG_11, zG_11⟩ := xG_11.out
        obtain ⟨cH_11, fH_11, zH_11⟩ := xH_11.out
        obtain ⟨cL_11, fL_11, zL_11⟩ := xL_11.out
        obtain ⟨cU_11, fU_11, zU_11⟩ := xU_11.out
        go_wp2_with fail
        refine (svalid_eq O2.out _).mono ?_
        rintro e w12 ⟨rfl, hb12⟩
        have B12 : Bl w w12 := bl_call B11 hb12
        have xF_12 : Bx w12 (w1.heap.size) #[.int .i64 (n), .int .i64 (d)] := xF_11.below hb12
        have xG_12 : Bx w12 (w3.heap.size) #[.int .i64 (x), .int .i64 (y)] := xG_11.below hb12
        have xH_12 : Bx w12 (w5.heap.size) #[.int .i64 (hx1), .int .i64 (hy1)] := xH_11.below hb12
        have xL_12 : Bx w12 (w9.heap.size) #[.int .i64 (a), .int .i64 (b)] := xL_11.below hb12
        have xU_12 : Bx w12 (w10.heap.size) #[.int .i64 (p), .int .i64 (q)] := xU_11.below hb12
        clear cF_11 fF_11 zF_11 cG_11 fG_11 zG_11 cH_11 fH_11 zH_11 cL_11 fL_11 zL_11 cU_11 fU_11 zU_11
        obtain ⟨cF_12, fF_12, zF_12⟩ := xF_12.out
        obtain ⟨cG_12, fG_12, zG_12⟩ := xG_12.out
        obtain ⟨cH_12, fH_12, zH_12⟩ := xH_12.out
        obtain ⟨cL_12, fL_12, zL_12⟩ := xL_12.out
        obtain ⟨cU_12, fU_12, zU_12⟩ := xU_12.out
        by_cases hdm : d ≤ m
        ·
          obtain ⟨⟨e1, e2⟩, e3, e4⟩ := OWN.out hdm
          have k1 : (a == n) = true := by simp [e1]
          have k2 : (b == d) = true := by simp [e2]
          have k3 : (p == n) = true := by simp [e3]
          have k4 : (q == d) = true := by simp [e4]
          clear e1 e2 e3 e4
          go_wp2
          go_ret
          exact ⟨rfl, B12⟩
        ·
          obtain ⟨s1, s2, s3, s4⟩ := FAR.out (by omega)
          have S1 := Lib.hid s1
          have S2 := Lib.hid s2
          have S3 := Lib.hid s3
          clear s1 s2 s3
          go_wp2_with fail
          refine (cmpFrS_eq O1.out HOK.out S1.out _ ss.1 (by omega) (by omega) (by omega)).mono ?_
          rintro e w13 ⟨rfl, hb13⟩
          have B13 : Bl w w13 := bl_call B12 hb13
          have xF_13 : Bx w13 (w1.heap.size) #[.int .i64 (n), .int .i64 (d)] := xF_12.below hb13
          have xG_13 : Bx w13 (w3.heap.size) #[.int .i64 (x), .int .i64 (y)] := xG_12.below hb13
          have xH_13 : Bx w13 (w5.heap.size) #[.int .i64 (hx1), .int .i64 (hy1)] := xH_12.below hb13
          have xL_13 : Bx w13 (w9.heap.size) #[.int .i64 (a), .int .i64 (b)] := xL_12.below hb13
          have xU_13 : Bx w13 (w10.heap.size) #[.int .i64 (p), .int .i64 (q)] := xU_12.below hb13
          clear cF_12 fF_12 zF_12 cG_12 fG_12 zG_12 cH_12 fH_12 zH_12 cL_12 fL_12 zL_12 cU_12 fU_12 zU_12
          obtain ⟨cF_13, fF_13, zF_13⟩ := xF_13.out
          obtain ⟨cG_13, fG_13, zG_13⟩ := xG_13.out
          obtain ⟨cH_13, fH_13, zH_13⟩ := xH_13.out
          obtain ⟨cL_13, fL_13, zL_13⟩ := xL_13.out
          obtain ⟨cU_13, fU_13, zU_13⟩ := xU_13.out
          go_wp2_with fail
          refine (cmpFrS_eq HOK.out O2.out S2.out _ (by omega) (by omega) ss.2 (by omega)).mono ?_
          rintro e w14 ⟨rfl, hb14⟩
          have B14 : Bl w w14 := bl_call B13 hb14
          have xF_14 : Bx w14 (w1.heap.size) #[.int .i64 (n), .int .i64 (d)] := xF_13.below hb14
          have xG_14 : Bx w14 (w3.heap.size) #[.int .i64 (x), .int .i64 (y)] := xG_13.below hb14
          have xH_14 : Bx w14 (w5.heap.size) #[.int .i64 (hx1), .int .i64 (hy1)] := xH_13.below hb14
          have xL_14 : Bx w14 (w9.heap.size) #[.int .i64 (a), .int .i64 (b)] := xL_13.below hb14
          have xU_14 : Bx w14 (w10.heap.size) #[.int .i64 (p), .int .i64 (q)] := xU_13.below hb14
          clear cF_13 fF_13 zF_13 cG_13 fG_13 zG_13 cH_13 fH_13 zH_13 cL_13 fL_13 zL_13 cU_13 fU_13 zU_13
          obtain ⟨cF_14, fF_14, zF_14⟩ := xF_14.out
          obtain ⟨cG_14, fG_14, zG_14⟩ := xG_14.out
          obtain ⟨cH_14, fH_14, zH_14⟩ := xH_14.out
          obtain ⟨cL_14, fL_14, zL_14⟩ := xL_14.out
          obtain ⟨cU_14, fU_14, zU_14⟩ := xU_14.out
          go_wp2_with fail
          refine (nbrS_eq O1.out O2.out S3.out _ ss.1 (by omega) ss.2 (by omega)).mono ?_
          rintro e w15 ⟨rfl, hb15⟩
          have B15 : Bl w w15 := bl_call B14 hb15
          have xF_15 : Bx w15 (w1.heap.size) #[.int .i64 (n), .int .i64 (d)] := xF_14.below hb15
          have xG_15 : Bx w15 (w3.heap.size) #[.int .i64 (x), .int .i64 (y)] := xG_14.below hb15
          have xH_15 : Bx w15 (w5.heap.size) #[.int .i64 (hx1), .int .i64 (hy1)] := xH_14.below hb15
          have xL_15 : Bx w15 (w9.heap.size) #[.int .i64 (a), .int .i64 (b)] := xL_14.below hb15
          have xU_15 : Bx w15 (w10.heap.size) #[.int .i64 (p), .int .i64 (q)] := xU_14.below hb15
          clear cF_14 fF_14 zF_14 cG_14 fG_14 zG_14 cH_14 fH_14 zH_14 cL_14 fL_14 zL_14 cU_14 fU_14 zU_14
          obtain ⟨cF_15, fF_15, zF_15⟩ := xF_15.out
          obtain ⟨cG_15, fG_15, zG_15⟩ := xG_15.out
          obtain ⟨cH_15, fH_15, zH_15⟩ := xH_15.out
          obtain ⟨cL_15, fL_15, zL_15⟩ := xL_15.out
          obtain ⟨cU_15, fU_15, zU_15⟩ := xU_15.out
          have hbq1 := (okF_bd O1.out).1
          have hbq2 := (okF_bd O2.out).1
          go_wp2
          go_ret
          exact ⟨rfl, B15⟩

set_option maxRecDepth 100000 in
theorem fnBeats_lifted (os : Os) (started : os.Started) (H : Type) (enc : TypeId × Value → H) :
    ReturnsInHanded {} Try.checked os 7 .any (Rows.fnBeatsSpec.pre6 enc Try.prog Try.f7 Rows.fnBeatsRow.domain false) (Rows.fnBeatsSpec.post enc Try.prog Try.f7 false true false false) := by
  refine returnsInHanded_of_change (C := Try.checked) own started (by kernel_rfl) Try.func7
    (ChangeSpec.witness6 (enc := enc) (C := Try.checked) false ⟨#[], #[.slice none 0 0, .slice none 0 0], []⟩ 8 (by kernel_rfl) (by kernel_rfl) (by kernel_rfl) (by kernel_rfl)) ?_
  intro W base args ds gs before hval0 hW hcnd _
  have hval : ∀ (j : Nat) t v, Try.f7.params[j]? = some t → args[j]? = some v → Value.okWide Try.prog W .any base t v := hval0
  have hW' := hW
  obtain ⟨p, q, hA0, hV, rfl, hfz, hnd⟩ := hW
  have hA : DataW.TrodAll enc Try.prog W 0 (fun _ => true) true Try.f7.params.toList args.toList ds p := hA0
  rw [Try.params7] at hA hval
  obtain ⟨v0, vs0, d0, ds0, p0, q0, hargs, rfl, rfl, h0, r0⟩ := trodAll_cons hA
  obtain ⟨v1, vs1, d1, ds1, p1, q1, rfl, rfl, rfl, h1, r1⟩ := trodAll_cons r0
  obtain ⟨rfl, rfl, rfl⟩ := trodAll_nil r1
  obtain rfl : args = #[v0, v1] := by cases args; simp_all
  obtain ⟨rfl, rfl⟩ := trodVars_none hV
  have k0 := h0
  have lt0 : ∀ x ∈ p0, x.block < W.heap.size := by obtain ⟨m, hm⟩ := k0; exact DataW.trod_lt m _ _ _ hm
  have k1 := h1
  have lt1 : ∀ x ∈ p1, x.block < W.heap.size := by obtain ⟨m, hm⟩ := k1; exact DataW.trod_lt m _ _ _ hm
  obtain ⟨x0, S0⟩ := bytes_of_trod (hval 0 40 v0 rfl rfl) h0
  obtain ⟨x1, S1⟩ := bytes_of_trod (hval 1 40 v1 rfl rfl) h1
  clear hA0 hval0
  refine (lawBeats v0 x0 v1 x1 W S0 S1).mono fun e W' ⟨he, bel⟩ => ?_
  subst he
  exact ⟨_, rfl, _, _, _, [], _, [], hW', trodAll_mk1 (shut_bool Try.underlying4 _), (trodAll_cons_mk (Below.trod laidOut (by kernel_rfl) (of_decide_eq_true (by kernel_rfl)) k0 bel lt0) (trodAll_cons_mk (Below.trod laidOut (by kernel_rfl) (of_decide_eq_true (by kernel_rfl)) k1 bel lt1) trodAll_mk0)), rfl, bel.frame _, fun h => by cases h⟩

/-- THE STATEMENT. -/
theorem fnBeats_holds : Rows.FnBeatsSaid :=
  OpenClaim.holds_of_wide 7 Try.f7 rfl rfl rfl rfl rfl rfl rfl ⟨rfl, rfl, rfl, rfl, rfl⟩ rfl rfl rfl rfl rfl (by kernel_rfl) Try.func7 (by kernel_rfl)
    (of_decide_eq_true (by kernel_rfl)) (by unfold Func.isWrapper; first | (rw [if_pos (by decide +kernel)]; kernel_rfl) | (rw [if_neg (by decide +kernel)]; exact ⟨rfl, rfl⟩))
    (fun os started H enc _ => fnBeats_lifted os started H enc)
#print axioms fnBeats_holds

end Go.Proofs.Ytbonlompmnhmiaa
