/- FnExactRunDouble holds: for all functions of two numbers and all terms the program's RunDouble returns what the reference's returns. Conditions: none. -/
import Derived.Test.YtbncinbngmfamaaOpenS
import Derived.Test.YtbncinbngmfamaaDbO
import Derived.Test.YtbncinbngmfamaaOpenD
namespace Go.Proofs.Ytbncinbngmfamaa
open Go.RowKit Go.ChangeShapes Go.WideShapes Go.ChangeAt
set_option linter.unusedVariables false
set_option linter.unusedSimpArgs false

set_option maxHeartbeats 1600000 in
set_option maxRecDepth 100000 in
theorem lawExactRunDouble (d0_0 d0_1 d0_2 d0_3 d0_4 d0_5 d0_6 d0_7 : Int) (v1 : Value) (y1 : List Int) (v2 : Value) (y2 : List Int) (w : World) (D0_0 : R64 d0_0) (D0_1 : R64 d0_1) (D0_2 : R64 d0_2) (D0_3 : R64 d0_3) (D0_4 : R64 d0_4) (D0_5 : R64 d0_5) (D0_6 : R64 d0_6) (D0_7 : R64 d0_7) (S1 : Sl w v1 y1) (S2 : Sl w v2 y2) :
    Calls Try.prog 12 #[.agg #[.int .i64 d0_0, .int .i64 d0_1, .int .i64 d0_2, .int .i64 d0_3, .int .i64 d0_4, .int .i64 d0_5, .int .i64 d0_6, .int .i64 d0_7], v1, v2] w fun e w' => e = .returned (.bool true) ∧ Bl w w' := by
  have ll1 := S1.len
  obtain ⟨va1, vc1, rfl, _⟩ := S1.form
  have ll2 := S2.len
  obtain ⟨va2, vc2, rfl, _⟩ := S2.form
  by_cases hln1 : 1048576 < y1.length
  · go_enter Try.func12, Try.ntmps12
    go_wp2
    go_ret
    exact ⟨rfl, (bl_alloc (bl_refl _) _)⟩
  have NL1 := Lib.hid (show y1.length ≤ 1048576 by omega)
  by_cases hln2 : 1048576 < y2.length
  · go_enter Try.func12, Try.ntmps12
    go_wp2
    go_ret
    exact ⟨rfl, (bl_alloc (bl_refl _) _)⟩
  have NL2 := Lib.hid (show y2.length ≤ 1048576 by omega)
  go_enter Try.func12, Try.ntmps12
  go_wp2_with fail
  refine (toDb_any (d0_0) (d0_1) (d0_2) (d0_3) (d0_4) (d0_5) (d0_6) (d0_7) _).mono ?_
  rintro e w1 ⟨rfl, hb1⟩
  have B1 : Bl w w1 := bl_call (bl_alloc (bl_refl _) _) hb1
  have xb0_1 : Bx w1 (w.heap.size) #[.int .i64 (d0_0), .int .i64 (d0_1), .int .i64 (d0_2), .int .i64 (d0_3), .int .i64 (d0_4), .int .i64 (d0_5), .int .i64 (d0_6), .int .i64 (d0_7)] := (Bx.new (b := w.heap.size) _ #[.int .i64 (d0_0), .int .i64 (d0_1), .int .i64 (d0_2), .int .i64 (d0_3), .int .i64 (d0_4), .int .i64 (d0_5), .int .i64 (d0_6), .int .i64 (d0_7)] 84 (by first | rfl | simp)).below hb1
  have zz1 : w.heap.size + 1 ≤ w1.heap.size := (by have := hb1.size; first | omega | (simp at this; omega))
  obtain ⟨cb0_1, fb0_1, zb0_1⟩ := xb0_1.out
  go_wp2_with fail
  refine (toI_any _ (y1) _ (S1.below B1) (by have := NL1.out; omega)).mono ?_
  rintro e w2 ⟨a2_0, n2_0, c2_0, rfl, o2_0, hb2⟩
  have B2 : Bl w w2 := bl_call B1 hb2
  have xb0_2 : Bx w2 (w.heap.size) #[.int .i64 (d0_0), .int .i64 (d0_1), .int .i64 (d0_2), .int .i64 (d0_3), .int .i64 (d0_4), .int .i64 (d0_5), .int .i64 (d0_6), .int .i64 (d0_7)] := xb0_1.below hb2
  have zz2 : w1.heap.size ≤ w2.heap.size := (by have := hb2.size; first | omega | (simp at this; omega))
  clear cb0_1 fb0_1 zb0_1
  obtain ⟨cb0_2, fb0_2, zb0_2⟩ := xb0_2.out
  have R2_0 : ∀ k, ((Value.slice a2_0 n2_0 c2_0)).ownBlock = some k → w1.heap.size ≤ k ∧ k < w2.heap.size := fun k hk => (by have := o2_0.lt k hk; first | omega | (simp at this; omega))
  have R2_0 := Lib.hid R2_0
  have m2_0 := o2_0.mono (B1).size
  clear o2_0
  go_wp2_with fail
  refine (toI_any _ (y2) _ (S2.below B2) (by have := NL2.out; omega)).mono ?_
  rintro e w3 ⟨a3_0, n3_0, c3_0, rfl, o3_0, hb3⟩
  have B3 : Bl w w3 := bl_call B2 hb3
  have xb0_3 : Bx w3 (w.heap.size) #[.int .i64 (d0_0), .int .i64 (d0_1), .int .i64 (d0_2), .int .i64 (d0_3), .int .i64 (d0_4), .int .i64 (d0_5), .int .i64 (d0_6), .int .i64 (d0_7)] := xb0_2.below hb3
  have o2_0_3 := m2_0.below hb3
  have zz3 : w2.heap.size ≤ w3.heap.size := (by have := hb3.size; first | omega | (simp at this; omega))
  clear cb0_2 fb0_2 zb0_2
  obtain ⟨cb0_3, fb0_3, zb0_3⟩ := xb0_3.out
  have R3_0 : ∀ k, ((Value.slice a3_0 n3_0 c3_0)).ownBlock = some k → w2.heap.size ≤ k ∧ k < w3.heap.size := fun k hk => (by have := o3_0.lt k hk; first | omega | (simp at this; omega))
  have R3_0 := Lib.hid R3_0
  have m3_0 := o3_0.mono (B2).size
  clear o3_0
  go_wp2_with fail
  refine (spec_RunDouble (d0_0) (d0_1) (d0_2) (d0_3) (d0_4) (d0_5) (d0_6) (d0_7) _ (y1) _ (y2) _ o2_0_3.sl NL1.out m3_0.sl NL2.out).mono ?_
  rintro e w4 ⟨a4_0, n4_0, c4_0, rfl, o4_0, hb4⟩
  have B4 : Bl w w4 := bl_call B3 hb4
  have xb0_4 : Bx w4 (w.heap.size) #[.int .i64 (d0_0), .int .i64 (d0_1), .int .i64 (d0_2), .int .i64 (d0_3), .int .i64 (d0_4), .int .i64 (d0_5), .int .i64 (d0_6), .int .i64 (d0_7)] := xb0_3.below hb4
  have o2_0_4 := o2_0_3.below hb4
  have o3_0_4 := m3_0.below hb4
  have zz4 : w3.heap.size ≤ w4.heap.size := (by have := hb4.size; first | omega | (simp at this; omega))
  clear cb0_3 fb0_3 zb0_3
  obtain ⟨cb0_4, fb0_4, zb0_4⟩ := xb0_4.out
  have R4_0 : ∀ k, ((Value.slice a4_0 n4_0 c4_0)).ownBlock = some k → w3.heap.size ≤ k ∧ k < w4.heap.size := fun k hk => (by have := o4_0.lt k hk; first | omega | (simp at this; omega))
  have R4_0 := Lib.hid R4_0
  have m4_0 := o4_0.mono (B3).size
  clear o4_0
  go_wp2_with fail
  refine (toI_any _ (y1) _ (S1.below B4) (by have := NL1.out; omega)).mono ?_
  rintro e w5 ⟨a5_0, n5_0, c5_0, rfl, o5_0, hb5⟩
  have B5 : Bl w w5 := bl_call B4 hb5
  have xb0_5 : Bx w5 (w.heap.size) #[.int .i64 (d0_0), .int .i64 (d0_1), .int .i64 (d0_2), .int .i64 (d0_3), .int .i64 (d0_4), .int .i64 (d0_5), .int .i64 (d0_6), .int .i64 (d0_7)] := xb0_4.below hb5
  have o2_0_5 := o2_0_4.below hb5
  have o3_0_5 := o3_0_4.below hb5
  have o4_0_5 := m4_0.below hb5
  have zz5 : w4.heap.size ≤ w5.heap.size := (by have := hb5.size; first | omega | (simp at this; omega))
  clear cb0_4 fb0_4 zb0_4
  obtain ⟨cb0_5, fb0_5, zb0_5⟩ := xb0_5.out
  have R5_0 : ∀ k, ((Value.slice a5_0 n5_0 c5_0)).ownBlock = some k → w4.heap.size ≤ k ∧ k < w5.heap.size := fun k hk => (by have := o5_0.lt k hk; first | omega | (simp at this; omega))
  have R5_0 := Lib.hid R5_0
  have m5_0 := o5_0.mono (B4).size
  clear o5_0
  go_wp2_with fail
  refine (toI_any _ (y2) _ (S2.below B5) (by have := NL2.out; omega)).mono ?_
  rintro e w6 ⟨a6_0, n6_0, c6_0, rfl, o6_0, hb6⟩
  have B6 : Bl w w6 := bl_call B5 hb6
  have xb0_6 : Bx w6 (w.heap.size) #[.int .i64 (d0_0), .int .i64 (d0_1), .int .i64 (d0_2), .int .i64 (d0_3), .int .i64 (d0_4), .int .i64 (d0_5), .int .i64 (d0_6), .int .i64 (d0_7)] := xb0_5.below hb6
  have o2_0_6 := o2_0_5.below hb6
  have o3_0_6 := o3_0_5.below hb6
  have o4_0_6 := o4_0_5.below hb6
  have o5_0_6 := m5_0.below hb6
  have zz6 : w5.heap.size ≤ w6.heap.size := (by have := hb6.size; first | omega | (simp at this; omega))
  clear cb0_5 fb0_5 zb0_5
  obtain ⟨cb0_6, fb0_6, zb0_6⟩ := xb0_6.out
  have R6_0 : ∀ k, ((Value.slice a6_0 n6_0 c6_0)).ownBlock = some k → w5.heap.size ≤ k ∧ k < w6.heap.size := fun k hk => (by have := o6_0.lt k hk; first | omega | (simp at this; omega))
  have R6_0 := Lib.hid R6_0
  have m6_0 := o6_0.mono (B5).size
  clear o6_0
  go_wp2_with fail
  refine (toDb_any (d0_0) (d0_1) (d0_2) (d0_3) (d0_4) (d0_5) (d0_6) (d0_7) _).mono ?_
  rintro e w7 ⟨rfl, hb7⟩
  have B7 : Bl w w7 := bl_call B6 hb7
  have xb0_7 : Bx w7 (w.heap.size) #[.int .i64 (d0_0), .int .i64 (d0_1), .int .i64 (d0_2), .int .i64 (d0_3), .int .i64 (d0_4), .int .i64 (d0_5), .int .i64 (d0_6), .int .i64 (d0_7)] := xb0_6.below hb7
  have o2_0_7 := o2_0_6.below hb7
  have o3_0_7 := o3_0_6.below hb7
  have o4_0_7 := o4_0_6.below hb7
  have o5_0_7 := o5_0_6.below hb7
  have o6_0_7 := m6_0.below hb7
  have zz7 : w6.heap.size ≤ w7.heap.size := (by have := hb7.size; first | omega | (simp at this; omega))
  clear cb0_6 fb0_6 zb0_6
  obtain ⟨cb0_7, fb0_7, zb0_7⟩ := xb0_7.out
  go_wp2_with fail
  refine (impl_RunDouble (d0_0) (d0_1) (d0_2) (d0_3) (d0_4) (d0_5) (d0_6) (d0_7) _ (y1) _ (y2) _ o5_0_7.sl NL1.out o6_0_7.sl NL2.out).mono ?_
  rintro e w8 ⟨a8_0, n8_0, c8_0, rfl, o8_0, hb8⟩
  have B8 : Bl w w8 := bl_call B7 hb8
  have xb0_8 : Bx w8 (w.heap.size) #[.int .i64 (d0_0), .int .i64 (d0_1), .int .i64 (d0_2), .int .i64 (d0_3), .int .i64 (d0_4), .int .i64 (d0_5), .int .i64 (d0_6), .int .i64 (d0_7)] := xb0_7.below hb8
  have o2_0_8 := o2_0_7.below hb8
  have o3_0_8 := o3_0_7.below hb8
  have o4_0_8 := o4_0_7.below hb8
  have o5_0_8 := o5_0_7.below hb8
  have o6_0_8 := o6_0_7.below hb8
  have zz8 : w7.heap.size ≤ w8.heap.size := (by have := hb8.size; first | omega | (simp at this; omega))
  clear cb0_7 fb0_7 zb0_7
  obtain ⟨cb0_8, fb0_8, zb0_8⟩ := xb0_8.out
  have R8_0 : ∀ k, ((Value.slice a8_0 n8_0 c8_0)).ownBlock = some k → w7.heap.size ≤ k ∧ k < w8.heap.size := fun k hk => (by have := o8_0.lt k hk; first | omega | (simp at this; omega))
  have R8_0 := Lib.hid R8_0
  have m8_0 := o8_0.mono (B7).size
  clear o8_0
  go_wp2_with fail
  refine (eqI_any _ _ ((rdF (d0_0) (d0_1) (d0_2) (d0_3) (d0_4) (d0_5) (d0_6) (d0_7) (y1) (y2)).1) ((rdF (d0_0) (d0_1) (d0_2) (d0_3) (d0_4) (d0_5) (d0_6) (d0_7) (y1) (y2)).1) _ m8_0.sl o4_0_8.sl).mono ?_
  rintro e w9 ⟨rfl, hb9⟩
  have B9 : Bl w w9 := bl_call B8 hb9
  have xb0_9 : Bx w9 (w.heap.size) #[.int .i64 (d0_0), .int .i64 (d0_1), .int .i64 (d0_2), .int .i64 (d0_3), .int .i64 (d0_4), .int .i64 (d0_5), .int .i64 (d0_6), .int .i64 (d0_7)] := xb0_8.below hb9
  have o2_0_9 := o2_0_8.below hb9
  have o3_0_9 := o3_0_8.below hb9
  have o4_0_9 := o4_0_8.below hb9
  have o5_0_9 := o5_0_8.below hb9
  have o6_0_9 := o6_0_8.below hb9
  have o8_0_9 := m8_0.below hb9
  have zz9 : w8.heap.size ≤ w9.heap.size := (by have := hb9.size; first | omega | (simp at this; omega))
  clear cb0_8 fb0_8 zb0_8
  obtain ⟨cb0_9, fb0_9, zb0_9⟩ := xb0_9.out
  go_wp2_with fail
  refine (toI_any _ (y1) _ (S1.below B9) (by have := NL1.out; omega)).mono ?_
  rintro e w10 ⟨a10_0, n10_0, c10_0, rfl, o10_0, hb10⟩
  have B10 : Bl w w10 := bl_call B9 hb10
  have xb0_10 : Bx w10 (w.heap.size) #[.int .i64 (d0_0), .int .i64 (d0_1), .int .i64 (d0_2), .int .i64 (d0_3), .int .i64 (d0_4), .int .i64 (d0_5), .int .i64 (d0_6), .int .i64 (d0_7)] := xb0_9.below hb10
  have o2_0_10 := o2_0_9.below hb10
  have o3_0_10 := o3_0_9.below hb10
  have o4_0_10 := o4_0_9.below hb10
  have o5_0_10 := o5_0_9.below hb10
  have o6_0_10 := o6_0_9.below hb10
  have o8_0_10 := o8_0_9.below hb10
  have zz10 : w9.heap.size ≤ w10.heap.size := (by have := hb10.size; first | omega | (simp at this; omega))
  clear cb0_9 fb0_9 zb0_9
  obtain ⟨cb0_10, fb0_10, zb0_10⟩ := xb0_10.out
  have R10_0 : ∀ k, ((Value.slice a10_0 n10_0 c10_0)).ownBlock = some k → w9.heap.size ≤ k ∧ k < w10.heap.size := fun k hk => (by have := o10_0.lt k hk; first | omega | (simp at this; omega))
  have R10_0 := Lib.hid R10_0
  have m10_0 := o10_0.mono (B9).size
  clear o10_0
  go_wp2_with fail
  refine (eqI_any _ _ (y1) (y1) _ o5_0_10.sl m10_0.sl).mono ?_
  rintro e w11 ⟨rfl, hb11⟩
  have B11 : Bl w w11 := bl_call B10 hb11
  have xb0_11 : Bx w11 (w.heap.size) #[.int .i64 (d0_0), .int .i64 (d0_1), .int .i64 (d0_2), .int .i64 (d0_3), .int .i64 (d0_4), .int .i64 (d0_5), .int .i64 (d0_6), .int .i64 (d0_7)] := xb0_10.below hb11
  have o2_0_11 := o2_0_10.below hb11
  have o3_0_11 := o3_0_10.below hb11
  have o4_0_11 := o4_0_10.below hb11
  have o5_0_11 := o5_0_10.below hb11
  have o6_0_11 := o6_0_10.below hb11
  have o8_0_11 := o8_0_10.below hb11
  have o10_0_11 := m10_0.below hb11
  have zz11 : w10.heap.size ≤ w11.heap.size := (by have := hb11.size; first | omega | (simp at this; omega))
  clear cb0_10 fb0_10 zb0_10
  obtain ⟨cb0_11, fb0_11, zb0_11⟩ := xb0_11.out
  go_wp2_with fail
  refine (toI_any _ (y2) _ (S2.below B11) (by have := NL2.out; omega)).mono ?_
  rintro e w12 ⟨a12_0, n12_0, c12_0, rfl, o12_0, hb12⟩
  have B12 : Bl w w12 := bl_call B11 hb12
  have xb0_12 : Bx w12 (w.heap.size) #[.int .i64 (d0_0), .int .i64 (d0_1), .int .i64 (d0_2), .int .i64 (d0_3), .int .i64 (d0_4), .int .i64 (d0_5), .int .i64 (d0_6), .int .i64 (d0_7)] := xb0_11.below hb12
  have o2_0_12 := o2_0_11.below hb12
  have o3_0_12 := o3_0_11.below hb12
  have o4_0_12 := o4_0_11.below hb12
  have o5_0_12 := o5_0_11.below hb12
  have o6_0_12 := o6_0_11.below hb12
  have o8_0_12 := o8_0_11.below hb12
  have o10_0_12 := o10_0_11.below hb12
  have zz12 : w11.heap.size ≤ w12.heap.size := (by have := hb12.size; first | omega | (simp at this; omega))
  clear cb0_11 fb0_11 zb0_11
  obtain ⟨cb0_12, fb0_12, zb0_12⟩ := xb0_12.out
  have R12_0 : ∀ k, ((Value.slice a12_0 n12_0 c12_0)).ownBlock = some k → w11.heap.size ≤ k ∧ k < w12.heap.size := fun k hk => (by have := o12_0.lt k hk; first | omega | (simp at this; omega))
  have R12_0 := Lib.hid R12_0
  have m12_0 := o12_0.mono (B11).size
  clear o12_0
  go_wp2_with fail
  refine (eqI_any _ _ (y2) (y2) _ o6_0_12.sl m12_0.sl).mono ?_
  rintro e w13 ⟨rfl, hb13⟩
  have B13 : Bl w w13 := bl_call B12 hb13
  have xb0_13 : Bx w13 (w.heap.size) #[.int .i64 (d0_0), .int .i64 (d0_1), .int .i64 (d0_2), .int .i64 (d0_3), .int .i64 (d0_4), .int .i64 (d0_5), .int .i64 (d0_6), .int .i64 (d0_7)] := xb0_12.below hb13
  have o2_0_13 := o2_0_12.below hb13
  have o3_0_13 := o3_0_12.below hb13
  have o4_0_13 := o4_0_12.below hb13
  have o5_0_13 := o5_0_12.below hb13
  have o6_0_13 := o6_0_12.below hb13
  have o8_0_13 := o8_0_12.below hb13
  have o10_0_13 := o10_0_12.below hb13
  have o12_0_13 := m12_0.below hb13
  have zz13 : w12.heap.size ≤ w13.heap.size := (by have := hb13.size; first | omega | (simp at this; omega))
  clear cb0_12 fb0_12 zb0_12
  obtain ⟨cb0_13, fb0_13, zb0_13⟩ := xb0_13.out
  go_wp2_with fail
  refine (markI_any _ (y1) (1) w.heap.size _ o5_0_13 (by omega) (by have := NL1.out; omega)).mono ?_
  rintro e w14 ⟨rfl, on14, O14'⟩
  have O14 := Only.of_grown (S := fun k => ((Value.slice a5_0 n5_0 c5_0)).ownBlock = some k) O14' (fun _ e => e)
  have zz14 : w13.heap.size ≤ w14.heap.size := (by have := O14.size; first | omega | (simp at this; omega))
  have B14 : Bl w w14 := Below.only B13 O14 (B13).size (fun k hk => by have := R5_0.out k hk; omega)
  have xb0_14 : Bx w14 (w.heap.size) #[.int .i64 (d0_0), .int .i64 (d0_1), .int .i64 (d0_2), .int .i64 (d0_3), .int .i64 (d0_4), .int .i64 (d0_5), .int .i64 (d0_6), .int .i64 (d0_7)] := xb0_13.only O14 (fun q => by have := R5_0.out _ q; omega)
  have o2_0_14 := o2_0_13.only O14 (fun k q q' => by have := R2_0.out k q; have := R5_0.out k q'; omega)
  have o3_0_14 := o3_0_13.only O14 (fun k q q' => by have := R3_0.out k q; have := R5_0.out k q'; omega)
  have o4_0_14 := o4_0_13.only O14 (fun k q q' => by have := R4_0.out k q; have := R5_0.out k q'; omega)
  have o6_0_14 := o6_0_13.only O14 (fun k q q' => by have := R6_0.out k q; have := R5_0.out k q'; omega)
  have o8_0_14 := o8_0_13.only O14 (fun k q q' => by have := R8_0.out k q; have := R5_0.out k q'; omega)
  have o10_0_14 := o10_0_13.only O14 (fun k q q' => by have := R10_0.out k q; have := R5_0.out k q'; omega)
  have o12_0_14 := o12_0_13.only O14 (fun k q q' => by have := R12_0.out k q; have := R5_0.out k q'; omega)
  clear cb0_13 fb0_13 zb0_13
  obtain ⟨cb0_14, fb0_14, zb0_14⟩ := xb0_14.out
  go_wp2_with fail
  refine (markI_any _ (y2) (1 + (y1).length) w.heap.size _ o6_0_14 (by omega) (by have := NL2.out; omega)).mono ?_
  rintro e w15 ⟨rfl, on15, O15'⟩
  have O15 := Only.of_grown (S := fun k => ((Value.slice a6_0 n6_0 c6_0)).ownBlock = some k) O15' (fun _ e => e)
  have zz15 : w14.heap.size ≤ w15.heap.size := (by have := O15.size; first | omega | (simp at this; omega))
  have B15 : Bl w w15 := Below.only B14 O15 (B14).size (fun k hk => by have := R6_0.out k hk; omega)
  have xb0_15 : Bx w15 (w.heap.size) #[.int .i64 (d0_0), .int .i64 (d0_1), .int .i64 (d0_2), .int .i64 (d0_3), .int .i64 (d0_4), .int .i64 (d0_5), .int .i64 (d0_6), .int .i64 (d0_7)] := xb0_14.only O15 (fun q => by have := R6_0.out _ q; omega)
  have o2_0_15 := o2_0_14.only O15 (fun k q q' => by have := R2_0.out k q; have := R6_0.out k q'; omega)
  have o3_0_15 := o3_0_14.only O15 (fun k q q' => by have := R3_0.out k q; have := R6_0.out k q'; omega)
  have o4_0_15 := o4_0_14.only O15 (fun k q q' => by have := R4_0.out k q; have := R6_0.out k q'; omega)
  have o5_0_15 := on14.only O15 (fun k q q' => by have := R5_0.out k q; have := R6_0.out k q'; omega)
  have o8_0_15 := o8_0_14.only O15 (fun k q q' => by have := R8_0.out k q; have := R6_0.out k q'; omega)
  have o10_0_15 := o10_0_14.only O15 (fun k q q' => by have := R10_0.out k q; have := R6_0.out k q'; omega)
  have o12_0_15 := o12_0_14.only O15 (fun k q q' => by have := R12_0.out k q; have := R6_0.out k q'; omega)
  clear cb0_14 fb0_14 zb0_14
  obtain ⟨cb0_15, fb0_15, zb0_15⟩ := xb0_15.out
  go_wp2_with fail
  refine (eqI_any _ _ ((rdF (d0_0) (d0_1) (d0_2) (d0_3) (d0_4) (d0_5) (d0_6) (d0_7) (y1) (y2)).1) ((rdF (d0_0) (d0_1) (d0_2) (d0_3) (d0_4) (d0_5) (d0_6) (d0_7) (y1) (y2)).1) _ o8_0_15.sl o4_0_15.sl).mono ?_
  rintro e w16 ⟨rfl, hb16⟩
  have B16 : Bl w w16 := bl_call B15 hb16
  have xb0_16 : Bx w16 (w.heap.size) #[.int .i64 (d0_0), .int .i64 (d0_1), .int .i64 (d0_2), .int .i64 (d0_3), .int .i64 (d0_4), .int .i64 (d0_5), .int .i64 (d0_6), .int .i64 (d0_7)] := xb0_15.below hb16
  have o2_0_16 := o2_0_15.below hb16
  have o3_0_16 := o3_0_15.below hb16
  have o4_0_16 := o4_0_15.below hb16
  have o5_0_16 := o5_0_15.below hb16
  have o6_0_16 := on15.below hb16
  have o8_0_16 := o8_0_15.below hb16
  have o10_0_16 := o10_0_15.below hb16
  have o12_0_16 := o12_0_15.below hb16
  have zz16 : w15.heap.size ≤ w16.heap.size := (by have := hb16.size; first | omega | (simp at this; omega))
  clear cb0_15 fb0_15 zb0_15
  obtain ⟨cb0_16, fb0_16, zb0_16⟩ := xb0_16.out
  go_wp2_with fail
  refine (markI_any _ ((rdF (d0_0) (d0_1) (d0_2) (d0_3) (d0_4) (d0_5) (d0_6) (d0_7) (y1) (y2)).1) (1) w.heap.size _ o8_0_16 (by omega) (by have := (rdF_len (d0_0) (d0_1) (d0_2) (d0_3) (d0_4) (d0_5) (d0_6) (d0_7) (y1) (y2)); omega)).mono ?_
  rintro e w17 ⟨rfl, on17, O17'⟩
  have O17 := Only.of_grown (S := fun k => ((Value.slice a8_0 n8_0 c8_0)).ownBlock = some k) O17' (fun _ e => e)
  have zz17 : w16.heap.size ≤ w17.heap.size := (by have := O17.size; first | omega | (simp at this; omega))
  have B17 : Bl w w17 := Below.only B16 O17 (B16).size (fun k hk => by have := R8_0.out k hk; omega)
  have xb0_17 : Bx w17 (w.heap.size) #[.int .i64 (d0_0), .int .i64 (d0_1), .int .i64 (d0_2), .int .i64 (d0_3), .int .i64 (d0_4), .int .i64 (d0_5), .int .i64 (d0_6), .int .i64 (d0_7)] := xb0_16.only O17 (fun q => by have := R8_0.out _ q; omega)
  have o2_0_17 := o2_0_16.only O17 (fun k q q' => by have := R2_0.out k q; have := R8_0.out k q'; omega)
  have o3_0_17 := o3_0_16.only O17 (fun k q q' => by have := R3_0.out k q; have := R8_0.out k q'; omega)
  have o4_0_17 := o4_0_16.only O17 (fun k q q' => by have := R4_0.out k q; have := R8_0.out k q'; omega)
  have o5_0_17 := o5_0_16.only O17 (fun k q q' => by have := R5_0.out k q; have := R8_0.out k q'; omega)
  have o6_0_17 := o6_0_16.only O17 (fun k q q' => by have := R6_0.out k q; have := R8_0.out k q'; omega)
  have o10_0_17 := o10_0_16.only O17 (fun k q q' => by have := R10_0.out k q; have := R8_0.out k q'; omega)
  have o12_0_17 := o12_0_16.only O17 (fun k q q' => by have := R12_0.out k q; have := R8_0.out k q'; omega)
  clear cb0_16 fb0_16 zb0_16
  obtain ⟨cb0_17, fb0_17, zb0_17⟩ := xb0_17.out
  go_wp2_with fail
  refine (heldI_yes _ (((rdF (d0_0) (d0_1) (d0_2) (d0_3) (d0_4) (d0_5) (d0_6) (d0_7) (y1) (y2)).1).length) (1) _ on17.sl (by omega) (by have := (rdF_len (d0_0) (d0_1) (d0_2) (d0_3) (d0_4) (d0_5) (d0_6) (d0_7) (y1) (y2)); omega)).mono ?_
  rintro e w18 ⟨rfl, hb18⟩
  have B18 : Bl w w18 := bl_call B17 hb18
  have xb0_18 : Bx w18 (w.heap.size) #[.int .i64 (d0_0), .int .i64 (d0_1), .int .i64 (d0_2), .int .i64 (d0_3), .int .i64 (d0_4), .int .i64 (d0_5), .int .i64 (d0_6), .int .i64 (d0_7)] := xb0_17.below hb18
  have o2_0_18 := o2_0_17.below hb18
  have o3_0_18 := o3_0_17.below hb18
  have o4_0_18 := o4_0_17.below hb18
  have o5_0_18 := o5_0_17.below hb18
  have o6_0_18 := o6_0_17.below hb18
  have o8_0_18 := on17.below hb18
  have o10_0_18 := o10_0_17.below hb18
  have o12_0_18 := o12_0_17.below hb18
  have zz18 : w17.heap.size ≤ w18.heap.size := (by have := hb18.size; first | omega | (simp at this; omega))
  clear cb0_17 fb0_17 zb0_17
  obtain ⟨cb0_18, fb0_18, zb0_18⟩ := xb0_18.out
  go_wp2_with fail
  refine (toDb_any (d0_0) (d0_1) (d0_2) (d0_3) (d0_4) (d0_5) (d0_6) (d0_7) _).mono ?_
  rintro e w19 ⟨rfl, hb19⟩
  have B19 : Bl w w19 := bl_call B18 hb19
  have xb0_19 : Bx w19 (w.heap.size) #[.int .i64 (d0_0), .int .i64 (d0_1), .int .i64 (d0_2), .int .i64 (d0_3), .int .i64 (d0_4), .int .i64 (d0_5), .int .i64 (d0_6), .int .i64 (d0_7)] := xb0_18.below hb19
  have o2_0_19 := o2_0_18.below hb19
  have o3_0_19 := o3_0_18.below hb19
  have o4_0_19 := o4_0_18.below hb19
  have o5_0_19 := o5_0_18.below hb19
  have o6_0_19 := o6_0_18.below hb19
  have o8_0_19 := o8_0_18.below hb19
  have o10_0_19 := o10_0_18.below hb19
  have o12_0_19 := o12_0_18.below hb19
  have zz19 : w18.heap.size ≤ w19.heap.size := (by have := hb19.size; first | omega | (simp at this; omega))
  clear cb0_18 fb0_18 zb0_18
  obtain ⟨cb0_19, fb0_19, zb0_19⟩ := xb0_19.out
  go_wp2_with fail
  refine (toI_any _ (y1) _ (S1.below B19) (by have := NL1.out; omega)).mono ?_
  rintro e w20 ⟨a20_0, n20_0, c20_0, rfl, o20_0, hb20⟩
  have B20 : Bl w w20 := bl_call B19 hb20
  have xb0_20 : Bx w20 (w.heap.size) #[.int .i64 (d0_0), .int .i64 (d0_1), .int .i64 (d0_2), .int .i64 (d0_3), .int .i64 (d0_4), .int .i64 (d0_5), .int .i64 (d0_6), .int .i64 (d0_7)] := xb0_19.below hb20
  have o2_0_20 := o2_0_19.below hb20
  have o3_0_20 := o3_0_19.below hb20
  have o4_0_20 := o4_0_19.below hb20
  have o5_0_20 := o5_0_19.below hb20
  have o6_0_20 := o6_0_19.below hb20
  have o8_0_20 := o8_0_19.below hb20
  have o10_0_20 := o10_0_19.below hb20
  have o12_0_20 := o12_0_19.below hb20
  have zz20 : w19.heap.size ≤ w20.heap.size := (by have := hb20.size; first | omega | (simp at this; omega))
  clear cb0_19 fb0_19 zb0_19
  obtain ⟨cb0_20, fb0_20, zb0_20⟩ := xb0_20.out
  have R20_0 : ∀ k, ((Value.slice a20_0 n20_0 c20_0)).ownBlock = some k → w19.heap.size ≤ k ∧ k < w20.heap.size := fun k hk => (by have := o20_0.lt k hk; first | omega | (simp at this; omega))
  have R20_0 := Lib.hid R20_0
  have m20_0 := o20_0.mono (B19).size
  clear o20_0
  go_wp2_with fail
  refine (toI_any _ (y2) _ (S2.below B20) (by have := NL2.out; omega)).mono ?_
  rintro e w21 ⟨a21_0, n21_0, c21_0, rfl, o21_0, hb21⟩
  have B21 : Bl w w21 := bl_call B20 hb21
  have xb0_21 : Bx w21 (w.heap.size) #[.int .i64 (d0_0), .int .i64 (d0_1), .int .i64 (d0_2), .int .i64 (d0_3), .int .i64 (d0_4), .int .i64 (d0_5), .int .i64 (d0_6), .int .i64 (d0_7)] := xb0_20.below hb21
  have o2_0_21 := o2_0_20.below hb21
  have o3_0_21 := o3_0_20.below hb21
  have o4_0_21 := o4_0_20.below hb21
  have o5_0_21 := o5_0_20.below hb21
  have o6_0_21 := o6_0_20.below hb21
  have o8_0_21 := o8_0_20.below hb21
  have o10_0_21 := o10_0_20.below hb21
  have o12_0_21 := o12_0_20.below hb21
  have o20_0_21 := m20_0.below hb21
  have zz21 : w20.heap.size ≤ w21.heap.size := (by have := hb21.size; first | omega | (simp at this; omega))
  clear cb0_20 fb0_20 zb0_20
  obtain ⟨cb0_21, fb0_21, zb0_21⟩ := xb0_21.out
  have R21_0 : ∀ k, ((Value.slice a21_0 n21_0 c21_0)).ownBlock = some k → w20.heap.size ≤ k ∧ k < w21.heap.size := fun k hk => (by have := o21_0.lt k hk; first | omega | (simp at this; omega))
  have R21_0 := Lib.hid R21_0
  have m21_0 := o21_0.mono (B20).size
  clear o21_0
  go_wp2_with fail
  refine (impl_RunDouble (d0_0) (d0_1) (d0_2) (d0_3) (d0_4) (d0_5) (d0_6) (d0_7) _ (y1) _ (y2) _ o20_0_21.sl NL1.out m21_0.sl NL2.out).mono ?_
  rintro e w22 ⟨a22_0, n22_0, c22_0, rfl, o22_0, hb22⟩
  have B22 : Bl w w22 := bl_call B21 hb22
  have xb0_22 : Bx w22 (w.heap.size) #[.int .i64 (d0_0), .int .i64 (d0_1), .int .i64 (d0_2), .int .i64 (d0_3), .int .i64 (d0_4), .int .i64 (d0_5), .int .i64 (d0_6), .int .i64 (d0_7)] := xb0_21.below hb22
  have o2_0_22 := o2_0_21.below hb22
  have o3_0_22 := o3_0_21.below hb22
  have o4_0_22 := o4_0_21.below hb22
  have o5_0_22 := o5_0_21.below hb22
  have o6_0_22 := o6_0_21.below hb22
  have o8_0_22 := o8_0_21.below hb22
  have o10_0_22 := o10_0_21.below hb22
  have o12_0_22 := o12_0_21.below hb22
  have o20_0_22 := o20_0_21.below hb22
  have o21_0_22 := m21_0.below hb22
  have zz22 : w21.heap.size ≤ w22.heap.size := (by have := hb22.size; first | omega | (simp at this; omega))
  clear cb0_21 fb0_21 zb0_21
  obtain ⟨cb0_22, fb0_22, zb0_22⟩ := xb0_22.out
  have R22_0 : ∀ k, ((Value.slice a22_0 n22_0 c22_0)).ownBlock = some k → w21.heap.size ≤ k ∧ k < w22.heap.size := fun k hk => (by have := o22_0.lt k hk; first | omega | (simp at this; omega))
  have R22_0 := Lib.hid R22_0
  have m22_0 := o22_0.mono (B21).size
  clear o22_0
  go_wp2_with fail
  refine (eqI_any _ _ ((rdF (d0_0) (d0_1) (d0_2) (d0_3) (d0_4) (d0_5) (d0_6) (d0_7) (y1) (y2)).1) ((rdF (d0_0) (d0_1) (d0_2) (d0_3) (d0_4) (d0_5) (d0_6) (d0_7) (y1) (y2)).1) _ m22_0.sl o4_0_22.sl).mono ?_
  rintro e w23 ⟨rfl, hb23⟩
  have B23 : Bl w w23 := bl_call B22 hb23
  have xb0_23 : Bx w23 (w.heap.size) #[.int .i64 (d0_0), .int .i64 (d0_1), .int .i64 (d0_2), .int .i64 (d0_3), .int .i64 (d0_4), .int .i64 (d0_5), .int .i64 (d0_6), .int .i64 (d0_7)] := xb0_22.below hb23
  have o2_0_23 := o2_0_22.below hb23
  have o3_0_23 := o3_0_22.below hb23
  have o4_0_23 := o4_0_22.below hb23
  have o5_0_23 := o5_0_22.below hb23
  have o6_0_23 := o6_0_22.below hb23
  have o8_0_23 := o8_0_22.below hb23
  have o10_0_23 := o10_0_22.below hb23
  have o12_0_23 := o12_0_22.below hb23
  have o20_0_23 := o20_0_22.below hb23
  have o21_0_23 := o21_0_22.below hb23
  have o22_0_23 := m22_0.below hb23
  have zz23 : w22.heap.size ≤ w23.heap.size := (by have := hb23.size; first | omega | (simp at this; omega))
  clear cb0_22 fb0_22 zb0_22
  obtain ⟨cb0_23, fb0_23, zb0_23⟩ := xb0_23.out
  go_wp2_with fail
  refine (heldI_yes _ (((rdF (d0_0) (d0_1) (d0_2) (d0_3) (d0_4) (d0_5) (d0_6) (d0_7) (y1) (y2)).1).length) (1) _ o8_0_23.sl (by omega) (by have := (rdF_len (d0_0) (d0_1) (d0_2) (d0_3) (d0_4) (d0_5) (d0_6) (d0_7) (y1) (y2)); omega)).mono ?_
  rintro e w24 ⟨rfl, hb24⟩
  have B24 : Bl w w24 := bl_call B23 hb24
  have xb0_24 : Bx w24 (w.heap.size) #[.int .i64 (d0_0), .int .i64 (d0_1), .int .i64 (d0_2), .int .i64 (d0_3), .int .i64 (d0_4), .int .i64 (d0_5), .int .i64 (d0_6), .int .i64 (d0_7)] := xb0_23.below hb24
  have o2_0_24 := o2_0_23.below hb24
  have o3_0_24 := o3_0_23.below hb24
  have o4_0_24 := o4_0_23.below hb24
  have o5_0_24 := o5_0_23.below hb24
  have o6_0_24 := o6_0_23.below hb24
  have o8_0_24 := o8_0_23.below hb24
  have o10_0_24 := o10_0_23.below hb24
  have o12_0_24 := o12_0_23.below hb24
  have o20_0_24 := o20_0_23.below hb24
  have o21_0_24 := o21_0_23.below hb24
  have o22_0_24 := o22_0_23.below hb24
  have zz24 : w23.heap.size ≤ w24.heap.size := (by have := hb24.size; first | omega | (simp at this; omega))
  clear cb0_23 fb0_23 zb0_23
  obtain ⟨cb0_24, fb0_24, zb0_24⟩ := xb0_24.out
  go_wp2
  go_ret
  exact ⟨rfl, B24⟩

set_option maxRecDepth 100000 in
theorem fnExactRunDouble_lifted (os : Os) (started : os.Started) (H : Type) (enc : TypeId × Value → H) :
    ReturnsInHanded {} Try.checked os 12 .any (Rows.fnExactRunDoubleSpec.pre6 enc Try.prog Try.f12 Rows.fnExactRunDoubleRow.domain false) (Rows.fnExactRunDoubleSpec.post enc Try.prog Try.f12 false true false false) := by
  refine returnsInHanded_of_change (C := Try.checked) own started (by kernel_rfl) Try.func12
    (ChangeSpec.witness6 (enc := enc) (C := Try.checked) false ⟨#[], #[.agg #[.int .i64 0, .int .i64 0, .int .i64 0, .int .i64 0, .int .i64 0, .int .i64 0, .int .i64 0, .int .i64 0], .slice none 0 0, .slice none 0 0], []⟩ 8 (by kernel_rfl) (by kernel_rfl) (by kernel_rfl) (by kernel_rfl)) ?_
  intro W base args ds gs before hval0 hW hcnd _
  have hval : ∀ (j : Nat) t v, Try.f12.params[j]? = some t → args[j]? = some v → Value.okWide Try.prog W .any base t v := hval0
  have hW' := hW
  obtain ⟨p, q, hA0, hV, rfl, hfz, hnd⟩ := hW
  have hA : DataW.TrodAll enc Try.prog W 0 (fun _ => true) true Try.f12.params.toList args.toList ds p := hA0
  rw [Try.params12] at hA hval
  obtain ⟨v0, vs0, d0, ds0, p0, q0, hargs, rfl, rfl, h0, r0⟩ := trodAll_cons hA
  obtain ⟨v1, vs1, d1, ds1, p1, q1, rfl, rfl, rfl, h1, r1⟩ := trodAll_cons r0
  obtain ⟨v2, vs2, d2, ds2, p2, q2, rfl, rfl, rfl, h2, r2⟩ := trodAll_cons r1
  obtain ⟨rfl, rfl, rfl⟩ := trodAll_nil r2
  obtain rfl : args = #[v0, v1, v2] := by cases args; simp_all
  obtain ⟨rfl, rfl⟩ := trodVars_none hV
  have k0 := h0
  have lt0 : ∀ x ∈ p0, x.block < W.heap.size := by obtain ⟨m, hm⟩ := k0; exact DataW.trod_lt m _ _ _ hm
  have k1 := h1
  have lt1 : ∀ x ∈ p1, x.block < W.heap.size := by obtain ⟨m, hm⟩ := k1; exact DataW.trod_lt m _ _ _ hm
  have k2 := h2
  have lt2 : ∀ x ∈ p2, x.block < W.heap.size := by obtain ⟨m, hm⟩ := k2; exact DataW.trod_lt m _ _ _ hm
  obtain ⟨d0_0, d0_1, d0_2, d0_3, d0_4, d0_5, d0_6, d0_7, rfl, D0_0, D0_1, D0_2, D0_3, D0_4, D0_5, D0_6, D0_7⟩ := double_of_trod (hval 0 84 v0 rfl rfl) h0
  obtain ⟨x1, S1⟩ := ints_of_trod (hval 1 46 v1 rfl rfl) h1
  obtain ⟨x2, S2⟩ := ints_of_trod (hval 2 46 v2 rfl rfl) h2
  clear hA0 hval0
  refine (lawExactRunDouble d0_0 d0_1 d0_2 d0_3 d0_4 d0_5 d0_6 d0_7 v1 x1 v2 x2 W D0_0 D0_1 D0_2 D0_3 D0_4 D0_5 D0_6 D0_7 S1 S2).mono fun e W' ⟨he, bel⟩ => ?_
  subst he
  exact ⟨_, rfl, _, _, _, [], _, [], hW', trodAll_mk1 (shut_bool Try.underlying4 _), (trodAll_cons_mk (Below.trod laidOut (by kernel_rfl) (of_decide_eq_true (by kernel_rfl)) k0 bel lt0) (trodAll_cons_mk (Below.trod laidOut (by kernel_rfl) (of_decide_eq_true (by kernel_rfl)) k1 bel lt1) (trodAll_cons_mk (Below.trod laidOut (by kernel_rfl) (of_decide_eq_true (by kernel_rfl)) k2 bel lt2) trodAll_mk0))), rfl, bel.frame _, fun h => by cases h⟩

/-- THE STATEMENT. -/
theorem fnExactRunDouble_holds : Rows.FnExactRunDoubleSaid :=
  OpenClaim.holds_of_wide 12 Try.f12 rfl rfl rfl rfl rfl rfl rfl ⟨rfl, rfl, rfl, rfl, rfl⟩ rfl rfl rfl rfl rfl (by kernel_rfl) Try.func12 (by kernel_rfl)
    (of_decide_eq_true (by kernel_rfl)) (by unfold Func.isWrapper; first | (rw [if_pos (by decide +kernel)]; kernel_rfl) | (rw [if_neg (by decide +kernel)]; exact ⟨rfl, rfl⟩))
    (fun os started H enc _ => fnExactRunDouble_lifted os started H enc)
#print axioms fnExactRunDouble_holds

end Go.Proofs.Ytbncinbngmfamaa
