/- FnExactRunState holds: for all states and terms the program's RunState returns what the reference's returns. Conditions: none. -/
import Derived.Test.YtbncinbngmfamaaOpenS
import Derived.Test.YtbncinbngmfamaaRun
namespace Go.Proofs.Ytbncinbngmfamaa
open Go.RowKit Go.ChangeShapes Go.WideShapes Go.ChangeAt
set_option linter.unusedVariables false
set_option linter.unusedSimpArgs false

set_option maxHeartbeats 1600000 in
set_option maxRecDepth 100000 in
theorem lawExactRunState (n0 e0 f0 g0 : Int) (v1 : Value) (y1 : List Int) (w : World) (S0 : R64 n0) (U0 : R64 e0) (X0 : R64 f0) (Y0 : R64 g0) (S1 : Sl w v1 y1) :
    Calls Try.prog 8 #[.agg #[.int .i64 n0, .int .i64 e0, .int .i64 f0, .int .i64 g0], v1] w fun e w' => e = .returned (.bool true) ∧ Bl w w' := by
  have ll1 := S1.len
  obtain ⟨va1, vc1, rfl, _⟩ := S1.form
  by_cases hln1 : 1048576 < y1.length
  · go_enter Try.func8, Try.ntmps8
    go_wp2
    go_ret
    exact ⟨rfl, (bl_alloc (bl_refl _) _)⟩
  have NL1 := Lib.hid (show y1.length ≤ 1048576 by omega)
  go_enter Try.func8, Try.ntmps8
  go_wp2_with fail
  refine (toSt_any (n0) (e0) (f0) (g0) _).mono ?_
  rintro e w1 ⟨rfl, hb1⟩
  have B1 : Bl w w1 := bl_call (bl_alloc (bl_refl _) _) hb1
  have xb0_1 : Bx w1 (w.heap.size) #[.int .i64 (n0), .int .i64 (e0), .int .i64 (f0), .int .i64 (g0)] := (Bx.new (b := w.heap.size) _ #[.int .i64 (n0), .int .i64 (e0), .int .i64 (f0), .int .i64 (g0)] 45 (by first | rfl | simp)).below hb1
  have zz1 : w.heap.size + 1 ≤ w1.heap.size := (by have := hb1.size; first | omega | (simp at this; omega))
  obtain ⟨cb0_1, fb0_1, zb0_1⟩ := xb0_1.out
  go_wp2_with fail
  refine (toI_any _ (y1) _ (S1.below B1) (by have := NL1.out; omega)).mono ?_
  rintro e w2 ⟨a2_0, n2_0, c2_0, rfl, o2_0, hb2⟩
  have B2 : Bl w w2 := bl_call B1 hb2
  have xb0_2 : Bx w2 (w.heap.size) #[.int .i64 (n0), .int .i64 (e0), .int .i64 (f0), .int .i64 (g0)] := xb0_1.below hb2
  have zz2 : w1.heap.size ≤ w2.heap.size := (by have := hb2.size; first | omega | (simp at this; omega))
  clear cb0_1 fb0_1 zb0_1
  obtain ⟨cb0_2, fb0_2, zb0_2⟩ := xb0_2.out
  have R2_0 : ∀ k, ((Value.slice a2_0 n2_0 c2_0)).ownBlock = some k → w1.heap.size ≤ k ∧ k < w2.heap.size := fun k hk => (by have := o2_0.lt k hk; first | omega | (simp at this; omega))
  have R2_0 := Lib.hid R2_0
  have m2_0 := o2_0.mono (B1).size
  clear o2_0
  go_wp2_with fail
  refine (spec_RunState (n0) (e0) (f0) (g0) _ (y1) _ m2_0.sl NL1.out).mono ?_
  rintro e w3 ⟨a3_0, n3_0, c3_0, rfl, o3_0, hb3⟩
  have B3 : Bl w w3 := bl_call B2 hb3
  have xb0_3 : Bx w3 (w.heap.size) #[.int .i64 (n0), .int .i64 (e0), .int .i64 (f0), .int .i64 (g0)] := xb0_2.below hb3
  have o2_0_3 := m2_0.below hb3
  have zz3 : w2.heap.size ≤ w3.heap.size := (by have := hb3.size; first | omega | (simp at this; omega))
  clear cb0_2 fb0_2 zb0_2
  obtain ⟨cb0_3, fb0_3, zb0_3⟩ := xb0_3.out
  have R3_0 : ∀ k, ((Value.slice a3_0 n3_0 c3_0)).ownBlock = some k → w2.heap.size ≤ k ∧ k < w3.heap.size := fun k hk => (by have := o3_0.lt k hk; first | omega | (simp at this; omega))
  have R3_0 := Lib.hid R3_0
  have m3_0 := o3_0.mono (B2).size
  clear o3_0
  go_wp2_with fail
  refine (toI_any _ (y1) _ (S1.below B3) (by have := NL1.out; omega)).mono ?_
  rintro e w4 ⟨a4_0, n4_0, c4_0, rfl, o4_0, hb4⟩
  have B4 : Bl w w4 := bl_call B3 hb4
  have xb0_4 : Bx w4 (w.heap.size) #[.int .i64 (n0), .int .i64 (e0), .int .i64 (f0), .int .i64 (g0)] := xb0_3.below hb4
  have o2_0_4 := o2_0_3.below hb4
  have o3_0_4 := m3_0.below hb4
  have zz4 : w3.heap.size ≤ w4.heap.size := (by have := hb4.size; first | omega | (simp at this; omega))
  clear cb0_3 fb0_3 zb0_3
  obtain ⟨cb0_4, fb0_4, zb0_4⟩ := xb0_4.out
  have R4_0 : ∀ k, ((Value.slice a4_0 n4_0 c4_0)).ownBlock = some k → w3.heap.size ≤ k ∧ k < w4.heap.size := fun k hk => (by have := o4_0.lt k hk; first | omega | (simp at this; omega))
  have R4_0 := Lib.hid R4_0
  have m4_0 := o4_0.mono (B3).size
  clear o4_0
  go_wp2_with fail
  refine (toSt_any (n0) (e0) (f0) (g0) _).mono ?_
  rintro e w5 ⟨rfl, hb5⟩
  have B5 : Bl w w5 := bl_call B4 hb5
  have xb0_5 : Bx w5 (w.heap.size) #[.int .i64 (n0), .int .i64 (e0), .int .i64 (f0), .int .i64 (g0)] := xb0_4.below hb5
  have o2_0_5 := o2_0_4.below hb5
  have o3_0_5 := o3_0_4.below hb5
  have o4_0_5 := m4_0.below hb5
  have zz5 : w4.heap.size ≤ w5.heap.size := (by have := hb5.size; first | omega | (simp at this; omega))
  clear cb0_4 fb0_4 zb0_4
  obtain ⟨cb0_5, fb0_5, zb0_5⟩ := xb0_5.out
  go_wp2_with fail
  refine (impl_RunState (n0) (e0) (f0) (g0) _ (y1) _ o4_0_5.sl NL1.out).mono ?_
  rintro e w6 ⟨a6_0, n6_0, c6_0, rfl, o6_0, hb6⟩
  have B6 : Bl w w6 := bl_call B5 hb6
  have xb0_6 : Bx w6 (w.heap.size) #[.int .i64 (n0), .int .i64 (e0), .int .i64 (f0), .int .i64 (g0)] := xb0_5.below hb6
  have o2_0_6 := o2_0_5.below hb6
  have o3_0_6 := o3_0_5.below hb6
  have o4_0_6 := o4_0_5.below hb6
  have zz6 : w5.heap.size ≤ w6.heap.size := (by have := hb6.size; first | omega | (simp at this; omega))
  clear cb0_5 fb0_5 zb0_5
  obtain ⟨cb0_6, fb0_6, zb0_6⟩ := xb0_6.out
  have R6_0 : ∀ k, ((Value.slice a6_0 n6_0 c6_0)).ownBlock = some k → w5.heap.size ≤ k ∧ k < w6.heap.size := fun k hk => (by have := o6_0.lt k hk; first | omega | (simp at this; omega))
  have R6_0 := Lib.hid R6_0
  have m6_0 := o6_0.mono (B5).size
  clear o6_0
  go_wp2_with fail
  refine (eqI_any _ _ ((runF (n0) (e0) (f0) (g0) (y1)).1) ((runF (n0) (e0) (f0) (g0) (y1)).1) _ m6_0.sl o3_0_6.sl).mono ?_
  rintro e w7 ⟨rfl, hb7⟩
  have B7 : Bl w w7 := bl_call B6 hb7
  have xb0_7 : Bx w7 (w.heap.size) #[.int .i64 (n0), .int .i64 (e0), .int .i64 (f0), .int .i64 (g0)] := xb0_6.below hb7
  have o2_0_7 := o2_0_6.below hb7
  have o3_0_7 := o3_0_6.below hb7
  have o4_0_7 := o4_0_6.below hb7
  have o6_0_7 := m6_0.below hb7
  have zz7 : w6.heap.size ≤ w7.heap.size := (by have := hb7.size; first | omega | (simp at this; omega))
  clear cb0_6 fb0_6 zb0_6
  obtain ⟨cb0_7, fb0_7, zb0_7⟩ := xb0_7.out
  go_wp2_with fail
  refine (toI_any _ (y1) _ (S1.below B7) (by have := NL1.out; omega)).mono ?_
  rintro e w8 ⟨a8_0, n8_0, c8_0, rfl, o8_0, hb8⟩
  have B8 : Bl w w8 := bl_call B7 hb8
  have xb0_8 : Bx w8 (w.heap.size) #[.int .i64 (n0), .int .i64 (e0), .int .i64 (f0), .int .i64 (g0)] := xb0_7.below hb8
  have o2_0_8 := o2_0_7.below hb8
  have o3_0_8 := o3_0_7.below hb8
  have o4_0_8 := o4_0_7.below hb8
  have o6_0_8 := o6_0_7.below hb8
  have zz8 : w7.heap.size ≤ w8.heap.size := (by have := hb8.size; first | omega | (simp at this; omega))
  clear cb0_7 fb0_7 zb0_7
  obtain ⟨cb0_8, fb0_8, zb0_8⟩ := xb0_8.out
  have R8_0 : ∀ k, ((Value.slice a8_0 n8_0 c8_0)).ownBlock = some k → w7.heap.size ≤ k ∧ k < w8.heap.size := fun k hk => (by have := o8_0.lt k hk; first | omega | (simp at this; omega))
  have R8_0 := Lib.hid R8_0
  have m8_0 := o8_0.mono (B7).size
  clear o8_0
  go_wp2_with fail
  refine (eqI_any _ _ (y1) (y1) _ o4_0_8.sl m8_0.sl).mono ?_
  rintro e w9 ⟨rfl, hb9⟩
  have B9 : Bl w w9 := bl_call B8 hb9
  have xb0_9 : Bx w9 (w.heap.size) #[.int .i64 (n0), .int .i64 (e0), .int .i64 (f0), .int .i64 (g0)] := xb0_8.below hb9
  have o2_0_9 := o2_0_8.below hb9
  have o3_0_9 := o3_0_8.below hb9
  have o4_0_9 := o4_0_8.below hb9
  have o6_0_9 := o6_0_8.below hb9
  have o8_0_9 := m8_0.below hb9
  have zz9 : w8.heap.size ≤ w9.heap.size := (by have := hb9.size; first | omega | (simp at this; omega))
  clear cb0_8 fb0_8 zb0_8
  obtain ⟨cb0_9, fb0_9, zb0_9⟩ := xb0_9.out
  go_wp2_with fail
  refine (markI_any _ (y1) (1) w.heap.size _ o4_0_9 (by omega) (by have := NL1.out; omega)).mono ?_
  rintro e w10 ⟨rfl, on10, O10'⟩
  have O10 := Only.of_grown (S := fun k => ((Value.slice a4_0 n4_0 c4_0)).ownBlock = some k) O10' (fun _ e => e)
  have zz10 : w9.heap.size ≤ w10.heap.size := (by have := O10.size; first | omega | (simp at this; omega))
  have B10 : Bl w w10 := Below.only B9 O10 (B9).size (fun k hk => by have := R4_0.out k hk; omega)
  have xb0_10 : Bx w10 (w.heap.size) #[.int .i64 (n0), .int .i64 (e0), .int .i64 (f0), .int .i64 (g0)] := xb0_9.only O10 (fun q => by have := R4_0.out _ q; omega)
  have o2_0_10 := o2_0_9.only O10 (fun k q q' => by have := R2_0.out k q; have := R4_0.out k q'; omega)
  have o3_0_10 := o3_0_9.only O10 (fun k q q' => by have := R3_0.out k q; have := R4_0.out k q'; omega)
  have o6_0_10 := o6_0_9.only O10 (fun k q q' => by have := R6_0.out k q; have := R4_0.out k q'; omega)
  have o8_0_10 := o8_0_9.only O10 (fun k q q' => by have := R8_0.out k q; have := R4_0.out k q'; omega)
  clear cb0_9 fb0_9 zb0_9
  obtain ⟨cb0_10, fb0_10, zb0_10⟩ := xb0_10.out
  go_wp2_with fail
  refine (eqI_any _ _ ((runF (n0) (e0) (f0) (g0) (y1)).1) ((runF (n0) (e0) (f0) (g0) (y1)).1) _ o6_0_10.sl o3_0_10.sl).mono ?_
  rintro e w11 ⟨rfl, hb11⟩
  have B11 : Bl w w11 := bl_call B10 hb11
  have xb0_11 : Bx w11 (w.heap.size) #[.int .i64 (n0), .int .i64 (e0), .int .i64 (f0), .int .i64 (g0)] := xb0_10.below hb11
  have o2_0_11 := o2_0_10.below hb11
  have o3_0_11 := o3_0_10.below hb11
  have o4_0_11 := on10.below hb11
  have o6_0_11 := o6_0_10.below hb11
  have o8_0_11 := o8_0_10.below hb11
  have zz11 : w10.heap.size ≤ w11.heap.size := (by have := hb11.size; first | omega | (simp at this; omega))
  clear cb0_10 fb0_10 zb0_10
  obtain ⟨cb0_11, fb0_11, zb0_11⟩ := xb0_11.out
  go_wp2_with fail
  refine (markI_any _ ((runF (n0) (e0) (f0) (g0) (y1)).1) (1) w.heap.size _ o6_0_11 (by omega) (by have := (runF_len (n0) (e0) (f0) (g0) (y1)); omega)).mono ?_
  rintro e w12 ⟨rfl, on12, O12'⟩
  have O12 := Only.of_grown (S := fun k => ((Value.slice a6_0 n6_0 c6_0)).ownBlock = some k) O12' (fun _ e => e)
  have zz12 : w11.heap.size ≤ w12.heap.size := (by have := O12.size; first | omega | (simp at this; omega))
  have B12 : Bl w w12 := Below.only B11 O12 (B11).size (fun k hk => by have := R6_0.out k hk; omega)
  have xb0_12 : Bx w12 (w.heap.size) #[.int .i64 (n0), .int .i64 (e0), .int .i64 (f0), .int .i64 (g0)] := xb0_11.only O12 (fun q => by have := R6_0.out _ q; omega)
  have o2_0_12 := o2_0_11.only O12 (fun k q q' => by have := R2_0.out k q; have := R6_0.out k q'; omega)
  have o3_0_12 := o3_0_11.only O12 (fun k q q' => by have := R3_0.out k q; have := R6_0.out k q'; omega)
  have o4_0_12 := o4_0_11.only O12 (fun k q q' => by have := R4_0.out k q; have := R6_0.out k q'; omega)
  have o8_0_12 := o8_0_11.only O12 (fun k q q' => by have := R8_0.out k q; have := R6_0.out k q'; omega)
  clear cb0_11 fb0_11 zb0_11
  obtain ⟨cb0_12, fb0_12, zb0_12⟩ := xb0_12.out
  go_wp2_with fail
  refine (heldI_yes _ (((runF (n0) (e0) (f0) (g0) (y1)).1).length) (1) _ on12.sl (by omega) (by have := (runF_len (n0) (e0) (f0) (g0) (y1)); omega)).mono ?_
  rintro e w13 ⟨rfl, hb13⟩
  have B13 : Bl w w13 := bl_call B12 hb13
  have xb0_13 : Bx w13 (w.heap.size) #[.int .i64 (n0), .int .i64 (e0), .int .i64 (f0), .int .i64 (g0)] := xb0_12.below hb13
  have o2_0_13 := o2_0_12.below hb13
  have o3_0_13 := o3_0_12.below hb13
  have o4_0_13 := o4_0_12.below hb13
  have o6_0_13 := on12.below hb13
  have o8_0_13 := o8_0_12.below hb13
  have zz13 : w12.heap.size ≤ w13.heap.size := (by have := hb13.size; first | omega | (simp at this; omega))
  clear cb0_12 fb0_12 zb0_12
  obtain ⟨cb0_13, fb0_13, zb0_13⟩ := xb0_13.out
  go_wp2_with fail
  refine (toSt_any (n0) (e0) (f0) (g0) _).mono ?_
  rintro e w14 ⟨rfl, hb14⟩
  have B14 : Bl w w14 := bl_call B13 hb14
  have xb0_14 : Bx w14 (w.heap.size) #[.int .i64 (n0), .int .i64 (e0), .int .i64 (f0), .int .i64 (g0)] := xb0_13.below hb14
  have o2_0_14 := o2_0_13.below hb14
  have o3_0_14 := o3_0_13.below hb14
  have o4_0_14 := o4_0_13.below hb14
  have o6_0_14 := o6_0_13.below hb14
  have o8_0_14 := o8_0_13.below hb14
  have zz14 : w13.heap.size ≤ w14.heap.size := (by have := hb14.size; first | omega | (simp at this; omega))
  clear cb0_13 fb0_13 zb0_13
  obtain ⟨cb0_14, fb0_14, zb0_14⟩ := xb0_14.out
  go_wp2_with fail
  refine (toI_any _ (y1) _ (S1.below B14) (by have := NL1.out; omega)).mono ?_
  rintro e w15 ⟨a15_0, n15_0, c15_0, rfl, o15_0, hb15⟩
  have B15 : Bl w w15 := bl_call B14 hb15
  have xb0_15 : Bx w15 (w.heap.size) #[.int .i64 (n0), .int .i64 (e0), .int .i64 (f0), .int .i64 (g0)] := xb0_14.below hb15
  have o2_0_15 := o2_0_14.below hb15
  have o3_0_15 := o3_0_14.below hb15
  have o4_0_15 := o4_0_14.below hb15
  have o6_0_15 := o6_0_14.below hb15
  have o8_0_15 := o8_0_14.below hb15
  have zz15 : w14.heap.size ≤ w15.heap.size := (by have := hb15.size; first | omega | (simp at this; omega))
  clear cb0_14 fb0_14 zb0_14
  obtain ⟨cb0_15, fb0_15, zb0_15⟩ := xb0_15.out
  have R15_0 : ∀ k, ((Value.slice a15_0 n15_0 c15_0)).ownBlock = some k → w14.heap.size ≤ k ∧ k < w15.heap.size := fun k hk => (by have := o15_0.lt k hk; first | omega | (simp at this; omega))
  have R15_0 := Lib.hid R15_0
  have m15_0 := o15_0.mono (B14).size
  clear o15_0
  go_wp2_with fail
  refine (impl_RunState (n0) (e0) (f0) (g0) _ (y1) _ m15_0.sl NL1.out).mono ?_
  rintro e w16 ⟨a16_0, n16_0, c16_0, rfl, o16_0, hb16⟩
  have B16 : Bl w w16 := bl_call B15 hb16
  have xb0_16 : Bx w16 (w.heap.size) #[.int .i64 (n0), .int .i64 (e0), .int .i64 (f0), .int .i64 (g0)] := xb0_15.below hb16
  have o2_0_16 := o2_0_15.below hb16
  have o3_0_16 := o3_0_15.below hb16
  have o4_0_16 := o4_0_15.below hb16
  have o6_0_16 := o6_0_15.below hb16
  have o8_0_16 := o8_0_15.below hb16
  have o15_0_16 := m15_0.below hb16
  have zz16 : w15.heap.size ≤ w16.heap.size := (by have := hb16.size; first | omega | (simp at this; omega))
  clear cb0_15 fb0_15 zb0_15
  obtain ⟨cb0_16, fb0_16, zb0_16⟩ := xb0_16.out
  have R16_0 : ∀ k, ((Value.slice a16_0 n16_0 c16_0)).ownBlock = some k → w15.heap.size ≤ k ∧ k < w16.heap.size := fun k hk => (by have := o16_0.lt k hk; first | omega | (simp at this; omega))
  have R16_0 := Lib.hid R16_0
  have m16_0 := o16_0.mono (B15).size
  clear o16_0
  go_wp2_with fail
  refine (eqI_any _ _ ((runF (n0) (e0) (f0) (g0) (y1)).1) ((runF (n0) (e0) (f0) (g0) (y1)).1) _ m16_0.sl o3_0_16.sl).mono ?_
  rintro e w17 ⟨rfl, hb17⟩
  have B17 : Bl w w17 := bl_call B16 hb17
  have xb0_17 : Bx w17 (w.heap.size) #[.int .i64 (n0), .int .i64 (e0), .int .i64 (f0), .int .i64 (g0)] := xb0_16.below hb17
  have o2_0_17 := o2_0_16.below hb17
  have o3_0_17 := o3_0_16.below hb17
  have o4_0_17 := o4_0_16.below hb17
  have o6_0_17 := o6_0_16.below hb17
  have o8_0_17 := o8_0_16.below hb17
  have o15_0_17 := o15_0_16.below hb17
  have o16_0_17 := m16_0.below hb17
  have zz17 : w16.heap.size ≤ w17.heap.size := (by have := hb17.size; first | omega | (simp at this; omega))
  clear cb0_16 fb0_16 zb0_16
  obtain ⟨cb0_17, fb0_17, zb0_17⟩ := xb0_17.out
  go_wp2_with fail
  refine (heldI_yes _ (((runF (n0) (e0) (f0) (g0) (y1)).1).length) (1) _ o6_0_17.sl (by omega) (by have := (runF_len (n0) (e0) (f0) (g0) (y1)); omega)).mono ?_
  rintro e w18 ⟨rfl, hb18⟩
  have B18 : Bl w w18 := bl_call B17 hb18
  have xb0_18 : Bx w18 (w.heap.size) #[.int .i64 (n0), .int .i64 (e0), .int .i64 (f0), .int .i64 (g0)] := xb0_17.below hb18
  have o2_0_18 := o2_0_17.below hb18
  have o3_0_18 := o3_0_17.below hb18
  have o4_0_18 := o4_0_17.below hb18
  have o6_0_18 := o6_0_17.below hb18
  have o8_0_18 := o8_0_17.below hb18
  have o15_0_18 := o15_0_17.below hb18
  have o16_0_18 := o16_0_17.below hb18
  have zz18 : w17.heap.size ≤ w18.heap.size := (by have := hb18.size; first | omega | (simp at this; omega))
  clear cb0_17 fb0_17 zb0_17
  obtain ⟨cb0_18, fb0_18, zb0_18⟩ := xb0_18.out
  go_wp2
  go_ret
  exact ⟨rfl, B18⟩

set_option maxRecDepth 100000 in
theorem fnExactRunState_lifted (os : Os) (started : os.Started) (H : Type) (enc : TypeId × Value → H) :
    ReturnsInHanded {} Try.checked os 8 .any (Rows.fnExactRunStateSpec.pre6 enc Try.prog Try.f8 Rows.fnExactRunStateRow.domain false) (Rows.fnExactRunStateSpec.post enc Try.prog Try.f8 false true false false) := by
  refine returnsInHanded_of_change (C := Try.checked) own started (by kernel_rfl) Try.func8
    (ChangeSpec.witness6 (enc := enc) (C := Try.checked) false ⟨#[], #[.agg #[.int .i64 0, .int .i64 0, .int .i64 0, .int .i64 0], .slice none 0 0], []⟩ 8 (by kernel_rfl) (by kernel_rfl) (by kernel_rfl) (by kernel_rfl)) ?_
  intro W base args ds gs before hval0 hW hcnd _
  have hval : ∀ (j : Nat) t v, Try.f8.params[j]? = some t → args[j]? = some v → Value.okWide Try.prog W .any base t v := hval0
  have hW' := hW
  obtain ⟨p, q, hA0, hV, rfl, hfz, hnd⟩ := hW
  have hA : DataW.TrodAll enc Try.prog W 0 (fun _ => true) true Try.f8.params.toList args.toList ds p := hA0
  rw [Try.params8] at hA hval
  obtain ⟨v0, vs0, d0, ds0, p0, q0, hargs, rfl, rfl, h0, r0⟩ := trodAll_cons hA
  obtain ⟨v1, vs1, d1, ds1, p1, q1, rfl, rfl, rfl, h1, r1⟩ := trodAll_cons r0
  obtain ⟨rfl, rfl, rfl⟩ := trodAll_nil r1
  obtain rfl : args = #[v0, v1] := by cases args; simp_all
  obtain ⟨rfl, rfl⟩ := trodVars_none hV
  have k0 := h0
  have lt0 : ∀ x ∈ p0, x.block < W.heap.size := by obtain ⟨m, hm⟩ := k0; exact DataW.trod_lt m _ _ _ hm
  have k1 := h1
  have lt1 : ∀ x ∈ p1, x.block < W.heap.size := by obtain ⟨m, hm⟩ := k1; exact DataW.trod_lt m _ _ _ hm
  obtain ⟨n0, e0, f0, g0, rfl, S0, U0, X0, Y0⟩ := state_of_trod (hval 0 45 v0 rfl rfl) h0
  obtain ⟨x1, S1⟩ := ints_of_trod (hval 1 46 v1 rfl rfl) h1
  clear hA0 hval0
  refine (lawExactRunState n0 e0 f0 g0 v1 x1 W S0 U0 X0 Y0 S1).mono fun e W' ⟨he, bel⟩ => ?_
  subst he
  exact ⟨_, rfl, _, _, _, [], _, [], hW', trodAll_mk1 (shut_bool Try.underlying4 _), (trodAll_cons_mk (Below.trod laidOut (by kernel_rfl) (of_decide_eq_true (by kernel_rfl)) k0 bel lt0) (trodAll_cons_mk (Below.trod laidOut (by kernel_rfl) (of_decide_eq_true (by kernel_rfl)) k1 bel lt1) trodAll_mk0)), rfl, bel.frame _, fun h => by cases h⟩

/-- THE STATEMENT. -/
theorem fnExactRunState_holds : Rows.FnExactRunStateSaid :=
  OpenClaim.holds_of_wide 8 Try.f8 rfl rfl rfl rfl rfl rfl rfl ⟨rfl, rfl, rfl, rfl, rfl⟩ rfl rfl rfl rfl rfl (by kernel_rfl) Try.func8 (by kernel_rfl)
    (of_decide_eq_true (by kernel_rfl)) (by unfold Func.isWrapper; first | (rw [if_pos (by decide +kernel)]; kernel_rfl) | (rw [if_neg (by decide +kernel)]; exact ⟨rfl, rfl⟩))
    (fun os started H enc _ => fnExactRunState_lifted os started H enc)
#print axioms fnExactRunState_holds

end Go.Proofs.Ytbncinbngmfamaa
