/- FnExactEqualSources holds: for all pairs of sources the program's EqualSources returns what the reference's returns. Conditions: none. -/
import Derived.Test.YtokmgggfbomhnaaOpen
import Derived.Test.YtokmgggfbomhnaaEqS
namespace Go.Proofs.Ytokmgggfbomhnaa
open Go.RowKit Go.ChangeShapes Go.WideShapes Go.ChangeAt
set_option linter.unusedVariables false
set_option linter.unusedSimpArgs false

set_option maxHeartbeats 1600000 in
set_option maxRecDepth 100000 in
theorem lawExactEqualSources (a0 b0 c0 : Value) (s0 : Src) (a1 b1 c1 : Value) (s1 : Src) (w : World) (S0 : SlS w a0 b0 c0 s0) (S1 : SlS w a1 b1 c1 s1) :
    Calls Try.prog 6 #[.agg #[a0, b0, c0], .agg #[a1, b1, c1]] w fun e w' => e = .returned (.bool true) ∧ Bl w w' := by
  go_enter Try.func6, Try.ntmps6
  go_wp2_with fail
  refine (szS_any _ _ _ (s0) _ _ (S0.below (bl_alloc (bl_alloc (bl_refl _) _) _)) (by omega) (by omega)).mono ?_
  rintro e w1 ⟨rfl, hb1⟩
  have B1 : Bl w w1 := bl_call (bl_alloc (bl_alloc (bl_refl _) _) _) hb1
  have xb0_1 : Bx w1 (w.heap.size) #[a0, b0, c0] := ((Bx.new (b := w.heap.size) _ #[a0, b0, c0] 24 (by first | rfl | simp)).alloc _).below hb1
  have xb1_1 : Bx w1 (w.heap.size + 1) #[a1, b1, c1] := (Bx.new (b := w.heap.size + 1) _ #[a1, b1, c1] 24 (by first | rfl | simp)).below hb1
  have zz1 : w.heap.size + 2 ≤ w1.heap.size := (by have := hb1.size; first | omega | (simp at this; omega))
  obtain ⟨cb0_1, fb0_1, zb0_1⟩ := xb0_1.out
  obtain ⟨cb1_1, fb1_1, zb1_1⟩ := xb1_1.out
  by_cases hsz1 : szS (1048576) s0 < 0
  · go_wp2
    go_ret
    exact ⟨rfl, B1⟩
  obtain ⟨q11, q12, q13, q14, q15⟩ := szS_nonneg (1048576) s0 (by omega)
  have NL0 := Lib.hid (show s0.H.length ≤ 1048576 ∧ s0.P.length ≤ 1048576 ∧ s0.G.length ≤ 1048576 by omega)
  clear q11 q12 q13 q15
  go_wp2_with fail
  refine (szS_any _ _ _ (s1) _ _ (S1.below B1) (by omega) (by omega)).mono ?_
  rintro e w2 ⟨rfl, hb2⟩
  have B2 : Bl w w2 := bl_call B1 hb2
  have xb0_2 : Bx w2 (w.heap.size) #[a0, b0, c0] := xb0_1.below hb2
  have xb1_2 : Bx w2 (w.heap.size + 1) #[a1, b1, c1] := xb1_1.below hb2
  have zz2 : w1.heap.size ≤ w2.heap.size := (by have := hb2.size; first | omega | (simp at this; omega))
  clear cb0_1 fb0_1 zb0_1 cb1_1 fb1_1 zb1_1
  obtain ⟨cb0_2, fb0_2, zb0_2⟩ := xb0_2.out
  obtain ⟨cb1_2, fb1_2, zb1_2⟩ := xb1_2.out
  by_cases hsz2 : szS (szS (1048576) s0) s1 < 0
  · go_wp2
    go_ret
    exact ⟨rfl, B2⟩
  obtain ⟨q21, q22, q23, q24, q25⟩ := szS_nonneg (szS (1048576) s0) s1 (by omega)
  have NL1 := Lib.hid (show s1.H.length ≤ 1048576 ∧ s1.P.length ≤ 1048576 ∧ s1.G.length ≤ 1048576 by omega)
  clear q21 q22 q23 q25
  go_wp2_with fail
  go_region_held3 (fun w' => w'.cell? ⟨w.heap.size, 0, none⟩ = some (a0) ∧ w'.cell? ⟨w.heap.size, 1, none⟩ = some (b0) ∧ w'.cell? ⟨w.heap.size, 2, none⟩ = some (c0) ∧ w'.cell? ⟨w.heap.size + 1, 0, none⟩ = some (a1) ∧ w'.cell? ⟨w.heap.size + 1, 1, none⟩ = some (b1) ∧ w'.cell? ⟨w.heap.size + 1, 2, none⟩ = some (c1)) (first | (simp [*]; done) | (go_simp; done) | go_keep)
    (first | (go_at_call_of 17 (Value.agg #[a0, b0, c0]); go_must (refine (toS_any _ _ _ (s0) _ (S0.below (bl_drew B2)) NL0.out).mono ?_; rintro e w3 ⟨h3_0, p3_0, g3_0, rfl, o3_0, hb3⟩; obtain ⟨⟨a3_00, n3_00, c3_00, rfl⟩, ⟨a3_01, n3_01, c3_01, rfl⟩, ⟨a3_02, n3_02, c3_02, rfl⟩⟩ := o3_0.shape; have B3 : Bl w w3 := bl_call (bl_drew B2) hb3; have xb0_3 : Bx w3 (w.heap.size) #[a0, b0, c0] := (xb0_2.drew).below hb3; have xb1_3 : Bx w3 (w.heap.size + 1) #[a1, b1, c1] := (xb1_2.drew).below hb3; have zz3 : w2.heap.size ≤ w3.heap.size := (by have := hb3.size; first | omega | (simp at this; omega)); clear cb0_2 fb0_2 zb0_2 cb1_2 fb1_2 zb1_2; obtain ⟨cb0_3, fb0_3, zb0_3⟩ := xb0_3.out; obtain ⟨cb1_3, fb1_3, zb1_3⟩ := xb1_3.out; have R3_0 : ∀ k, blks (.slice a3_00 n3_00 c3_00) (.slice a3_01 n3_01 c3_01) (.slice a3_02 n3_02 c3_02) k → w2.heap.size ≤ k ∧ k < w3.heap.size := fun k hk => (by have := o3_0.blk k hk; first | omega | (simp at this; omega)); have R3_0 := Lib.hid R3_0; have m3_0 := o3_0.mono ((bl_drew B2)).size; clear o3_0)) | (go_at_call_of 17 (Value.agg #[a1, b1, c1]); go_must (refine (toS_any _ _ _ (s1) _ (S1.below B3) NL1.out).mono ?_; rintro e w4 ⟨h4_0, p4_0, g4_0, rfl, o4_0, hb4⟩; obtain ⟨⟨a4_00, n4_00, c4_00, rfl⟩, ⟨a4_01, n4_01, c4_01, rfl⟩, ⟨a4_02, n4_02, c4_02, rfl⟩⟩ := o4_0.shape; have B4 : Bl w w4 := bl_call B3 hb4; have xb0_4 : Bx w4 (w.heap.size) #[a0, b0, c0] := xb0_3.below hb4; have xb1_4 : Bx w4 (w.heap.size + 1) #[a1, b1, c1] := xb1_3.below hb4; have o3_0_4 := m3_0.below hb4; have zz4 : w3.heap.size ≤ w4.heap.size := (by have := hb4.size; first | omega | (simp at this; omega)); clear cb0_3 fb0_3 zb0_3 cb1_3 fb1_3 zb1_3; obtain ⟨cb0_4, fb0_4, zb0_4⟩ := xb0_4.out; obtain ⟨cb1_4, fb1_4, zb1_4⟩ := xb1_4.out; have R4_0 : ∀ k, blks (.slice a4_00 n4_00 c4_00) (.slice a4_01 n4_01 c4_01) (.slice a4_02 n4_02 c4_02) k → w3.heap.size ≤ k ∧ k < w4.heap.size := fun k hk => (by have := o4_0.blk k hk; first | omega | (simp at this; omega)); have R4_0 := Lib.hid R4_0; have m4_0 := o4_0.mono (B3).size; clear o4_0)) | (go_at_call_of 30 (Value.agg #[(.slice a3_00 n3_00 c3_00), (.slice a3_01 n3_01 c3_01), (.slice a3_02 n3_02 c3_02)]); go_must (refine (spec_EqualSources _ _ _ (s0) _ _ _ (s1) _ o3_0_4.sl m4_0.sl).mono ?_; rintro e w5 ⟨rfl, hb5⟩; have B5 : Bl w w5 := bl_call B4 hb5; have xb0_5 : Bx w5 (w.heap.size) #[a0, b0, c0] := xb0_4.below hb5; have xb1_5 : Bx w5 (w.heap.size + 1) #[a1, b1, c1] := xb1_4.below hb5; have o3_0_5 := o3_0_4.below hb5; have o4_0_5 := m4_0.below hb5; have zz5 : w4.heap.size ≤ w5.heap.size := (by have := hb5.size; first | omega | (simp at this; omega)); clear cb0_4 fb0_4 zb0_4 cb1_4 fb1_4 zb1_4; obtain ⟨cb0_5, fb0_5, zb0_5⟩ := xb0_5.out; obtain ⟨cb1_5, fb1_5, zb1_5⟩ := xb1_5.out)))
  go_wp2_with fail
  refine (toS_any _ _ _ (s0) _ (S0.below B5) NL0.out).mono ?_
  rintro e w6 ⟨h6_0, p6_0, g6_0, rfl, o6_0, hb6⟩
  obtain ⟨⟨a6_00, n6_00, c6_00, rfl⟩, ⟨a6_01, n6_01, c6_01, rfl⟩, ⟨a6_02, n6_02, c6_02, rfl⟩⟩ := o6_0.shape
  have B6 : Bl w w6 := bl_call B5 hb6
  have xb0_6 : Bx w6 (w.heap.size) #[a0, b0, c0] := xb0_5.below hb6
  have xb1_6 : Bx w6 (w.heap.size + 1) #[a1, b1, c1] := xb1_5.below hb6
  have o3_0_6 := o3_0_5.below hb6
  have o4_0_6 := o4_0_5.below hb6
  have zz6 : w5.heap.size ≤ w6.heap.size := (by have := hb6.size; first | omega | (simp at this; omega))
  clear cb0_5 fb0_5 zb0_5 cb1_5 fb1_5 zb1_5
  obtain ⟨cb0_6, fb0_6, zb0_6⟩ := xb0_6.out
  obtain ⟨cb1_6, fb1_6, zb1_6⟩ := xb1_6.out
  have R6_0 : ∀ k, blks (.slice a6_00 n6_00 c6_00) (.slice a6_01 n6_01 c6_01) (.slice a6_02 n6_02 c6_02) k → w5.heap.size ≤ k ∧ k < w6.heap.size := fun k hk => (by have := o6_0.blk k hk; first | omega | (simp at this; omega))
  have R6_0 := Lib.hid R6_0
  have m6_0 := o6_0.mono (B5).size
  clear o6_0
  go_wp2_with fail
  refine (toS_any _ _ _ (s1) _ (S1.below (bl_alloc B6 _)) NL1.out).mono ?_
  rintro e w7 ⟨h7_0, p7_0, g7_0, rfl, o7_0, hb7⟩
  obtain ⟨⟨a7_00, n7_00, c7_00, rfl⟩, ⟨a7_01, n7_01, c7_01, rfl⟩, ⟨a7_02, n7_02, c7_02, rfl⟩⟩ := o7_0.shape
  have B7 : Bl w w7 := bl_call (bl_alloc B6 _) hb7
  have xb0_7 : Bx w7 (w.heap.size) #[a0, b0, c0] := (xb0_6.alloc _).below hb7
  have xb1_7 : Bx w7 (w.heap.size + 1) #[a1, b1, c1] := (xb1_6.alloc _).below hb7
  have xb2_7 : Bx w7 (w6.heap.size) #[(.slice a6_00 n6_00 c6_00), (.slice a6_01 n6_01 c6_01), (.slice a6_02 n6_02 c6_02)] := (Bx.new (b := w6.heap.size) _ #[(.slice a6_00 n6_00 c6_00), (.slice a6_01 n6_01 c6_01), (.slice a6_02 n6_02 c6_02)] 28 (by first | rfl | simp)).below hb7
  have o3_0_7 := (o3_0_6.alloc _).below hb7
  have o4_0_7 := (o4_0_6.alloc _).below hb7
  have o6_0_7 := (m6_0.alloc _).below hb7
  have zz7 : w6.heap.size + 1 ≤ w7.heap.size := (by have := hb7.size; first | omega | (simp at this; omega))
  clear cb0_6 fb0_6 zb0_6 cb1_6 fb1_6 zb1_6
  obtain ⟨cb0_7, fb0_7, zb0_7⟩ := xb0_7.out
  obtain ⟨cb1_7, fb1_7, zb1_7⟩ := xb1_7.out
  obtain ⟨cb2_7, fb2_7, zb2_7⟩ := xb2_7.out
  have R7_0 : ∀ k, blks (.slice a7_00 n7_00 c7_00) (.slice a7_01 n7_01 c7_01) (.slice a7_02 n7_02 c7_02) k → w6.heap.size + 1 ≤ k ∧ k < w7.heap.size := fun k hk => (by have := o7_0.blk k hk; first | omega | (simp at this; omega))
  have R7_0 := Lib.hid R7_0
  have m7_0 := o7_0.mono ((bl_alloc B6 _)).size
  clear o7_0
  go_wp2_with fail
  refine (impl_EqualSources _ _ _ (s0) _ _ _ (s1) _ (o6_0_7.alloc _).sl (m7_0.alloc _).sl).mono ?_
  rintro e w8 ⟨rfl, hb8⟩
  have B8 : Bl w w8 := bl_call (bl_alloc B7 _) hb8
  have xb0_8 : Bx w8 (w.heap.size) #[a0, b0, c0] := (xb0_7.alloc _).below hb8
  have xb1_8 : Bx w8 (w.heap.size + 1) #[a1, b1, c1] := (xb1_7.alloc _).below hb8
  have xb2_8 : Bx w8 (w6.heap.size) #[(.slice a6_00 n6_00 c6_00), (.slice a6_01 n6_01 c6_01), (.slice a6_02 n6_02 c6_02)] := (xb2_7.alloc _).below hb8
  have xb3_8 : Bx w8 (w7.heap.size) #[(.slice a7_00 n7_00 c7_00), (.slice a7_01 n7_01 c7_01), (.slice a7_02 n7_02 c7_02)] := (Bx.new (b := w7.heap.size) _ #[(.slice a7_00 n7_00 c7_00), (.slice a7_01 n7_01 c7_01), (.slice a7_02 n7_02 c7_02)] 28 (by first | rfl | simp)).below hb8
  have o3_0_8 := (o3_0_7.alloc _).below hb8
  have o4_0_8 := (o4_0_7.alloc _).below hb8
  have o6_0_8 := (o6_0_7.alloc _).below hb8
  have o7_0_8 := (m7_0.alloc _).below hb8
  have zz8 : w7.heap.size + 1 ≤ w8.heap.size := (by have := hb8.size; first | omega | (simp at this; omega))
  clear cb0_7 fb0_7 zb0_7 cb1_7 fb1_7 zb1_7 cb2_7 fb2_7 zb2_7
  obtain ⟨cb0_8, fb0_8, zb0_8⟩ := xb0_8.out
  obtain ⟨cb1_8, fb1_8, zb1_8⟩ := xb1_8.out
  obtain ⟨cb2_8, fb2_8, zb2_8⟩ := xb2_8.out
  obtain ⟨cb3_8, fb3_8, zb3_8⟩ := xb3_8.out
  go_wp2_with fail
  go_region_held3 (fun w' => w'.cell? ⟨w6.heap.size, 0, none⟩ = some ((.slice a6_00 n6_00 c6_00)) ∧ w'.cell? ⟨w6.heap.size, 1, none⟩ = some ((.slice a6_01 n6_01 c6_01)) ∧ w'.cell? ⟨w6.heap.size, 2, none⟩ = some ((.slice a6_02 n6_02 c6_02)) ∧ w'.cell? ⟨w.heap.size, 0, none⟩ = some (a0) ∧ w'.cell? ⟨w.heap.size, 1, none⟩ = some (b0) ∧ w'.cell? ⟨w.heap.size, 2, none⟩ = some (c0)) (first | (simp [*]; done) | (go_simp; done) | go_keep)
    (first | (go_at_call_of 17 (Value.agg #[a0, b0, c0]); go_must (refine (toS_any _ _ _ (s0) _ (S0.below (bl_drew B8)) NL0.out).mono ?_; rintro e w9 ⟨h9_0, p9_0, g9_0, rfl, o9_0, hb9⟩; obtain ⟨⟨a9_00, n9_00, c9_00, rfl⟩, ⟨a9_01, n9_01, c9_01, rfl⟩, ⟨a9_02, n9_02, c9_02, rfl⟩⟩ := o9_0.shape; have B9 : Bl w w9 := bl_call (bl_drew B8) hb9; have xb0_9 : Bx w9 (w.heap.size) #[a0, b0, c0] := (xb0_8.drew).below hb9; have xb1_9 : Bx w9 (w.heap.size + 1) #[a1, b1, c1] := (xb1_8.drew).below hb9; have xb2_9 : Bx w9 (w6.heap.size) #[(.slice a6_00 n6_00 c6_00), (.slice a6_01 n6_01 c6_01), (.slice a6_02 n6_02 c6_02)] := (xb2_8.drew).below hb9; have xb3_9 : Bx w9 (w7.heap.size) #[(.slice a7_00 n7_00 c7_00), (.slice a7_01 n7_01 c7_01), (.slice a7_02 n7_02 c7_02)] := (xb3_8.drew).below hb9; have o3_0_9 := (o3_0_8.drew).below hb9; have o4_0_9 := (o4_0_8.drew).below hb9; have o6_0_9 := (o6_0_8.drew).below hb9; have o7_0_9 := (o7_0_8.drew).below hb9; have zz9 : w8.heap.size ≤ w9.heap.size := (by have := hb9.size; first | omega | (simp at this; omega)); clear cb0_8 fb0_8 zb0_8 cb1_8 fb1_8 zb1_8 cb2_8 fb2_8 zb2_8 cb3_8 fb3_8 zb3_8; obtain ⟨cb0_9, fb0_9, zb0_9⟩ := xb0_9.out; obtain ⟨cb1_9, fb1_9, zb1_9⟩ := xb1_9.out; obtain ⟨cb2_9, fb2_9, zb2_9⟩ := xb2_9.out; obtain ⟨cb3_9, fb3_9, zb3_9⟩ := xb3_9.out; have R9_0 : ∀ k, blks (.slice a9_00 n9_00 c9_00) (.slice a9_01 n9_01 c9_01) (.slice a9_02 n9_02 c9_02) k → w8.heap.size ≤ k ∧ k < w9.heap.size := fun k hk => (by have := o9_0.blk k hk; first | omega | (simp at this; omega)); have R9_0 := Lib.hid R9_0; have m9_0 := o9_0.mono ((bl_drew B8)).size; clear o9_0)) | (go_at_call_of 20 (Value.agg #[(.slice a6_00 n6_00 c6_00), (.slice a6_01 n6_01 c6_01), (.slice a6_02 n6_02 c6_02)]); go_must (refine (eqS_any _ _ _ _ _ _ (s0) (s0) _ o6_0_9.sl m9_0.sl).mono ?_; rintro e w10 ⟨rfl, hb10⟩; have B10 : Bl w w10 := bl_call B9 hb10; have xb0_10 : Bx w10 (w.heap.size) #[a0, b0, c0] := xb0_9.below hb10; have xb1_10 : Bx w10 (w.heap.size + 1) #[a1, b1, c1] := xb1_9.below hb10; have xb2_10 : Bx w10 (w6.heap.size) #[(.slice a6_00 n6_00 c6_00), (.slice a6_01 n6_01 c6_01), (.slice a6_02 n6_02 c6_02)] := xb2_9.below hb10; have xb3_10 : Bx w10 (w7.heap.size) #[(.slice a7_00 n7_00 c7_00), (.slice a7_01 n7_01 c7_01), (.slice a7_02 n7_02 c7_02)] := xb3_9.below hb10; have o3_0_10 := o3_0_9.below hb10; have o4_0_10 := o4_0_9.below hb10; have o6_0_10 := o6_0_9.below hb10; have o7_0_10 := o7_0_9.below hb10; have o9_0_10 := m9_0.below hb10; have zz10 : w9.heap.size ≤ w10.heap.size := (by have := hb10.size; first | omega | (simp at this; omega)); clear cb0_9 fb0_9 zb0_9 cb1_9 fb1_9 zb1_9 cb2_9 fb2_9 zb2_9 cb3_9 fb3_9 zb3_9; obtain ⟨cb0_10, fb0_10, zb0_10⟩ := xb0_10.out; obtain ⟨cb1_10, fb1_10, zb1_10⟩ := xb1_10.out; obtain ⟨cb2_10, fb2_10, zb2_10⟩ := xb2_10.out; obtain ⟨cb3_10, fb3_10, zb3_10⟩ := xb3_10.out)))
  go_wp2_with fail
  go_region_held3 (fun w' => w'.cell? ⟨w7.heap.size, 0, none⟩ = some ((.slice a7_00 n7_00 c7_00)) ∧ w'.cell? ⟨w7.heap.size, 1, none⟩ = some ((.slice a7_01 n7_01 c7_01)) ∧ w'.cell? ⟨w7.heap.size, 2, none⟩ = some ((.slice a7_02 n7_02 c7_02)) ∧ w'.cell? ⟨w.heap.size + 1, 0, none⟩ = some (a1) ∧ w'.cell? ⟨w.heap.size + 1, 1, none⟩ = some (b1) ∧ w'.cell? ⟨w.heap.size + 1, 2, none⟩ = some (c1)) (first | (simp [*]; done) | (go_simp; done) | go_keep)
    (first | (go_at_call_of 17 (Value.agg #[a1, b1, c1]); go_must (refine (toS_any _ _ _ (s1) _ (S1.below (bl_drew B10)) NL1.out).mono ?_; rintro e w11 ⟨h11_0, p11_0, g11_0, rfl, o11_0, hb11⟩; obtain ⟨⟨a11_00, n11_00, c11_00, rfl⟩, ⟨a11_01, n11_01, c11_01, rfl⟩, ⟨a11_02, n11_02, c11_02, rfl⟩⟩ := o11_0.shape; have B11 : Bl w w11 := bl_call (bl_drew B10) hb11; have xb0_11 : Bx w11 (w.heap.size) #[a0, b0, c0] := (xb0_10.drew).below hb11; have xb1_11 : Bx w11 (w.heap.size + 1) #[a1, b1, c1] := (xb1_10.drew).below hb11; have xb2_11 : Bx w11 (w6.heap.size) #[(.slice a6_00 n6_00 c6_00), (.slice a6_01 n6_01 c6_01), (.slice a6_02 n6_02 c6_02)] := (xb2_10.drew).below hb11; have xb3_11 : Bx w11 (w7.heap.size) #[(.slice a7_00 n7_00 c7_00), (.slice a7_01 n7_01 c7_01), (.slice a7_02 n7_02 c7_02)] := (xb3_10.drew).below hb11; have o3_0_11 := (o3_0_10.drew).below hb11; have o4_0_11 := (o4_0_10.drew).below hb11; have o6_0_11 := (o6_0_10.drew).below hb11; have o7_0_11 := (o7_0_10.drew).below hb11; have o9_0_11 := (o9_0_10.drew).below hb11; have zz11 : w10.heap.size ≤ w11.heap.size := (by have := hb11.size; first | omega | (simp at this; omega)); clear cb0_10 fb0_10 zb0_10 cb1_10 fb1_10 zb1_10 cb2_10 fb2_10 zb2_10 cb3_10 fb3_10 zb3_10; obtain ⟨cb0_11, fb0_11, zb0_11⟩ := xb0_11.out; obtain ⟨cb1_11, fb1_11, zb1_11⟩ := xb1_11.out; obtain ⟨cb2_11, fb2_11, zb2_11⟩ := xb2_11.out; obtain ⟨cb3_11, fb3_11, zb3_11⟩ := xb3_11.out; have R11_0 : ∀ k, blks (.slice a11_00 n11_00 c11_00) (.slice a11_01 n11_01 c11_01) (.slice a11_02 n11_02 c11_02) k → w10.heap.size ≤ k ∧ k < w11.heap.size := fun k hk => (by have := o11_0.blk k hk; first | omega | (simp at this; omega)); have R11_0 := Lib.hid R11_0; have m11_0 := o11_0.mono ((bl_drew B10)).size; clear o11_0)) | (go_at_call_of 20 (Value.agg #[(.slice a7_00 n7_00 c7_00), (.slice a7_01 n7_01 c7_01), (.slice a7_02 n7_02 c7_02)]); go_must (refine (eqS_any _ _ _ _ _ _ (s1) (s1) _ o7_0_11.sl m11_0.sl).mono ?_; rintro e w12 ⟨rfl, hb12⟩; have B12 : Bl w w12 := bl_call B11 hb12; have xb0_12 : Bx w12 (w.heap.size) #[a0, b0, c0] := xb0_11.below hb12; have xb1_12 : Bx w12 (w.heap.size + 1) #[a1, b1, c1] := xb1_11.below hb12; have xb2_12 : Bx w12 (w6.heap.size) #[(.slice a6_00 n6_00 c6_00), (.slice a6_01 n6_01 c6_01), (.slice a6_02 n6_02 c6_02)] := xb2_11.below hb12; have xb3_12 : Bx w12 (w7.heap.size) #[(.slice a7_00 n7_00 c7_00), (.slice a7_01 n7_01 c7_01), (.slice a7_02 n7_02 c7_02)] := xb3_11.below hb12; have o3_0_12 := o3_0_11.below hb12; have o4_0_12 := o4_0_11.below hb12; have o6_0_12 := o6_0_11.below hb12; have o7_0_12 := o7_0_11.below hb12; have o9_0_12 := o9_0_11.below hb12; have o11_0_12 := m11_0.below hb12; have zz12 : w11.heap.size ≤ w12.heap.size := (by have := hb12.size; first | omega | (simp at this; omega)); clear cb0_11 fb0_11 zb0_11 cb1_11 fb1_11 zb1_11 cb2_11 fb2_11 zb2_11 cb3_11 fb3_11 zb3_11; obtain ⟨cb0_12, fb0_12, zb0_12⟩ := xb0_12.out; obtain ⟨cb1_12, fb1_12, zb1_12⟩ := xb1_12.out; obtain ⟨cb2_12, fb2_12, zb2_12⟩ := xb2_12.out; obtain ⟨cb3_12, fb3_12, zb3_12⟩ := xb3_12.out)))
  go_wp2
  go_ret
  exact ⟨rfl, B12⟩

set_option maxRecDepth 100000 in
theorem fnExactEqualSources_lifted (os : Os) (started : os.Started) (H : Type) (enc : TypeId × Value → H) :
    ReturnsInHanded {} Try.checked os 6 .any (Rows.fnExactEqualSourcesSpec.pre6 enc Try.prog Try.f6 Rows.fnExactEqualSourcesRow.domain false) (Rows.fnExactEqualSourcesSpec.post enc Try.prog Try.f6 false true false false) := by
  refine returnsInHanded_of_change (C := Try.checked) own started (by kernel_rfl) Try.func6
    (ChangeSpec.witness6 (enc := enc) (C := Try.checked) false ⟨#[], #[.agg #[.slice none 0 0, .slice none 0 0, .slice none 0 0], .agg #[.slice none 0 0, .slice none 0 0, .slice none 0 0]], []⟩ 8 (by kernel_rfl) (by kernel_rfl) (by kernel_rfl) (by kernel_rfl)) ?_
  intro W base args ds gs before hval0 hW hcnd _
  have hval : ∀ (j : Nat) t v, Try.f6.params[j]? = some t → args[j]? = some v → Value.okWide Try.prog W .any base t v := hval0
  have hW' := hW
  obtain ⟨p, q, hA0, hV, rfl, hfz, hnd⟩ := hW
  have hA : DataW.TrodAll enc Try.prog W 0 (fun _ => true) true Try.f6.params.toList args.toList ds p := hA0
  rw [Try.params6] at hA hval
  obtain ⟨v0, vs0, d0, ds0, p0, q0, hargs, rfl, rfl, h0, r0⟩ := trodAll_cons hA
  obtain ⟨v1, vs1, d1, ds1, p1, q1, rfl, rfl, rfl, h1, r1⟩ := trodAll_cons r0
  obtain ⟨rfl, rfl, rfl⟩ := trodAll_nil r1
  obtain rfl : args = #[v0, v1] := by cases args; simp_all
  obtain ⟨rfl, rfl⟩ := trodVars_none hV
  have k0 := h0
  have lt0 : ∀ x ∈ p0, x.block < W.heap.size := by obtain ⟨m, hm⟩ := k0; exact DataW.trod_lt m _ _ _ hm
  have k1 := h1
  have lt1 : ∀ x ∈ p1, x.block < W.heap.size := by obtain ⟨m, hm⟩ := k1; exact DataW.trod_lt m _ _ _ hm
  obtain ⟨a0, b0, c0, s0, rfl, S0⟩ := src_of_trod (hval 0 24 v0 rfl rfl) h0
  obtain ⟨a1, b1, c1, s1, rfl, S1⟩ := src_of_trod (hval 1 24 v1 rfl rfl) h1
  clear hA0 hval0
  refine (lawExactEqualSources a0 b0 c0 s0 a1 b1 c1 s1 W S0 S1).mono fun e W' ⟨he, bel⟩ => ?_
  subst he
  exact ⟨_, rfl, _, _, _, [], _, [], hW', trodAll_mk1 (shut_bool Try.underlying4 _), (trodAll_cons_mk (Below.trod laidOut (by kernel_rfl) (of_decide_eq_true (by kernel_rfl)) k0 bel lt0) (trodAll_cons_mk (Below.trod laidOut (by kernel_rfl) (of_decide_eq_true (by kernel_rfl)) k1 bel lt1) trodAll_mk0)), rfl, bel.frame _, fun h => by cases h⟩

/-- THE STATEMENT. -/
theorem fnExactEqualSources_holds : Rows.FnExactEqualSourcesSaid :=
  OpenClaim.holds_of_wide 6 Try.f6 rfl rfl rfl rfl rfl rfl rfl ⟨rfl, rfl, rfl, rfl, rfl⟩ rfl rfl rfl rfl rfl (by kernel_rfl) Try.func6 (by kernel_rfl)
    (of_decide_eq_true (by kernel_rfl)) (by unfold Func.isWrapper; first | (rw [if_pos (by decide +kernel)]; kernel_rfl) | (rw [if_neg (by decide +kernel)]; exact ⟨rfl, rfl⟩))
    (fun os started H enc _ => fnExactEqualSources_lifted os started H enc)
#print axioms fnExactEqualSources_holds

end Go.Proofs.Ytokmgggfbomhnaa
