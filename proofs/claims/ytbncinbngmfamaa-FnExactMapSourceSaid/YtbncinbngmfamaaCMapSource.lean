/- FnExactMapSource holds: for all states, sources and counts the program's MapSource returns what the reference's returns. Conditions: none. -/
import Derived.Test.YtbncinbngmfamaaOpenS
import Derived.Test.YtbncinbngmfamaaMapS
import Derived.Test.YtbncinbngmfamaaOpenSrc
namespace Go.Proofs.Ytbncinbngmfamaa
open Go.RowKit Go.ChangeShapes Go.WideShapes Go.ChangeAt
set_option linter.unusedVariables false
set_option linter.unusedSimpArgs false

set_option maxHeartbeats 1600000 in
set_option maxRecDepth 100000 in
theorem lawExactMapSource (n0 e0 f0 g0 : Int) (a1 b1 c1 : Value) (s1 : Src) (x2 : Int) (w : World) (S0 : R64 n0) (U0 : R64 e0) (X0 : R64 f0) (Y0 : R64 g0) (S1 : SlS w a1 b1 c1 s1) (S2 : R64 x2) :
    Calls Try.prog 11 #[.agg #[.int .i64 n0, .int .i64 e0, .int .i64 f0, .int .i64 g0], .agg #[a1, b1, c1], .int .i64 x2] w fun e w' => e = .returned (.bool true) ∧ Bl w w' := by
  go_enter Try.func11, Try.ntmps11
  go_wp2_with fail
  refine (szS_any _ _ _ (s1) _ _ (S1.below (bl_alloc (bl_alloc (bl_refl _) _) _)) (by omega) (by omega)).mono ?_
  rintro e w1 ⟨rfl, hb1⟩
  have B1 : Bl w w1 := bl_call (bl_alloc (bl_alloc (bl_refl _) _) _) hb1
  have xb0_1 : Bx w1 (w.heap.size) #[.int .i64 (n0), .int .i64 (e0), .int .i64 (f0), .int .i64 (g0)] := ((Bx.new (b := w.heap.size) _ #[.int .i64 (n0), .int .i64 (e0), .int .i64 (f0), .int .i64 (g0)] 45 (by first | rfl | simp)).alloc _).below hb1
  have xb1_1 : Bx w1 (w.heap.size + 1) #[a1, b1, c1] := (Bx.new (b := w.heap.size + 1) _ #[a1, b1, c1] 53 (by first | rfl | simp)).below hb1
  have zz1 : w.heap.size + 2 ≤ w1.heap.size := (by have := hb1.size; first | omega | (simp at this; omega))
  obtain ⟨cb0_1, fb0_1, zb0_1⟩ := xb0_1.out
  obtain ⟨cb1_1, fb1_1, zb1_1⟩ := xb1_1.out
  by_cases hsz1 : szS (1048576) s1 < 0
  · go_wp2
    go_ret
    exact ⟨rfl, B1⟩
  obtain ⟨q11, q12, q13, q14, q15⟩ := szS_nonneg (1048576) s1 (by omega)
  have NL1 := Lib.hid (show s1.H.length ≤ 1048576 ∧ s1.P.length ≤ 1048576 ∧ s1.G.length ≤ 1048576 by omega)
  clear q11 q12 q13 q15
  go_wp2_with fail
  go_region_held3 (fun w' => w'.cell? ⟨w.heap.size, 0, none⟩ = some (.int .i64 (n0)) ∧ w'.cell? ⟨w.heap.size, 1, none⟩ = some (.int .i64 (e0)) ∧ w'.cell? ⟨w.heap.size, 2, none⟩ = some (.int .i64 (f0)) ∧ w'.cell? ⟨w.heap.size, 3, none⟩ = some (.int .i64 (g0)) ∧ w'.cell? ⟨w.heap.size + 1, 0, none⟩ = some (a1) ∧ w'.cell? ⟨w.heap.size + 1, 1, none⟩ = some (b1) ∧ w'.cell? ⟨w.heap.size + 1, 2, none⟩ = some (c1)) (first | (simp [*]; done) | (go_simp; done) | go_keep)
    (first | (go_at_call_of 27 (Value.agg #[.int .i64 (n0), .int .i64 (e0), .int .i64 (f0), .int .i64 (g0)]); go_must (refine (toSt_any (n0) (e0) (f0) (g0) _).mono ?_; rintro e w2 ⟨rfl, hb2⟩; have B2 : Bl w w2 := bl_call (bl_drew B1) hb2; have xb0_2 : Bx w2 (w.heap.size) #[.int .i64 (n0), .int .i64 (e0), .int .i64 (f0), .int .i64 (g0)] := (xb0_1.drew).below hb2; have xb1_2 : Bx w2 (w.heap.size + 1) #[a1, b1, c1] := (xb1_1.drew).below hb2; have zz2 : w1.heap.size ≤ w2.heap.size := (by have := hb2.size; first | omega | (simp at this; omega)); clear cb0_1 fb0_1 zb0_1 cb1_1 fb1_1 zb1_1; obtain ⟨cb0_2, fb0_2, zb0_2⟩ := xb0_2.out; obtain ⟨cb1_2, fb1_2, zb1_2⟩ := xb1_2.out)) | (go_at_call_of 33 (Value.agg #[a1, b1, c1]); go_must (refine (toS_any _ _ _ (s1) _ (S1.below B2) NL1.out).mono ?_; rintro e w3 ⟨h3_0, p3_0, g3_0, rfl, o3_0, hb3⟩; obtain ⟨⟨a3_00, n3_00, c3_00, rfl⟩, ⟨a3_01, n3_01, c3_01, rfl⟩, ⟨a3_02, n3_02, c3_02, rfl⟩⟩ := o3_0.shape; have B3 : Bl w w3 := bl_call B2 hb3; have xb0_3 : Bx w3 (w.heap.size) #[.int .i64 (n0), .int .i64 (e0), .int .i64 (f0), .int .i64 (g0)] := xb0_2.below hb3; have xb1_3 : Bx w3 (w.heap.size + 1) #[a1, b1, c1] := xb1_2.below hb3; have zz3 : w2.heap.size ≤ w3.heap.size := (by have := hb3.size; first | omega | (simp at this; omega)); clear cb0_2 fb0_2 zb0_2 cb1_2 fb1_2 zb1_2; obtain ⟨cb0_3, fb0_3, zb0_3⟩ := xb0_3.out; obtain ⟨cb1_3, fb1_3, zb1_3⟩ := xb1_3.out; have R3_0 : ∀ k, blks (.slice a3_00 n3_00 c3_00) (.slice a3_01 n3_01 c3_01) (.slice a3_02 n3_02 c3_02) k → w2.heap.size ≤ k ∧ k < w3.heap.size := fun k hk => (by have := o3_0.blk k hk; first | omega | (simp at this; omega)); have R3_0 := Lib.hid R3_0; have m3_0 := o3_0.mono (B2).size; clear o3_0)) | (go_at_call_of 58 (Value.agg #[.int .i64 (n0), .int .i64 (e0), .int .i64 (f0), .int .i64 (g0)]); go_must (refine (spec_MapSource (n0) (e0) (f0) (g0) _ _ _ (s1) (x2) _ m3_0.sl NL1.out).mono ?_; rintro e w4 ⟨a4_0, n4_0, c4_0, rfl, o4_0, hb4⟩; have B4 : Bl w w4 := bl_call B3 hb4; have xb0_4 : Bx w4 (w.heap.size) #[.int .i64 (n0), .int .i64 (e0), .int .i64 (f0), .int .i64 (g0)] := xb0_3.below hb4; have xb1_4 : Bx w4 (w.heap.size + 1) #[a1, b1, c1] := xb1_3.below hb4; have o3_0_4 := m3_0.below hb4; have zz4 : w3.heap.size ≤ w4.heap.size := (by have := hb4.size; first | omega | (simp at this; omega)); clear cb0_3 fb0_3 zb0_3 cb1_3 fb1_3 zb1_3; obtain ⟨cb0_4, fb0_4, zb0_4⟩ := xb0_4.out; obtain ⟨cb1_4, fb1_4, zb1_4⟩ := xb1_4.out; have R4_0 : ∀ k, ((Value.slice a4_0 n4_0 c4_0)).ownBlock = some k → w3.heap.size ≤ k ∧ k < w4.heap.size := fun k hk => (by have := o4_0.lt k hk; first | omega | (simp at this; omega)); have R4_0 := Lib.hid R4_0; have m4_0 := o4_0.mono (B3).size; clear o4_0)))
  go_wp2_with fail
  refine (toS_any _ _ _ (s1) _ (S1.below B4) NL1.out).mono ?_
  rintro e w5 ⟨h5_0, p5_0, g5_0, rfl, o5_0, hb5⟩
  obtain ⟨⟨a5_00, n5_00, c5_00, rfl⟩, ⟨a5_01, n5_01, c5_01, rfl⟩, ⟨a5_02, n5_02, c5_02, rfl⟩⟩ := o5_0.shape
  have B5 : Bl w w5 := bl_call B4 hb5
  have xb0_5 : Bx w5 (w.heap.size) #[.int .i64 (n0), .int .i64 (e0), .int .i64 (f0), .int .i64 (g0)] := xb0_4.below hb5
  have xb1_5 : Bx w5 (w.heap.size + 1) #[a1, b1, c1] := xb1_4.below hb5
  have o3_0_5 := o3_0_4.below hb5
  have o4_0_5 := m4_0.below hb5
  have zz5 : w4.heap.size ≤ w5.heap.size := (by have := hb5.size; first | omega | (simp at this; omega))
  clear cb0_4 fb0_4 zb0_4 cb1_4 fb1_4 zb1_4
  obtain ⟨cb0_5, fb0_5, zb0_5⟩ := xb0_5.out
  obtain ⟨cb1_5, fb1_5, zb1_5⟩ := xb1_5.out
  have R5_0 : ∀ k, blks (.slice a5_00 n5_00 c5_00) (.slice a5_01 n5_01 c5_01) (.slice a5_02 n5_02 c5_02) k → w4.heap.size ≤ k ∧ k < w5.heap.size := fun k hk => (by have := o5_0.blk k hk; first | omega | (simp at this; omega))
  have R5_0 := Lib.hid R5_0
  have m5_0 := o5_0.mono (B4).size
  clear o5_0
  go_wp2_with fail
  have B6 : Bl w (w5.alloc (.cells #[(.slice a5_00 n5_00 c5_00), (.slice a5_01 n5_01 c5_01), (.slice a5_02 n5_02 c5_02)] 55)) := (bl_alloc B5 _)
  have xb0_6 : Bx (w5.alloc (.cells #[(.slice a5_00 n5_00 c5_00), (.slice a5_01 n5_01 c5_01), (.slice a5_02 n5_02 c5_02)] 55)) (w.heap.size) #[.int .i64 (n0), .int .i64 (e0), .int .i64 (f0), .int .i64 (g0)] := (xb0_5.alloc _)
  have xb1_6 : Bx (w5.alloc (.cells #[(.slice a5_00 n5_00 c5_00), (.slice a5_01 n5_01 c5_01), (.slice a5_02 n5_02 c5_02)] 55)) (w.heap.size + 1) #[a1, b1, c1] := (xb1_5.alloc _)
  have xb2_6 : Bx (w5.alloc (.cells #[(.slice a5_00 n5_00 c5_00), (.slice a5_01 n5_01 c5_01), (.slice a5_02 n5_02 c5_02)] 55)) (w5.heap.size) #[(.slice a5_00 n5_00 c5_00), (.slice a5_01 n5_01 c5_01), (.slice a5_02 n5_02 c5_02)] := (Bx.new (b := w5.heap.size) _ #[(.slice a5_00 n5_00 c5_00), (.slice a5_01 n5_01 c5_01), (.slice a5_02 n5_02 c5_02)] 55 (by first | rfl | simp))
  have o3_0_6 : OwnS (w5.alloc (.cells #[(.slice a5_00 n5_00 c5_00), (.slice a5_01 n5_01 c5_01), (.slice a5_02 n5_02 c5_02)] 55)) w.heap.size (.slice a3_00 n3_00 c3_00) (.slice a3_01 n3_01 c3_01) (.slice a3_02 n3_02 c3_02) (s1) := (o3_0_5.alloc _)
  have o4_0_6 : Own (w5.alloc (.cells #[(.slice a5_00 n5_00 c5_00), (.slice a5_01 n5_01 c5_01), (.slice a5_02 n5_02 c5_02)] 55)) w.heap.size (Value.slice a4_0 n4_0 c4_0) ((mapF (n0) (e0) (f0) (g0) (s1) (x2)).1) := (o4_0_5.alloc _)
  have o5_0_6 : OwnS (w5.alloc (.cells #[(.slice a5_00 n5_00 c5_00), (.slice a5_01 n5_01 c5_01), (.slice a5_02 n5_02 c5_02)] 55)) w.heap.size (.slice a5_00 n5_00 c5_00) (.slice a5_01 n5_01 c5_01) (.slice a5_02 n5_02 c5_02) (s1) := (m5_0.alloc _)
  have zz6 : w5.heap.size + 1 ≤ (w5.alloc (.cells #[(.slice a5_00 n5_00 c5_00), (.slice a5_01 n5_01 c5_01), (.slice a5_02 n5_02 c5_02)] 55)).heap.size := (by simp)
  clear cb0_5 fb0_5 zb0_5 cb1_5 fb1_5 zb1_5
  generalize (w5.alloc (.cells #[(.slice a5_00 n5_00 c5_00), (.slice a5_01 n5_01 c5_01), (.slice a5_02 n5_02 c5_02)] 55)) = w6 at *
  obtain ⟨cb0_6, fb0_6, zb0_6⟩ := xb0_6.out
  obtain ⟨cb1_6, fb1_6, zb1_6⟩ := xb1_6.out
  obtain ⟨cb2_6, fb2_6, zb2_6⟩ := xb2_6.out
  go_region_held3 (fun w' => w'.cell? ⟨w.heap.size, 0, none⟩ = some (.int .i64 (n0)) ∧ w'.cell? ⟨w.heap.size, 1, none⟩ = some (.int .i64 (e0)) ∧ w'.cell? ⟨w.heap.size, 2, none⟩ = some (.int .i64 (f0)) ∧ w'.cell? ⟨w.heap.size, 3, none⟩ = some (.int .i64 (g0)) ∧ w'.cell? ⟨w5.heap.size, 0, none⟩ = some ((.slice a5_00 n5_00 c5_00)) ∧ w'.cell? ⟨w5.heap.size, 1, none⟩ = some ((.slice a5_01 n5_01 c5_01)) ∧ w'.cell? ⟨w5.heap.size, 2, none⟩ = some ((.slice a5_02 n5_02 c5_02))) (first | (simp [*]; done) | (go_simp; done) | go_keep)
    (first | (go_at_call_of 27 (Value.agg #[.int .i64 (n0), .int .i64 (e0), .int .i64 (f0), .int .i64 (g0)]); go_must (refine (toSt_any (n0) (e0) (f0) (g0) _).mono ?_; rintro e w7 ⟨rfl, hb7⟩; have B7 : Bl w w7 := bl_call (bl_drew B6) hb7; have xb0_7 : Bx w7 (w.heap.size) #[.int .i64 (n0), .int .i64 (e0), .int .i64 (f0), .int .i64 (g0)] := (xb0_6.drew).below hb7; have xb1_7 : Bx w7 (w.heap.size + 1) #[a1, b1, c1] := (xb1_6.drew).below hb7; have xb2_7 : Bx w7 (w5.heap.size) #[(.slice a5_00 n5_00 c5_00), (.slice a5_01 n5_01 c5_01), (.slice a5_02 n5_02 c5_02)] := (xb2_6.drew).below hb7; have o3_0_7 := (o3_0_6.drew).below hb7; have o4_0_7 := (o4_0_6.drew).below hb7; have o5_0_7 := (o5_0_6.drew).below hb7; have zz7 : w6.heap.size ≤ w7.heap.size := (by have := hb7.size; first | omega | (simp at this; omega)); clear cb0_6 fb0_6 zb0_6 cb1_6 fb1_6 zb1_6 cb2_6 fb2_6 zb2_6; obtain ⟨cb0_7, fb0_7, zb0_7⟩ := xb0_7.out; obtain ⟨cb1_7, fb1_7, zb1_7⟩ := xb1_7.out; obtain ⟨cb2_7, fb2_7, zb2_7⟩ := xb2_7.out)) | (go_at_call_of 59 (Value.agg #[.int .i64 (n0), .int .i64 (e0), .int .i64 (f0), .int .i64 (g0)]); go_must (refine (impl_MapSource (n0) (e0) (f0) (g0) _ _ _ (s1) (x2) _ o5_0_7.sl NL1.out).mono ?_; rintro e w8 ⟨a8_0, n8_0, c8_0, rfl, o8_0, hb8⟩; have B8 : Bl w w8 := bl_call B7 hb8; have xb0_8 : Bx w8 (w.heap.size) #[.int .i64 (n0), .int .i64 (e0), .int .i64 (f0), .int .i64 (g0)] := xb0_7.below hb8; have xb1_8 : Bx w8 (w.heap.size + 1) #[a1, b1, c1] := xb1_7.below hb8; have xb2_8 : Bx w8 (w5.heap.size) #[(.slice a5_00 n5_00 c5_00), (.slice a5_01 n5_01 c5_01), (.slice a5_02 n5_02 c5_02)] := xb2_7.below hb8; have o3_0_8 := o3_0_7.below hb8; have o4_0_8 := o4_0_7.below hb8; have o5_0_8 := o5_0_7.below hb8; have zz8 : w7.heap.size ≤ w8.heap.size := (by have := hb8.size; first | omega | (simp at this; omega)); clear cb0_7 fb0_7 zb0_7 cb1_7 fb1_7 zb1_7 cb2_7 fb2_7 zb2_7; obtain ⟨cb0_8, fb0_8, zb0_8⟩ := xb0_8.out; obtain ⟨cb1_8, fb1_8, zb1_8⟩ := xb1_8.out; obtain ⟨cb2_8, fb2_8, zb2_8⟩ := xb2_8.out; have R8_0 : ∀ k, ((Value.slice a8_0 n8_0 c8_0)).ownBlock = some k → w7.heap.size ≤ k ∧ k < w8.heap.size := fun k hk => (by have := o8_0.lt k hk; first | omega | (simp at this; omega)); have R8_0 := Lib.hid R8_0; have m8_0 := o8_0.mono (B7).size; clear o8_0)))
  go_wp2_with fail
  refine (eqI_any _ _ ((mapF (n0) (e0) (f0) (g0) (s1) (x2)).1) ((mapF (n0) (e0) (f0) (g0) (s1) (x2)).1) _ m8_0.sl o4_0_8.sl).mono ?_
  rintro e w9 ⟨rfl, hb9⟩
  have B9 : Bl w w9 := bl_call B8 hb9
  have xb0_9 : Bx w9 (w.heap.size) #[.int .i64 (n0), .int .i64 (e0), .int .i64 (f0), .int .i64 (g0)] := xb0_8.below hb9
  have xb1_9 : Bx w9 (w.heap.size + 1) #[a1, b1, c1] := xb1_8.below hb9
  have xb2_9 : Bx w9 (w5.heap.size) #[(.slice a5_00 n5_00 c5_00), (.slice a5_01 n5_01 c5_01), (.slice a5_02 n5_02 c5_02)] := xb2_8.below hb9
  have o3_0_9 := o3_0_8.below hb9
  have o4_0_9 := o4_0_8.below hb9
  have o5_0_9 := o5_0_8.below hb9
  have o8_0_9 := m8_0.below hb9
  have zz9 : w8.heap.size ≤ w9.heap.size := (by have := hb9.size; first | omega | (simp at this; omega))
  clear cb0_8 fb0_8 zb0_8 cb1_8 fb1_8 zb1_8 cb2_8 fb2_8 zb2_8
  obtain ⟨cb0_9, fb0_9, zb0_9⟩ := xb0_9.out
  obtain ⟨cb1_9, fb1_9, zb1_9⟩ := xb1_9.out
  obtain ⟨cb2_9, fb2_9, zb2_9⟩ := xb2_9.out
  go_wp2_with fail
  go_region_held3 (fun w' => w'.cell? ⟨w5.heap.size, 0, none⟩ = some ((.slice a5_00 n5_00 c5_00)) ∧ w'.cell? ⟨w5.heap.size, 1, none⟩ = some ((.slice a5_01 n5_01 c5_01)) ∧ w'.cell? ⟨w5.heap.size, 2, none⟩ = some ((.slice a5_02 n5_02 c5_02)) ∧ w'.cell? ⟨w.heap.size + 1, 0, none⟩ = some (a1) ∧ w'.cell? ⟨w.heap.size + 1, 1, none⟩ = some (b1) ∧ w'.cell? ⟨w.heap.size + 1, 2, none⟩ = some (c1)) (first | (simp [*]; done) | (go_simp; done) | go_keep)
    (first | (go_at_call_of 33 (Value.agg #[a1, b1, c1]); go_must (refine (toS_any _ _ _ (s1) _ (S1.below (bl_drew B9)) NL1.out).mono ?_; rintro e w10 ⟨h10_0, p10_0, g10_0, rfl, o10_0, hb10⟩; obtain ⟨⟨a10_00, n10_00, c10_00, rfl⟩, ⟨a10_01, n10_01, c10_01, rfl⟩, ⟨a10_02, n10_02, c10_02, rfl⟩⟩ := o10_0.shape; have B10 : Bl w w10 := bl_call (bl_drew B9) hb10; have xb0_10 : Bx w10 (w.heap.size) #[.int .i64 (n0), .int .i64 (e0), .int .i64 (f0), .int .i64 (g0)] := (xb0_9.drew).below hb10; have xb1_10 : Bx w10 (w.heap.size + 1) #[a1, b1, c1] := (xb1_9.drew).below hb10; have xb2_10 : Bx w10 (w5.heap.size) #[(.slice a5_00 n5_00 c5_00), (.slice a5_01 n5_01 c5_01), (.slice a5_02 n5_02 c5_02)] := (xb2_9.drew).below hb10; have o3_0_10 := (o3_0_9.drew).below hb10; have o4_0_10 := (o4_0_9.drew).below hb10; have o5_0_10 := (o5_0_9.drew).below hb10; have o8_0_10 := (o8_0_9.drew).below hb10; have zz10 : w9.heap.size ≤ w10.heap.size := (by have := hb10.size; first | omega | (simp at this; omega)); clear cb0_9 fb0_9 zb0_9 cb1_9 fb1_9 zb1_9 cb2_9 fb2_9 zb2_9; obtain ⟨cb0_10, fb0_10, zb0_10⟩ := xb0_10.out; obtain ⟨cb1_10, fb1_10, zb1_10⟩ := xb1_10.out; obtain ⟨cb2_10, fb2_10, zb2_10⟩ := xb2_10.out; have R10_0 : ∀ k, blks (.slice a10_00 n10_00 c10_00) (.slice a10_01 n10_01 c10_01) (.slice a10_02 n10_02 c10_02) k → w9.heap.size ≤ k ∧ k < w10.heap.size := fun k hk => (by have := o10_0.blk k hk; first | omega | (simp at this; omega)); have R10_0 := Lib.hid R10_0; have m10_0 := o10_0.mono ((bl_drew B9)).size; clear o10_0)) | (go_at_call_of 35 (Value.agg #[(.slice a5_00 n5_00 c5_00), (.slice a5_01 n5_01 c5_01), (.slice a5_02 n5_02 c5_02)]); go_must (refine (eqS_any _ _ _ _ _ _ (s1) (s1) _ o5_0_10.sl m10_0.sl).mono ?_; rintro e w11 ⟨rfl, hb11⟩; have B11 : Bl w w11 := bl_call B10 hb11; have xb0_11 : Bx w11 (w.heap.size) #[.int .i64 (n0), .int .i64 (e0), .int .i64 (f0), .int .i64 (g0)] := xb0_10.below hb11; have xb1_11 : Bx w11 (w.heap.size + 1) #[a1, b1, c1] := xb1_10.below hb11; have xb2_11 : Bx w11 (w5.heap.size) #[(.slice a5_00 n5_00 c5_00), (.slice a5_01 n5_01 c5_01), (.slice a5_02 n5_02 c5_02)] := xb2_10.below hb11; have o3_0_11 := o3_0_10.below hb11; have o4_0_11 := o4_0_10.below hb11; have o5_0_11 := o5_0_10.below hb11; have o8_0_11 := o8_0_10.below hb11; have o10_0_11 := m10_0.below hb11; have zz11 : w10.heap.size ≤ w11.heap.size := (by have := hb11.size; first | omega | (simp at this; omega)); clear cb0_10 fb0_10 zb0_10 cb1_10 fb1_10 zb1_10 cb2_10 fb2_10 zb2_10; obtain ⟨cb0_11, fb0_11, zb0_11⟩ := xb0_11.out; obtain ⟨cb1_11, fb1_11, zb1_11⟩ := xb1_11.out; obtain ⟨cb2_11, fb2_11, zb2_11⟩ := xb2_11.out)))
  go_wp2_with fail
  refine (markS_any _ _ _ (s1) (1) w.heap.size _ o5_0_11 (by omega) (by have := NL1.out; omega)).mono ?_
  rintro e w12 ⟨rfl, on12, O12⟩
  have zz12 : w11.heap.size ≤ w12.heap.size := (by have := O12.size; first | omega | (simp at this; omega))
  have B12 : Bl w w12 := Below.only B11 O12 (B11).size (fun k hk => by have := R5_0.out k hk; omega)
  have xb0_12 : Bx w12 (w.heap.size) #[.int .i64 (n0), .int .i64 (e0), .int .i64 (f0), .int .i64 (g0)] := xb0_11.only O12 (fun q => by have := R5_0.out _ q; omega)
  have xb1_12 : Bx w12 (w.heap.size + 1) #[a1, b1, c1] := xb1_11.only O12 (fun q => by have := R5_0.out _ q; omega)
  have xb2_12 : Bx w12 (w5.heap.size) #[(.slice a5_00 n5_00 c5_00), (.slice a5_01 n5_01 c5_01), (.slice a5_02 n5_02 c5_02)] := xb2_11.only O12 (fun q => by have := R5_0.out _ q; omega)
  have o3_0_12 := o3_0_11.only2 O12 (fun k q q' => by have := R3_0.out k q; have := R5_0.out k q'; omega)
  have o4_0_12 := o4_0_11.only O12 (fun k q q' => by have := R4_0.out k q; have := R5_0.out k q'; omega)
  have o8_0_12 := o8_0_11.only O12 (fun k q q' => by have := R8_0.out k q; have := R5_0.out k q'; omega)
  have o10_0_12 := o10_0_11.only2 O12 (fun k q q' => by have := R10_0.out k q; have := R5_0.out k q'; omega)
  clear cb0_11 fb0_11 zb0_11 cb1_11 fb1_11 zb1_11 cb2_11 fb2_11 zb2_11
  obtain ⟨cb0_12, fb0_12, zb0_12⟩ := xb0_12.out
  obtain ⟨cb1_12, fb1_12, zb1_12⟩ := xb1_12.out
  obtain ⟨cb2_12, fb2_12, zb2_12⟩ := xb2_12.out
  go_wp2_with fail
  refine (eqI_any _ _ ((mapF (n0) (e0) (f0) (g0) (s1) (x2)).1) ((mapF (n0) (e0) (f0) (g0) (s1) (x2)).1) _ o8_0_12.sl o4_0_12.sl).mono ?_
  rintro e w13 ⟨rfl, hb13⟩
  have B13 : Bl w w13 := bl_call B12 hb13
  have xb0_13 : Bx w13 (w.heap.size) #[.int .i64 (n0), .int .i64 (e0), .int .i64 (f0), .int .i64 (g0)] := xb0_12.below hb13
  have xb1_13 : Bx w13 (w.heap.size + 1) #[a1, b1, c1] := xb1_12.below hb13
  have xb2_13 : Bx w13 (w5.heap.size) #[(.slice a5_00 n5_00 c5_00), (.slice a5_01 n5_01 c5_01), (.slice a5_02 n5_02 c5_02)] := xb2_12.below hb13
  have o3_0_13 := o3_0_12.below hb13
  have o4_0_13 := o4_0_12.below hb13
  have o5_0_13 := on12.below hb13
  have o8_0_13 := o8_0_12.below hb13
  have o10_0_13 := o10_0_12.below hb13
  have zz13 : w12.heap.size ≤ w13.heap.size := (by have := hb13.size; first | omega | (simp at this; omega))
  clear cb0_12 fb0_12 zb0_12 cb1_12 fb1_12 zb1_12 cb2_12 fb2_12 zb2_12
  obtain ⟨cb0_13, fb0_13, zb0_13⟩ := xb0_13.out
  obtain ⟨cb1_13, fb1_13, zb1_13⟩ := xb1_13.out
  obtain ⟨cb2_13, fb2_13, zb2_13⟩ := xb2_13.out
  go_wp2_with fail
  refine (markI_any _ ((mapF (n0) (e0) (f0) (g0) (s1) (x2)).1) (1) w.heap.size _ o8_0_13 (by omega) (by have := (mapF_len (n0) (e0) (f0) (g0) (s1) (x2)); omega)).mono ?_
  rintro e w14 ⟨rfl, on14, O14'⟩
  have O14 := Only.of_grown (S := fun k => ((Value.slice a8_0 n8_0 c8_0)).ownBlock = some k) O14' (fun _ e => e)
  have zz14 : w13.heap.size ≤ w14.heap.size := (by have := O14.size; first | omega | (simp at this; omega))
  have B14 : Bl w w14 := Below.only B13 O14 (B13).size (fun k hk => by have := R8_0.out k hk; omega)
  have xb0_14 : Bx w14 (w.heap.size) #[.int .i64 (n0), .int .i64 (e0), .int .i64 (f0), .int .i64 (g0)] := xb0_13.only O14 (fun q => by have := R8_0.out _ q; omega)
  have xb1_14 : Bx w14 (w.heap.size + 1) #[a1, b1, c1] := xb1_13.only O14 (fun q => by have := R8_0.out _ q; omega)
  have xb2_14 : Bx w14 (w5.heap.size) #[(.slice a5_00 n5_00 c5_00), (.slice a5_01 n5_01 c5_01), (.slice a5_02 n5_02 c5_02)] := xb2_13.only O14 (fun q => by have := R8_0.out _ q; omega)
  have o3_0_14 := o3_0_13.only2 O14 (fun k q q' => by have := R3_0.out k q; have := R8_0.out k q'; omega)
  have o4_0_14 := o4_0_13.only O14 (fun k q q' => by have := R4_0.out k q; have := R8_0.out k q'; omega)
  have o5_0_14 := o5_0_13.only2 O14 (fun k q q' => by have := R5_0.out k q; have := R8_0.out k q'; omega)
  have o10_0_14 := o10_0_13.only2 O14 (fun k q q' => by have := R10_0.out k q; have := R8_0.out k q'; omega)
  clear cb0_13 fb0_13 zb0_13 cb1_13 fb1_13 zb1_13 cb2_13 fb2_13 zb2_13
  obtain ⟨cb0_14, fb0_14, zb0_14⟩ := xb0_14.out
  obtain ⟨cb1_14, fb1_14, zb1_14⟩ := xb1_14.out
  obtain ⟨cb2_14, fb2_14, zb2_14⟩ := xb2_14.out
  go_wp2_with fail
  refine (heldI_yes _ (((mapF (n0) (e0) (f0) (g0) (s1) (x2)).1).length) (1) _ on14.sl (by omega) (by have := (mapF_len (n0) (e0) (f0) (g0) (s1) (x2)); omega)).mono ?_
  rintro e w15 ⟨rfl, hb15⟩
  have B15 : Bl w w15 := bl_call B14 hb15
  have xb0_15 : Bx w15 (w.heap.size) #[.int .i64 (n0), .int .i64 (e0), .int .i64 (f0), .int .i64 (g0)] := xb0_14.below hb15
  have xb1_15 : Bx w15 (w.heap.size + 1) #[a1, b1, c1] := xb1_14.below hb15
  have xb2_15 : Bx w15 (w5.heap.size) #[(.slice a5_00 n5_00 c5_00), (.slice a5_01 n5_01 c5_01), (.slice a5_02 n5_02 c5_02)] := xb2_14.below hb15
  have o3_0_15 := o3_0_14.below hb15
  have o4_0_15 := o4_0_14.below hb15
  have o5_0_15 := o5_0_14.below hb15
  have o8_0_15 := on14.below hb15
  have o10_0_15 := o10_0_14.below hb15
  have zz15 : w14.heap.size ≤ w15.heap.size := (by have := hb15.size; first | omega | (simp at this; omega))
  clear cb0_14 fb0_14 zb0_14 cb1_14 fb1_14 zb1_14 cb2_14 fb2_14 zb2_14
  obtain ⟨cb0_15, fb0_15, zb0_15⟩ := xb0_15.out
  obtain ⟨cb1_15, fb1_15, zb1_15⟩ := xb1_15.out
  obtain ⟨cb2_15, fb2_15, zb2_15⟩ := xb2_15.out
  go_wp2_with fail
  go_region_held3 (fun w' => w'.cell? ⟨w.heap.size, 0, none⟩ = some (.int .i64 (n0)) ∧ w'.cell? ⟨w.heap.size, 1, none⟩ = some (.int .i64 (e0)) ∧ w'.cell? ⟨w.heap.size, 2, none⟩ = some (.int .i64 (f0)) ∧ w'.cell? ⟨w.heap.size, 3, none⟩ = some (.int .i64 (g0)) ∧ w'.cell? ⟨w.heap.size + 1, 0, none⟩ = some (a1) ∧ w'.cell? ⟨w.heap.size + 1, 1, none⟩ = some (b1) ∧ w'.cell? ⟨w.heap.size + 1, 2, none⟩ = some (c1)) (first | (simp [*]; done) | (go_simp; done) | go_keep)
    (first | (go_at_call_of 27 (Value.agg #[.int .i64 (n0), .int .i64 (e0), .int .i64 (f0), .int .i64 (g0)]); go_must (refine (toSt_any (n0) (e0) (f0) (g0) _).mono ?_; rintro e w16 ⟨rfl, hb16⟩; have B16 : Bl w w16 := bl_call (bl_drew B15) hb16; have xb0_16 : Bx w16 (w.heap.size) #[.int .i64 (n0), .int .i64 (e0), .int .i64 (f0), .int .i64 (g0)] := (xb0_15.drew).below hb16; have xb1_16 : Bx w16 (w.heap.size + 1) #[a1, b1, c1] := (xb1_15.drew).below hb16; have xb2_16 : Bx w16 (w5.heap.size) #[(.slice a5_00 n5_00 c5_00), (.slice a5_01 n5_01 c5_01), (.slice a5_02 n5_02 c5_02)] := (xb2_15.drew).below hb16; have o3_0_16 := (o3_0_15.drew).below hb16; have o4_0_16 := (o4_0_15.drew).below hb16; have o5_0_16 := (o5_0_15.drew).below hb16; have o8_0_16 := (o8_0_15.drew).below hb16; have o10_0_16 := (o10_0_15.drew).below hb16; have zz16 : w15.heap.size ≤ w16.heap.size := (by have := hb16.size; first | omega | (simp at this; omega)); clear cb0_15 fb0_15 zb0_15 cb1_15 fb1_15 zb1_15 cb2_15 fb2_15 zb2_15; obtain ⟨cb0_16, fb0_16, zb0_16⟩ := xb0_16.out; obtain ⟨cb1_16, fb1_16, zb1_16⟩ := xb1_16.out; obtain ⟨cb2_16, fb2_16, zb2_16⟩ := xb2_16.out)) | (go_at_call_of 33 (Value.agg #[a1, b1, c1]); go_must (refine (toS_any _ _ _ (s1) _ (S1.below B16) NL1.out).mono ?_; rintro e w17 ⟨h17_0, p17_0, g17_0, rfl, o17_0, hb17⟩; obtain ⟨⟨a17_00, n17_00, c17_00, rfl⟩, ⟨a17_01, n17_01, c17_01, rfl⟩, ⟨a17_02, n17_02, c17_02, rfl⟩⟩ := o17_0.shape; have B17 : Bl w w17 := bl_call B16 hb17; have xb0_17 : Bx w17 (w.heap.size) #[.int .i64 (n0), .int .i64 (e0), .int .i64 (f0), .int .i64 (g0)] := xb0_16.below hb17; have xb1_17 : Bx w17 (w.heap.size + 1) #[a1, b1, c1] := xb1_16.below hb17; have xb2_17 : Bx w17 (w5.heap.size) #[(.slice a5_00 n5_00 c5_00), (.slice a5_01 n5_01 c5_01), (.slice a5_02 n5_02 c5_02)] := xb2_16.below hb17; have o3_0_17 := o3_0_16.below hb17; have o4_0_17 := o4_0_16.below hb17; have o5_0_17 := o5_0_16.below hb17; have o8_0_17 := o8_0_16.below hb17; have o10_0_17 := o10_0_16.below hb17; have zz17 : w16.heap.size ≤ w17.heap.size := (by have := hb17.size; first | omega | (simp at this; omega)); clear cb0_16 fb0_16 zb0_16 cb1_16 fb1_16 zb1_16 cb2_16 fb2_16 zb2_16; obtain ⟨cb0_17, fb0_17, zb0_17⟩ := xb0_17.out; obtain ⟨cb1_17, fb1_17, zb1_17⟩ := xb1_17.out; obtain ⟨cb2_17, fb2_17, zb2_17⟩ := xb2_17.out; have R17_0 : ∀ k, blks (.slice a17_00 n17_00 c17_00) (.slice a17_01 n17_01 c17_01) (.slice a17_02 n17_02 c17_02) k → w16.heap.size ≤ k ∧ k < w17.heap.size := fun k hk => (by have := o17_0.blk k hk; first | omega | (simp at this; omega)); have R17_0 := Lib.hid R17_0; have m17_0 := o17_0.mono (B16).size; clear o17_0)) | (go_at_call_of 59 (Value.agg #[.int .i64 (n0), .int .i64 (e0), .int .i64 (f0), .int .i64 (g0)]); go_must (refine (impl_MapSource (n0) (e0) (f0) (g0) _ _ _ (s1) (x2) _ m17_0.sl NL1.out).mono ?_; rintro e w18 ⟨a18_0, n18_0, c18_0, rfl, o18_0, hb18⟩; have B18 : Bl w w18 := bl_call B17 hb18; have xb0_18 : Bx w18 (w.heap.size) #[.int .i64 (n0), .int .i64 (e0), .int .i64 (f0), .int .i64 (g0)] := xb0_17.below hb18; have xb1_18 : Bx w18 (w.heap.size + 1) #[a1, b1, c1] := xb1_17.below hb18; have xb2_18 : Bx w18 (w5.heap.size) #[(.slice a5_00 n5_00 c5_00), (.slice a5_01 n5_01 c5_01), (.slice a5_02 n5_02 c5_02)] := xb2_17.below hb18; have o3_0_18 := o3_0_17.below hb18; have o4_0_18 := o4_0_17.below hb18; have o5_0_18 := o5_0_17.below hb18; have o8_0_18 := o8_0_17.below hb18; have o10_0_18 := o10_0_17.below hb18; have o17_0_18 := m17_0.below hb18; have zz18 : w17.heap.size ≤ w18.heap.size := (by have := hb18.size; first | omega | (simp at this; omega)); clear cb0_17 fb0_17 zb0_17 cb1_17 fb1_17 zb1_17 cb2_17 fb2_17 zb2_17; obtain ⟨cb0_18, fb0_18, zb0_18⟩ := xb0_18.out; obtain ⟨cb1_18, fb1_18, zb1_18⟩ := xb1_18.out; obtain ⟨cb2_18, fb2_18, zb2_18⟩ := xb2_18.out; have R18_0 : ∀ k, ((Value.slice a18_0 n18_0 c18_0)).ownBlock = some k → w17.heap.size ≤ k ∧ k < w18.heap.size := fun k hk => (by have := o18_0.lt k hk; first | omega | (simp at this; omega)); have R18_0 := Lib.hid R18_0; have m18_0 := o18_0.mono (B17).size; clear o18_0)))
  go_wp2_with fail
  refine (eqI_any _ _ ((mapF (n0) (e0) (f0) (g0) (s1) (x2)).1) ((mapF (n0) (e0) (f0) (g0) (s1) (x2)).1) _ m18_0.sl o4_0_18.sl).mono ?_
  rintro e w19 ⟨rfl, hb19⟩
  have B19 : Bl w w19 := bl_call B18 hb19
  have xb0_19 : Bx w19 (w.heap.size) #[.int .i64 (n0), .int .i64 (e0), .int .i64 (f0), .int .i64 (g0)] := xb0_18.below hb19
  have xb1_19 : Bx w19 (w.heap.size + 1) #[a1, b1, c1] := xb1_18.below hb19
  have xb2_19 : Bx w19 (w5.heap.size) #[(.slice a5_00 n5_00 c5_00), (.slice a5_01 n5_01 c5_01), (.slice a5_02 n5_02 c5_02)] := xb2_18.below hb19
  have o3_0_19 := o3_0_18.below hb19
  have o4_0_19 := o4_0_18.below hb19
  have o5_0_19 := o5_0_18.below hb19
  have o8_0_19 := o8_0_18.below hb19
  have o10_0_19 := o10_0_18.below hb19
  have o17_0_19 := o17_0_18.below hb19
  have o18_0_19 := m18_0.below hb19
  have zz19 : w18.heap.size ≤ w19.heap.size := (by have := hb19.size; first | omega | (simp at this; omega))
  clear cb0_18 fb0_18 zb0_18 cb1_18 fb1_18 zb1_18 cb2_18 fb2_18 zb2_18
  obtain ⟨cb0_19, fb0_19, zb0_19⟩ := xb0_19.out
  obtain ⟨cb1_19, fb1_19, zb1_19⟩ := xb1_19.out
  obtain ⟨cb2_19, fb2_19, zb2_19⟩ := xb2_19.out
  go_wp2_with fail
  refine (heldI_yes _ (((mapF (n0) (e0) (f0) (g0) (s1) (x2)).1).length) (1) _ o8_0_19.sl (by omega) (by have := (mapF_len (n0) (e0) (f0) (g0) (s1) (x2)); omega)).mono ?_
  rintro e w20 ⟨rfl, hb20⟩
  have B20 : Bl w w20 := bl_call B19 hb20
  have xb0_20 : Bx w20 (w.heap.size) #[.int .i64 (n0), .int .i64 (e0), .int .i64 (f0), .int .i64 (g0)] := xb0_19.below hb20
  have xb1_20 : Bx w20 (w.heap.size + 1) #[a1, b1, c1] := xb1_19.below hb20
  have xb2_20 : Bx w20 (w5.heap.size) #[(.slice a5_00 n5_00 c5_00), (.slice a5_01 n5_01 c5_01), (.slice a5_02 n5_02 c5_02)] := xb2_19.below hb20
  have o3_0_20 := o3_0_19.below hb20
  have o4_0_20 := o4_0_19.below hb20
  have o5_0_20 := o5_0_19.below hb20
  have o8_0_20 := o8_0_19.below hb20
  have o10_0_20 := o10_0_19.below hb20
  have o17_0_20 := o17_0_19.below hb20
  have o18_0_20 := o18_0_19.below hb20
  have zz20 : w19.heap.size ≤ w20.heap.size := (by have := hb20.size; first | omega | (simp at this; omega))
  clear cb0_19 fb0_19 zb0_19 cb1_19 fb1_19 zb1_19 cb2_19 fb2_19 zb2_19
  obtain ⟨cb0_20, fb0_20, zb0_20⟩ := xb0_20.out
  obtain ⟨cb1_20, fb1_20, zb1_20⟩ := xb1_20.out
  obtain ⟨cb2_20, fb2_20, zb2_20⟩ := xb2_20.out
  go_wp2
  go_ret
  exact ⟨rfl, B20⟩

set_option maxRecDepth 100000 in
theorem fnExactMapSource_lifted (os : Os) (started : os.Started) (H : Type) (enc : TypeId × Value → H) :
    ReturnsInHanded {} Try.checked os 11 .any (Rows.fnExactMapSourceSpec.pre6 enc Try.prog Try.f11 Rows.fnExactMapSourceRow.domain false) (Rows.fnExactMapSourceSpec.post enc Try.prog Try.f11 false true false false) := by
  refine returnsInHanded_of_change (C := Try.checked) own started (by kernel_rfl) Try.func11
    (ChangeSpec.witness6 (enc := enc) (C := Try.checked) false ⟨#[], #[.agg #[.int .i64 0, .int .i64 0, .int .i64 0, .int .i64 0], .agg #[.slice none 0 0, .slice none 0 0, .slice none 0 0], .int .i64 0], []⟩ 8 (by kernel_rfl) (by kernel_rfl) (by kernel_rfl) (by kernel_rfl)) ?_
  intro W base args ds gs before hval0 hW hcnd _
  have hval : ∀ (j : Nat) t v, Try.f11.params[j]? = some t → args[j]? = some v → Value.okWide Try.prog W .any base t v := hval0
  have hW' := hW
  obtain ⟨p, q, hA0, hV, rfl, hfz, hnd⟩ := hW
  have hA : DataW.TrodAll enc Try.prog W 0 (fun _ => true) true Try.f11.params.toList args.toList ds p := hA0
  rw [Try.params11] at hA hval
  obtain ⟨v0, vs0, d0, ds0, p0, q0, hargs, rfl, rfl, h0, r0⟩ := trodAll_cons hA
  obtain ⟨v1, vs1, d1, ds1, p1, q1, rfl, rfl, rfl, h1, r1⟩ := trodAll_cons r0
  obtain ⟨v2, vs2, d2, ds2, p2, q2, rfl, rfl, rfl, h2, r2⟩ := trodAll_cons r1
  obtain ⟨rfl, rfl, rfl⟩ := trodAll_nil r2
  obtain rfl : args = #[v0, v1, v2] := by cases args; simp_all
  obtain ⟨rfl, rfl⟩ := trodVars_none hV
  have k0 := h0
  have lt0 : ∀ x ∈ p0, x.block < W.heap.size := by obtain ⟨m, hm⟩ := k0; exact DataW.trod_lt m _ _ _ hm
  have k1 := h1
  have lt1 : ∀ x ∈ p1, x.block < W.heap.size := by obtain ⟨m, hm⟩ := k1; exact DataW.trod_lt m _ _ _ hm
  have k2 := h2
  have lt2 : ∀ x ∈ p2, x.block < W.heap.size := by obtain ⟨m, hm⟩ := k2; exact DataW.trod_lt m _ _ _ hm
  obtain ⟨n0, e0, f0, g0, rfl, S0, U0, X0, Y0⟩ := state_of_trod (hval 0 45 v0 rfl rfl) h0
  obtain ⟨a1, b1, c1, s1, rfl, S1⟩ := src_of_trod (hval 1 53 v1 rfl rfl) h1
  have hv2 := hval 2 2 v2 rfl rfl
  obtain ⟨x2, rfl, _, _, w2⟩ := open_int Try.underlying2 hv2 h2
  clear hA0 hval0
  refine (lawExactMapSource n0 e0 f0 g0 a1 b1 c1 s1 x2 W S0 U0 X0 Y0 S1 (r64_of_wf w2)).mono fun e W' ⟨he, bel⟩ => ?_
  subst he
  exact ⟨_, rfl, _, _, _, [], _, [], hW', trodAll_mk1 (shut_bool Try.underlying4 _), (trodAll_cons_mk (Below.trod laidOut (by kernel_rfl) (of_decide_eq_true (by kernel_rfl)) k0 bel lt0) (trodAll_cons_mk (Below.trod laidOut (by kernel_rfl) (of_decide_eq_true (by kernel_rfl)) k1 bel lt1) (trodAll_cons_mk (Below.trod laidOut (by kernel_rfl) (of_decide_eq_true (by kernel_rfl)) k2 bel lt2) trodAll_mk0))), rfl, bel.frame _, fun h => by cases h⟩

/-- THE STATEMENT. -/
theorem fnExactMapSource_holds : Rows.FnExactMapSourceSaid :=
  OpenClaim.holds_of_wide 11 Try.f11 rfl rfl rfl rfl rfl rfl rfl ⟨rfl, rfl, rfl, rfl, rfl⟩ rfl rfl rfl rfl rfl (by kernel_rfl) Try.func11 (by kernel_rfl)
    (of_decide_eq_true (by kernel_rfl)) (by unfold Func.isWrapper; first | (rw [if_pos (by decide +kernel)]; kernel_rfl) | (rw [if_neg (by decide +kernel)]; exact ⟨rfl, rfl⟩))
    (fun os started H enc _ => fnExactMapSource_lifted os started H enc)
#print axioms fnExactMapSource_holds

end Go.Proofs.Ytbncinbngmfamaa
