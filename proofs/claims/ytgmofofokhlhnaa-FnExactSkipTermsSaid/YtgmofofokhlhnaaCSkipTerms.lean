/- FnExactSkipTerms holds: for all sources and counts the program's SkipTerms returns what the reference's returns. Conditions: none. -/
import Derived.Test.YtgmofofokhlhnaaOpenS
import Derived.Test.YtgmofofokhlhnaaSkipS
import Derived.Test.YtgmofofokhlhnaaSkipI
import Derived.Test.YtgmofofokhlhnaaSkL
import Derived.Test.YtgmofofokhlhnaaOpenSrc
namespace Go.Proofs.Ytgmofofokhlhnaa
open Go.RowKit Go.ChangeShapes Go.WideShapes Go.ChangeAt
set_option linter.unusedVariables false
set_option linter.unusedSimpArgs false

set_option maxHeartbeats 1600000 in
set_option maxRecDepth 100000 in
theorem lawExactSkipTerms (a0 b0 c0 : Value) (s0 : Src) (x1 : Int) (w : World) (S0 : SlS w a0 b0 c0 s0) (S1 : R64 x1) :
    Calls Try.prog 4 #[.agg #[a0, b0, c0], .int .i64 x1] w fun e w' => e = .returned (.bool true) ∧ Bl w w' := by
  go_enter Try.func4, Try.ntmps4
  go_wp2_with fail
  refine (szS_any _ _ _ (s0) _ _ (S0.below (bl_alloc (bl_refl _) _)) (by omega) (by omega)).mono ?_
  rintro e w1 ⟨rfl, hb1⟩
  have B1 : Bl w w1 := bl_call (bl_alloc (bl_refl _) _) hb1
  have xb0_1 : Bx w1 (w.heap.size) #[a0, b0, c0] := (Bx.new (b := w.heap.size) _ #[a0, b0, c0] 42 (by first | rfl | simp)).below hb1
  have zz1 : w.heap.size + 1 ≤ w1.heap.size := (by have := hb1.size; first | omega | (simp at this; omega))
  obtain ⟨cb0_1, fb0_1, zb0_1⟩ := xb0_1.out
  by_cases hsz1 : szS (1048576) s0 < 0
  · go_wp2
    go_ret
    exact ⟨rfl, B1⟩
  obtain ⟨q11, q12, q13, q14, q15⟩ := szS_nonneg (1048576) s0 (by omega)
  have NL0 := Lib.hid (show s0.H.length ≤ 1048576 ∧ s0.P.length ≤ 1048576 ∧ s0.G.length ≤ 1048576 by omega)
  clear q11 q12 q13 q15
  go_wp2_with fail
  refine (toS_any _ _ _ (s0) _ (S0.below B1) NL0.out).mono ?_
  rintro e w2 ⟨h2_0, p2_0, g2_0, rfl, o2_0, hb2⟩
  obtain ⟨⟨a2_00, n2_00, c2_00, rfl⟩, ⟨a2_01, n2_01, c2_01, rfl⟩, ⟨a2_02, n2_02, c2_02, rfl⟩⟩ := o2_0.shape
  have B2 : Bl w w2 := bl_call B1 hb2
  have xb0_2 : Bx w2 (w.heap.size) #[a0, b0, c0] := xb0_1.below hb2
  have zz2 : w1.heap.size ≤ w2.heap.size := (by have := hb2.size; first | omega | (simp at this; omega))
  clear cb0_1 fb0_1 zb0_1
  obtain ⟨cb0_2, fb0_2, zb0_2⟩ := xb0_2.out
  have R2_0 : ∀ k, blks (.slice a2_00 n2_00 c2_00) (.slice a2_01 n2_01 c2_01) (.slice a2_02 n2_02 c2_02) k → w1.heap.size ≤ k ∧ k < w2.heap.size := fun k hk => (by have := o2_0.blk k hk; first | omega | (simp at this; omega))
  have R2_0 := Lib.hid R2_0
  have m2_0 := o2_0.mono (B1).size
  clear o2_0
  go_wp2_with fail
  refine (spec_SkipTerms _ _ _ (s0) (x1) _ m2_0.sl NL0.out).mono ?_
  rintro e w3 ⟨h3_0, p3_0, g3_0, rfl, o3_0, hb3⟩
  obtain ⟨⟨a3_00, n3_00, c3_00, rfl⟩, ⟨a3_01, n3_01, c3_01, rfl⟩, ⟨a3_02, n3_02, c3_02, rfl⟩⟩ := o3_0.shape
  have B3 : Bl w w3 := bl_call B2 hb3
  have xb0_3 : Bx w3 (w.heap.size) #[a0, b0, c0] := xb0_2.below hb3
  have o2_0_3 := m2_0.below hb3
  have zz3 : w2.heap.size ≤ w3.heap.size := (by have := hb3.size; first | omega | (simp at this; omega))
  clear cb0_2 fb0_2 zb0_2
  obtain ⟨cb0_3, fb0_3, zb0_3⟩ := xb0_3.out
  have R3_0 : ∀ k, blks (.slice a3_00 n3_00 c3_00) (.slice a3_01 n3_01 c3_01) (.slice a3_02 n3_02 c3_02) k → w2.heap.size ≤ k ∧ k < w3.heap.size := fun k hk => (by have := o3_0.blk k hk; first | omega | (simp at this; omega))
  have R3_0 := Lib.hid R3_0
  have m3_0 := o3_0.mono (B2).size
  clear o3_0
  go_wp2_with fail
  refine (toS_any _ _ _ (s0) _ (S0.below (bl_alloc B3 _)) NL0.out).mono ?_
  rintro e w4 ⟨h4_0, p4_0, g4_0, rfl, o4_0, hb4⟩
  obtain ⟨⟨a4_00, n4_00, c4_00, rfl⟩, ⟨a4_01, n4_01, c4_01, rfl⟩, ⟨a4_02, n4_02, c4_02, rfl⟩⟩ := o4_0.shape
  have B4 : Bl w w4 := bl_call (bl_alloc B3 _) hb4
  have xb0_4 : Bx w4 (w.heap.size) #[a0, b0, c0] := (xb0_3.alloc _).below hb4
  have xb1_4 : Bx w4 (w3.heap.size) #[(.slice a3_00 n3_00 c3_00), (.slice a3_01 n3_01 c3_01), (.slice a3_02 n3_02 c3_02)] := (Bx.new (b := w3.heap.size) _ #[(.slice a3_00 n3_00 c3_00), (.slice a3_01 n3_01 c3_01), (.slice a3_02 n3_02 c3_02)] 26 (by first | rfl | simp)).below hb4
  have o2_0_4 := (o2_0_3.alloc _).below hb4
  have o3_0_4 := (m3_0.alloc _).below hb4
  have zz4 : w3.heap.size + 1 ≤ w4.heap.size := (by have := hb4.size; first | omega | (simp at this; omega))
  clear cb0_3 fb0_3 zb0_3
  obtain ⟨cb0_4, fb0_4, zb0_4⟩ := xb0_4.out
  obtain ⟨cb1_4, fb1_4, zb1_4⟩ := xb1_4.out
  have R4_0 : ∀ k, blks (.slice a4_00 n4_00 c4_00) (.slice a4_01 n4_01 c4_01) (.slice a4_02 n4_02 c4_02) k → w3.heap.size + 1 ≤ k ∧ k < w4.heap.size := fun k hk => (by have := o4_0.blk k hk; first | omega | (simp at this; omega))
  have R4_0 := Lib.hid R4_0
  have m4_0 := o4_0.mono ((bl_alloc B3 _)).size
  clear o4_0
  go_wp2_with fail
  refine (impl_SkipTerms _ _ _ (s0) (x1) _ (m4_0.alloc _).sl NL0.out).mono ?_
  rintro e w5 ⟨h5_0, p5_0, g5_0, rfl, o5_0, hb5⟩
  obtain ⟨⟨a5_00, n5_00, c5_00, rfl⟩, ⟨a5_01, n5_01, c5_01, rfl⟩, ⟨a5_02, n5_02, c5_02, rfl⟩⟩ := o5_0.shape
  have B5 : Bl w w5 := bl_call (bl_alloc B4 _) hb5
  have xb0_5 : Bx w5 (w.heap.size) #[a0, b0, c0] := (xb0_4.alloc _).below hb5
  have xb1_5 : Bx w5 (w3.heap.size) #[(.slice a3_00 n3_00 c3_00), (.slice a3_01 n3_01 c3_01), (.slice a3_02 n3_02 c3_02)] := (xb1_4.alloc _).below hb5
  have xb2_5 : Bx w5 (w4.heap.size) #[(.slice a4_00 n4_00 c4_00), (.slice a4_01 n4_01 c4_01), (.slice a4_02 n4_02 c4_02)] := (Bx.new (b := w4.heap.size) _ #[(.slice a4_00 n4_00 c4_00), (.slice a4_01 n4_01 c4_01), (.slice a4_02 n4_02 c4_02)] 26 (by first | rfl | simp)).below hb5
  have o2_0_5 := (o2_0_4.alloc _).below hb5
  have o3_0_5 := (o3_0_4.alloc _).below hb5
  have o4_0_5 := (m4_0.alloc _).below hb5
  have zz5 : w4.heap.size + 1 ≤ w5.heap.size := (by have := hb5.size; first | omega | (simp at this; omega))
  clear cb0_4 fb0_4 zb0_4 cb1_4 fb1_4 zb1_4
  obtain ⟨cb0_5, fb0_5, zb0_5⟩ := xb0_5.out
  obtain ⟨cb1_5, fb1_5, zb1_5⟩ := xb1_5.out
  obtain ⟨cb2_5, fb2_5, zb2_5⟩ := xb2_5.out
  have R5_0 : ∀ k, blks (.slice a5_00 n5_00 c5_00) (.slice a5_01 n5_01 c5_01) (.slice a5_02 n5_02 c5_02) k → w4.heap.size + 1 ≤ k ∧ k < w5.heap.size := fun k hk => (by have := o5_0.blk k hk; first | omega | (simp at this; omega))
  have R5_0 := Lib.hid R5_0
  have m5_0 := o5_0.mono ((bl_alloc B4 _)).size
  clear o5_0
  go_wp2_with fail
  refine (eqS_any _ _ _ _ _ _ ((skipF (s0) (x1)).1) ((skipF (s0) (x1)).1) _ (m5_0.alloc _).sl (o3_0_5.alloc _).sl).mono ?_
  rintro e w6 ⟨rfl, hb6⟩
  have B6 : Bl w w6 := bl_call (bl_alloc B5 _) hb6
  have xb0_6 : Bx w6 (w.heap.size) #[a0, b0, c0] := (xb0_5.alloc _).below hb6
  have xb1_6 : Bx w6 (w3.heap.size) #[(.slice a3_00 n3_00 c3_00), (.slice a3_01 n3_01 c3_01), (.slice a3_02 n3_02 c3_02)] := (xb1_5.alloc _).below hb6
  have xb2_6 : Bx w6 (w4.heap.size) #[(.slice a4_00 n4_00 c4_00), (.slice a4_01 n4_01 c4_01), (.slice a4_02 n4_02 c4_02)] := (xb2_5.alloc _).below hb6
  have xb3_6 : Bx w6 (w5.heap.size) #[(.slice a5_00 n5_00 c5_00), (.slice a5_01 n5_01 c5_01), (.slice a5_02 n5_02 c5_02)] := (Bx.new (b := w5.heap.size) _ #[(.slice a5_00 n5_00 c5_00), (.slice a5_01 n5_01 c5_01), (.slice a5_02 n5_02 c5_02)] 26 (by first | rfl | simp)).below hb6
  have o2_0_6 := (o2_0_5.alloc _).below hb6
  have o3_0_6 := (o3_0_5.alloc _).below hb6
  have o4_0_6 := (o4_0_5.alloc _).below hb6
  have o5_0_6 := (m5_0.alloc _).below hb6
  have zz6 : w5.heap.size + 1 ≤ w6.heap.size := (by have := hb6.size; first | omega | (simp at this; omega))
  clear cb0_5 fb0_5 zb0_5 cb1_5 fb1_5 zb1_5 cb2_5 fb2_5 zb2_5
  obtain ⟨cb0_6, fb0_6, zb0_6⟩ := xb0_6.out
  obtain ⟨cb1_6, fb1_6, zb1_6⟩ := xb1_6.out
  obtain ⟨cb2_6, fb2_6, zb2_6⟩ := xb2_6.out
  obtain ⟨cb3_6, fb3_6, zb3_6⟩ := xb3_6.out
  go_wp2_with fail
  go_region_held3 (fun w' => w'.cell? ⟨w4.heap.size, 0, none⟩ = some ((.slice a4_00 n4_00 c4_00)) ∧ w'.cell? ⟨w4.heap.size, 1, none⟩ = some ((.slice a4_01 n4_01 c4_01)) ∧ w'.cell? ⟨w4.heap.size, 2, none⟩ = some ((.slice a4_02 n4_02 c4_02)) ∧ w'.cell? ⟨w.heap.size, 0, none⟩ = some (a0) ∧ w'.cell? ⟨w.heap.size, 1, none⟩ = some (b0) ∧ w'.cell? ⟨w.heap.size, 2, none⟩ = some (c0)) (first | (simp [*]; done) | (go_simp; done) | go_keep)
    (first | (go_at_call_of 30 (Value.agg #[a0, b0, c0]); go_must (refine (toS_any _ _ _ (s0) _ (S0.below (bl_drew B6)) NL0.out).mono ?_; rintro e w7 ⟨h7_0, p7_0, g7_0, rfl, o7_0, hb7⟩; obtain ⟨⟨a7_00, n7_00, c7_00, rfl⟩, ⟨a7_01, n7_01, c7_01, rfl⟩, ⟨a7_02, n7_02, c7_02, rfl⟩⟩ := o7_0.shape; have B7 : Bl w w7 := bl_call (bl_drew B6) hb7; have xb0_7 : Bx w7 (w.heap.size) #[a0, b0, c0] := (xb0_6.drew).below hb7; have xb1_7 : Bx w7 (w3.heap.size) #[(.slice a3_00 n3_00 c3_00), (.slice a3_01 n3_01 c3_01), (.slice a3_02 n3_02 c3_02)] := (xb1_6.drew).below hb7; have xb2_7 : Bx w7 (w4.heap.size) #[(.slice a4_00 n4_00 c4_00), (.slice a4_01 n4_01 c4_01), (.slice a4_02 n4_02 c4_02)] := (xb2_6.drew).below hb7; have xb3_7 : Bx w7 (w5.heap.size) #[(.slice a5_00 n5_00 c5_00), (.slice a5_01 n5_01 c5_01), (.slice a5_02 n5_02 c5_02)] := (xb3_6.drew).below hb7; have o2_0_7 := (o2_0_6.drew).below hb7; have o3_0_7 := (o3_0_6.drew).below hb7; have o4_0_7 := (o4_0_6.drew).below hb7; have o5_0_7 := (o5_0_6.drew).below hb7; have zz7 : w6.heap.size ≤ w7.heap.size := (by have := hb7.size; first | omega | (simp at this; omega)); clear cb0_6 fb0_6 zb0_6 cb1_6 fb1_6 zb1_6 cb2_6 fb2_6 zb2_6 cb3_6 fb3_6 zb3_6; obtain ⟨cb0_7, fb0_7, zb0_7⟩ := xb0_7.out; obtain ⟨cb1_7, fb1_7, zb1_7⟩ := xb1_7.out; obtain ⟨cb2_7, fb2_7, zb2_7⟩ := xb2_7.out; obtain ⟨cb3_7, fb3_7, zb3_7⟩ := xb3_7.out; have R7_0 : ∀ k, blks (.slice a7_00 n7_00 c7_00) (.slice a7_01 n7_01 c7_01) (.slice a7_02 n7_02 c7_02) k → w6.heap.size ≤ k ∧ k < w7.heap.size := fun k hk => (by have := o7_0.blk k hk; first | omega | (simp at this; omega)); have R7_0 := Lib.hid R7_0; have m7_0 := o7_0.mono ((bl_drew B6)).size; clear o7_0)) | (go_at_call_of 32 (Value.agg #[(.slice a4_00 n4_00 c4_00), (.slice a4_01 n4_01 c4_01), (.slice a4_02 n4_02 c4_02)]); go_must (refine (eqS_any _ _ _ _ _ _ (s0) (s0) _ o4_0_7.sl m7_0.sl).mono ?_; rintro e w8 ⟨rfl, hb8⟩; have B8 : Bl w w8 := bl_call B7 hb8; have xb0_8 : Bx w8 (w.heap.size) #[a0, b0, c0] := xb0_7.below hb8; have xb1_8 : Bx w8 (w3.heap.size) #[(.slice a3_00 n3_00 c3_00), (.slice a3_01 n3_01 c3_01), (.slice a3_02 n3_02 c3_02)] := xb1_7.below hb8; have xb2_8 : Bx w8 (w4.heap.size) #[(.slice a4_00 n4_00 c4_00), (.slice a4_01 n4_01 c4_01), (.slice a4_02 n4_02 c4_02)] := xb2_7.below hb8; have xb3_8 : Bx w8 (w5.heap.size) #[(.slice a5_00 n5_00 c5_00), (.slice a5_01 n5_01 c5_01), (.slice a5_02 n5_02 c5_02)] := xb3_7.below hb8; have o2_0_8 := o2_0_7.below hb8; have o3_0_8 := o3_0_7.below hb8; have o4_0_8 := o4_0_7.below hb8; have o5_0_8 := o5_0_7.below hb8; have o7_0_8 := m7_0.below hb8; have zz8 : w7.heap.size ≤ w8.heap.size := (by have := hb8.size; first | omega | (simp at this; omega)); clear cb0_7 fb0_7 zb0_7 cb1_7 fb1_7 zb1_7 cb2_7 fb2_7 zb2_7 cb3_7 fb3_7 zb3_7; obtain ⟨cb0_8, fb0_8, zb0_8⟩ := xb0_8.out; obtain ⟨cb1_8, fb1_8, zb1_8⟩ := xb1_8.out; obtain ⟨cb2_8, fb2_8, zb2_8⟩ := xb2_8.out; obtain ⟨cb3_8, fb3_8, zb3_8⟩ := xb3_8.out)))
  go_wp2_with fail
  refine (markS_any _ _ _ (s0) (1) w.heap.size _ o4_0_8 (by omega) (by have := NL0.out; omega)).mono ?_
  rintro e w9 ⟨rfl, on9, O9⟩
  have zz9 : w8.heap.size ≤ w9.heap.size := (by have := O9.size; first | omega | (simp at this; omega))
  have B9 : Bl w w9 := Below.only B8 O9 (B8).size (fun k hk => by have := R4_0.out k hk; omega)
  have xb0_9 : Bx w9 (w.heap.size) #[a0, b0, c0] := xb0_8.only O9 (fun q => by have := R4_0.out _ q; omega)
  have xb1_9 : Bx w9 (w3.heap.size) #[(.slice a3_00 n3_00 c3_00), (.slice a3_01 n3_01 c3_01), (.slice a3_02 n3_02 c3_02)] := xb1_8.only O9 (fun q => by have := R4_0.out _ q; omega)
  have xb2_9 : Bx w9 (w4.heap.size) #[(.slice a4_00 n4_00 c4_00), (.slice a4_01 n4_01 c4_01), (.slice a4_02 n4_02 c4_02)] := xb2_8.only O9 (fun q => by have := R4_0.out _ q; omega)
  have xb3_9 : Bx w9 (w5.heap.size) #[(.slice a5_00 n5_00 c5_00), (.slice a5_01 n5_01 c5_01), (.slice a5_02 n5_02 c5_02)] := xb3_8.only O9 (fun q => by have := R4_0.out _ q; omega)
  have o2_0_9 := o2_0_8.only2 O9 (fun k q q' => by have := R2_0.out k q; have := R4_0.out k q'; omega)
  have o3_0_9 := o3_0_8.only2 O9 (fun k q q' => by have := R3_0.out k q; have := R4_0.out k q'; omega)
  have o5_0_9 := o5_0_8.only2 O9 (fun k q q' => by have := R5_0.out k q; have := R4_0.out k q'; omega)
  have o7_0_9 := o7_0_8.only2 O9 (fun k q q' => by have := R7_0.out k q; have := R4_0.out k q'; omega)
  clear cb0_8 fb0_8 zb0_8 cb1_8 fb1_8 zb1_8 cb2_8 fb2_8 zb2_8 cb3_8 fb3_8 zb3_8
  obtain ⟨cb0_9, fb0_9, zb0_9⟩ := xb0_9.out
  obtain ⟨cb1_9, fb1_9, zb1_9⟩ := xb1_9.out
  obtain ⟨cb2_9, fb2_9, zb2_9⟩ := xb2_9.out
  obtain ⟨cb3_9, fb3_9, zb3_9⟩ := xb3_9.out
  go_wp2_with fail
  refine (eqS_any _ _ _ _ _ _ ((skipF (s0) (x1)).1) ((skipF (s0) (x1)).1) _ o5_0_9.sl o3_0_9.sl).mono ?_
  rintro e w10 ⟨rfl, hb10⟩
  have B10 : Bl w w10 := bl_call B9 hb10
  have xb0_10 : Bx w10 (w.heap.size) #[a0, b0, c0] := xb0_9.below hb10
  have xb1_10 : Bx w10 (w3.heap.size) #[(.slice a3_00 n3_00 c3_00), (.slice a3_01 n3_01 c3_01), (.slice a3_02 n3_02 c3_02)] := xb1_9.below hb10
  have xb2_10 : Bx w10 (w4.heap.size) #[(.slice a4_00 n4_00 c4_00), (.slice a4_01 n4_01 c4_01), (.slice a4_02 n4_02 c4_02)] := xb2_9.below hb10
  have xb3_10 : Bx w10 (w5.heap.size) #[(.slice a5_00 n5_00 c5_00), (.slice a5_01 n5_01 c5_01), (.slice a5_02 n5_02 c5_02)] := xb3_9.below hb10
  have o2_0_10 := o2_0_9.below hb10
  have o3_0_10 := o3_0_9.below hb10
  have o4_0_10 := on9.below hb10
  have o5_0_10 := o5_0_9.below hb10
  have o7_0_10 := o7_0_9.below hb10
  have zz10 : w9.heap.size ≤ w10.heap.size := (by have := hb10.size; first | omega | (simp at this; omega))
  clear cb0_9 fb0_9 zb0_9 cb1_9 fb1_9 zb1_9 cb2_9 fb2_9 zb2_9 cb3_9 fb3_9 zb3_9
  obtain ⟨cb0_10, fb0_10, zb0_10⟩ := xb0_10.out
  obtain ⟨cb1_10, fb1_10, zb1_10⟩ := xb1_10.out
  obtain ⟨cb2_10, fb2_10, zb2_10⟩ := xb2_10.out
  obtain ⟨cb3_10, fb3_10, zb3_10⟩ := xb3_10.out
  go_wp2_with fail
  refine (markS_any _ _ _ ((skipF (s0) (x1)).1) (1) w.heap.size _ o5_0_10 (by omega) (by have := (skipF_len (s0) (x1)); omega)).mono ?_
  rintro e w11 ⟨rfl, on11, O11⟩
  have zz11 : w10.heap.size ≤ w11.heap.size := (by have := O11.size; first | omega | (simp at this; omega))
  have B11 : Bl w w11 := Below.only B10 O11 (B10).size (fun k hk => by have := R5_0.out k hk; omega)
  have xb0_11 : Bx w11 (w.heap.size) #[a0, b0, c0] := xb0_10.only O11 (fun q => by have := R5_0.out _ q; omega)
  have xb1_11 : Bx w11 (w3.heap.size) #[(.slice a3_00 n3_00 c3_00), (.slice a3_01 n3_01 c3_01), (.slice a3_02 n3_02 c3_02)] := xb1_10.only O11 (fun q => by have := R5_0.out _ q; omega)
  have xb2_11 : Bx w11 (w4.heap.size) #[(.slice a4_00 n4_00 c4_00), (.slice a4_01 n4_01 c4_01), (.slice a4_02 n4_02 c4_02)] := xb2_10.only O11 (fun q => by have := R5_0.out _ q; omega)
  have xb3_11 : Bx w11 (w5.heap.size) #[(.slice a5_00 n5_00 c5_00), (.slice a5_01 n5_01 c5_01), (.slice a5_02 n5_02 c5_02)] := xb3_10.only O11 (fun q => by have := R5_0.out _ q; omega)
  have o2_0_11 := o2_0_10.only2 O11 (fun k q q' => by have := R2_0.out k q; have := R5_0.out k q'; omega)
  have o3_0_11 := o3_0_10.only2 O11 (fun k q q' => by have := R3_0.out k q; have := R5_0.out k q'; omega)
  have o4_0_11 := o4_0_10.only2 O11 (fun k q q' => by have := R4_0.out k q; have := R5_0.out k q'; omega)
  have o7_0_11 := o7_0_10.only2 O11 (fun k q q' => by have := R7_0.out k q; have := R5_0.out k q'; omega)
  clear cb0_10 fb0_10 zb0_10 cb1_10 fb1_10 zb1_10 cb2_10 fb2_10 zb2_10 cb3_10 fb3_10 zb3_10
  obtain ⟨cb0_11, fb0_11, zb0_11⟩ := xb0_11.out
  obtain ⟨cb1_11, fb1_11, zb1_11⟩ := xb1_11.out
  obtain ⟨cb2_11, fb2_11, zb2_11⟩ := xb2_11.out
  obtain ⟨cb3_11, fb3_11, zb3_11⟩ := xb3_11.out
  go_wp2_with fail
  refine (heldS_yes _ _ _ (((skipF (s0) (x1)).1).H.length) (((skipF (s0) (x1)).1).P.length) (((skipF (s0) (x1)).1).G.length) (1) _ on11.sl (by omega) (by have := (skipF_len (s0) (x1)); omega)).mono ?_
  rintro e w12 ⟨rfl, hb12⟩
  have B12 : Bl w w12 := bl_call B11 hb12
  have xb0_12 : Bx w12 (w.heap.size) #[a0, b0, c0] := xb0_11.below hb12
  have xb1_12 : Bx w12 (w3.heap.size) #[(.slice a3_00 n3_00 c3_00), (.slice a3_01 n3_01 c3_01), (.slice a3_02 n3_02 c3_02)] := xb1_11.below hb12
  have xb2_12 : Bx w12 (w4.heap.size) #[(.slice a4_00 n4_00 c4_00), (.slice a4_01 n4_01 c4_01), (.slice a4_02 n4_02 c4_02)] := xb2_11.below hb12
  have xb3_12 : Bx w12 (w5.heap.size) #[(.slice a5_00 n5_00 c5_00), (.slice a5_01 n5_01 c5_01), (.slice a5_02 n5_02 c5_02)] := xb3_11.below hb12
  have o2_0_12 := o2_0_11.below hb12
  have o3_0_12 := o3_0_11.below hb12
  have o4_0_12 := o4_0_11.below hb12
  have o5_0_12 := on11.below hb12
  have o7_0_12 := o7_0_11.below hb12
  have zz12 : w11.heap.size ≤ w12.heap.size := (by have := hb12.size; first | omega | (simp at this; omega))
  clear cb0_11 fb0_11 zb0_11 cb1_11 fb1_11 zb1_11 cb2_11 fb2_11 zb2_11 cb3_11 fb3_11 zb3_11
  obtain ⟨cb0_12, fb0_12, zb0_12⟩ := xb0_12.out
  obtain ⟨cb1_12, fb1_12, zb1_12⟩ := xb1_12.out
  obtain ⟨cb2_12, fb2_12, zb2_12⟩ := xb2_12.out
  obtain ⟨cb3_12, fb3_12, zb3_12⟩ := xb3_12.out
  go_wp2_with fail
  refine (toS_any _ _ _ (s0) _ (S0.below B12) NL0.out).mono ?_
  rintro e w13 ⟨h13_0, p13_0, g13_0, rfl, o13_0, hb13⟩
  obtain ⟨⟨a13_00, n13_00, c13_00, rfl⟩, ⟨a13_01, n13_01, c13_01, rfl⟩, ⟨a13_02, n13_02, c13_02, rfl⟩⟩ := o13_0.shape
  have B13 : Bl w w13 := bl_call B12 hb13
  have xb0_13 : Bx w13 (w.heap.size) #[a0, b0, c0] := xb0_12.below hb13
  have xb1_13 : Bx w13 (w3.heap.size) #[(.slice a3_00 n3_00 c3_00), (.slice a3_01 n3_01 c3_01), (.slice a3_02 n3_02 c3_02)] := xb1_12.below hb13
  have xb2_13 : Bx w13 (w4.heap.size) #[(.slice a4_00 n4_00 c4_00), (.slice a4_01 n4_01 c4_01), (.slice a4_02 n4_02 c4_02)] := xb2_12.below hb13
  have xb3_13 : Bx w13 (w5.heap.size) #[(.slice a5_00 n5_00 c5_00), (.slice a5_01 n5_01 c5_01), (.slice a5_02 n5_02 c5_02)] := xb3_12.below hb13
  have o2_0_13 := o2_0_12.below hb13
  have o3_0_13 := o3_0_12.below hb13
  have o4_0_13 := o4_0_12.below hb13
  have o5_0_13 := o5_0_12.below hb13
  have o7_0_13 := o7_0_12.below hb13
  have zz13 : w12.heap.size ≤ w13.heap.size := (by have := hb13.size; first | omega | (simp at this; omega))
  clear cb0_12 fb0_12 zb0_12 cb1_12 fb1_12 zb1_12 cb2_12 fb2_12 zb2_12 cb3_12 fb3_12 zb3_12
  obtain ⟨cb0_13, fb0_13, zb0_13⟩ := xb0_13.out
  obtain ⟨cb1_13, fb1_13, zb1_13⟩ := xb1_13.out
  obtain ⟨cb2_13, fb2_13, zb2_13⟩ := xb2_13.out
  obtain ⟨cb3_13, fb3_13, zb3_13⟩ := xb3_13.out
  have R13_0 : ∀ k, blks (.slice a13_00 n13_00 c13_00) (.slice a13_01 n13_01 c13_01) (.slice a13_02 n13_02 c13_02) k → w12.heap.size ≤ k ∧ k < w13.heap.size := fun k hk => (by have := o13_0.blk k hk; first | omega | (simp at this; omega))
  have R13_0 := Lib.hid R13_0
  have m13_0 := o13_0.mono (B12).size
  clear o13_0
  go_wp2_with fail
  refine (impl_SkipTerms _ _ _ (s0) (x1) _ m13_0.sl NL0.out).mono ?_
  rintro e w14 ⟨h14_0, p14_0, g14_0, rfl, o14_0, hb14⟩
  obtain ⟨⟨a14_00, n14_00, c14_00, rfl⟩, ⟨a14_01, n14_01, c14_01, rfl⟩, ⟨a14_02, n14_02, c14_02, rfl⟩⟩ := o14_0.shape
  have B14 : Bl w w14 := bl_call B13 hb14
  have xb0_14 : Bx w14 (w.heap.size) #[a0, b0, c0] := xb0_13.below hb14
  have xb1_14 : Bx w14 (w3.heap.size) #[(.slice a3_00 n3_00 c3_00), (.slice a3_01 n3_01 c3_01), (.slice a3_02 n3_02 c3_02)] := xb1_13.below hb14
  have xb2_14 : Bx w14 (w4.heap.size) #[(.slice a4_00 n4_00 c4_00), (.slice a4_01 n4_01 c4_01), (.slice a4_02 n4_02 c4_02)] := xb2_13.below hb14
  have xb3_14 : Bx w14 (w5.heap.size) #[(.slice a5_00 n5_00 c5_00), (.slice a5_01 n5_01 c5_01), (.slice a5_02 n5_02 c5_02)] := xb3_13.below hb14
  have o2_0_14 := o2_0_13.below hb14
  have o3_0_14 := o3_0_13.below hb14
  have o4_0_14 := o4_0_13.below hb14
  have o5_0_14 := o5_0_13.below hb14
  have o7_0_14 := o7_0_13.below hb14
  have o13_0_14 := m13_0.below hb14
  have zz14 : w13.heap.size ≤ w14.heap.size := (by have := hb14.size; first | omega | (simp at this; omega))
  clear cb0_13 fb0_13 zb0_13 cb1_13 fb1_13 zb1_13 cb2_13 fb2_13 zb2_13 cb3_13 fb3_13 zb3_13
  obtain ⟨cb0_14, fb0_14, zb0_14⟩ := xb0_14.out
  obtain ⟨cb1_14, fb1_14, zb1_14⟩ := xb1_14.out
  obtain ⟨cb2_14, fb2_14, zb2_14⟩ := xb2_14.out
  obtain ⟨cb3_14, fb3_14, zb3_14⟩ := xb3_14.out
  have R14_0 : ∀ k, blks (.slice a14_00 n14_00 c14_00) (.slice a14_01 n14_01 c14_01) (.slice a14_02 n14_02 c14_02) k → w13.heap.size ≤ k ∧ k < w14.heap.size := fun k hk => (by have := o14_0.blk k hk; first | omega | (simp at this; omega))
  have R14_0 := Lib.hid R14_0
  have m14_0 := o14_0.mono (B13).size
  clear o14_0
  go_wp2_with fail
  refine (eqS_any _ _ _ _ _ _ ((skipF (s0) (x1)).1) ((skipF (s0) (x1)).1) _ (m14_0.alloc _).sl (o3_0_14.alloc _).sl).mono ?_
  rintro e w15 ⟨rfl, hb15⟩
  have B15 : Bl w w15 := bl_call (bl_alloc B14 _) hb15
  have xb0_15 : Bx w15 (w.heap.size) #[a0, b0, c0] := (xb0_14.alloc _).below hb15
  have xb1_15 : Bx w15 (w3.heap.size) #[(.slice a3_00 n3_00 c3_00), (.slice a3_01 n3_01 c3_01), (.slice a3_02 n3_02 c3_02)] := (xb1_14.alloc _).below hb15
  have xb2_15 : Bx w15 (w4.heap.size) #[(.slice a4_00 n4_00 c4_00), (.slice a4_01 n4_01 c4_01), (.slice a4_02 n4_02 c4_02)] := (xb2_14.alloc _).below hb15
  have xb3_15 : Bx w15 (w5.heap.size) #[(.slice a5_00 n5_00 c5_00), (.slice a5_01 n5_01 c5_01), (.slice a5_02 n5_02 c5_02)] := (xb3_14.alloc _).below hb15
  have xb4_15 : Bx w15 (w14.heap.size) #[(.slice a14_00 n14_00 c14_00), (.slice a14_01 n14_01 c14_01), (.slice a14_02 n14_02 c14_02)] := (Bx.new (b := w14.heap.size) _ #[(.slice a14_00 n14_00 c14_00), (.slice a14_01 n14_01 c14_01), (.slice a14_02 n14_02 c14_02)] 26 (by first | rfl | simp)).below hb15
  have o2_0_15 := (o2_0_14.alloc _).below hb15
  have o3_0_15 := (o3_0_14.alloc _).below hb15
  have o4_0_15 := (o4_0_14.alloc _).below hb15
  have o5_0_15 := (o5_0_14.alloc _).below hb15
  have o7_0_15 := (o7_0_14.alloc _).below hb15
  have o13_0_15 := (o13_0_14.alloc _).below hb15
  have o14_0_15 := (m14_0.alloc _).below hb15
  have zz15 : w14.heap.size + 1 ≤ w15.heap.size := (by have := hb15.size; first | omega | (simp at this; omega))
  clear cb0_14 fb0_14 zb0_14 cb1_14 fb1_14 zb1_14 cb2_14 fb2_14 zb2_14 cb3_14 fb3_14 zb3_14
  obtain ⟨cb0_15, fb0_15, zb0_15⟩ := xb0_15.out
  obtain ⟨cb1_15, fb1_15, zb1_15⟩ := xb1_15.out
  obtain ⟨cb2_15, fb2_15, zb2_15⟩ := xb2_15.out
  obtain ⟨cb3_15, fb3_15, zb3_15⟩ := xb3_15.out
  obtain ⟨cb4_15, fb4_15, zb4_15⟩ := xb4_15.out
  go_wp2_with fail
  refine (heldS_yes _ _ _ (((skipF (s0) (x1)).1).H.length) (((skipF (s0) (x1)).1).P.length) (((skipF (s0) (x1)).1).G.length) (1) _ o5_0_15.sl (by omega) (by have := (skipF_len (s0) (x1)); omega)).mono ?_
  rintro e w16 ⟨rfl, hb16⟩
  have B16 : Bl w w16 := bl_call B15 hb16
  have xb0_16 : Bx w16 (w.heap.size) #[a0, b0, c0] := xb0_15.below hb16
  have xb1_16 : Bx w16 (w3.heap.size) #[(.slice a3_00 n3_00 c3_00), (.slice a3_01 n3_01 c3_01), (.slice a3_02 n3_02 c3_02)] := xb1_15.below hb16
  have xb2_16 : Bx w16 (w4.heap.size) #[(.slice a4_00 n4_00 c4_00), (.slice a4_01 n4_01 c4_01), (.slice a4_02 n4_02 c4_02)] := xb2_15.below hb16
  have xb3_16 : Bx w16 (w5.heap.size) #[(.slice a5_00 n5_00 c5_00), (.slice a5_01 n5_01 c5_01), (.slice a5_02 n5_02 c5_02)] := xb3_15.below hb16
  have xb4_16 : Bx w16 (w14.heap.size) #[(.slice a14_00 n14_00 c14_00), (.slice a14_01 n14_01 c14_01), (.slice a14_02 n14_02 c14_02)] := xb4_15.below hb16
  have o2_0_16 := o2_0_15.below hb16
  have o3_0_16 := o3_0_15.below hb16
  have o4_0_16 := o4_0_15.below hb16
  have o5_0_16 := o5_0_15.below hb16
  have o7_0_16 := o7_0_15.below hb16
  have o13_0_16 := o13_0_15.below hb16
  have o14_0_16 := o14_0_15.below hb16
  have zz16 : w15.heap.size ≤ w16.heap.size := (by have := hb16.size; first | omega | (simp at this; omega))
  clear cb0_15 fb0_15 zb0_15 cb1_15 fb1_15 zb1_15 cb2_15 fb2_15 zb2_15 cb3_15 fb3_15 zb3_15 cb4_15 fb4_15 zb4_15
  obtain ⟨cb0_16, fb0_16, zb0_16⟩ := xb0_16.out
  obtain ⟨cb1_16, fb1_16, zb1_16⟩ := xb1_16.out
  obtain ⟨cb2_16, fb2_16, zb2_16⟩ := xb2_16.out
  obtain ⟨cb3_16, fb3_16, zb3_16⟩ := xb3_16.out
  obtain ⟨cb4_16, fb4_16, zb4_16⟩ := xb4_16.out
  go_wp2
  go_ret
  exact ⟨rfl, B16⟩

set_option maxRecDepth 100000 in
theorem fnExactSkipTerms_lifted (os : Os) (started : os.Started) (H : Type) (enc : TypeId × Value → H) :
    ReturnsInHanded {} Try.checked os 4 .any (Rows.fnExactSkipTermsSpec.pre6 enc Try.prog Try.f4 Rows.fnExactSkipTermsRow.domain false) (Rows.fnExactSkipTermsSpec.post enc Try.prog Try.f4 false true false false) := by
  refine returnsInHanded_of_change (C := Try.checked) own started (by kernel_rfl) Try.func4
    (ChangeSpec.witness6 (enc := enc) (C := Try.checked) false ⟨#[], #[.agg #[.slice none 0 0, .slice none 0 0, .slice none 0 0], .int .i64 0], []⟩ 8 (by kernel_rfl) (by kernel_rfl) (by kernel_rfl) (by kernel_rfl)) ?_
  intro W base args ds gs before hval0 hW hcnd _
  have hval : ∀ (j : Nat) t v, Try.f4.params[j]? = some t → args[j]? = some v → Value.okWide Try.prog W .any base t v := hval0
  have hW' := hW
  obtain ⟨p, q, hA0, hV, rfl, hfz, hnd⟩ := hW
  have hA : DataW.TrodAll enc Try.prog W 0 (fun _ => true) true Try.f4.params.toList args.toList ds p := hA0
  rw [Try.params4] at hA hval
  obtain ⟨v0, vs0, d0, ds0, p0, q0, hargs, rfl, rfl, h0, r0⟩ := trodAll_cons hA
  obtain ⟨v1, vs1, d1, ds1, p1, q1, rfl, rfl, rfl, h1, r1⟩ := trodAll_cons r0
  obtain ⟨rfl, rfl, rfl⟩ := trodAll_nil r1
  obtain rfl : args = #[v0, v1] := by cases args; simp_all
  obtain ⟨rfl, rfl⟩ := trodVars_none hV
  have k0 := h0
  have lt0 : ∀ x ∈ p0, x.block < W.heap.size := by obtain ⟨m, hm⟩ := k0; exact DataW.trod_lt m _ _ _ hm
  have k1 := h1
  have lt1 : ∀ x ∈ p1, x.block < W.heap.size := by obtain ⟨m, hm⟩ := k1; exact DataW.trod_lt m _ _ _ hm
  obtain ⟨a0, b0, c0, s0, rfl, S0⟩ := src_of_trod (hval 0 42 v0 rfl rfl) h0
  have hv1 := hval 1 2 v1 rfl rfl
  obtain ⟨x1, rfl, _, _, w1⟩ := open_int Try.underlying2 hv1 h1
  clear hA0 hval0
  refine (lawExactSkipTerms a0 b0 c0 s0 x1 W S0 (r64_of_wf w1)).mono fun e W' ⟨he, bel⟩ => ?_
  subst he
  exact ⟨_, rfl, _, _, _, [], _, [], hW', trodAll_mk1 (shut_bool Try.underlying4 _), (trodAll_cons_mk (Below.trod laidOut (by kernel_rfl) (of_decide_eq_true (by kernel_rfl)) k0 bel lt0) (trodAll_cons_mk (Below.trod laidOut (by kernel_rfl) (of_decide_eq_true (by kernel_rfl)) k1 bel lt1) trodAll_mk0)), rfl, bel.frame _, fun h => by cases h⟩

/-- THE STATEMENT. -/
theorem fnExactSkipTerms_holds : Rows.FnExactSkipTermsSaid :=
  OpenClaim.holds_of_wide 4 Try.f4 rfl rfl rfl rfl rfl rfl rfl ⟨rfl, rfl, rfl, rfl, rfl⟩ rfl rfl rfl rfl rfl (by kernel_rfl) Try.func4 (by kernel_rfl)
    (of_decide_eq_true (by kernel_rfl)) (by unfold Func.isWrapper; first | (rw [if_pos (by decide +kernel)]; kernel_rfl) | (rw [if_neg (by decide +kernel)]; exact ⟨rfl, rfl⟩))
    (fun os started H enc _ => fnExactSkipTerms_lifted os started H enc)
#print axioms fnExactSkipTerms_holds

end Go.Proofs.Ytgmofofokhlhnaa
