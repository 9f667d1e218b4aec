/- FnExactCompareWithFraction holds: for all sources, fractions and numbers of terms the program's CompareWithFraction returns what the reference's returns. Conditions: none. -/
import Derived.Test.YtokmgggfbomhnaaOpen
import Derived.Test.YtokmgggfbomhnaaCmpFr
namespace Go.Proofs.Ytokmgggfbomhnaa
open Go.RowKit Go.ChangeShapes Go.WideShapes Go.ChangeAt
set_option linter.unusedVariables false
set_option linter.unusedSimpArgs false

set_option maxHeartbeats 1600000 in
set_option maxRecDepth 100000 in
theorem lawExactCompareWithFraction (a0 b0 c0 : Value) (s0 : Src) (n1 e1 : Int) (x2 : Int) (w : World) (S0 : SlS w a0 b0 c0 s0) (S1 : R64 n1) (U1 : R64 e1) (S2 : R64 x2) :
    Calls Try.prog 13 #[.agg #[a0, b0, c0], .agg #[.int .i64 n1, .int .i64 e1], .int .i64 x2] w fun e w' => e = .returned (.bool true) ∧ Bl w w' := by
  go_enter Try.func13, Try.ntmps13
  go_wp2_with fail
  refine (szS_any _ _ _ (s0) _ _ (S0.below (bl_alloc (bl_alloc (bl_refl _) _) _)) (by omega) (by omega)).mono ?_
  rintro e w1 ⟨rfl, hb1⟩
  have B1 : Bl w w1 := bl_call (bl_alloc (bl_alloc (bl_refl _) _) _) hb1
  have xb0_1 : Bx w1 (w.heap.size) #[a0, b0, c0] := ((Bx.new (b := w.heap.size) _ #[a0, b0, c0] 24 (by first | rfl | simp)).alloc _).below hb1
  have xb1_1 : Bx w1 (w.heap.size + 1) #[.int .i64 (n1), .int .i64 (e1)] := (Bx.new (b := w.heap.size + 1) _ #[.int .i64 (n1), .int .i64 (e1)] 36 (by first | rfl | simp)).below hb1
  have zz1 : w.heap.size + 2 ≤ w1.heap.size := (by have := hb1.size; first | omega | (simp at this; omega))
  obtain ⟨cb0_1, fb0_1, zb0_1⟩ := xb0_1.out
  obtain ⟨cb1_1, fb1_1, zb1_1⟩ := xb1_1.out
  by_cases hsz1 : szS (1048576) s0 < 0
  · go_wp2
    go_ret
    exact ⟨rfl, B1⟩
  obtain ⟨q11, q12, q13, q14, q15⟩ := szS_nonneg (1048576) s0 (by omega)
  have NL0 := Lib.hid (show s0.H.length ≤ 1048576 ∧ s0.P.length ≤ 1048576 ∧ s0.G.length ≤ 1048576 by omega)
  clear q11 q12 q13 q15
  go_wp2_with fail
  go_region_held3 (fun w' => w'.cell? ⟨w.heap.size, 0, none⟩ = some (a0) ∧ w'.cell? ⟨w.heap.size, 1, none⟩ = some (b0) ∧ w'.cell? ⟨w.heap.size, 2, none⟩ = some (c0) ∧ w'.cell? ⟨w.heap.size + 1, 0, none⟩ = some (.int .i64 (n1)) ∧ w'.cell? ⟨w.heap.size + 1, 1, none⟩ = some (.int .i64 (e1))) (first | (simp [*]; done) | (go_simp; done) | go_keep)
    (first | (go_at_call_of 17 (Value.agg #[a0, b0, c0]); go_must (refine (toS_any _ _ _ (s0) _ (S0.below (bl_drew B1)) NL0.out).mono ?_; rintro e w2 ⟨h2_0, p2_0, g2_0, rfl, o2_0, hb2⟩; obtain ⟨⟨a2_00, n2_00, c2_00, rfl⟩, ⟨a2_01, n2_01, c2_01, rfl⟩, ⟨a2_02, n2_02, c2_02, rfl⟩⟩ := o2_0.shape; have B2 : Bl w w2 := bl_call (bl_drew B1) hb2; have xb0_2 : Bx w2 (w.heap.size) #[a0, b0, c0] := (xb0_1.drew).below hb2; have xb1_2 : Bx w2 (w.heap.size + 1) #[.int .i64 (n1), .int .i64 (e1)] := (xb1_1.drew).below hb2; have zz2 : w1.heap.size ≤ w2.heap.size := (by have := hb2.size; first | omega | (simp at this; omega)); clear cb0_1 fb0_1 zb0_1 cb1_1 fb1_1 zb1_1; obtain ⟨cb0_2, fb0_2, zb0_2⟩ := xb0_2.out; obtain ⟨cb1_2, fb1_2, zb1_2⟩ := xb1_2.out; have R2_0 : ∀ k, blks (.slice a2_00 n2_00 c2_00) (.slice a2_01 n2_01 c2_01) (.slice a2_02 n2_02 c2_02) k → w1.heap.size ≤ k ∧ k < w2.heap.size := fun k hk => (by have := o2_0.blk k hk; first | omega | (simp at this; omega)); have R2_0 := Lib.hid R2_0; have m2_0 := o2_0.mono ((bl_drew B1)).size; clear o2_0)) | (go_at_call_of 25 (Value.agg #[.int .i64 (n1), .int .i64 (e1)]); go_must (refine (toF_any (n1) (e1) _).mono ?_; rintro e w3 ⟨rfl, hb3⟩; have B3 : Bl w w3 := bl_call B2 hb3; have xb0_3 : Bx w3 (w.heap.size) #[a0, b0, c0] := xb0_2.below hb3; have xb1_3 : Bx w3 (w.heap.size + 1) #[.int .i64 (n1), .int .i64 (e1)] := xb1_2.below hb3; have o2_0_3 := m2_0.below hb3; have zz3 : w2.heap.size ≤ w3.heap.size := (by have := hb3.size; first | omega | (simp at this; omega)); clear cb0_2 fb0_2 zb0_2 cb1_2 fb1_2 zb1_2; obtain ⟨cb0_3, fb0_3, zb0_3⟩ := xb0_3.out; obtain ⟨cb1_3, fb1_3, zb1_3⟩ := xb1_3.out)) | (go_at_call_of 48 (Value.agg #[(.slice a2_00 n2_00 c2_00), (.slice a2_01 n2_01 c2_01), (.slice a2_02 n2_02 c2_02)]); go_must (refine (spec_CompareWithFraction _ _ _ (s0) (n1) (e1) (x2) _ o2_0_3.sl).mono ?_; rintro e w4 ⟨rfl, hb4⟩; have B4 : Bl w w4 := bl_call B3 hb4; have xb0_4 : Bx w4 (w.heap.size) #[a0, b0, c0] := xb0_3.below hb4; have xb1_4 : Bx w4 (w.heap.size + 1) #[.int .i64 (n1), .int .i64 (e1)] := xb1_3.below hb4; have o2_0_4 := o2_0_3.below hb4; have zz4 : w3.heap.size ≤ w4.heap.size := (by have := hb4.size; first | omega | (simp at this; omega)); clear cb0_3 fb0_3 zb0_3 cb1_3 fb1_3 zb1_3; obtain ⟨cb0_4, fb0_4, zb0_4⟩ := xb0_4.out; obtain ⟨cb1_4, fb1_4, zb1_4⟩ := xb1_4.out)))
  go_wp2_with fail
  refine (toS_any _ _ _ (s0) _ (S0.below B4) NL0.out).mono ?_
  rintro e w5 ⟨h5_0, p5_0, g5_0, rfl, o5_0, hb5⟩
  obtain ⟨⟨a5_00, n5_00, c5_00, rfl⟩, ⟨a5_01, n5_01, c5_01, rfl⟩, ⟨a5_02, n5_02, c5_02, rfl⟩⟩ := o5_0.shape
  have B5 : Bl w w5 := bl_call B4 hb5
  have xb0_5 : Bx w5 (w.heap.size) #[a0, b0, c0] := xb0_4.below hb5
  have xb1_5 : Bx w5 (w.heap.size + 1) #[.int .i64 (n1), .int .i64 (e1)] := xb1_4.below hb5
  have o2_0_5 := o2_0_4.below hb5
  have zz5 : w4.heap.size ≤ w5.heap.size := (by have := hb5.size; first | omega | (simp at this; omega))
  clear cb0_4 fb0_4 zb0_4 cb1_4 fb1_4 zb1_4
  obtain ⟨cb0_5, fb0_5, zb0_5⟩ := xb0_5.out
  obtain ⟨cb1_5, fb1_5, zb1_5⟩ := xb1_5.out
  have R5_0 : ∀ k, blks (.slice a5_00 n5_00 c5_00) (.slice a5_01 n5_01 c5_01) (.slice a5_02 n5_02 c5_02) k → w4.heap.size ≤ k ∧ k < w5.heap.size := fun k hk => (by have := o5_0.blk k hk; first | omega | (simp at this; omega))
  have R5_0 := Lib.hid R5_0
  have m5_0 := o5_0.mono (B4).size
  clear o5_0
  go_wp2_with fail
  have B6 : Bl w (w5.alloc (.cells #[(.slice a5_00 n5_00 c5_00), (.slice a5_01 n5_01 c5_01), (.slice a5_02 n5_02 c5_02)] 28)) := (bl_alloc B5 _)
  have xb0_6 : Bx (w5.alloc (.cells #[(.slice a5_00 n5_00 c5_00), (.slice a5_01 n5_01 c5_01), (.slice a5_02 n5_02 c5_02)] 28)) (w.heap.size) #[a0, b0, c0] := (xb0_5.alloc _)
  have xb1_6 : Bx (w5.alloc (.cells #[(.slice a5_00 n5_00 c5_00), (.slice a5_01 n5_01 c5_01), (.slice a5_02 n5_02 c5_02)] 28)) (w.heap.size + 1) #[.int .i64 (n1), .int .i64 (e1)] := (xb1_5.alloc _)
  have xb2_6 : Bx (w5.alloc (.cells #[(.slice a5_00 n5_00 c5_00), (.slice a5_01 n5_01 c5_01), (.slice a5_02 n5_02 c5_02)] 28)) (w5.heap.size) #[(.slice a5_00 n5_00 c5_00), (.slice a5_01 n5_01 c5_01), (.slice a5_02 n5_02 c5_02)] := (Bx.new (b := w5.heap.size) _ #[(.slice a5_00 n5_00 c5_00), (.slice a5_01 n5_01 c5_01), (.slice a5_02 n5_02 c5_02)] 28 (by first | rfl | simp))
  have o2_0_6 : OwnS (w5.alloc (.cells #[(.slice a5_00 n5_00 c5_00), (.slice a5_01 n5_01 c5_01), (.slice a5_02 n5_02 c5_02)] 28)) w.heap.size (.slice a2_00 n2_00 c2_00) (.slice a2_01 n2_01 c2_01) (.slice a2_02 n2_02 c2_02) (s0) := (o2_0_5.alloc _)
  have o5_0_6 : OwnS (w5.alloc (.cells #[(.slice a5_00 n5_00 c5_00), (.slice a5_01 n5_01 c5_01), (.slice a5_02 n5_02 c5_02)] 28)) w.heap.size (.slice a5_00 n5_00 c5_00) (.slice a5_01 n5_01 c5_01) (.slice a5_02 n5_02 c5_02) (s0) := (m5_0.alloc _)
  have zz6 : w5.heap.size + 1 ≤ (w5.alloc (.cells #[(.slice a5_00 n5_00 c5_00), (.slice a5_01 n5_01 c5_01), (.slice a5_02 n5_02 c5_02)] 28)).heap.size := (by simp)
  clear cb0_5 fb0_5 zb0_5 cb1_5 fb1_5 zb1_5
  generalize (w5.alloc (.cells #[(.slice a5_00 n5_00 c5_00), (.slice a5_01 n5_01 c5_01), (.slice a5_02 n5_02 c5_02)] 28)) = w6 at *
  obtain ⟨cb0_6, fb0_6, zb0_6⟩ := xb0_6.out
  obtain ⟨cb1_6, fb1_6, zb1_6⟩ := xb1_6.out
  obtain ⟨cb2_6, fb2_6, zb2_6⟩ := xb2_6.out
  go_region_held3 (fun w' => w'.cell? ⟨w5.heap.size, 0, none⟩ = some ((.slice a5_00 n5_00 c5_00)) ∧ w'.cell? ⟨w5.heap.size, 1, none⟩ = some ((.slice a5_01 n5_01 c5_01)) ∧ w'.cell? ⟨w5.heap.size, 2, none⟩ = some ((.slice a5_02 n5_02 c5_02)) ∧ w'.cell? ⟨w.heap.size + 1, 0, none⟩ = some (.int .i64 (n1)) ∧ w'.cell? ⟨w.heap.size + 1, 1, none⟩ = some (.int .i64 (e1))) (first | (simp [*]; done) | (go_simp; done) | go_keep)
    (first | (go_at_call_of 25 (Value.agg #[.int .i64 (n1), .int .i64 (e1)]); go_must (refine (toF_any (n1) (e1) _).mono ?_; rintro e w7 ⟨rfl, hb7⟩; have B7 : Bl w w7 := bl_call (bl_drew B6) hb7; have xb0_7 : Bx w7 (w.heap.size) #[a0, b0, c0] := (xb0_6.drew).below hb7; have xb1_7 : Bx w7 (w.heap.size + 1) #[.int .i64 (n1), .int .i64 (e1)] := (xb1_6.drew).below hb7; have xb2_7 : Bx w7 (w5.heap.size) #[(.slice a5_00 n5_00 c5_00), (.slice a5_01 n5_01 c5_01), (.slice a5_02 n5_02 c5_02)] := (xb2_6.drew).below hb7; have o2_0_7 := (o2_0_6.drew).below hb7; have o5_0_7 := (o5_0_6.drew).below hb7; have zz7 : w6.heap.size ≤ w7.heap.size := (by have := hb7.size; first | omega | (simp at this; omega)); clear cb0_6 fb0_6 zb0_6 cb1_6 fb1_6 zb1_6 cb2_6 fb2_6 zb2_6; obtain ⟨cb0_7, fb0_7, zb0_7⟩ := xb0_7.out; obtain ⟨cb1_7, fb1_7, zb1_7⟩ := xb1_7.out; obtain ⟨cb2_7, fb2_7, zb2_7⟩ := xb2_7.out)) | (go_at_call_of 49 (Value.agg #[(.slice a5_00 n5_00 c5_00), (.slice a5_01 n5_01 c5_01), (.slice a5_02 n5_02 c5_02)]); go_must (refine (impl_CompareWithFraction _ _ _ (s0) (n1) (e1) (x2) _ o5_0_7.sl).mono ?_; rintro e w8 ⟨rfl, hb8⟩; have B8 : Bl w w8 := bl_call B7 hb8; have xb0_8 : Bx w8 (w.heap.size) #[a0, b0, c0] := xb0_7.below hb8; have xb1_8 : Bx w8 (w.heap.size + 1) #[.int .i64 (n1), .int .i64 (e1)] := xb1_7.below hb8; have xb2_8 : Bx w8 (w5.heap.size) #[(.slice a5_00 n5_00 c5_00), (.slice a5_01 n5_01 c5_01), (.slice a5_02 n5_02 c5_02)] := xb2_7.below hb8; have o2_0_8 := o2_0_7.below hb8; have o5_0_8 := o5_0_7.below hb8; have zz8 : w7.heap.size ≤ w8.heap.size := (by have := hb8.size; first | omega | (simp at this; omega)); clear cb0_7 fb0_7 zb0_7 cb1_7 fb1_7 zb1_7 cb2_7 fb2_7 zb2_7; obtain ⟨cb0_8, fb0_8, zb0_8⟩ := xb0_8.out; obtain ⟨cb1_8, fb1_8, zb1_8⟩ := xb1_8.out; obtain ⟨cb2_8, fb2_8, zb2_8⟩ := xb2_8.out)))
  go_wp2_with fail
  go_region_held3 (fun w' => w'.cell? ⟨w5.heap.size, 0, none⟩ = some ((.slice a5_00 n5_00 c5_00)) ∧ w'.cell? ⟨w5.heap.size, 1, none⟩ = some ((.slice a5_01 n5_01 c5_01)) ∧ w'.cell? ⟨w5.heap.size, 2, none⟩ = some ((.slice a5_02 n5_02 c5_02)) ∧ w'.cell? ⟨w.heap.size, 0, none⟩ = some (a0) ∧ w'.cell? ⟨w.heap.size, 1, none⟩ = some (b0) ∧ w'.cell? ⟨w.heap.size, 2, none⟩ = some (c0)) (first | (simp [*]; done) | (go_simp; done) | go_keep)
    (first | (go_at_call_of 17 (Value.agg #[a0, b0, c0]); go_must (refine (toS_any _ _ _ (s0) _ (S0.below (bl_drew B8)) NL0.out).mono ?_; rintro e w9 ⟨h9_0, p9_0, g9_0, rfl, o9_0, hb9⟩; obtain ⟨⟨a9_00, n9_00, c9_00, rfl⟩, ⟨a9_01, n9_01, c9_01, rfl⟩, ⟨a9_02, n9_02, c9_02, rfl⟩⟩ := o9_0.shape; have B9 : Bl w w9 := bl_call (bl_drew B8) hb9; have xb0_9 : Bx w9 (w.heap.size) #[a0, b0, c0] := (xb0_8.drew).below hb9; have xb1_9 : Bx w9 (w.heap.size + 1) #[.int .i64 (n1), .int .i64 (e1)] := (xb1_8.drew).below hb9; have xb2_9 : Bx w9 (w5.heap.size) #[(.slice a5_00 n5_00 c5_00), (.slice a5_01 n5_01 c5_01), (.slice a5_02 n5_02 c5_02)] := (xb2_8.drew).below hb9; have o2_0_9 := (o2_0_8.drew).below hb9; have o5_0_9 := (o5_0_8.drew).below hb9; have zz9 : w8.heap.size ≤ w9.heap.size := (by have := hb9.size; first | omega | (simp at this; omega)); clear cb0_8 fb0_8 zb0_8 cb1_8 fb1_8 zb1_8 cb2_8 fb2_8 zb2_8; obtain ⟨cb0_9, fb0_9, zb0_9⟩ := xb0_9.out; obtain ⟨cb1_9, fb1_9, zb1_9⟩ := xb1_9.out; obtain ⟨cb2_9, fb2_9, zb2_9⟩ := xb2_9.out; have R9_0 : ∀ k, blks (.slice a9_00 n9_00 c9_00) (.slice a9_01 n9_01 c9_01) (.slice a9_02 n9_02 c9_02) k → w8.heap.size ≤ k ∧ k < w9.heap.size := fun k hk => (by have := o9_0.blk k hk; first | omega | (simp at this; omega)); have R9_0 := Lib.hid R9_0; have m9_0 := o9_0.mono ((bl_drew B8)).size; clear o9_0)) | (go_at_call_of 20 (Value.agg #[(.slice a5_00 n5_00 c5_00), (.slice a5_01 n5_01 c5_01), (.slice a5_02 n5_02 c5_02)]); go_must (refine (eqS_any _ _ _ _ _ _ (s0) (s0) _ o5_0_9.sl m9_0.sl).mono ?_; rintro e w10 ⟨rfl, hb10⟩; have B10 : Bl w w10 := bl_call B9 hb10; have xb0_10 : Bx w10 (w.heap.size) #[a0, b0, c0] := xb0_9.below hb10; have xb1_10 : Bx w10 (w.heap.size + 1) #[.int .i64 (n1), .int .i64 (e1)] := xb1_9.below hb10; have xb2_10 : Bx w10 (w5.heap.size) #[(.slice a5_00 n5_00 c5_00), (.slice a5_01 n5_01 c5_01), (.slice a5_02 n5_02 c5_02)] := xb2_9.below hb10; have o2_0_10 := o2_0_9.below hb10; have o5_0_10 := o5_0_9.below hb10; have o9_0_10 := m9_0.below hb10; have zz10 : w9.heap.size ≤ w10.heap.size := (by have := hb10.size; first | omega | (simp at this; omega)); clear cb0_9 fb0_9 zb0_9 cb1_9 fb1_9 zb1_9 cb2_9 fb2_9 zb2_9; obtain ⟨cb0_10, fb0_10, zb0_10⟩ := xb0_10.out; obtain ⟨cb1_10, fb1_10, zb1_10⟩ := xb1_10.out; obtain ⟨cb2_10, fb2_10, zb2_10⟩ := xb2_10.out)))
  go_wp2
  go_ret
  exact ⟨rfl, B10⟩

set_option maxRecDepth 100000 in
theorem fnExactCompareWithFraction_lifted (os : Os) (started : os.Started) (H : Type) (enc : TypeId × Value → H) :
    ReturnsInHanded {} Try.checked os 13 .any (Rows.fnExactCompareWithFractionSpec.pre6 enc Try.prog Try.f13 Rows.fnExactCompareWithFractionRow.domain false) (Rows.fnExactCompareWithFractionSpec.post enc Try.prog Try.f13 false true false false) := by
  refine returnsInHanded_of_change (C := Try.checked) own started (by kernel_rfl) Try.func13
    (ChangeSpec.witness6 (enc := enc) (C := Try.checked) false ⟨#[], #[.agg #[.slice none 0 0, .slice none 0 0, .slice none 0 0], .agg #[.int .i64 0, .int .i64 0], .int .i64 0], []⟩ 8 (by kernel_rfl) (by kernel_rfl) (by kernel_rfl) (by kernel_rfl)) ?_
  intro W base args ds gs before hval0 hW hcnd _
  have hval : ∀ (j : Nat) t v, Try.f13.params[j]? = some t → args[j]? = some v → Value.okWide Try.prog W .any base t v := hval0
  have hW' := hW
  obtain ⟨p, q, hA0, hV, rfl, hfz, hnd⟩ := hW
  have hA : DataW.TrodAll enc Try.prog W 0 (fun _ => true) true Try.f13.params.toList args.toList ds p := hA0
  rw [Try.params13] at hA hval
  obtain ⟨v0, vs0, d0, ds0, p0, q0, hargs, rfl, rfl, h0, r0⟩ := trodAll_cons hA
  obtain ⟨v1, vs1, d1, ds1, p1, q1, rfl, rfl, rfl, h1, r1⟩ := trodAll_cons r0
  obtain ⟨v2, vs2, d2, ds2, p2, q2, rfl, rfl, rfl, h2, r2⟩ := trodAll_cons r1
  obtain ⟨rfl, rfl, rfl⟩ := trodAll_nil r2
  obtain rfl : args = #[v0, v1, v2] := by cases args; simp_all
  obtain ⟨rfl, rfl⟩ := trodVars_none hV
  have k0 := h0
  have lt0 : ∀ x ∈ p0, x.block < W.heap.size := by obtain ⟨m, hm⟩ := k0; exact DataW.trod_lt m _ _ _ hm
  have k1 := h1
  have lt1 : ∀ x ∈ p1, x.block < W.heap.size := by obtain ⟨m, hm⟩ := k1; exact DataW.trod_lt m _ _ _ hm
  have k2 := h2
  have lt2 : ∀ x ∈ p2, x.block < W.heap.size := by obtain ⟨m, hm⟩ := k2; exact DataW.trod_lt m _ _ _ hm
  obtain ⟨a0, b0, c0, s0, rfl, S0⟩ := src_of_trod (hval 0 24 v0 rfl rfl) h0
  obtain ⟨n1, e1, rfl, S1, U1⟩ := frac_of_trod (hval 1 36 v1 rfl rfl) h1
  have hv2 := hval 2 2 v2 rfl rfl
  obtain ⟨x2, rfl, _, _, w2⟩ := open_int Try.underlying2 hv2 h2
  clear hA0 hval0
  refine (lawExactCompareWithFraction a0 b0 c0 s0 n1 e1 x2 W S0 S1 U1 (r64_of_wf w2)).mono fun e W' ⟨he, bel⟩ => ?_
  subst he
  exact ⟨_, rfl, _, _, _, [], _, [], hW', trodAll_mk1 (shut_bool Try.underlying4 _), (trodAll_cons_mk (Below.trod laidOut (by kernel_rfl) (of_decide_eq_true (by kernel_rfl)) k0 bel lt0) (trodAll_cons_mk (Below.trod laidOut (by kernel_rfl) (of_decide_eq_true (by kernel_rfl)) k1 bel lt1) (trodAll_cons_mk (Below.trod laidOut (by kernel_rfl) (of_decide_eq_true (by kernel_rfl)) k2 bel lt2) trodAll_mk0))), rfl, bel.frame _, fun h => by cases h⟩

/-- THE STATEMENT. -/
theorem fnExactCompareWithFraction_holds : Rows.FnExactCompareWithFractionSaid :=
  OpenClaim.holds_of_wide 13 Try.f13 rfl rfl rfl rfl rfl rfl rfl ⟨rfl, rfl, rfl, rfl, rfl⟩ rfl rfl rfl rfl rfl (by kernel_rfl) Try.func13 (by kernel_rfl)
    (of_decide_eq_true (by kernel_rfl)) (by unfold Func.isWrapper; first | (rw [if_pos (by decide +kernel)]; kernel_rfl) | (rw [if_neg (by decide +kernel)]; exact ⟨rfl, rfl⟩))
    (fun os started H enc _ => fnExactCompareWithFraction_lifted os started H enc)
#print axioms fnExactCompareWithFraction_holds

end Go.Proofs.Ytokmgggfbomhnaa
