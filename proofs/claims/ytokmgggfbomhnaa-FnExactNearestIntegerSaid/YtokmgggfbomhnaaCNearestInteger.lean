/- FnExactNearestInteger holds: for all sources and numbers of terms the program's NearestInteger returns what the reference's returns. Conditions: none. -/
import Derived.Test.YtokmgggfbomhnaaOpen
import Derived.Test.YtokmgggfbomhnaaNearInt
namespace Go.Proofs.Ytokmgggfbomhnaa
open Go.RowKit Go.ChangeShapes Go.WideShapes Go.ChangeAt
set_option linter.unusedVariables false
set_option linter.unusedSimpArgs false

set_option maxHeartbeats 1600000 in
set_option maxRecDepth 100000 in
theorem lawExactNearestInteger (a0 b0 c0 : Value) (s0 : Src) (x1 : Int) (w : World) (S0 : SlS w a0 b0 c0 s0) (S1 : R64 x1) :
    Calls Try.prog 11 #[.agg #[a0, b0, c0], .int .i64 x1] w fun e w' => e = .returned (.bool true) ∧ Bl w w' := by
  go_enter Try.func11, Try.ntmps11
  go_wp2_with fail
  refine (szS_any _ _ _ (s0) _ _ (S0.below (bl_alloc (bl_refl _) _)) (by omega) (by omega)).mono ?_
  rintro e w1 ⟨rfl, hb1⟩
  have B1 : Bl w w1 := bl_call (bl_alloc (bl_refl _) _) hb1
  have xb0_1 : Bx w1 (w.heap.size) #[a0, b0, c0] := (Bx.new (b := w.heap.size) _ #[a0, b0, c0] 24 (by first | rfl | simp)).below hb1
  have zz1 : w.heap.size + 1 ≤ w1.heap.size := (by have := hb1.size; first | omega | (simp at this; omega))
  obtain ⟨cb0_1, fb0_1, zb0_1⟩ := xb0_1.out
  by_cases hsz1 : szS (1048576) s0 < 0
  · go_wp2
    go_ret
    exact ⟨rfl, B1⟩
  obtain ⟨q11, q12, q13, q14, q15⟩ := szS_nonneg (1048576) s0 (by omega)
  have NL0 := Lib.hid (show s0.H.length ≤ 1048576 ∧ s0.P.length ≤ 1048576 ∧ s0.G.length ≤ 1048576 by omega)
  clear q11 q12 q13 q15
  go_wp2_with fail
  refine (toS_any _ _ _ (s0) _ (S0.below B1) NL0.out).mono ?_
  rintro e w2 ⟨h2_0, p2_0, g2_0, rfl, o2_0, hb2⟩
  obtain ⟨⟨a2_00, n2_00, c2_00, rfl⟩, ⟨a2_01, n2_01, c2_01, rfl⟩, ⟨a2_02, n2_02, c2_02, rfl⟩⟩ := o2_0.shape
  have B2 : Bl w w2 := bl_call B1 hb2
  have xb0_2 : Bx w2 (w.heap.size) #[a0, b0, c0] := xb0_1.below hb2
  have zz2 : w1.heap.size ≤ w2.heap.size := (by have := hb2.size; first | omega | (simp at this; omega))
  clear cb0_1 fb0_1 zb0_1
  obtain ⟨cb0_2, fb0_2, zb0_2⟩ := xb0_2.out
  have R2_0 : ∀ k, blks (.slice a2_00 n2_00 c2_00) (.slice a2_01 n2_01 c2_01) (.slice a2_02 n2_02 c2_02) k → w1.heap.size ≤ k ∧ k < w2.heap.size := fun k hk => (by have := o2_0.blk k hk; first | omega | (simp at this; omega))
  have R2_0 := Lib.hid R2_0
  have m2_0 := o2_0.mono (B1).size
  clear o2_0
  go_wp2_with fail
  refine (spec_NearestInteger _ _ _ (s0) (x1) _ m2_0.sl).mono ?_
  rintro e w3 ⟨rfl, hb3⟩
  have B3 : Bl w w3 := bl_call B2 hb3
  have xb0_3 : Bx w3 (w.heap.size) #[a0, b0, c0] := xb0_2.below hb3
  have o2_0_3 := m2_0.below hb3
  have zz3 : w2.heap.size ≤ w3.heap.size := (by have := hb3.size; first | omega | (simp at this; omega))
  clear cb0_2 fb0_2 zb0_2
  obtain ⟨cb0_3, fb0_3, zb0_3⟩ := xb0_3.out
  go_wp2_with fail
  refine (toS_any _ _ _ (s0) _ (S0.below B3) NL0.out).mono ?_
  rintro e w4 ⟨h4_0, p4_0, g4_0, rfl, o4_0, hb4⟩
  obtain ⟨⟨a4_00, n4_00, c4_00, rfl⟩, ⟨a4_01, n4_01, c4_01, rfl⟩, ⟨a4_02, n4_02, c4_02, rfl⟩⟩ := o4_0.shape
  have B4 : Bl w w4 := bl_call B3 hb4
  have xb0_4 : Bx w4 (w.heap.size) #[a0, b0, c0] := xb0_3.below hb4
  have o2_0_4 := o2_0_3.below hb4
  have zz4 : w3.heap.size ≤ w4.heap.size := (by have := hb4.size; first | omega | (simp at this; omega))
  clear cb0_3 fb0_3 zb0_3
  obtain ⟨cb0_4, fb0_4, zb0_4⟩ := xb0_4.out
  have R4_0 : ∀ k, blks (.slice a4_00 n4_00 c4_00) (.slice a4_01 n4_01 c4_01) (.slice a4_02 n4_02 c4_02) k → w3.heap.size ≤ k ∧ k < w4.heap.size := fun k hk => (by have := o4_0.blk k hk; first | omega | (simp at this; omega))
  have R4_0 := Lib.hid R4_0
  have m4_0 := o4_0.mono (B3).size
  clear o4_0
  go_wp2_with fail
  refine (impl_NearestInteger _ _ _ (s0) (x1) _ (m4_0.alloc _).sl).mono ?_
  rintro e w5 ⟨rfl, hb5⟩
  have B5 : Bl w w5 := bl_call (bl_alloc B4 _) hb5
  have xb0_5 : Bx w5 (w.heap.size) #[a0, b0, c0] := (xb0_4.alloc _).below hb5
  have xb1_5 : Bx w5 (w4.heap.size) #[(.slice a4_00 n4_00 c4_00), (.slice a4_01 n4_01 c4_01), (.slice a4_02 n4_02 c4_02)] := (Bx.new (b := w4.heap.size) _ #[(.slice a4_00 n4_00 c4_00), (.slice a4_01 n4_01 c4_01), (.slice a4_02 n4_02 c4_02)] 28 (by first | rfl | simp)).below hb5
  have o2_0_5 := (o2_0_4.alloc _).below hb5
  have o4_0_5 := (m4_0.alloc _).below hb5
  have zz5 : w4.heap.size + 1 ≤ w5.heap.size := (by have := hb5.size; first | omega | (simp at this; omega))
  clear cb0_4 fb0_4 zb0_4
  obtain ⟨cb0_5, fb0_5, zb0_5⟩ := xb0_5.out
  obtain ⟨cb1_5, fb1_5, zb1_5⟩ := xb1_5.out
  go_wp2_with fail
  go_region_held3 (fun w' => w'.cell? ⟨w4.heap.size, 0, none⟩ = some ((.slice a4_00 n4_00 c4_00)) ∧ w'.cell? ⟨w4.heap.size, 1, none⟩ = some ((.slice a4_01 n4_01 c4_01)) ∧ w'.cell? ⟨w4.heap.size, 2, none⟩ = some ((.slice a4_02 n4_02 c4_02)) ∧ w'.cell? ⟨w.heap.size, 0, none⟩ = some (a0) ∧ w'.cell? ⟨w.heap.size, 1, none⟩ = some (b0) ∧ w'.cell? ⟨w.heap.size, 2, none⟩ = some (c0)) (first | (simp [*]; done) | (go_simp; done) | go_keep)
    (first | (go_at_call_of 17 (Value.agg #[a0, b0, c0]); go_must (refine (toS_any _ _ _ (s0) _ (S0.below (bl_drew B5)) NL0.out).mono ?_; rintro e w6 ⟨h6_0, p6_0, g6_0, rfl, o6_0, hb6⟩; obtain ⟨⟨a6_00, n6_00, c6_00, rfl⟩, ⟨a6_01, n6_01, c6_01, rfl⟩, ⟨a6_02, n6_02, c6_02, rfl⟩⟩ := o6_0.shape; have B6 : Bl w w6 := bl_call (bl_drew B5) hb6; have xb0_6 : Bx w6 (w.heap.size) #[a0, b0, c0] := (xb0_5.drew).below hb6; have xb1_6 : Bx w6 (w4.heap.size) #[(.slice a4_00 n4_00 c4_00), (.slice a4_01 n4_01 c4_01), (.slice a4_02 n4_02 c4_02)] := (xb1_5.drew).below hb6; have o2_0_6 := (o2_0_5.drew).below hb6; have o4_0_6 := (o4_0_5.drew).below hb6; have zz6 : w5.heap.size ≤ w6.heap.size := (by have := hb6.size; first | omega | (simp at this; omega)); clear cb0_5 fb0_5 zb0_5 cb1_5 fb1_5 zb1_5; obtain ⟨cb0_6, fb0_6, zb0_6⟩ := xb0_6.out; obtain ⟨cb1_6, fb1_6, zb1_6⟩ := xb1_6.out; have R6_0 : ∀ k, blks (.slice a6_00 n6_00 c6_00) (.slice a6_01 n6_01 c6_01) (.slice a6_02 n6_02 c6_02) k → w5.heap.size ≤ k ∧ k < w6.heap.size := fun k hk => (by have := o6_0.blk k hk; first | omega | (simp at this; omega)); have R6_0 := Lib.hid R6_0; have m6_0 := o6_0.mono ((bl_drew B5)).size; clear o6_0)) | (go_at_call_of 20 (Value.agg #[(.slice a4_00 n4_00 c4_00), (.slice a4_01 n4_01 c4_01), (.slice a4_02 n4_02 c4_02)]); go_must (refine (eqS_any _ _ _ _ _ _ (s0) (s0) _ o4_0_6.sl m6_0.sl).mono ?_; rintro e w7 ⟨rfl, hb7⟩; have B7 : Bl w w7 := bl_call B6 hb7; have xb0_7 : Bx w7 (w.heap.size) #[a0, b0, c0] := xb0_6.below hb7; have xb1_7 : Bx w7 (w4.heap.size) #[(.slice a4_00 n4_00 c4_00), (.slice a4_01 n4_01 c4_01), (.slice a4_02 n4_02 c4_02)] := xb1_6.below hb7; have o2_0_7 := o2_0_6.below hb7; have o4_0_7 := o4_0_6.below hb7; have o6_0_7 := m6_0.below hb7; have zz7 : w6.heap.size ≤ w7.heap.size := (by have := hb7.size; first | omega | (simp at this; omega)); clear cb0_6 fb0_6 zb0_6 cb1_6 fb1_6 zb1_6; obtain ⟨cb0_7, fb0_7, zb0_7⟩ := xb0_7.out; obtain ⟨cb1_7, fb1_7, zb1_7⟩ := xb1_7.out)))
  go_wp2
  go_ret
  exact ⟨rfl, B7⟩

set_option maxRecDepth 100000 in
theorem fnExactNearestInteger_lifted (os : Os) (started : os.Started) (H : Type) (enc : TypeId × Value → H) :
    ReturnsInHanded {} Try.checked os 11 .any (Rows.fnExactNearestIntegerSpec.pre6 enc Try.prog Try.f11 Rows.fnExactNearestIntegerRow.domain false) (Rows.fnExactNearestIntegerSpec.post enc Try.prog Try.f11 false true false false) := by
  refine returnsInHanded_of_change (C := Try.checked) own started (by kernel_rfl) Try.func11
    (ChangeSpec.witness6 (enc := enc) (C := Try.checked) false ⟨#[], #[.agg #[.slice none 0 0, .slice none 0 0, .slice none 0 0], .int .i64 0], []⟩ 8 (by kernel_rfl) (by kernel_rfl) (by kernel_rfl) (by kernel_rfl)) ?_
  intro W base args ds gs before hval0 hW hcnd _
  have hval : ∀ (j : Nat) t v, Try.f11.params[j]? = some t → args[j]? = some v → Value.okWide Try.prog W .any base t v := hval0
  have hW' := hW
  obtain ⟨p, q, hA0, hV, rfl, hfz, hnd⟩ := hW
  have hA : DataW.TrodAll enc Try.prog W 0 (fun _ => true) true Try.f11.params.toList args.toList ds p := hA0
  rw [Try.params11] at hA hval
  obtain ⟨v0, vs0, d0, ds0, p0, q0, hargs, rfl, rfl, h0, r0⟩ := trodAll_cons hA
  obtain ⟨v1, vs1, d1, ds1, p1, q1, rfl, rfl, rfl, h1, r1⟩ := trodAll_cons r0
  obtain ⟨rfl, rfl, rfl⟩ := trodAll_nil r1
  obtain rfl : args = #[v0, v1] := by cases args; simp_all
  obtain ⟨rfl, rfl⟩ := trodVars_none hV
  have k0 := h0
  have lt0 : ∀ x ∈ p0, x.block < W.heap.size := by obtain ⟨m, hm⟩ := k0; exact DataW.trod_lt m _ _ _ hm
  have k1 := h1
  have lt1 : ∀ x ∈ p1, x.block < W.heap.size := by obtain ⟨m, hm⟩ := k1; exact DataW.trod_lt m _ _ _ hm
  obtain ⟨a0, b0, c0, s0, rfl, S0⟩ := src_of_trod (hval 0 24 v0 rfl rfl) h0
  have hv1 := hval 1 2 v1 rfl rfl
  obtain ⟨x1, rfl, _, _, w1⟩ := open_int Try.underlying2 hv1 h1
  clear hA0 hval0
  refine (lawExactNearestInteger a0 b0 c0 s0 x1 W S0 (r64_of_wf w1)).mono fun e W' ⟨he, bel⟩ => ?_
  subst he
  exact ⟨_, rfl, _, _, _, [], _, [], hW', trodAll_mk1 (shut_bool Try.underlying4 _), (trodAll_cons_mk (Below.trod laidOut (by kernel_rfl) (of_decide_eq_true (by kernel_rfl)) k0 bel lt0) (trodAll_cons_mk (Below.trod laidOut (by kernel_rfl) (of_decide_eq_true (by kernel_rfl)) k1 bel lt1) trodAll_mk0)), rfl, bel.frame _, fun h => by cases h⟩

/-- THE STATEMENT. -/
theorem fnExactNearestInteger_holds : Rows.FnExactNearestIntegerSaid :=
  OpenClaim.holds_of_wide 11 Try.f11 rfl rfl rfl rfl rfl rfl rfl ⟨rfl, rfl, rfl, rfl, rfl⟩ rfl rfl rfl rfl rfl (by kernel_rfl) Try.func11 (by kernel_rfl)
    (of_decide_eq_true (by kernel_rfl)) (by unfold Func.isWrapper; first | (rw [if_pos (by decide +kernel)]; kernel_rfl) | (rw [if_neg (by decide +kernel)]; exact ⟨rfl, rfl⟩))
    (fun os started H enc _ => fnExactNearestInteger_lifted os started H enc)
#print axioms fnExactNearestInteger_holds

end Go.Proofs.Ytokmgggfbomhnaa
