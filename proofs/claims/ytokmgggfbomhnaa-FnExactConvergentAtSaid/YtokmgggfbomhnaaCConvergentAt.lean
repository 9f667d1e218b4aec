/- FnExactConvergentAt holds: for all sources and places the program's ConvergentAt returns what the reference's returns. Conditions: none. -/
import Derived.Test.YtokmgggfbomhnaaOpen
import Derived.Test.YtokmgggfbomhnaaConvAt
namespace Go.Proofs.Ytokmgggfbomhnaa
open Go.RowKit Go.ChangeShapes Go.WideShapes Go.ChangeAt
set_option linter.unusedVariables false
set_option linter.unusedSimpArgs false

set_option maxHeartbeats 1600000 in
set_option maxRecDepth 100000 in
theorem lawExactConvergentAt (a0 b0 c0 : Value) (s0 : Src) (x1 : Int) (w : World) (S0 : SlS w a0 b0 c0 s0) (S1 : R64 x1) :
    Calls Try.prog 9 #[.agg #[a0, b0, c0], .int .i64 x1] w fun e w' => e = .returned (.bool true) ∧ Bl w w' := by
  go_enter Try.func9, Try.ntmps9
  go_wp2_with fail
  refine (szS_any _ _ _ (s0) _ _ (S0.below (bl_alloc (bl_refl _) _)) (by omega) (by omega)).mono ?_
  rintro e w1 ⟨rfl, hb1⟩
  have B1 : Bl w w1 := bl_call (bl_alloc (bl_refl _) _) hb1
  have xb0_1 : Bx w1 (w.heap.size) #[a0, b0, c0] := (Bx.new (b := w.heap.size) _ #[a0, b0, c0] 24 (by first | rfl | simp)).below hb1
  have zz1 : w.heap.size + 1 ≤ w1.heap.size := (by have := hb1.size; first | omega | (simp at this; omega))
  obtain ⟨cb0_1, fb0_1, zb0_1⟩ := xb0_1.out
  by_cases hsz1 : szS (1048576) s0 < 0
  · go_wp2
    go_ret
    exact ⟨rfl, B1⟩
  obtain ⟨q11, q12, q13, q14, q15⟩ := szS_nonneg (1048576) s0 (by omega)
  have NL0 := Lib.hid (show s0.H.length ≤ 1048576 ∧ s0.P.length ≤ 1048576 ∧ s0.G.length ≤ 1048576 by omega)
  clear q11 q12 q13 q15
  go_wp2_with fail
  refine (toS_any _ _ _ (s0) _ (S0.below B1) NL0.out).mono ?_
  rintro e w2 ⟨h2_0, p2_0, g2_0, rfl, o2_0, hb2⟩
  obtain ⟨⟨a2_00, n2_00, c2_00, rfl⟩, ⟨a2_01, n2_01, c2_01, rfl⟩, ⟨a2_02, n2_02, c2_02, rfl⟩⟩ := o2_0.shape
  have B2 : Bl w w2 := bl_call B1 hb2
  have xb0_2 : Bx w2 (w.heap.size) #[a0, b0, c0] := xb0_1.below hb2
  have zz2 : w1.heap.size ≤ w2.heap.size := (by have := hb2.size; first | omega | (simp at this; omega))
  clear cb0_1 fb0_1 zb0_1
  obtain ⟨cb0_2, fb0_2, zb0_2⟩ := xb0_2.out
  have R2_0 : ∀ k, blks (.slice a2_00 n2_00 c2_00) (.slice a2_01 n2_01 c2_01) (.slice a2_02 n2_02 c2_02) k → w1.heap.size ≤ k ∧ k < w2.heap.size := fun k hk => (by have := o2_0.blk k hk; first | omega | (simp at this; omega))
  have R2_0 := Lib.hid R2_0
  have m2_0 := o2_0.mono (B1).size
  clear o2_0
  go_wp2_with fail
  refine (spec_ConvergentAt _ _ _ (s0) (x1) _ m2_0.sl).mono ?_
  rintro e w3 ⟨rfl, hb3⟩
  have B3 : Bl w w3 := bl_call B2 hb3
  have xb0_3 : Bx w3 (w.heap.size) #[a0, b0, c0] := xb0_2.below hb3
  have o2_0_3 := m2_0.below hb3
  have zz3 : w2.heap.size ≤ w3.heap.size := (by have := hb3.size; first | omega | (simp at this; omega))
  clear cb0_2 fb0_2 zb0_2
  obtain ⟨cb0_3, fb0_3, zb0_3⟩ := xb0_3.out
  go_wp2_with fail
  refine (toS_any _ _ _ (s0) _ (S0.below (bl_alloc B3 _)) NL0.out).mono ?_
  rintro e w4 ⟨h4_0, p4_0, g4_0, rfl, o4_0, hb4⟩
  obtain ⟨⟨a4_00, n4_00, c4_00, rfl⟩, ⟨a4_01, n4_01, c4_01, rfl⟩, ⟨a4_02, n4_02, c4_02, rfl⟩⟩ := o4_0.shape
  have B4 : Bl w w4 := bl_call (bl_alloc B3 _) hb4
  have xb0_4 : Bx w4 (w.heap.size) #[a0, b0, c0] := (xb0_3.alloc _).below hb4
  have xb1_4 : Bx w4 (w3.heap.size) #[.int .i64 ((convAtF (s0) (x1)).1.1), .int .i64 ((convAtF (s0) (x1)).1.2)] := (Bx.new (b := w3.heap.size) _ #[.int .i64 ((convAtF (s0) (x1)).1.1), .int .i64 ((convAtF (s0) (x1)).1.2)] 39 (by first | rfl | simp)).below hb4
  have o2_0_4 := (o2_0_3.alloc _).below hb4
  have zz4 : w3.heap.size + 1 ≤ w4.heap.size := (by have := hb4.size; first | omega | (simp at this; omega))
  clear cb0_3 fb0_3 zb0_3
  obtain ⟨cb0_4, fb0_4, zb0_4⟩ := xb0_4.out
  obtain ⟨cb1_4, fb1_4, zb1_4⟩ := xb1_4.out
  have R4_0 : ∀ k, blks (.slice a4_00 n4_00 c4_00) (.slice a4_01 n4_01 c4_01) (.slice a4_02 n4_02 c4_02) k → w3.heap.size + 1 ≤ k ∧ k < w4.heap.size := fun k hk => (by have := o4_0.blk k hk; first | omega | (simp at this; omega))
  have R4_0 := Lib.hid R4_0
  have m4_0 := o4_0.mono ((bl_alloc B3 _)).size
  clear o4_0
  go_wp2_with fail
  refine (impl_ConvergentAt _ _ _ (s0) (x1) _ (m4_0.alloc _).sl).mono ?_
  rintro e w5 ⟨rfl, hb5⟩
  have B5 : Bl w w5 := bl_call (bl_alloc B4 _) hb5
  have xb0_5 : Bx w5 (w.heap.size) #[a0, b0, c0] := (xb0_4.alloc _).below hb5
  have xb1_5 : Bx w5 (w3.heap.size) #[.int .i64 ((convAtF (s0) (x1)).1.1), .int .i64 ((convAtF (s0) (x1)).1.2)] := (xb1_4.alloc _).below hb5
  have xb2_5 : Bx w5 (w4.heap.size) #[(.slice a4_00 n4_00 c4_00), (.slice a4_01 n4_01 c4_01), (.slice a4_02 n4_02 c4_02)] := (Bx.new (b := w4.heap.size) _ #[(.slice a4_00 n4_00 c4_00), (.slice a4_01 n4_01 c4_01), (.slice a4_02 n4_02 c4_02)] 28 (by first | rfl | simp)).below hb5
  have o2_0_5 := (o2_0_4.alloc _).below hb5
  have o4_0_5 := (m4_0.alloc _).below hb5
  have zz5 : w4.heap.size + 1 ≤ w5.heap.size := (by have := hb5.size; first | omega | (simp at this; omega))
  clear cb0_4 fb0_4 zb0_4 cb1_4 fb1_4 zb1_4
  obtain ⟨cb0_5, fb0_5, zb0_5⟩ := xb0_5.out
  obtain ⟨cb1_5, fb1_5, zb1_5⟩ := xb1_5.out
  obtain ⟨cb2_5, fb2_5, zb2_5⟩ := xb2_5.out
  go_wp2_with fail
  refine (eqF_any ((convAtF (s0) (x1)).1.1) ((convAtF (s0) (x1)).1.2) ((convAtF (s0) (x1)).1.1) ((convAtF (s0) (x1)).1.2) _).mono ?_
  rintro e w6 ⟨rfl, hb6⟩
  have B6 : Bl w w6 := bl_call (bl_alloc B5 _) hb6
  have xb0_6 : Bx w6 (w.heap.size) #[a0, b0, c0] := (xb0_5.alloc _).below hb6
  have xb1_6 : Bx w6 (w3.heap.size) #[.int .i64 ((convAtF (s0) (x1)).1.1), .int .i64 ((convAtF (s0) (x1)).1.2)] := (xb1_5.alloc _).below hb6
  have xb2_6 : Bx w6 (w4.heap.size) #[(.slice a4_00 n4_00 c4_00), (.slice a4_01 n4_01 c4_01), (.slice a4_02 n4_02 c4_02)] := (xb2_5.alloc _).below hb6
  have xb3_6 : Bx w6 (w5.heap.size) #[.int .i64 ((convAtF (s0) (x1)).1.1), .int .i64 ((convAtF (s0) (x1)).1.2)] := (Bx.new (b := w5.heap.size) _ #[.int .i64 ((convAtF (s0) (x1)).1.1), .int .i64 ((convAtF (s0) (x1)).1.2)] 39 (by first | rfl | simp)).below hb6
  have o2_0_6 := (o2_0_5.alloc _).below hb6
  have o4_0_6 := (o4_0_5.alloc _).below hb6
  have zz6 : w5.heap.size + 1 ≤ w6.heap.size := (by have := hb6.size; first | omega | (simp at this; omega))
  clear cb0_5 fb0_5 zb0_5 cb1_5 fb1_5 zb1_5 cb2_5 fb2_5 zb2_5
  obtain ⟨cb0_6, fb0_6, zb0_6⟩ := xb0_6.out
  obtain ⟨cb1_6, fb1_6, zb1_6⟩ := xb1_6.out
  obtain ⟨cb2_6, fb2_6, zb2_6⟩ := xb2_6.out
  obtain ⟨cb3_6, fb3_6, zb3_6⟩ := xb3_6.out
  go_wp2_with fail
  go_region_held3 (fun w' => w'.cell? ⟨w4.heap.size, 0, none⟩ = some ((.slice a4_00 n4_00 c4_00)) ∧ w'.cell? ⟨w4.heap.size, 1, none⟩ = some ((.slice a4_01 n4_01 c4_01)) ∧ w'.cell? ⟨w4.heap.size, 2, none⟩ = some ((.slice a4_02 n4_02 c4_02)) ∧ w'.cell? ⟨w.heap.size, 0, none⟩ = some (a0) ∧ w'.cell? ⟨w.heap.size, 1, none⟩ = some (b0) ∧ w'.cell? ⟨w.heap.size, 2, none⟩ = some (c0)) (first | (simp [*]; done) | (go_simp; done) | go_keep)
    (first | (go_at_call_of 17 (Value.agg #[a0, b0, c0]); go_must (refine (toS_any _ _ _ (s0) _ (S0.below (bl_drew B6)) NL0.out).mono ?_; rintro e w7 ⟨h7_0, p7_0, g7_0, rfl, o7_0, hb7⟩; obtain ⟨⟨a7_00, n7_00, c7_00, rfl⟩, ⟨a7_01, n7_01, c7_01, rfl⟩, ⟨a7_02, n7_02, c7_02, rfl⟩⟩ := o7_0.shape; have B7 : Bl w w7 := bl_call (bl_drew B6) hb7; have xb0_7 : Bx w7 (w.heap.size) #[a0, b0, c0] := (xb0_6.drew).below hb7; have xb1_7 : Bx w7 (w3.heap.size) #[.int .i64 ((convAtF (s0) (x1)).1.1), .int .i64 ((convAtF (s0) (x1)).1.2)] := (xb1_6.drew).below hb7; have xb2_7 : Bx w7 (w4.heap.size) #[(.slice a4_00 n4_00 c4_00), (.slice a4_01 n4_01 c4_01), (.slice a4_02 n4_02 c4_02)] := (xb2_6.drew).below hb7; have xb3_7 : Bx w7 (w5.heap.size) #[.int .i64 ((convAtF (s0) (x1)).1.1), .int .i64 ((convAtF (s0) (x1)).1.2)] := (xb3_6.drew).below hb7; have o2_0_7 := (o2_0_6.drew).below hb7; have o4_0_7 := (o4_0_6.drew).below hb7; have zz7 : w6.heap.size ≤ w7.heap.size := (by have := hb7.size; first | omega | (simp at this; omega)); clear cb0_6 fb0_6 zb0_6 cb1_6 fb1_6 zb1_6 cb2_6 fb2_6 zb2_6 cb3_6 fb3_6 zb3_6; obtain ⟨cb0_7, fb0_7, zb0_7⟩ := xb0_7.out; obtain ⟨cb1_7, fb1_7, zb1_7⟩ := xb1_7.out; obtain ⟨cb2_7, fb2_7, zb2_7⟩ := xb2_7.out; obtain ⟨cb3_7, fb3_7, zb3_7⟩ := xb3_7.out; have R7_0 : ∀ k, blks (.slice a7_00 n7_00 c7_00) (.slice a7_01 n7_01 c7_01) (.slice a7_02 n7_02 c7_02) k → w6.heap.size ≤ k ∧ k < w7.heap.size := fun k hk => (by have := o7_0.blk k hk; first | omega | (simp at this; omega)); have R7_0 := Lib.hid R7_0; have m7_0 := o7_0.mono ((bl_drew B6)).size; clear o7_0)) | (go_at_call_of 20 (Value.agg #[(.slice a4_00 n4_00 c4_00), (.slice a4_01 n4_01 c4_01), (.slice a4_02 n4_02 c4_02)]); go_must (refine (eqS_any _ _ _ _ _ _ (s0) (s0) _ o4_0_7.sl m7_0.sl).mono ?_; rintro e w8 ⟨rfl, hb8⟩; have B8 : Bl w w8 := bl_call B7 hb8; have xb0_8 : Bx w8 (w.heap.size) #[a0, b0, c0] := xb0_7.below hb8; have xb1_8 : Bx w8 (w3.heap.size) #[.int .i64 ((convAtF (s0) (x1)).1.1), .int .i64 ((convAtF (s0) (x1)).1.2)] := xb1_7.below hb8; have xb2_8 : Bx w8 (w4.heap.size) #[(.slice a4_00 n4_00 c4_00), (.slice a4_01 n4_01 c4_01), (.slice a4_02 n4_02 c4_02)] := xb2_7.below hb8; have xb3_8 : Bx w8 (w5.heap.size) #[.int .i64 ((convAtF (s0) (x1)).1.1), .int .i64 ((convAtF (s0) (x1)).1.2)] := xb3_7.below hb8; have o2_0_8 := o2_0_7.below hb8; have o4_0_8 := o4_0_7.below hb8; have o7_0_8 := m7_0.below hb8; have zz8 : w7.heap.size ≤ w8.heap.size := (by have := hb8.size; first | omega | (simp at this; omega)); clear cb0_7 fb0_7 zb0_7 cb1_7 fb1_7 zb1_7 cb2_7 fb2_7 zb2_7 cb3_7 fb3_7 zb3_7; obtain ⟨cb0_8, fb0_8, zb0_8⟩ := xb0_8.out; obtain ⟨cb1_8, fb1_8, zb1_8⟩ := xb1_8.out; obtain ⟨cb2_8, fb2_8, zb2_8⟩ := xb2_8.out; obtain ⟨cb3_8, fb3_8, zb3_8⟩ := xb3_8.out)))
  go_wp2
  go_ret
  exact ⟨rfl, B8⟩

set_option maxRecDepth 100000 in
theorem fnExactConvergentAt_lifted (os : Os) (started : os.Started) (H : Type) (enc : TypeId × Value → H) :
    ReturnsInHanded {} Try.checked os 9 .any (Rows.fnExactConvergentAtSpec.pre6 enc Try.prog Try.f9 Rows.fnExactConvergentAtRow.domain false) (Rows.fnExactConvergentAtSpec.post enc Try.prog Try.f9 false true false false) := by
  refine returnsInHanded_of_change (C := Try.checked) own started (by kernel_rfl) Try.func9
    (ChangeSpec.witness6 (enc := enc) (C := Try.checked) false ⟨#[], #[.agg #[.slice none 0 0, .slice none 0 0, .slice none 0 0], .int .i64 0], []⟩ 8 (by kernel_rfl) (by kernel_rfl) (by kernel_rfl) (by kernel_rfl)) ?_
  intro W base args ds gs before hval0 hW hcnd _
  have hval : ∀ (j : Nat) t v, Try.f9.params[j]? = some t → args[j]? = some v → Value.okWide Try.prog W .any base t v := hval0
  have hW' := hW
  obtain ⟨p, q, hA0, hV, rfl, hfz, hnd⟩ := hW
  have hA : DataW.TrodAll enc Try.prog W 0 (fun _ => true) true Try.f9.params.toList args.toList ds p := hA0
  rw [Try.params9] at hA hval
  obtain ⟨v0, vs0, d0, ds0, p0, q0, hargs, rfl, rfl, h0, r0⟩ := trodAll_cons hA
  obtain ⟨v1, vs1, d1, ds1, p1, q1, rfl, rfl, rfl, h1, r1⟩ := trodAll_cons r0
  obtain ⟨rfl, rfl, rfl⟩ := trodAll_nil r1
  obtain rfl : args = #[v0, v1] := by cases args; simp_all
  obtain ⟨rfl, rfl⟩ := trodVars_none hV
  have k0 := h0
  have lt0 : ∀ x ∈ p0, x.block < W.heap.size := by obtain ⟨m, hm⟩ := k0; exact DataW.trod_lt m _ _ _ hm
  have k1 := h1
  have lt1 : ∀ x ∈ p1, x.block < W.heap.size := by obtain ⟨m, hm⟩ := k1; exact DataW.trod_lt m _ _ _ hm
  obtain ⟨a0, b0, c0, s0, rfl, S0⟩ := src_of_trod (hval 0 24 v0 rfl rfl) h0
  have hv1 := hval 1 2 v1 rfl rfl
  obtain ⟨x1, rfl, _, _, w1⟩ := open_int Try.underlying2 hv1 h1
  clear hA0 hval0
  refine (lawExactConvergentAt a0 b0 c0 s0 x1 W S0 (r64_of_wf w1)).mono fun e W' ⟨he, bel⟩ => ?_
  subst he
  exact ⟨_, rfl, _, _, _, [], _, [], hW', trodAll_mk1 (shut_bool Try.underlying4 _), (trodAll_cons_mk (Below.trod laidOut (by kernel_rfl) (of_decide_eq_true (by kernel_rfl)) k0 bel lt0) (trodAll_cons_mk (Below.trod laidOut (by kernel_rfl) (of_decide_eq_true (by kernel_rfl)) k1 bel lt1) trodAll_mk0)), rfl, bel.frame _, fun h => by cases h⟩

/-- THE STATEMENT. -/
theorem fnExactConvergentAt_holds : Rows.FnExactConvergentAtSaid :=
  OpenClaim.holds_of_wide 9 Try.f9 rfl rfl rfl rfl rfl rfl rfl ⟨rfl, rfl, rfl, rfl, rfl⟩ rfl rfl rfl rfl rfl (by kernel_rfl) Try.func9 (by kernel_rfl)
    (of_decide_eq_true (by kernel_rfl)) (by unfold Func.isWrapper; first | (rw [if_pos (by decide +kernel)]; kernel_rfl) | (rw [if_neg (by decide +kernel)]; exact ⟨rfl, rfl⟩))
    (fun os started H enc _ => fnExactConvergentAt_lifted os started H enc)
#print axioms fnExactConvergentAt_holds

end Go.Proofs.Ytokmgggfbomhnaa
