/- FnExactBoundsOfTerms holds: for all lists of terms the program's BoundsOfTerms returns what the reference's returns. Conditions: none. -/
import Derived.Test.YteejfiflidfciaaOpenI
import Derived.Test.YteejfiflidfciaaBndL
namespace Go.Proofs.Yteejfiflidfciaa
open Go.RowKit Go.ChangeShapes Go.WideShapes Go.ChangeAt
set_option linter.unusedVariables false
set_option linter.unusedSimpArgs false

set_option maxHeartbeats 1600000 in
set_option maxRecDepth 100000 in
theorem lawExactBoundsOfTerms (v0 : Value) (y0 : List Int) (w : World) (S0 : Sl w v0 y0) :
    Calls Try.prog 12 #[v0] w fun e w' => e = .returned (.bool true) ∧ Bl w w' := by
  have ll0 := S0.len
  obtain ⟨va0, vc0, rfl, _⟩ := S0.form
  by_cases hln0 : 1048576 < y0.length
  · go_enter Try.func12, Try.ntmps12
    go_wp2
    go_ret
    exact ⟨rfl, (bl_refl _)⟩
  have NL0 := Lib.hid (show y0.length ≤ 1048576 by omega)
  go_enter Try.func12, Try.ntmps12
  go_wp2_with fail
  refine (toI_any _ (y0) _ (S0.below (bl_refl _)) (by have := NL0.out; omega)).mono ?_
  rintro e w1 ⟨a1_0, n1_0, c1_0, rfl, o1_0, hb1⟩
  have B1 : Bl w w1 := bl_call (bl_refl _) hb1
  have zz1 : w.heap.size ≤ w1.heap.size := (by have := hb1.size; first | omega | (simp at this; omega))
  have R1_0 : ∀ k, ((Value.slice a1_0 n1_0 c1_0)).ownBlock = some k → w.heap.size ≤ k ∧ k < w1.heap.size := fun k hk => (by have := o1_0.lt k hk; first | omega | (simp at this; omega))
  have R1_0 := Lib.hid R1_0
  have m1_0 := o1_0.mono ((bl_refl _)).size
  clear o1_0
  go_wp2_with fail
  refine (spec_BoundsOfTerms _ (y0) _ m1_0.sl NL0.out).mono ?_
  rintro e w2 ⟨rfl, hb2⟩
  have B2 : Bl w w2 := bl_call B1 hb2
  have o1_0_2 := m1_0.below hb2
  have zz2 : w1.heap.size ≤ w2.heap.size := (by have := hb2.size; first | omega | (simp at this; omega))
  go_wp2_with fail
  refine (toI_any _ (y0) _ (S0.below (bl_alloc (bl_alloc B2 _) _)) (by have := NL0.out; omega)).mono ?_
  rintro e w3 ⟨a3_0, n3_0, c3_0, rfl, o3_0, hb3⟩
  have B3 : Bl w w3 := bl_call (bl_alloc (bl_alloc B2 _) _) hb3
  have xb0_3 : Bx w3 (w2.heap.size) #[.int .i64 ((bndTF (y0)).1.1), .int .i64 ((bndTF (y0)).1.2)] := ((Bx.new (b := w2.heap.size) _ #[.int .i64 ((bndTF (y0)).1.1), .int .i64 ((bndTF (y0)).1.2)] 24 (by first | rfl | simp)).alloc _).below hb3
  have xb1_3 : Bx w3 (w2.heap.size + 1) #[.int .i64 ((bndTF (y0)).2.1.1), .int .i64 ((bndTF (y0)).2.1.2)] := (Bx.new (b := w2.heap.size + 1) _ #[.int .i64 ((bndTF (y0)).2.1.1), .int .i64 ((bndTF (y0)).2.1.2)] 24 (by first | rfl | simp)).below hb3
  have o1_0_3 := ((o1_0_2.alloc _).alloc _).below hb3
  have zz3 : w2.heap.size + 2 ≤ w3.heap.size := (by have := hb3.size; first | omega | (simp at this; omega))
  obtain ⟨cb0_3, fb0_3, zb0_3⟩ := xb0_3.out
  obtain ⟨cb1_3, fb1_3, zb1_3⟩ := xb1_3.out
  have R3_0 : ∀ k, ((Value.slice a3_0 n3_0 c3_0)).ownBlock = some k → w2.heap.size + 1 + 1 ≤ k ∧ k < w3.heap.size := fun k hk => (by have := o3_0.lt k hk; first | omega | (simp at this; omega))
  have R3_0 := Lib.hid R3_0
  have m3_0 := o3_0.mono ((bl_alloc (bl_alloc B2 _) _)).size
  clear o3_0
  go_wp2_with fail
  refine (impl_BoundsOfTerms _ (y0) _ m3_0.sl NL0.out).mono ?_
  rintro e w4 ⟨rfl, hb4⟩
  have B4 : Bl w w4 := bl_call B3 hb4
  have xb0_4 : Bx w4 (w2.heap.size) #[.int .i64 ((bndTF (y0)).1.1), .int .i64 ((bndTF (y0)).1.2)] := xb0_3.below hb4
  have xb1_4 : Bx w4 (w2.heap.size + 1) #[.int .i64 ((bndTF (y0)).2.1.1), .int .i64 ((bndTF (y0)).2.1.2)] := xb1_3.below hb4
  have o1_0_4 := o1_0_3.below hb4
  have o3_0_4 := m3_0.below hb4
  have zz4 : w3.heap.size ≤ w4.heap.size := (by have := hb4.size; first | omega | (simp at this; omega))
  clear cb0_3 fb0_3 zb0_3 cb1_3 fb1_3 zb1_3
  obtain ⟨cb0_4, fb0_4, zb0_4⟩ := xb0_4.out
  obtain ⟨cb1_4, fb1_4, zb1_4⟩ := xb1_4.out
  go_wp2_with fail
  refine (eqF_any ((bndTF (y0)).1.1) ((bndTF (y0)).1.2) ((bndTF (y0)).1.1) ((bndTF (y0)).1.2) _).mono ?_
  rintro e w5 ⟨rfl, hb5⟩
  have B5 : Bl w w5 := bl_call (bl_alloc (bl_alloc B4 _) _) hb5
  have xb0_5 : Bx w5 (w2.heap.size) #[.int .i64 ((bndTF (y0)).1.1), .int .i64 ((bndTF (y0)).1.2)] := ((xb0_4.alloc _).alloc _).below hb5
  have xb1_5 : Bx w5 (w2.heap.size + 1) #[.int .i64 ((bndTF (y0)).2.1.1), .int .i64 ((bndTF (y0)).2.1.2)] := ((xb1_4.alloc _).alloc _).below hb5
  have xb2_5 : Bx w5 (w4.heap.size) #[.int .i64 ((bndTF (y0)).1.1), .int .i64 ((bndTF (y0)).1.2)] := ((Bx.new (b := w4.heap.size) _ #[.int .i64 ((bndTF (y0)).1.1), .int .i64 ((bndTF (y0)).1.2)] 24 (by first | rfl | simp)).alloc _).below hb5
  have xb3_5 : Bx w5 (w4.heap.size + 1) #[.int .i64 ((bndTF (y0)).2.1.1), .int .i64 ((bndTF (y0)).2.1.2)] := (Bx.new (b := w4.heap.size + 1) _ #[.int .i64 ((bndTF (y0)).2.1.1), .int .i64 ((bndTF (y0)).2.1.2)] 24 (by first | rfl | simp)).below hb5
  have o1_0_5 := ((o1_0_4.alloc _).alloc _).below hb5
  have o3_0_5 := ((o3_0_4.alloc _).alloc _).below hb5
  have zz5 : w4.heap.size + 2 ≤ w5.heap.size := (by have := hb5.size; first | omega | (simp at this; omega))
  clear cb0_4 fb0_4 zb0_4 cb1_4 fb1_4 zb1_4
  obtain ⟨cb0_5, fb0_5, zb0_5⟩ := xb0_5.out
  obtain ⟨cb1_5, fb1_5, zb1_5⟩ := xb1_5.out
  obtain ⟨cb2_5, fb2_5, zb2_5⟩ := xb2_5.out
  obtain ⟨cb3_5, fb3_5, zb3_5⟩ := xb3_5.out
  go_wp2_with fail
  refine (eqF_any ((bndTF (y0)).2.1.1) ((bndTF (y0)).2.1.2) ((bndTF (y0)).2.1.1) ((bndTF (y0)).2.1.2) _).mono ?_
  rintro e w6 ⟨rfl, hb6⟩
  have B6 : Bl w w6 := bl_call B5 hb6
  have xb0_6 : Bx w6 (w2.heap.size) #[.int .i64 ((bndTF (y0)).1.1), .int .i64 ((bndTF (y0)).1.2)] := xb0_5.below hb6
  have xb1_6 : Bx w6 (w2.heap.size + 1) #[.int .i64 ((bndTF (y0)).2.1.1), .int .i64 ((bndTF (y0)).2.1.2)] := xb1_5.below hb6
  have xb2_6 : Bx w6 (w4.heap.size) #[.int .i64 ((bndTF (y0)).1.1), .int .i64 ((bndTF (y0)).1.2)] := xb2_5.below hb6
  have xb3_6 : Bx w6 (w4.heap.size + 1) #[.int .i64 ((bndTF (y0)).2.1.1), .int .i64 ((bndTF (y0)).2.1.2)] := xb3_5.below hb6
  have o1_0_6 := o1_0_5.below hb6
  have o3_0_6 := o3_0_5.below hb6
  have zz6 : w5.heap.size ≤ w6.heap.size := (by have := hb6.size; first | omega | (simp at this; omega))
  clear cb0_5 fb0_5 zb0_5 cb1_5 fb1_5 zb1_5 cb2_5 fb2_5 zb2_5 cb3_5 fb3_5 zb3_5
  obtain ⟨cb0_6, fb0_6, zb0_6⟩ := xb0_6.out
  obtain ⟨cb1_6, fb1_6, zb1_6⟩ := xb1_6.out
  obtain ⟨cb2_6, fb2_6, zb2_6⟩ := xb2_6.out
  obtain ⟨cb3_6, fb3_6, zb3_6⟩ := xb3_6.out
  go_wp2_with fail
  refine (toI_any _ (y0) _ (S0.below B6) (by have := NL0.out; omega)).mono ?_
  rintro e w7 ⟨a7_0, n7_0, c7_0, rfl, o7_0, hb7⟩
  have B7 : Bl w w7 := bl_call B6 hb7
  have xb0_7 : Bx w7 (w2.heap.size) #[.int .i64 ((bndTF (y0)).1.1), .int .i64 ((bndTF (y0)).1.2)] := xb0_6.below hb7
  have xb1_7 : Bx w7 (w2.heap.size + 1) #[.int .i64 ((bndTF (y0)).2.1.1), .int .i64 ((bndTF (y0)).2.1.2)] := xb1_6.below hb7
  have xb2_7 : Bx w7 (w4.heap.size) #[.int .i64 ((bndTF (y0)).1.1), .int .i64 ((bndTF (y0)).1.2)] := xb2_6.below hb7
  have xb3_7 : Bx w7 (w4.heap.size + 1) #[.int .i64 ((bndTF (y0)).2.1.1), .int .i64 ((bndTF (y0)).2.1.2)] := xb3_6.below hb7
  have o1_0_7 := o1_0_6.below hb7
  have o3_0_7 := o3_0_6.below hb7
  have zz7 : w6.heap.size ≤ w7.heap.size := (by have := hb7.size; first | omega | (simp at this; omega))
  clear cb0_6 fb0_6 zb0_6 cb1_6 fb1_6 zb1_6 cb2_6 fb2_6 zb2_6 cb3_6 fb3_6 zb3_6
  obtain ⟨cb0_7, fb0_7, zb0_7⟩ := xb0_7.out
  obtain ⟨cb1_7, fb1_7, zb1_7⟩ := xb1_7.out
  obtain ⟨cb2_7, fb2_7, zb2_7⟩ := xb2_7.out
  obtain ⟨cb3_7, fb3_7, zb3_7⟩ := xb3_7.out
  have R7_0 : ∀ k, ((Value.slice a7_0 n7_0 c7_0)).ownBlock = some k → w6.heap.size ≤ k ∧ k < w7.heap.size := fun k hk => (by have := o7_0.lt k hk; first | omega | (simp at this; omega))
  have R7_0 := Lib.hid R7_0
  have m7_0 := o7_0.mono (B6).size
  clear o7_0
  go_wp2_with fail
  refine (eqI_any _ _ (y0) (y0) _ o3_0_7.sl m7_0.sl).mono ?_
  rintro e w8 ⟨rfl, hb8⟩
  have B8 : Bl w w8 := bl_call B7 hb8
  have xb0_8 : Bx w8 (w2.heap.size) #[.int .i64 ((bndTF (y0)).1.1), .int .i64 ((bndTF (y0)).1.2)] := xb0_7.below hb8
  have xb1_8 : Bx w8 (w2.heap.size + 1) #[.int .i64 ((bndTF (y0)).2.1.1), .int .i64 ((bndTF (y0)).2.1.2)] := xb1_7.below hb8
  have xb2_8 : Bx w8 (w4.heap.size) #[.int .i64 ((bndTF (y0)).1.1), .int .i64 ((bndTF (y0)).1.2)] := xb2_7.below hb8
  have xb3_8 : Bx w8 (w4.heap.size + 1) #[.int .i64 ((bndTF (y0)).2.1.1), .int .i64 ((bndTF (y0)).2.1.2)] := xb3_7.below hb8
  have o1_0_8 := o1_0_7.below hb8
  have o3_0_8 := o3_0_7.below hb8
  have o7_0_8 := m7_0.below hb8
  have zz8 : w7.heap.size ≤ w8.heap.size := (by have := hb8.size; first | omega | (simp at this; omega))
  clear cb0_7 fb0_7 zb0_7 cb1_7 fb1_7 zb1_7 cb2_7 fb2_7 zb2_7 cb3_7 fb3_7 zb3_7
  obtain ⟨cb0_8, fb0_8, zb0_8⟩ := xb0_8.out
  obtain ⟨cb1_8, fb1_8, zb1_8⟩ := xb1_8.out
  obtain ⟨cb2_8, fb2_8, zb2_8⟩ := xb2_8.out
  obtain ⟨cb3_8, fb3_8, zb3_8⟩ := xb3_8.out
  go_wp2
  go_ret
  exact ⟨rfl, B8⟩

set_option maxRecDepth 100000 in
theorem fnExactBoundsOfTerms_lifted (os : Os) (started : os.Started) (H : Type) (enc : TypeId × Value → H) :
    ReturnsInHanded {} Try.checked os 12 .any (Rows.fnExactBoundsOfTermsSpec.pre6 enc Try.prog Try.f12 Rows.fnExactBoundsOfTermsRow.domain false) (Rows.fnExactBoundsOfTermsSpec.post enc Try.prog Try.f12 false true false false) := by
  refine returnsInHanded_of_change (C := Try.checked) own started (by kernel_rfl) Try.func12
    (ChangeSpec.witness6 (enc := enc) (C := Try.checked) false ⟨#[], #[.slice none 0 0], []⟩ 8 (by kernel_rfl) (by kernel_rfl) (by kernel_rfl) (by kernel_rfl)) ?_
  intro W base args ds gs before hval0 hW hcnd _
  have hval : ∀ (j : Nat) t v, Try.f12.params[j]? = some t → args[j]? = some v → Value.okWide Try.prog W .any base t v := hval0
  have hW' := hW
  obtain ⟨p, q, hA0, hV, rfl, hfz, hnd⟩ := hW
  have hA : DataW.TrodAll enc Try.prog W 0 (fun _ => true) true Try.f12.params.toList args.toList ds p := hA0
  rw [Try.params12] at hA hval
  obtain ⟨v0, vs0, d0, ds0, p0, q0, hargs, rfl, rfl, h0, r0⟩ := trodAll_cons hA
  obtain ⟨rfl, rfl, rfl⟩ := trodAll_nil r0
  obtain rfl : args = #[v0] := by cases args; simp_all
  obtain ⟨rfl, rfl⟩ := trodVars_none hV
  have k0 := h0
  have lt0 : ∀ x ∈ p0, x.block < W.heap.size := by obtain ⟨m, hm⟩ := k0; exact DataW.trod_lt m _ _ _ hm
  obtain ⟨x0, S0⟩ := ints_of_trod (hval 0 41 v0 rfl rfl) h0
  clear hA0 hval0
  refine (lawExactBoundsOfTerms v0 x0 W S0).mono fun e W' ⟨he, bel⟩ => ?_
  subst he
  exact ⟨_, rfl, _, _, _, [], _, [], hW', trodAll_mk1 (shut_bool Try.underlying4 _), (trodAll_cons_mk (Below.trod laidOut (by kernel_rfl) (of_decide_eq_true (by kernel_rfl)) k0 bel lt0) trodAll_mk0), rfl, bel.frame _, fun h => by cases h⟩

/-- THE STATEMENT. -/
theorem fnExactBoundsOfTerms_holds : Rows.FnExactBoundsOfTermsSaid :=
  OpenClaim.holds_of_wide 12 Try.f12 rfl rfl rfl rfl rfl rfl rfl ⟨rfl, rfl, rfl, rfl, rfl⟩ rfl rfl rfl rfl rfl (by kernel_rfl) Try.func12 (by kernel_rfl)
    (of_decide_eq_true (by kernel_rfl)) (by unfold Func.isWrapper; first | (rw [if_pos (by decide +kernel)]; kernel_rfl) | (rw [if_neg (by decide +kernel)]; exact ⟨rfl, rfl⟩))
    (fun os started H enc _ => fnExactBoundsOfTerms_lifted os started H enc)
#print axioms fnExactBoundsOfTerms_holds

end Go.Proofs.Yteejfiflidfciaa
