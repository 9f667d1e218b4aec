/- FnExactFeedsNeeded holds: for all states, terms and counts the program's FeedsNeeded returns what the reference's returns. Conditions: none. -/
import Derived.Test.YtbncinbngmfamaaOpenS
import Derived.Test.YtbncinbngmfamaaFneed
namespace Go.Proofs.Ytbncinbngmfamaa
open Go.RowKit Go.ChangeShapes Go.WideShapes Go.ChangeAt
set_option linter.unusedVariables false
set_option linter.unusedSimpArgs false

set_option maxHeartbeats 1600000 in
set_option maxRecDepth 100000 in
theorem lawExactFeedsNeeded (n0 e0 f0 g0 : Int) (v1 : Value) (y1 : List Int) (x2 : Int) (w : World) (S0 : R64 n0) (U0 : R64 e0) (X0 : R64 f0) (Y0 : R64 g0) (S1 : Sl w v1 y1) (S2 : R64 x2) :
    Calls Try.prog 4 #[.agg #[.int .i64 n0, .int .i64 e0, .int .i64 f0, .int .i64 g0], v1, .int .i64 x2] w fun e w' => e = .returned (.bool true) ∧ Bl w w' := by
  have ll1 := S1.len
  obtain ⟨va1, vc1, rfl, _⟩ := S1.form
  by_cases hln1 : 1048576 < y1.length
  · go_enter Try.func4, Try.ntmps4
    go_wp2
    go_ret
    exact ⟨rfl, (bl_alloc (bl_refl _) _)⟩
  have NL1 := Lib.hid (show y1.length ≤ 1048576 by omega)
  go_enter Try.func4, Try.ntmps4
  go_wp2_with fail
  refine (toSt_any (n0) (e0) (f0) (g0) _).mono ?_
  rintro e w1 ⟨rfl, hb1⟩
  have B1 : Bl w w1 := bl_call (bl_alloc (bl_refl _) _) hb1
  have xb0_1 : Bx w1 (w.heap.size) #[.int .i64 (n0), .int .i64 (e0), .int .i64 (f0), .int .i64 (g0)] := (Bx.new (b := w.heap.size) _ #[.int .i64 (n0), .int .i64 (e0), .int .i64 (f0), .int .i64 (g0)] 45 (by first | rfl | simp)).below hb1
  have zz1 : w.heap.size + 1 ≤ w1.heap.size := (by have := hb1.size; first | omega | (simp at this; omega))
  obtain ⟨cb0_1, fb0_1, zb0_1⟩ := xb0_1.out
  go_wp2_with fail
  refine (toI_any _ (y1) _ (S1.below B1) (by have := NL1.out; omega)).mono ?_
  rintro e w2 ⟨a2_0, n2_0, c2_0, rfl, o2_0, hb2⟩
  have B2 : Bl w w2 := bl_call B1 hb2
  have xb0_2 : Bx w2 (w.heap.size) #[.int .i64 (n0), .int .i64 (e0), .int .i64 (f0), .int .i64 (g0)] := xb0_1.below hb2
  have zz2 : w1.heap.size ≤ w2.heap.size := (by have := hb2.size; first | omega | (simp at this; omega))
  clear cb0_1 fb0_1 zb0_1
  obtain ⟨cb0_2, fb0_2, zb0_2⟩ := xb0_2.out
  have R2_0 : ∀ k, ((Value.slice a2_0 n2_0 c2_0)).ownBlock = some k → w1.heap.size ≤ k ∧ k < w2.heap.size := fun k hk => (by have := o2_0.lt k hk; first | omega | (simp at this; omega))
  have R2_0 := Lib.hid R2_0
  have m2_0 := o2_0.mono (B1).size
  clear o2_0
  go_wp2_with fail
  refine (spec_FeedsNeeded (n0) (e0) (f0) (g0) _ (y1) (x2) _ m2_0.sl NL1.out).mono ?_
  rintro e w3 ⟨rfl, hb3⟩
  have B3 : Bl w w3 := bl_call B2 hb3
  have xb0_3 : Bx w3 (w.heap.size) #[.int .i64 (n0), .int .i64 (e0), .int .i64 (f0), .int .i64 (g0)] := xb0_2.below hb3
  have o2_0_3 := m2_0.below hb3
  have zz3 : w2.heap.size ≤ w3.heap.size := (by have := hb3.size; first | omega | (simp at this; omega))
  clear cb0_2 fb0_2 zb0_2
  obtain ⟨cb0_3, fb0_3, zb0_3⟩ := xb0_3.out
  go_wp2_with fail
  refine (toI_any _ (y1) _ (S1.below B3) (by have := NL1.out; omega)).mono ?_
  rintro e w4 ⟨a4_0, n4_0, c4_0, rfl, o4_0, hb4⟩
  have B4 : Bl w w4 := bl_call B3 hb4
  have xb0_4 : Bx w4 (w.heap.size) #[.int .i64 (n0), .int .i64 (e0), .int .i64 (f0), .int .i64 (g0)] := xb0_3.below hb4
  have o2_0_4 := o2_0_3.below hb4
  have zz4 : w3.heap.size ≤ w4.heap.size := (by have := hb4.size; first | omega | (simp at this; omega))
  clear cb0_3 fb0_3 zb0_3
  obtain ⟨cb0_4, fb0_4, zb0_4⟩ := xb0_4.out
  have R4_0 : ∀ k, ((Value.slice a4_0 n4_0 c4_0)).ownBlock = some k → w3.heap.size ≤ k ∧ k < w4.heap.size := fun k hk => (by have := o4_0.lt k hk; first | omega | (simp at this; omega))
  have R4_0 := Lib.hid R4_0
  have m4_0 := o4_0.mono (B3).size
  clear o4_0
  go_wp2_with fail
  refine (toSt_any (n0) (e0) (f0) (g0) _).mono ?_
  rintro e w5 ⟨rfl, hb5⟩
  have B5 : Bl w w5 := bl_call B4 hb5
  have xb0_5 : Bx w5 (w.heap.size) #[.int .i64 (n0), .int .i64 (e0), .int .i64 (f0), .int .i64 (g0)] := xb0_4.below hb5
  have o2_0_5 := o2_0_4.below hb5
  have o4_0_5 := m4_0.below hb5
  have zz5 : w4.heap.size ≤ w5.heap.size := (by have := hb5.size; first | omega | (simp at this; omega))
  clear cb0_4 fb0_4 zb0_4
  obtain ⟨cb0_5, fb0_5, zb0_5⟩ := xb0_5.out
  go_wp2_with fail
  refine (impl_FeedsNeeded (n0) (e0) (f0) (g0) _ (y1) (x2) _ o4_0_5.sl NL1.out).mono ?_
  rintro e w6 ⟨rfl, hb6⟩
  have B6 : Bl w w6 := bl_call B5 hb6
  have xb0_6 : Bx w6 (w.heap.size) #[.int .i64 (n0), .int .i64 (e0), .int .i64 (f0), .int .i64 (g0)] := xb0_5.below hb6
  have o2_0_6 := o2_0_5.below hb6
  have o4_0_6 := o4_0_5.below hb6
  have zz6 : w5.heap.size ≤ w6.heap.size := (by have := hb6.size; first | omega | (simp at this; omega))
  clear cb0_5 fb0_5 zb0_5
  obtain ⟨cb0_6, fb0_6, zb0_6⟩ := xb0_6.out
  go_wp2_with fail
  refine (toI_any _ (y1) _ (S1.below B6) (by have := NL1.out; omega)).mono ?_
  rintro e w7 ⟨a7_0, n7_0, c7_0, rfl, o7_0, hb7⟩
  have B7 : Bl w w7 := bl_call B6 hb7
  have xb0_7 : Bx w7 (w.heap.size) #[.int .i64 (n0), .int .i64 (e0), .int .i64 (f0), .int .i64 (g0)] := xb0_6.below hb7
  have o2_0_7 := o2_0_6.below hb7
  have o4_0_7 := o4_0_6.below hb7
  have zz7 : w6.heap.size ≤ w7.heap.size := (by have := hb7.size; first | omega | (simp at this; omega))
  clear cb0_6 fb0_6 zb0_6
  obtain ⟨cb0_7, fb0_7, zb0_7⟩ := xb0_7.out
  have R7_0 : ∀ k, ((Value.slice a7_0 n7_0 c7_0)).ownBlock = some k → w6.heap.size ≤ k ∧ k < w7.heap.size := fun k hk => (by have := o7_0.lt k hk; first | omega | (simp at this; omega))
  have R7_0 := Lib.hid R7_0
  have m7_0 := o7_0.mono (B6).size
  clear o7_0
  go_wp2_with fail
  refine (eqI_any _ _ (y1) (y1) _ o4_0_7.sl m7_0.sl).mono ?_
  rintro e w8 ⟨rfl, hb8⟩
  have B8 : Bl w w8 := bl_call B7 hb8
  have xb0_8 : Bx w8 (w.heap.size) #[.int .i64 (n0), .int .i64 (e0), .int .i64 (f0), .int .i64 (g0)] := xb0_7.below hb8
  have o2_0_8 := o2_0_7.below hb8
  have o4_0_8 := o4_0_7.below hb8
  have o7_0_8 := m7_0.below hb8
  have zz8 : w7.heap.size ≤ w8.heap.size := (by have := hb8.size; first | omega | (simp at this; omega))
  clear cb0_7 fb0_7 zb0_7
  obtain ⟨cb0_8, fb0_8, zb0_8⟩ := xb0_8.out
  go_wp2
  go_ret
  exact ⟨rfl, B8⟩

set_option maxRecDepth 100000 in
theorem fnExactFeedsNeeded_lifted (os : Os) (started : os.Started) (H : Type) (enc : TypeId × Value → H) :
    ReturnsInHanded {} Try.checked os 4 .any (Rows.fnExactFeedsNeededSpec.pre6 enc Try.prog Try.f4 Rows.fnExactFeedsNeededRow.domain false) (Rows.fnExactFeedsNeededSpec.post enc Try.prog Try.f4 false true false false) := by
  refine returnsInHanded_of_change (C := Try.checked) own started (by kernel_rfl) Try.func4
    (ChangeSpec.witness6 (enc := enc) (C := Try.checked) false ⟨#[], #[.agg #[.int .i64 0, .int .i64 0, .int .i64 0, .int .i64 0], .slice none 0 0, .int .i64 0], []⟩ 8 (by kernel_rfl) (by kernel_rfl) (by kernel_rfl) (by kernel_rfl)) ?_
  intro W base args ds gs before hval0 hW hcnd _
  have hval : ∀ (j : Nat) t v, Try.f4.params[j]? = some t → args[j]? = some v → Value.okWide Try.prog W .any base t v := hval0
  have hW' := hW
  obtain ⟨p, q, hA0, hV, rfl, hfz, hnd⟩ := hW
  have hA : DataW.TrodAll enc Try.prog W 0 (fun _ => true) true Try.f4.params.toList args.toList ds p := hA0
  rw [Try.params4] at hA hval
  obtain ⟨v0, vs0, d0, ds0, p0, q0, hargs, rfl, rfl, h0, r0⟩ := trodAll_cons hA
  obtain ⟨v1, vs1, d1, ds1, p1, q1, rfl, rfl, rfl, h1, r1⟩ := trodAll_cons r0
  obtain ⟨v2, vs2, d2, ds2, p2, q2, rfl, rfl, rfl, h2, r2⟩ := trodAll_cons r1
  obtain ⟨rfl, rfl, rfl⟩ := trodAll_nil r2
  obtain rfl : args = #[v0, v1, v2] := by cases args; simp_all
  obtain ⟨rfl, rfl⟩ := trodVars_none hV
  have k0 := h0
  have lt0 : ∀ x ∈ p0, x.block < W.heap.size := by obtain ⟨m, hm⟩ := k0; exact DataW.trod_lt m _ _ _ hm
  have k1 := h1
  have lt1 : ∀ x ∈ p1, x.block < W.heap.size := by obtain ⟨m, hm⟩ := k1; exact DataW.trod_lt m _ _ _ hm
  have k2 := h2
  have lt2 : ∀ x ∈ p2, x.block < W.heap.size := by obtain ⟨m, hm⟩ := k2; exact DataW.trod_lt m _ _ _ hm
  obtain ⟨n0, e0, f0, g0, rfl, S0, U0, X0, Y0⟩ := state_of_trod (hval 0 45 v0 rfl rfl) h0
  obtain ⟨x1, S1⟩ := ints_of_trod (hval 1 46 v1 rfl rfl) h1
  have hv2 := hval 2 2 v2 rfl rfl
  obtain ⟨x2, rfl, _, _, w2⟩ := open_int Try.underlying2 hv2 h2
  clear hA0 hval0
  refine (lawExactFeedsNeeded n0 e0 f0 g0 v1 x1 x2 W S0 U0 X0 Y0 S1 (r64_of_wf w2)).mono fun e W' ⟨he, bel⟩ => ?_
  subst he
  exact ⟨_, rfl, _, _, _, [], _, [], hW', trodAll_mk1 (shut_bool Try.underlying4 _), (trodAll_cons_mk (Below.trod laidOut (by kernel_rfl) (of_decide_eq_true (by kernel_rfl)) k0 bel lt0) (trodAll_cons_mk (Below.trod laidOut (by kernel_rfl) (of_decide_eq_true (by kernel_rfl)) k1 bel lt1) (trodAll_cons_mk (Below.trod laidOut (by kernel_rfl) (of_decide_eq_true (by kernel_rfl)) k2 bel lt2) trodAll_mk0))), rfl, bel.frame _, fun h => by cases h⟩

/-- THE STATEMENT. -/
theorem fnExactFeedsNeeded_holds : Rows.FnExactFeedsNeededSaid :=
  OpenClaim.holds_of_wide 4 Try.f4 rfl rfl rfl rfl rfl rfl rfl ⟨rfl, rfl, rfl, rfl, rfl⟩ rfl rfl rfl rfl rfl (by kernel_rfl) Try.func4 (by kernel_rfl)
    (of_decide_eq_true (by kernel_rfl)) (by unfold Func.isWrapper; first | (rw [if_pos (by decide +kernel)]; kernel_rfl) | (rw [if_neg (by decide +kernel)]; exact ⟨rfl, rfl⟩))
    (fun os started H enc _ => fnExactFeedsNeeded_lifted os started H enc)
#print axioms fnExactFeedsNeeded_holds

end Go.Proofs.Ytbncinbngmfamaa
