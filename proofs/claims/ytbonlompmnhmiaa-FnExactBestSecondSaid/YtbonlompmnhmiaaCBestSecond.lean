/- FnExactBestSecond holds: for all fractions and limits the program's BestSecond returns what the reference's returns. Conditions: none. -/
import Derived.Test.YtbonlompmnhmiaaOpenI
import Derived.Test.YtbonlompmnhmiaaBsF
import Derived.Test.YtbonlompmnhmiaaUp
namespace Go.Proofs.Ytbonlompmnhmiaa
open Go.RowKit Go.ChangeShapes Go.WideShapes Go.ChangeAt
set_option linter.unusedVariables false
set_option linter.unusedSimpArgs false

set_option maxHeartbeats 1600000 in
set_option maxRecDepth 100000 in
theorem lawExactBestSecond (n0 e0 : Int) (x1 : Int) (w : World) (S0 : R64 n0) (U0 : R64 e0) (S1 : R64 x1) :
    Calls Try.prog 9 #[.agg #[.int .i64 n0, .int .i64 e0], .int .i64 x1] w fun e w' => e = .returned (.bool true) ∧ Bl w w' := by
  go_enter Try.func9, Try.ntmps9
  go_wp2_with fail
  refine (toF_any (n0) (e0) _).mono ?_
  rintro e w1 ⟨rfl, hb1⟩
  have B1 : Bl w w1 := bl_call (bl_alloc (bl_refl _) _) hb1
  have xb0_1 : Bx w1 (w.heap.size) #[.int .i64 (n0), .int .i64 (e0)] := (Bx.new (b := w.heap.size) _ #[.int .i64 (n0), .int .i64 (e0)] 23 (by first | rfl | simp)).below hb1
  have zz1 : w.heap.size + 1 ≤ w1.heap.size := (by have := hb1.size; first | omega | (simp at this; omega))
  obtain ⟨cb0_1, fb0_1, zb0_1⟩ := xb0_1.out
  go_wp2_with fail
  refine (spec_BestSecond (n0) (e0) (x1) _ ).mono ?_
  rintro e w2 ⟨a2_0, n2_0, c2_0, rfl, o2_0, hb2⟩
  have B2 : Bl w w2 := bl_call B1 hb2
  have xb0_2 : Bx w2 (w.heap.size) #[.int .i64 (n0), .int .i64 (e0)] := xb0_1.below hb2
  have zz2 : w1.heap.size ≤ w2.heap.size := (by have := hb2.size; first | omega | (simp at this; omega))
  clear cb0_1 fb0_1 zb0_1
  obtain ⟨cb0_2, fb0_2, zb0_2⟩ := xb0_2.out
  have R2_0 : ∀ k, ((Value.slice a2_0 n2_0 c2_0)).ownBlock = some k → w1.heap.size ≤ k ∧ k < w2.heap.size := fun k hk => (by have := o2_0.lt k hk; first | omega | (simp at this; omega))
  have R2_0 := Lib.hid R2_0
  have m2_0 := o2_0.mono (B1).size
  clear o2_0
  go_wp2_with fail
  refine (toF_any (n0) (e0) _).mono ?_
  rintro e w3 ⟨rfl, hb3⟩
  have B3 : Bl w w3 := bl_call B2 hb3
  have xb0_3 : Bx w3 (w.heap.size) #[.int .i64 (n0), .int .i64 (e0)] := xb0_2.below hb3
  have o2_0_3 := m2_0.below hb3
  have zz3 : w2.heap.size ≤ w3.heap.size := (by have := hb3.size; first | omega | (simp at this; omega))
  clear cb0_2 fb0_2 zb0_2
  obtain ⟨cb0_3, fb0_3, zb0_3⟩ := xb0_3.out
  go_wp2_with fail
  refine (impl_BestSecond (n0) (e0) (x1) _ ).mono ?_
  rintro e w4 ⟨a4_0, n4_0, c4_0, rfl, o4_0, hb4⟩
  have B4 : Bl w w4 := bl_call B3 hb4
  have xb0_4 : Bx w4 (w.heap.size) #[.int .i64 (n0), .int .i64 (e0)] := xb0_3.below hb4
  have o2_0_4 := o2_0_3.below hb4
  have zz4 : w3.heap.size ≤ w4.heap.size := (by have := hb4.size; first | omega | (simp at this; omega))
  clear cb0_3 fb0_3 zb0_3
  obtain ⟨cb0_4, fb0_4, zb0_4⟩ := xb0_4.out
  have R4_0 : ∀ k, ((Value.slice a4_0 n4_0 c4_0)).ownBlock = some k → w3.heap.size ≤ k ∧ k < w4.heap.size := fun k hk => (by have := o4_0.lt k hk; first | omega | (simp at this; omega))
  have R4_0 := Lib.hid R4_0
  have m4_0 := o4_0.mono (B3).size
  clear o4_0
  go_wp2_with fail
  refine (eqFS_any _ _ ((bestsF true (n0) (e0) (x1)).1) ((bestsF true (n0) (e0) (x1)).1) _ m4_0.sl o2_0_4.sl).mono ?_
  rintro e w5 ⟨rfl, hb5⟩
  have B5 : Bl w w5 := bl_call B4 hb5
  have xb0_5 : Bx w5 (w.heap.size) #[.int .i64 (n0), .int .i64 (e0)] := xb0_4.below hb5
  have o2_0_5 := o2_0_4.below hb5
  have o4_0_5 := m4_0.below hb5
  have zz5 : w4.heap.size ≤ w5.heap.size := (by have := hb5.size; first | omega | (simp at this; omega))
  clear cb0_4 fb0_4 zb0_4
  obtain ⟨cb0_5, fb0_5, zb0_5⟩ := xb0_5.out
  go_wp2_with fail
  refine (markF_any _ ((bestsF true (n0) (e0) (x1)).1) (1) w.heap.size _ o4_0_5 (by omega) (by have := (bests_len true (n0) (e0) (x1)); omega) (by omega)).mono ?_
  rintro e w6 ⟨rfl, on6, O6'⟩
  have O6 := Only.of_grown (S := fun k => ((Value.slice a4_0 n4_0 c4_0)).ownBlock = some k) O6' (fun _ e => e)
  have zz6 : w5.heap.size ≤ w6.heap.size := (by have := O6.size; first | omega | (simp at this; omega))
  have B6 : Bl w w6 := Below.only B5 O6 (B5).size (fun k hk => by have := R4_0.out k hk; omega)
  have xb0_6 : Bx w6 (w.heap.size) #[.int .i64 (n0), .int .i64 (e0)] := xb0_5.only O6 (fun q => by have := R4_0.out _ q; omega)
  have o2_0_6 := o2_0_5.only O6 (fun k q q' => by have := R2_0.out k q; have := R4_0.out k q'; omega)
  clear cb0_5 fb0_5 zb0_5
  obtain ⟨cb0_6, fb0_6, zb0_6⟩ := xb0_6.out
  go_wp2_with fail
  refine (heldF_yes _ (((bestsF true (n0) (e0) (x1)).1).length) (1) _ on6.sl (by omega) (by have := (bests_len true (n0) (e0) (x1)); omega) (by omega)).mono ?_
  rintro e w7 ⟨rfl, hb7⟩
  have B7 : Bl w w7 := bl_call B6 hb7
  have xb0_7 : Bx w7 (w.heap.size) #[.int .i64 (n0), .int .i64 (e0)] := xb0_6.below hb7
  have o2_0_7 := o2_0_6.below hb7
  have o4_0_7 := on6.below hb7
  have zz7 : w6.heap.size ≤ w7.heap.size := (by have := hb7.size; first | omega | (simp at this; omega))
  clear cb0_6 fb0_6 zb0_6
  obtain ⟨cb0_7, fb0_7, zb0_7⟩ := xb0_7.out
  go_wp2_with fail
  refine (toF_any (n0) (e0) _).mono ?_
  rintro e w8 ⟨rfl, hb8⟩
  have B8 : Bl w w8 := bl_call B7 hb8
  have xb0_8 : Bx w8 (w.heap.size) #[.int .i64 (n0), .int .i64 (e0)] := xb0_7.below hb8
  have o2_0_8 := o2_0_7.below hb8
  have o4_0_8 := o4_0_7.below hb8
  have zz8 : w7.heap.size ≤ w8.heap.size := (by have := hb8.size; first | omega | (simp at this; omega))
  clear cb0_7 fb0_7 zb0_7
  obtain ⟨cb0_8, fb0_8, zb0_8⟩ := xb0_8.out
  go_wp2_with fail
  refine (impl_BestSecond (n0) (e0) (x1) _ ).mono ?_
  rintro e w9 ⟨a9_0, n9_0, c9_0, rfl, o9_0, hb9⟩
  have B9 : Bl w w9 := bl_call B8 hb9
  have xb0_9 : Bx w9 (w.heap.size) #[.int .i64 (n0), .int .i64 (e0)] := xb0_8.below hb9
  have o2_0_9 := o2_0_8.below hb9
  have o4_0_9 := o4_0_8.below hb9
  have zz9 : w8.heap.size ≤ w9.heap.size := (by have := hb9.size; first | omega | (simp at this; omega))
  clear cb0_8 fb0_8 zb0_8
  obtain ⟨cb0_9, fb0_9, zb0_9⟩ := xb0_9.out
  have R9_0 : ∀ k, ((Value.slice a9_0 n9_0 c9_0)).ownBlock = some k → w8.heap.size ≤ k ∧ k < w9.heap.size := fun k hk => (by have := o9_0.lt k hk; first | omega | (simp at this; omega))
  have R9_0 := Lib.hid R9_0
  have m9_0 := o9_0.mono (B8).size
  clear o9_0
  go_wp2_with fail
  refine (eqFS_any _ _ ((bestsF true (n0) (e0) (x1)).1) ((bestsF true (n0) (e0) (x1)).1) _ m9_0.sl o2_0_9.sl).mono ?_
  rintro e w10 ⟨rfl, hb10⟩
  have B10 : Bl w w10 := bl_call B9 hb10
  have xb0_10 : Bx w10 (w.heap.size) #[.int .i64 (n0), .int .i64 (e0)] := xb0_9.below hb10
  have o2_0_10 := o2_0_9.below hb10
  have o4_0_10 := o4_0_9.below hb10
  have o9_0_10 := m9_0.below hb10
  have zz10 : w9.heap.size ≤ w10.heap.size := (by have := hb10.size; first | omega | (simp at this; omega))
  clear cb0_9 fb0_9 zb0_9
  obtain ⟨cb0_10, fb0_10, zb0_10⟩ := xb0_10.out
  go_wp2_with fail
  refine (heldF_yes _ (((bestsF true (n0) (e0) (x1)).1).length) (1) _ o4_0_10.sl (by omega) (by have := (bests_len true (n0) (e0) (x1)); omega) (by omega)).mono ?_
  rintro e w11 ⟨rfl, hb11⟩
  have B11 : Bl w w11 := bl_call B10 hb11
  have xb0_11 : Bx w11 (w.heap.size) #[.int .i64 (n0), .int .i64 (e0)] := xb0_10.below hb11
  have o2_0_11 := o2_0_10.below hb11
  have o4_0_11 := o4_0_10.below hb11
  have o9_0_11 := o9_0_10.below hb11
  have zz11 : w10.heap.size ≤ w11.heap.size := (by have := hb11.size; first | omega | (simp at this; omega))
  clear cb0_10 fb0_10 zb0_10
  obtain ⟨cb0_11, fb0_11, zb0_11⟩ := xb0_11.out
  go_wp2
  go_ret
  exact ⟨rfl, B11⟩

set_option maxRecDepth 100000 in
theorem fnExactBestSecond_lifted (os : Os) (started : os.Started) (H : Type) (enc : TypeId × Value → H) :
    ReturnsInHanded {} Try.checked os 9 .any (Rows.fnExactBestSecondSpec.pre6 enc Try.prog Try.f9 Rows.fnExactBestSecondRow.domain false) (Rows.fnExactBestSecondSpec.post enc Try.prog Try.f9 false true false false) := by
  refine returnsInHanded_of_change (C := Try.checked) own started (by kernel_rfl) Try.func9
    (ChangeSpec.witness6 (enc := enc) (C := Try.checked) false ⟨#[], #[.agg #[.int .i64 0, .int .i64 0], .int .i64 0], []⟩ 8 (by kernel_rfl) (by kernel_rfl) (by kernel_rfl) (by kernel_rfl)) ?_
  intro W base args ds gs before hval0 hW hcnd _
  have hval : ∀ (j : Nat) t v, Try.f9.params[j]? = some t → args[j]? = some v → Value.okWide Try.prog W .any base t v := hval0
  have hW' := hW
  obtain ⟨p, q, hA0, hV, rfl, hfz, hnd⟩ := hW
  have hA : DataW.TrodAll enc Try.prog W 0 (fun _ => true) true Try.f9.params.toList args.toList ds p := hA0
  rw [Try.params9] at hA hval
  obtain ⟨v0, vs0, d0, ds0, p0, q0, hargs, rfl, rfl, h0, r0⟩ := trodAll_cons hA
  obtain ⟨v1, vs1, d1, ds1, p1, q1, rfl, rfl, rfl, h1, r1⟩ := trodAll_cons r0
  obtain ⟨rfl, rfl, rfl⟩ := trodAll_nil r1
  obtain rfl : args = #[v0, v1] := by cases args; simp_all
  obtain ⟨rfl, rfl⟩ := trodVars_none hV
  have k0 := h0
  have lt0 : ∀ x ∈ p0, x.block < W.heap.size := by obtain ⟨m, hm⟩ := k0; exact DataW.trod_lt m _ _ _ hm
  have k1 := h1
  have lt1 : ∀ x ∈ p1, x.block < W.heap.size := by obtain ⟨m, hm⟩ := k1; exact DataW.trod_lt m _ _ _ hm
  obtain ⟨n0, e0, rfl, S0, U0⟩ := frac_of_trod (hval 0 23 v0 rfl rfl) h0
  have hv1 := hval 1 2 v1 rfl rfl
  obtain ⟨x1, rfl, _, _, w1⟩ := open_int Try.underlying2 hv1 h1
  clear hA0 hval0
  refine (lawExactBestSecond n0 e0 x1 W S0 U0 (r64_of_wf w1)).mono fun e W' ⟨he, bel⟩ => ?_
  subst he
  exact ⟨_, rfl, _, _, _, [], _, [], hW', trodAll_mk1 (shut_bool Try.underlying4 _), (trodAll_cons_mk (Below.trod laidOut (by kernel_rfl) (of_decide_eq_true (by kernel_rfl)) k0 bel lt0) (trodAll_cons_mk (Below.trod laidOut (by kernel_rfl) (of_decide_eq_true (by kernel_rfl)) k1 bel lt1) trodAll_mk0)), rfl, bel.frame _, fun h => by cases h⟩

/-- THE STATEMENT. -/
theorem fnExactBestSecond_holds : Rows.FnExactBestSecondSaid :=
  OpenClaim.holds_of_wide 9 Try.f9 rfl rfl rfl rfl rfl rfl rfl ⟨rfl, rfl, rfl, rfl, rfl⟩ rfl rfl rfl rfl rfl (by kernel_rfl) Try.func9 (by kernel_rfl)
    (of_decide_eq_true (by kernel_rfl)) (by unfold Func.isWrapper; first | (rw [if_pos (by decide +kernel)]; kernel_rfl) | (rw [if_neg (by decide +kernel)]; exact ⟨rfl, rfl⟩))
    (fun os started H enc _ => fnExactBestSecond_lifted os started H enc)
#print axioms fnExactBestSecond_holds

end Go.Proofs.Ytbonlompmnhmiaa
