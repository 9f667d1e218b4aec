/- FnExactSortSources holds: for all lists of sources and numbers of terms the program's SortSources returns what the reference's returns. Conditions: none. -/
import Derived.Test.YtgmofofokhlhnaaOpenS
import Derived.Test.YtgmofofokhlhnaaSoI
import Derived.Test.YtgmofofokhlhnaaSoS
import Derived.Test.YtgmofofokhlhnaaSlM
import Derived.Test.YtgmofofokhlhnaaSlO
namespace Go.Proofs.Ytgmofofokhlhnaa
open Go.RowKit Go.ChangeShapes Go.WideShapes Go.ChangeAt
set_option linter.unusedVariables false
set_option linter.unusedSimpArgs false

set_option maxHeartbeats 1600000 in
set_option maxRecDepth 100000 in
theorem lawExactSortSources (v0 : Value) (y0 : List Src) (x1 : Int) (w : World) (S0 : SlL w v0 y0) (S1 : R64 x1) :
    Calls Try.prog 8 #[v0, .int .i64 x1] w fun e w' => e = .returned (.bool true) ∧ Bl w w' := by
  go_enter Try.func8, Try.ntmps8
  go_wp2_with fail
  refine (szL_any _ (y0) 1048576 _ (S0.below (bl_refl _)) (by omega) (by omega)).mono ?_
  rintro e w1 ⟨q1, rfl, hq1, hb1⟩
  have B1 : Bl w w1 := bl_call (bl_refl _) hb1
  have zz1 : w.heap.size ≤ w1.heap.size := (by have := hb1.size; first | omega | (simp at this; omega))
  by_cases hsz1 : q1 < 0
  · go_wp2
    go_ret
    exact ⟨rfl, B1⟩
  have NL0 := Lib.hid (show y0.length ≤ 1048576 ∧ totL y0 ≤ 1048576 by have := hq1 (by omega); omega)
  go_wp2_with fail
  refine (toL_any _ (y0) _ (S0.below B1) (NL0.out).1 (NL0.out).2).mono ?_
  rintro e w2 ⟨g2_0, rfl, o2_0, hb2⟩
  have B2 : Bl w w2 := bl_call B1 hb2
  have zz2 : w1.heap.size ≤ w2.heap.size := (by have := hb2.size; first | omega | (simp at this; omega))
  have R2_0 : ∀ k, (w1.heap.size ≤ k ∧ k < w2.heap.size) → w1.heap.size ≤ k ∧ k < w2.heap.size := fun k hk => hk
  have R2_0 := Lib.hid R2_0
  have L2_0 : w.heap.size ≤ w1.heap.size := (by have := (B1).size; first | omega | (simp at this; omega))
  go_wp2_with fail
  refine (spec_SortSources _ (y0) (x1) _ o2_0.sl).mono ?_
  rintro e w3 ⟨a3_0, n3_0, c3_0, rfl, o3_0, hb3⟩
  have B3 : Bl w w3 := bl_call B2 hb3
  have o2_0_3 := o2_0.below hb3
  have zz3 : w2.heap.size ≤ w3.heap.size := (by have := hb3.size; first | omega | (simp at this; omega))
  have R3_0 : ∀ k, ((Value.slice a3_0 n3_0 c3_0)).ownBlock = some k → w2.heap.size ≤ k ∧ k < w3.heap.size := fun k hk => (by have := o3_0.lt k hk; first | omega | (simp at this; omega))
  have R3_0 := Lib.hid R3_0
  have m3_0 := o3_0.mono (B2).size
  clear o3_0
  go_wp2_with fail
  refine (toL_any _ (y0) _ (S0.below B3) (NL0.out).1 (NL0.out).2).mono ?_
  rintro e w4 ⟨g4_0, rfl, o4_0, hb4⟩
  have B4 : Bl w w4 := bl_call B3 hb4
  have o2_0_4 := o2_0_3.below hb4
  have o3_0_4 := m3_0.below hb4
  have zz4 : w3.heap.size ≤ w4.heap.size := (by have := hb4.size; first | omega | (simp at this; omega))
  have R4_0 : ∀ k, (w3.heap.size ≤ k ∧ k < w4.heap.size) → w3.heap.size ≤ k ∧ k < w4.heap.size := fun k hk => hk
  have R4_0 := Lib.hid R4_0
  have L4_0 : w.heap.size ≤ w3.heap.size := (by have := (B3).size; first | omega | (simp at this; omega))
  go_wp2_with fail
  refine (impl_SortSources _ (y0) (x1) _ o4_0.sl).mono ?_
  rintro e w5 ⟨a5_0, n5_0, c5_0, rfl, o5_0, hb5⟩
  have B5 : Bl w w5 := bl_call B4 hb5
  have o2_0_5 := o2_0_4.below hb5
  have o3_0_5 := o3_0_4.below hb5
  have o4_0_5 := o4_0.below hb5
  have zz5 : w4.heap.size ≤ w5.heap.size := (by have := hb5.size; first | omega | (simp at this; omega))
  have R5_0 : ∀ k, ((Value.slice a5_0 n5_0 c5_0)).ownBlock = some k → w4.heap.size ≤ k ∧ k < w5.heap.size := fun k hk => (by have := o5_0.lt k hk; first | omega | (simp at this; omega))
  have R5_0 := Lib.hid R5_0
  have m5_0 := o5_0.mono (B4).size
  clear o5_0
  go_wp2_with fail
  refine (eqI_any _ _ ((sortF (y0) (x1)).1) ((sortF (y0) (x1)).1) _ m5_0.sl o3_0_5.sl).mono ?_
  rintro e w6 ⟨rfl, hb6⟩
  have B6 : Bl w w6 := bl_call B5 hb6
  have o2_0_6 := o2_0_5.below hb6
  have o3_0_6 := o3_0_5.below hb6
  have o4_0_6 := o4_0_5.below hb6
  have o5_0_6 := m5_0.below hb6
  have zz6 : w5.heap.size ≤ w6.heap.size := (by have := hb6.size; first | omega | (simp at this; omega))
  go_wp2_with fail
  refine (toL_any _ (y0) _ (S0.below B6) (NL0.out).1 (NL0.out).2).mono ?_
  rintro e w7 ⟨g7_0, rfl, o7_0, hb7⟩
  have B7 : Bl w w7 := bl_call B6 hb7
  have o2_0_7 := o2_0_6.below hb7
  have o3_0_7 := o3_0_6.below hb7
  have o4_0_7 := o4_0_6.below hb7
  have o5_0_7 := o5_0_6.below hb7
  have zz7 : w6.heap.size ≤ w7.heap.size := (by have := hb7.size; first | omega | (simp at this; omega))
  have R7_0 : ∀ k, (w6.heap.size ≤ k ∧ k < w7.heap.size) → w6.heap.size ≤ k ∧ k < w7.heap.size := fun k hk => hk
  have R7_0 := Lib.hid R7_0
  have L7_0 : w.heap.size ≤ w6.heap.size := (by have := (B6).size; first | omega | (simp at this; omega))
  go_wp2_with fail
  refine (eqL_any _ _ (y0) (y0) _ o4_0_7.sl o7_0.sl rfl).mono ?_
  rintro e w8 ⟨rfl, hb8⟩
  have B8 : Bl w w8 := bl_call B7 hb8
  have o2_0_8 := o2_0_7.below hb8
  have o3_0_8 := o3_0_7.below hb8
  have o4_0_8 := o4_0_7.below hb8
  have o5_0_8 := o5_0_7.below hb8
  have o7_0_8 := o7_0.below hb8
  have zz8 : w7.heap.size ≤ w8.heap.size := (by have := hb8.size; first | omega | (simp at this; omega))
  go_wp2_with fail
  refine (markL_any (y0) (1) _ _ _ _ o4_0_8 (by omega) (by have := (NL0.out).2; omega)).mono ?_
  rintro e w9 ⟨rfl, O9⟩
  have zz9 : w8.heap.size ≤ w9.heap.size := (by have := O9.size; first | omega | (simp at this; omega))
  have B9 : Bl w w9 := Below.only B8 O9 (B8).size (fun k hk => by have := R4_0.out k hk; omega)
  have o3_0_9 := o3_0_8.only O9 (fun k q q' => by have := R3_0.out k q; have := R4_0.out k q'; omega)
  have o5_0_9 := o5_0_8.only O9 (fun k q q' => by have := R5_0.out k q; have := R4_0.out k q'; omega)
  go_wp2_with fail
  refine (eqI_any _ _ ((sortF (y0) (x1)).1) ((sortF (y0) (x1)).1) _ o5_0_9.sl o3_0_9.sl).mono ?_
  rintro e w10 ⟨rfl, hb10⟩
  have B10 : Bl w w10 := bl_call B9 hb10
  have o3_0_10 := o3_0_9.below hb10
  have o5_0_10 := o5_0_9.below hb10
  have zz10 : w9.heap.size ≤ w10.heap.size := (by have := hb10.size; first | omega | (simp at this; omega))
  go_wp2_with fail
  refine (markI_any _ ((sortF (y0) (x1)).1) (1) w.heap.size _ o5_0_10 (by omega) (by have := (sortF_len (y0) (x1)); omega)).mono ?_
  rintro e w11 ⟨rfl, on11, O11'⟩
  have O11 := Only.of_grown (S := fun k => ((Value.slice a5_0 n5_0 c5_0)).ownBlock = some k) O11' (fun _ e => e)
  have zz11 : w10.heap.size ≤ w11.heap.size := (by have := O11.size; first | omega | (simp at this; omega))
  have B11 : Bl w w11 := Below.only B10 O11 (B10).size (fun k hk => by have := R5_0.out k hk; omega)
  have o3_0_11 := o3_0_10.only O11 (fun k q q' => by have := R3_0.out k q; have := R5_0.out k q'; omega)
  go_wp2_with fail
  refine (heldI_yes _ (((sortF (y0) (x1)).1).length) (1) _ on11.sl (by omega) (by have := (sortF_len (y0) (x1)); omega)).mono ?_
  rintro e w12 ⟨rfl, hb12⟩
  have B12 : Bl w w12 := bl_call B11 hb12
  have o3_0_12 := o3_0_11.below hb12
  have o5_0_12 := on11.below hb12
  have zz12 : w11.heap.size ≤ w12.heap.size := (by have := hb12.size; first | omega | (simp at this; omega))
  go_wp2_with fail
  refine (toL_any _ (y0) _ (S0.below B12) (NL0.out).1 (NL0.out).2).mono ?_
  rintro e w13 ⟨g13_0, rfl, o13_0, hb13⟩
  have B13 : Bl w w13 := bl_call B12 hb13
  have o3_0_13 := o3_0_12.below hb13
  have o5_0_13 := o5_0_12.below hb13
  have zz13 : w12.heap.size ≤ w13.heap.size := (by have := hb13.size; first | omega | (simp at this; omega))
  have R13_0 : ∀ k, (w12.heap.size ≤ k ∧ k < w13.heap.size) → w12.heap.size ≤ k ∧ k < w13.heap.size := fun k hk => hk
  have R13_0 := Lib.hid R13_0
  have L13_0 : w.heap.size ≤ w12.heap.size := (by have := (B12).size; first | omega | (simp at this; omega))
  go_wp2_with fail
  refine (impl_SortSources _ (y0) (x1) _ o13_0.sl).mono ?_
  rintro e w14 ⟨a14_0, n14_0, c14_0, rfl, o14_0, hb14⟩
  have B14 : Bl w w14 := bl_call B13 hb14
  have o3_0_14 := o3_0_13.below hb14
  have o5_0_14 := o5_0_13.below hb14
  have o13_0_14 := o13_0.below hb14
  have zz14 : w13.heap.size ≤ w14.heap.size := (by have := hb14.size; first | omega | (simp at this; omega))
  have R14_0 : ∀ k, ((Value.slice a14_0 n14_0 c14_0)).ownBlock = some k → w13.heap.size ≤ k ∧ k < w14.heap.size := fun k hk => (by have := o14_0.lt k hk; first | omega | (simp at this; omega))
  have R14_0 := Lib.hid R14_0
  have m14_0 := o14_0.mono (B13).size
  clear o14_0
  go_wp2_with fail
  refine (eqI_any _ _ ((sortF (y0) (x1)).1) ((sortF (y0) (x1)).1) _ m14_0.sl o3_0_14.sl).mono ?_
  rintro e w15 ⟨rfl, hb15⟩
  have B15 : Bl w w15 := bl_call B14 hb15
  have o3_0_15 := o3_0_14.below hb15
  have o5_0_15 := o5_0_14.below hb15
  have o13_0_15 := o13_0_14.below hb15
  have o14_0_15 := m14_0.below hb15
  have zz15 : w14.heap.size ≤ w15.heap.size := (by have := hb15.size; first | omega | (simp at this; omega))
  go_wp2_with fail
  refine (heldI_yes _ (((sortF (y0) (x1)).1).length) (1) _ o5_0_15.sl (by omega) (by have := (sortF_len (y0) (x1)); omega)).mono ?_
  rintro e w16 ⟨rfl, hb16⟩
  have B16 : Bl w w16 := bl_call B15 hb16
  have o3_0_16 := o3_0_15.below hb16
  have o5_0_16 := o5_0_15.below hb16
  have o13_0_16 := o13_0_15.below hb16
  have o14_0_16 := o14_0_15.below hb16
  have zz16 : w15.heap.size ≤ w16.heap.size := (by have := hb16.size; first | omega | (simp at this; omega))
  go_wp2
  go_ret
  exact ⟨rfl, B16⟩

set_option maxRecDepth 100000 in
theorem fnExactSortSources_lifted (os : Os) (started : os.Started) (H : Type) (enc : TypeId × Value → H) :
    ReturnsInHanded {} Try.checked os 8 .any (Rows.fnExactSortSourcesSpec.pre6 enc Try.prog Try.f8 Rows.fnExactSortSourcesRow.domain false) (Rows.fnExactSortSourcesSpec.post enc Try.prog Try.f8 false true false false) := by
  refine returnsInHanded_of_change (C := Try.checked) own started (by kernel_rfl) Try.func8
    (ChangeSpec.witness6 (enc := enc) (C := Try.checked) false ⟨#[], #[.slice none 0 0, .int .i64 0], []⟩ 8 (by kernel_rfl) (by kernel_rfl) (by kernel_rfl) (by kernel_rfl)) ?_
  intro W base args ds gs before hval0 hW hcnd _
  have hval : ∀ (j : Nat) t v, Try.f8.params[j]? = some t → args[j]? = some v → Value.okWide Try.prog W .any base t v := hval0
  have hW' := hW
  obtain ⟨p, q, hA0, hV, rfl, hfz, hnd⟩ := hW
  have hA : DataW.TrodAll enc Try.prog W 0 (fun _ => true) true Try.f8.params.toList args.toList ds p := hA0
  rw [Try.params8] at hA hval
  obtain ⟨v0, vs0, d0, ds0, p0, q0, hargs, rfl, rfl, h0, r0⟩ := trodAll_cons hA
  obtain ⟨v1, vs1, d1, ds1, p1, q1, rfl, rfl, rfl, h1, r1⟩ := trodAll_cons r0
  obtain ⟨rfl, rfl, rfl⟩ := trodAll_nil r1
  obtain rfl : args = #[v0, v1] := by cases args; simp_all
  obtain ⟨rfl, rfl⟩ := trodVars_none hV
  have k0 := h0
  have lt0 : ∀ x ∈ p0, x.block < W.heap.size := by obtain ⟨m, hm⟩ := k0; exact DataW.trod_lt m _ _ _ hm
  have k1 := h1
  have lt1 : ∀ x ∈ p1, x.block < W.heap.size := by obtain ⟨m, hm⟩ := k1; exact DataW.trod_lt m _ _ _ hm
  obtain ⟨x0, S0⟩ := srcs_of_trod (hval 0 63 v0 rfl rfl) h0
  have hv1 := hval 1 2 v1 rfl rfl
  obtain ⟨x1, rfl, _, _, w1⟩ := open_int Try.underlying2 hv1 h1
  clear hA0 hval0
  refine (lawExactSortSources v0 x0 x1 W S0 (r64_of_wf w1)).mono fun e W' ⟨he, bel⟩ => ?_
  subst he
  exact ⟨_, rfl, _, _, _, [], _, [], hW', trodAll_mk1 (shut_bool Try.underlying4 _), (trodAll_cons_mk (Below.trod laidOut (by kernel_rfl) (of_decide_eq_true (by kernel_rfl)) k0 bel lt0) (trodAll_cons_mk (Below.trod laidOut (by kernel_rfl) (of_decide_eq_true (by kernel_rfl)) k1 bel lt1) trodAll_mk0)), rfl, bel.frame _, fun h => by cases h⟩

/-- THE STATEMENT. -/
theorem fnExactSortSources_holds : Rows.FnExactSortSourcesSaid :=
  OpenClaim.holds_of_wide 8 Try.f8 rfl rfl rfl rfl rfl rfl rfl ⟨rfl, rfl, rfl, rfl, rfl⟩ rfl rfl rfl rfl rfl (by kernel_rfl) Try.func8 (by kernel_rfl)
    (of_decide_eq_true (by kernel_rfl)) (by unfold Func.isWrapper; first | (rw [if_pos (by decide +kernel)]; kernel_rfl) | (rw [if_neg (by decide +kernel)]; exact ⟨rfl, rfl⟩))
    (fun os started H enc _ => fnExactSortSources_lifted os started H enc)
#print axioms fnExactSortSources_holds

end Go.Proofs.Ytgmofofokhlhnaa
