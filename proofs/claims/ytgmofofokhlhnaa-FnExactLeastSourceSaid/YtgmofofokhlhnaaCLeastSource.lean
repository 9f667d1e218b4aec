/- FnExactLeastSource holds: for all lists of sources and numbers of terms the program's LeastSource returns what the reference's returns. Conditions: none. -/
import Derived.Test.YtgmofofokhlhnaaOpenS
import Derived.Test.YtgmofofokhlhnaaLs
import Derived.Test.YtgmofofokhlhnaaSlO
namespace Go.Proofs.Ytgmofofokhlhnaa
open Go.RowKit Go.ChangeShapes Go.WideShapes Go.ChangeAt
set_option linter.unusedVariables false
set_option linter.unusedSimpArgs false

set_option maxHeartbeats 1600000 in
set_option maxRecDepth 100000 in
theorem lawExactLeastSource (v0 : Value) (y0 : List Src) (x1 : Int) (w : World) (S0 : SlL w v0 y0) (S1 : R64 x1) :
    Calls Try.prog 6 #[v0, .int .i64 x1] w fun e w' => e = .returned (.bool true) ∧ Bl w w' := by
  go_enter Try.func6, Try.ntmps6
  go_wp2_with fail
  refine (szL_any _ (y0) 1048576 _ (S0.below (bl_refl _)) (by omega) (by omega)).mono ?_
  rintro e w1 ⟨q1, rfl, hq1, hb1⟩
  have B1 : Bl w w1 := bl_call (bl_refl _) hb1
  have zz1 : w.heap.size ≤ w1.heap.size := (by have := hb1.size; first | omega | (simp at this; omega))
  by_cases hsz1 : q1 < 0
  · go_wp2
    go_ret
    exact ⟨rfl, B1⟩
  have NL0 := Lib.hid (show y0.length ≤ 1048576 ∧ totL y0 ≤ 1048576 by have := hq1 (by omega); omega)
  go_wp2_with fail
  refine (toL_any _ (y0) _ (S0.below B1) (NL0.out).1 (NL0.out).2).mono ?_
  rintro e w2 ⟨g2_0, rfl, o2_0, hb2⟩
  have B2 : Bl w w2 := bl_call B1 hb2
  have zz2 : w1.heap.size ≤ w2.heap.size := (by have := hb2.size; first | omega | (simp at this; omega))
  go_wp2_with fail
  refine (spec_LeastSource _ (y0) (x1) _ o2_0.sl).mono ?_
  rintro e w3 ⟨rfl, hb3⟩
  have B3 : Bl w w3 := bl_call B2 hb3
  have o2_0_3 := o2_0.below hb3
  have zz3 : w2.heap.size ≤ w3.heap.size := (by have := hb3.size; first | omega | (simp at this; omega))
  go_wp2_with fail
  refine (toL_any _ (y0) _ (S0.below B3) (NL0.out).1 (NL0.out).2).mono ?_
  rintro e w4 ⟨g4_0, rfl, o4_0, hb4⟩
  have B4 : Bl w w4 := bl_call B3 hb4
  have o2_0_4 := o2_0_3.below hb4
  have zz4 : w3.heap.size ≤ w4.heap.size := (by have := hb4.size; first | omega | (simp at this; omega))
  go_wp2_with fail
  refine (impl_LeastSource _ (y0) (x1) _ o4_0.sl).mono ?_
  rintro e w5 ⟨rfl, hb5⟩
  have B5 : Bl w w5 := bl_call B4 hb5
  have o2_0_5 := o2_0_4.below hb5
  have o4_0_5 := o4_0.below hb5
  have zz5 : w4.heap.size ≤ w5.heap.size := (by have := hb5.size; first | omega | (simp at this; omega))
  go_wp2_with fail
  refine (toL_any _ (y0) _ (S0.below B5) (NL0.out).1 (NL0.out).2).mono ?_
  rintro e w6 ⟨g6_0, rfl, o6_0, hb6⟩
  have B6 : Bl w w6 := bl_call B5 hb6
  have o2_0_6 := o2_0_5.below hb6
  have o4_0_6 := o4_0_5.below hb6
  have zz6 : w5.heap.size ≤ w6.heap.size := (by have := hb6.size; first | omega | (simp at this; omega))
  go_wp2_with fail
  refine (eqL_any _ _ (y0) (y0) _ o4_0_6.sl o6_0.sl rfl).mono ?_
  rintro e w7 ⟨rfl, hb7⟩
  have B7 : Bl w w7 := bl_call B6 hb7
  have o2_0_7 := o2_0_6.below hb7
  have o4_0_7 := o4_0_6.below hb7
  have o6_0_7 := o6_0.below hb7
  have zz7 : w6.heap.size ≤ w7.heap.size := (by have := hb7.size; first | omega | (simp at this; omega))
  go_wp2
  go_ret
  exact ⟨rfl, B7⟩

set_option maxRecDepth 100000 in
theorem fnExactLeastSource_lifted (os : Os) (started : os.Started) (H : Type) (enc : TypeId × Value → H) :
    ReturnsInHanded {} Try.checked os 6 .any (Rows.fnExactLeastSourceSpec.pre6 enc Try.prog Try.f6 Rows.fnExactLeastSourceRow.domain false) (Rows.fnExactLeastSourceSpec.post enc Try.prog Try.f6 false true false false) := by
  refine returnsInHanded_of_change (C := Try.checked) own started (by kernel_rfl) Try.func6
    (ChangeSpec.witness6 (enc := enc) (C := Try.checked) false ⟨#[], #[.slice none 0 0, .int .i64 0], []⟩ 8 (by kernel_rfl) (by kernel_rfl) (by kernel_rfl) (by kernel_rfl)) ?_
  intro W base args ds gs before hval0 hW hcnd _
  have hval : ∀ (j : Nat) t v, Try.f6.params[j]? = some t → args[j]? = some v → Value.okWide Try.prog W .any base t v := hval0
  have hW' := hW
  obtain ⟨p, q, hA0, hV, rfl, hfz, hnd⟩ := hW
  have hA : DataW.TrodAll enc Try.prog W 0 (fun _ => true) true Try.f6.params.toList args.toList ds p := hA0
  rw [Try.params6] at hA hval
  obtain ⟨v0, vs0, d0, ds0, p0, q0, hargs, rfl, rfl, h0, r0⟩ := trodAll_cons hA
  obtain ⟨v1, vs1, d1, ds1, p1, q1, rfl, rfl, rfl, h1, r1⟩ := trodAll_cons r0
  obtain ⟨rfl, rfl, rfl⟩ := trodAll_nil r1
  obtain rfl : args = #[v0, v1] := by cases args; simp_all
  obtain ⟨rfl, rfl⟩ := trodVars_none hV
  have k0 := h0
  have lt0 : ∀ x ∈ p0, x.block < W.heap.size := by obtain ⟨m, hm⟩ := k0; exact DataW.trod_lt m _ _ _ hm
  have k1 := h1
  have lt1 : ∀ x ∈ p1, x.block < W.heap.size := by obtain ⟨m, hm⟩ := k1; exact DataW.trod_lt m _ _ _ hm
  obtain ⟨x0, S0⟩ := srcs_of_trod (hval 0 63 v0 rfl rfl) h0
  have hv1 := hval 1 2 v1 rfl rfl
  obtain ⟨x1, rfl, _, _, w1⟩ := open_int Try.underlying2 hv1 h1
  clear hA0 hval0
  refine (lawExactLeastSource v0 x0 x1 W S0 (r64_of_wf w1)).mono fun e W' ⟨he, bel⟩ => ?_
  subst he
  exact ⟨_, rfl, _, _, _, [], _, [], hW', trodAll_mk1 (shut_bool Try.underlying4 _), (trodAll_cons_mk (Below.trod laidOut (by kernel_rfl) (of_decide_eq_true (by kernel_rfl)) k0 bel lt0) (trodAll_cons_mk (Below.trod laidOut (by kernel_rfl) (of_decide_eq_true (by kernel_rfl)) k1 bel lt1) trodAll_mk0)), rfl, bel.frame _, fun h => by cases h⟩

/-- THE STATEMENT. -/
theorem fnExactLeastSource_holds : Rows.FnExactLeastSourceSaid :=
  OpenClaim.holds_of_wide 6 Try.f6 rfl rfl rfl rfl rfl rfl rfl ⟨rfl, rfl, rfl, rfl, rfl⟩ rfl rfl rfl rfl rfl (by kernel_rfl) Try.func6 (by kernel_rfl)
    (of_decide_eq_true (by kernel_rfl)) (by unfold Func.isWrapper; first | (rw [if_pos (by decide +kernel)]; kernel_rfl) | (rw [if_neg (by decide +kernel)]; exact ⟨rfl, rfl⟩))
    (fun os started H enc _ => fnExactLeastSource_lifted os started H enc)
#print axioms fnExactLeastSource_holds

end Go.Proofs.Ytgmofofokhlhnaa
