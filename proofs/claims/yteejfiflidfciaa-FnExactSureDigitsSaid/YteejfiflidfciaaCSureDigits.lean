/- FnExactSureDigits holds: for all lists of terms and bases the program's SureDigits returns what the reference's returns. Conditions: none. -/
import Derived.Test.YteejfiflidfciaaOpenI
import Derived.Test.YteejfiflidfciaaSure
namespace Go.Proofs.Yteejfiflidfciaa
open Go.RowKit Go.ChangeShapes Go.WideShapes Go.ChangeAt
set_option linter.unusedVariables false
set_option linter.unusedSimpArgs false

set_option maxHeartbeats 1600000 in
set_option maxRecDepth 100000 in
theorem lawExactSureDigits (v0 : Value) (y0 : List Int) (x1 : Int) (w : World) (S0 : Sl w v0 y0) (S1 : R64 x1) :
    Calls Try.prog 13 #[v0, .int .i64 x1] w fun e w' => e = .returned (.bool true) ∧ Bl w w' := by
  have ll0 := S0.len
  obtain ⟨va0, vc0, rfl, _⟩ := S0.form
  by_cases hln0 : 1048576 < y0.length
  · go_enter Try.func13, Try.ntmps13
    go_wp2
    go_ret
    exact ⟨rfl, (bl_refl _)⟩
  have NL0 := Lib.hid (show y0.length ≤ 1048576 by omega)
  go_enter Try.func13, Try.ntmps13
  go_wp2_with fail
  refine (toI_any _ (y0) _ (S0.below (bl_refl _)) (by have := NL0.out; omega)).mono ?_
  rintro e w1 ⟨a1_0, n1_0, c1_0, rfl, o1_0, hb1⟩
  have B1 : Bl w w1 := bl_call (bl_refl _) hb1
  have zz1 : w.heap.size ≤ w1.heap.size := (by have := hb1.size; first | omega | (simp at this; omega))
  have R1_0 : ∀ k, ((Value.slice a1_0 n1_0 c1_0)).ownBlock = some k → w.heap.size ≤ k ∧ k < w1.heap.size := fun k hk => (by have := o1_0.lt k hk; first | omega | (simp at this; omega))
  have R1_0 := Lib.hid R1_0
  have m1_0 := o1_0.mono ((bl_refl _)).size
  clear o1_0
  go_wp2_with fail
  refine (spec_SureDigits _ (y0) (x1) _ m1_0.sl NL0.out).mono ?_
  rintro e w2 ⟨rfl, hb2⟩
  have B2 : Bl w w2 := bl_call B1 hb2
  have o1_0_2 := m1_0.below hb2
  have zz2 : w1.heap.size ≤ w2.heap.size := (by have := hb2.size; first | omega | (simp at this; omega))
  go_wp2_with fail
  refine (toI_any _ (y0) _ (S0.below B2) (by have := NL0.out; omega)).mono ?_
  rintro e w3 ⟨a3_0, n3_0, c3_0, rfl, o3_0, hb3⟩
  have B3 : Bl w w3 := bl_call B2 hb3
  have o1_0_3 := o1_0_2.below hb3
  have zz3 : w2.heap.size ≤ w3.heap.size := (by have := hb3.size; first | omega | (simp at this; omega))
  have R3_0 : ∀ k, ((Value.slice a3_0 n3_0 c3_0)).ownBlock = some k → w2.heap.size ≤ k ∧ k < w3.heap.size := fun k hk => (by have := o3_0.lt k hk; first | omega | (simp at this; omega))
  have R3_0 := Lib.hid R3_0
  have m3_0 := o3_0.mono (B2).size
  clear o3_0
  go_wp2_with fail
  refine (impl_SureDigits _ (y0) (x1) _ m3_0.sl NL0.out).mono ?_
  rintro e w4 ⟨rfl, hb4⟩
  have B4 : Bl w w4 := bl_call B3 hb4
  have o1_0_4 := o1_0_3.below hb4
  have o3_0_4 := m3_0.below hb4
  have zz4 : w3.heap.size ≤ w4.heap.size := (by have := hb4.size; first | omega | (simp at this; omega))
  go_wp2_with fail
  refine (toI_any _ (y0) _ (S0.below B4) (by have := NL0.out; omega)).mono ?_
  rintro e w5 ⟨a5_0, n5_0, c5_0, rfl, o5_0, hb5⟩
  have B5 : Bl w w5 := bl_call B4 hb5
  have o1_0_5 := o1_0_4.below hb5
  have o3_0_5 := o3_0_4.below hb5
  have zz5 : w4.heap.size ≤ w5.heap.size := (by have := hb5.size; first | omega | (simp at this; omega))
  have R5_0 : ∀ k, ((Value.slice a5_0 n5_0 c5_0)).ownBlock = some k → w4.heap.size ≤ k ∧ k < w5.heap.size := fun k hk => (by have := o5_0.lt k hk; first | omega | (simp at this; omega))
  have R5_0 := Lib.hid R5_0
  have m5_0 := o5_0.mono (B4).size
  clear o5_0
  go_wp2_with fail
  refine (eqI_any _ _ (y0) (y0) _ o3_0_5.sl m5_0.sl).mono ?_
  rintro e w6 ⟨rfl, hb6⟩
  have B6 : Bl w w6 := bl_call B5 hb6
  have o1_0_6 := o1_0_5.below hb6
  have o3_0_6 := o3_0_5.below hb6
  have o5_0_6 := m5_0.below hb6
  have zz6 : w5.heap.size ≤ w6.heap.size := (by have := hb6.size; first | omega | (simp at this; omega))
  go_wp2
  go_ret
  exact ⟨rfl, B6⟩

set_option maxRecDepth 100000 in
theorem fnExactSureDigits_lifted (os : Os) (started : os.Started) (H : Type) (enc : TypeId × Value → H) :
    ReturnsInHanded {} Try.checked os 13 .any (Rows.fnExactSureDigitsSpec.pre6 enc Try.prog Try.f13 Rows.fnExactSureDigitsRow.domain false) (Rows.fnExactSureDigitsSpec.post enc Try.prog Try.f13 false true false false) := by
  refine returnsInHanded_of_change (C := Try.checked) own started (by kernel_rfl) Try.func13
    (ChangeSpec.witness6 (enc := enc) (C := Try.checked) false ⟨#[], #[.slice none 0 0, .int .i64 0], []⟩ 8 (by kernel_rfl) (by kernel_rfl) (by kernel_rfl) (by kernel_rfl)) ?_
  intro W base args ds gs before hval0 hW hcnd _
  have hval : ∀ (j : Nat) t v, Try.f13.params[j]? = some t → args[j]? = some v → Value.okWide Try.prog W .any base t v := hval0
  have hW' := hW
  obtain ⟨p, q, hA0, hV, rfl, hfz, hnd⟩ := hW
  have hA : DataW.TrodAll enc Try.prog W 0 (fun _ => true) true Try.f13.params.toList args.toList ds p := hA0
  rw [Try.params13] at hA hval
  obtain ⟨v0, vs0, d0, ds0, p0, q0, hargs, rfl, rfl, h0, r0⟩ := trodAll_cons hA
  obtain ⟨v1, vs1, d1, ds1, p1, q1, rfl, rfl, rfl, h1, r1⟩ := trodAll_cons r0
  obtain ⟨rfl, rfl, rfl⟩ := trodAll_nil r1
  obtain rfl : args = #[v0, v1] := by cases args; simp_all
  obtain ⟨rfl, rfl⟩ := trodVars_none hV
  have k0 := h0
  have lt0 : ∀ x ∈ p0, x.block < W.heap.size := by obtain ⟨m, hm⟩ := k0; exact DataW.trod_lt m _ _ _ hm
  have k1 := h1
  have lt1 : ∀ x ∈ p1, x.block < W.heap.size := by obtain ⟨m, hm⟩ := k1; exact DataW.trod_lt m _ _ _ hm
  obtain ⟨x0, S0⟩ := ints_of_trod (hval 0 41 v0 rfl rfl) h0
  have hv1 := hval 1 2 v1 rfl rfl
  obtain ⟨x1, rfl, _, _, w1⟩ := open_int Try.underlying2 hv1 h1
  clear hA0 hval0
  refine (lawExactSureDigits v0 x0 x1 W S0 (r64_of_wf w1)).mono fun e W' ⟨he, bel⟩ => ?_
  subst he
  exact ⟨_, rfl, _, _, _, [], _, [], hW', trodAll_mk1 (shut_bool Try.underlying4 _), (trodAll_cons_mk (Below.trod laidOut (by kernel_rfl) (of_decide_eq_true (by kernel_rfl)) k0 bel lt0) (trodAll_cons_mk (Below.trod laidOut (by kernel_rfl) (of_decide_eq_true (by kernel_rfl)) k1 bel lt1) trodAll_mk0)), rfl, bel.frame _, fun h => by cases h⟩

/-- THE STATEMENT. -/
theorem fnExactSureDigits_holds : Rows.FnExactSureDigitsSaid :=
  OpenClaim.holds_of_wide 13 Try.f13 rfl rfl rfl rfl rfl rfl rfl ⟨rfl, rfl, rfl, rfl, rfl⟩ rfl rfl rfl rfl rfl (by kernel_rfl) Try.func13 (by kernel_rfl)
    (of_decide_eq_true (by kernel_rfl)) (by unfold Func.isWrapper; first | (rw [if_pos (by decide +kernel)]; kernel_rfl) | (rw [if_neg (by decide +kernel)]; exact ⟨rfl, rfl⟩))
    (fun os started H enc _ => fnExactSureDigits_lifted os started H enc)
#print axioms fnExactSureDigits_holds

end Go.Proofs.Yteejfiflidfciaa
