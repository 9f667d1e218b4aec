/- FnExactIsBestFirst holds: for all pairs of fractions the program's IsBestFirst returns what the reference's returns. Conditions: none. -/
import Derived.Test.YteejfiflidfciaaOpenF
import Derived.Test.YteejfiflidfciaaFirst
namespace Go.Proofs.Yteejfiflidfciaa
open Go.RowKit Go.ChangeShapes Go.WideShapes Go.ChangeAt
set_option linter.unusedVariables false
set_option linter.unusedSimpArgs false

set_option maxHeartbeats 1600000 in
set_option maxRecDepth 100000 in
theorem lawExactIsBestFirst (n0 e0 : Int) (n1 e1 : Int) (w : World) (S0 : R64 n0) (U0 : R64 e0) (S1 : R64 n1) (U1 : R64 e1) :
    Calls Try.prog 6 #[.agg #[.int .i64 n0, .int .i64 e0], .agg #[.int .i64 n1, .int .i64 e1]] w fun e w' => e = .returned (.bool true) ∧ Bl w w' := by
  go_enter Try.func6, Try.ntmps6
  go_wp2_with fail
  have B1 : Bl w ((w.alloc (.cells #[.int .i64 (n0), .int .i64 (e0)] 23)).alloc (.cells #[.int .i64 (n1), .int .i64 (e1)] 23)) := (bl_alloc (bl_alloc (bl_refl _) _) _)
  have xb0_1 : Bx ((w.alloc (.cells #[.int .i64 (n0), .int .i64 (e0)] 23)).alloc (.cells #[.int .i64 (n1), .int .i64 (e1)] 23)) (w.heap.size) #[.int .i64 (n0), .int .i64 (e0)] := ((Bx.new (b := w.heap.size) _ #[.int .i64 (n0), .int .i64 (e0)] 23 (by first | rfl | simp)).alloc _)
  have xb1_1 : Bx ((w.alloc (.cells #[.int .i64 (n0), .int .i64 (e0)] 23)).alloc (.cells #[.int .i64 (n1), .int .i64 (e1)] 23)) (w.heap.size + 1) #[.int .i64 (n1), .int .i64 (e1)] := (Bx.new (b := w.heap.size + 1) _ #[.int .i64 (n1), .int .i64 (e1)] 23 (by first | rfl | simp))
  have zz1 : w.heap.size + 2 ≤ ((w.alloc (.cells #[.int .i64 (n0), .int .i64 (e0)] 23)).alloc (.cells #[.int .i64 (n1), .int .i64 (e1)] 23)).heap.size := (by simp)
  generalize ((w.alloc (.cells #[.int .i64 (n0), .int .i64 (e0)] 23)).alloc (.cells #[.int .i64 (n1), .int .i64 (e1)] 23)) = w1 at *
  obtain ⟨cb0_1, fb0_1, zb0_1⟩ := xb0_1.out
  obtain ⟨cb1_1, fb1_1, zb1_1⟩ := xb1_1.out
  go_region_held3 (fun w' => w'.cell? ⟨w.heap.size, 0, none⟩ = some (.int .i64 (n0)) ∧ w'.cell? ⟨w.heap.size, 1, none⟩ = some (.int .i64 (e0)) ∧ w'.cell? ⟨w.heap.size + 1, 0, none⟩ = some (.int .i64 (n1)) ∧ w'.cell? ⟨w.heap.size + 1, 1, none⟩ = some (.int .i64 (e1))) (first | (simp [*]; done) | (go_simp; done) | go_keep)
    (first | (go_at_call_of 16 (Value.agg #[.int .i64 (n0), .int .i64 (e0)]); go_must (refine (toF_any (n0) (e0) _).mono ?_; rintro e w2 ⟨rfl, hb2⟩; have B2 : Bl w w2 := bl_call (bl_drew B1) hb2; have xb0_2 : Bx w2 (w.heap.size) #[.int .i64 (n0), .int .i64 (e0)] := (xb0_1.drew).below hb2; have xb1_2 : Bx w2 (w.heap.size + 1) #[.int .i64 (n1), .int .i64 (e1)] := (xb1_1.drew).below hb2; have zz2 : w1.heap.size ≤ w2.heap.size := (by have := hb2.size; first | omega | (simp at this; omega)); clear cb0_1 fb0_1 zb0_1 cb1_1 fb1_1 zb1_1; obtain ⟨cb0_2, fb0_2, zb0_2⟩ := xb0_2.out; obtain ⟨cb1_2, fb1_2, zb1_2⟩ := xb1_2.out)) | (go_at_call_of 16 (Value.agg #[.int .i64 (n1), .int .i64 (e1)]); go_must (refine (toF_any (n1) (e1) _).mono ?_; rintro e w3 ⟨rfl, hb3⟩; have B3 : Bl w w3 := bl_call B2 hb3; have xb0_3 : Bx w3 (w.heap.size) #[.int .i64 (n0), .int .i64 (e0)] := xb0_2.below hb3; have xb1_3 : Bx w3 (w.heap.size + 1) #[.int .i64 (n1), .int .i64 (e1)] := xb1_2.below hb3; have zz3 : w2.heap.size ≤ w3.heap.size := (by have := hb3.size; first | omega | (simp at this; omega)); clear cb0_2 fb0_2 zb0_2 cb1_2 fb1_2 zb1_2; obtain ⟨cb0_3, fb0_3, zb0_3⟩ := xb0_3.out; obtain ⟨cb1_3, fb1_3, zb1_3⟩ := xb1_3.out)) | (go_at_call_of 23 (Value.agg #[.int .i64 (n0), .int .i64 (e0)]); go_must (refine (spec_IsBestFirst (n0) (e0) (n1) (e1) _ ).mono ?_; rintro e w4 ⟨rfl, hb4⟩; have B4 : Bl w w4 := bl_call B3 hb4; have xb0_4 : Bx w4 (w.heap.size) #[.int .i64 (n0), .int .i64 (e0)] := xb0_3.below hb4; have xb1_4 : Bx w4 (w.heap.size + 1) #[.int .i64 (n1), .int .i64 (e1)] := xb1_3.below hb4; have zz4 : w3.heap.size ≤ w4.heap.size := (by have := hb4.size; first | omega | (simp at this; omega)); clear cb0_3 fb0_3 zb0_3 cb1_3 fb1_3 zb1_3; obtain ⟨cb0_4, fb0_4, zb0_4⟩ := xb0_4.out; obtain ⟨cb1_4, fb1_4, zb1_4⟩ := xb1_4.out)))
  go_wp2_with fail
  go_region_held3 (fun w' => w'.cell? ⟨w.heap.size, 0, none⟩ = some (.int .i64 (n0)) ∧ w'.cell? ⟨w.heap.size, 1, none⟩ = some (.int .i64 (e0)) ∧ w'.cell? ⟨w.heap.size + 1, 0, none⟩ = some (.int .i64 (n1)) ∧ w'.cell? ⟨w.heap.size + 1, 1, none⟩ = some (.int .i64 (e1))) (first | (simp [*]; done) | (go_simp; done) | go_keep)
    (first | (go_at_call_of 16 (Value.agg #[.int .i64 (n0), .int .i64 (e0)]); go_must (refine (toF_any (n0) (e0) _).mono ?_; rintro e w5 ⟨rfl, hb5⟩; have B5 : Bl w w5 := bl_call (bl_drew B4) hb5; have xb0_5 : Bx w5 (w.heap.size) #[.int .i64 (n0), .int .i64 (e0)] := (xb0_4.drew).below hb5; have xb1_5 : Bx w5 (w.heap.size + 1) #[.int .i64 (n1), .int .i64 (e1)] := (xb1_4.drew).below hb5; have zz5 : w4.heap.size ≤ w5.heap.size := (by have := hb5.size; first | omega | (simp at this; omega)); clear cb0_4 fb0_4 zb0_4 cb1_4 fb1_4 zb1_4; obtain ⟨cb0_5, fb0_5, zb0_5⟩ := xb0_5.out; obtain ⟨cb1_5, fb1_5, zb1_5⟩ := xb1_5.out)) | (go_at_call_of 16 (Value.agg #[.int .i64 (n1), .int .i64 (e1)]); go_must (refine (toF_any (n1) (e1) _).mono ?_; rintro e w6 ⟨rfl, hb6⟩; have B6 : Bl w w6 := bl_call B5 hb6; have xb0_6 : Bx w6 (w.heap.size) #[.int .i64 (n0), .int .i64 (e0)] := xb0_5.below hb6; have xb1_6 : Bx w6 (w.heap.size + 1) #[.int .i64 (n1), .int .i64 (e1)] := xb1_5.below hb6; have zz6 : w5.heap.size ≤ w6.heap.size := (by have := hb6.size; first | omega | (simp at this; omega)); clear cb0_5 fb0_5 zb0_5 cb1_5 fb1_5 zb1_5; obtain ⟨cb0_6, fb0_6, zb0_6⟩ := xb0_6.out; obtain ⟨cb1_6, fb1_6, zb1_6⟩ := xb1_6.out)) | (go_at_call_of 24 (Value.agg #[.int .i64 (n0), .int .i64 (e0)]); go_must (refine (impl_IsBestFirst (n0) (e0) (n1) (e1) _ ).mono ?_; rintro e w7 ⟨rfl, hb7⟩; have B7 : Bl w w7 := bl_call B6 hb7; have xb0_7 : Bx w7 (w.heap.size) #[.int .i64 (n0), .int .i64 (e0)] := xb0_6.below hb7; have xb1_7 : Bx w7 (w.heap.size + 1) #[.int .i64 (n1), .int .i64 (e1)] := xb1_6.below hb7; have zz7 : w6.heap.size ≤ w7.heap.size := (by have := hb7.size; first | omega | (simp at this; omega)); clear cb0_6 fb0_6 zb0_6 cb1_6 fb1_6 zb1_6; obtain ⟨cb0_7, fb0_7, zb0_7⟩ := xb0_7.out; obtain ⟨cb1_7, fb1_7, zb1_7⟩ := xb1_7.out)))
  go_wp2
  go_ret
  exact ⟨rfl, B7⟩

set_option maxRecDepth 100000 in
theorem fnExactIsBestFirst_lifted (os : Os) (started : os.Started) (H : Type) (enc : TypeId × Value → H) :
    ReturnsInHanded {} Try.checked os 6 .any (Rows.fnExactIsBestFirstSpec.pre6 enc Try.prog Try.f6 Rows.fnExactIsBestFirstRow.domain false) (Rows.fnExactIsBestFirstSpec.post enc Try.prog Try.f6 false true false false) := by
  refine returnsInHanded_of_change (C := Try.checked) own started (by kernel_rfl) Try.func6
    (ChangeSpec.witness6 (enc := enc) (C := Try.checked) false ⟨#[], #[.agg #[.int .i64 0, .int .i64 0], .agg #[.int .i64 0, .int .i64 0]], []⟩ 8 (by kernel_rfl) (by kernel_rfl) (by kernel_rfl) (by kernel_rfl)) ?_
  intro W base args ds gs before hval0 hW hcnd _
  have hval : ∀ (j : Nat) t v, Try.f6.params[j]? = some t → args[j]? = some v → Value.okWide Try.prog W .any base t v := hval0
  have hW' := hW
  obtain ⟨p, q, hA0, hV, rfl, hfz, hnd⟩ := hW
  have hA : DataW.TrodAll enc Try.prog W 0 (fun _ => true) true Try.f6.params.toList args.toList ds p := hA0
  rw [Try.params6] at hA hval
  obtain ⟨v0, vs0, d0, ds0, p0, q0, hargs, rfl, rfl, h0, r0⟩ := trodAll_cons hA
  obtain ⟨v1, vs1, d1, ds1, p1, q1, rfl, rfl, rfl, h1, r1⟩ := trodAll_cons r0
  obtain ⟨rfl, rfl, rfl⟩ := trodAll_nil r1
  obtain rfl : args = #[v0, v1] := by cases args; simp_all
  obtain ⟨rfl, rfl⟩ := trodVars_none hV
  have k0 := h0
  have lt0 : ∀ x ∈ p0, x.block < W.heap.size := by obtain ⟨m, hm⟩ := k0; exact DataW.trod_lt m _ _ _ hm
  have k1 := h1
  have lt1 : ∀ x ∈ p1, x.block < W.heap.size := by obtain ⟨m, hm⟩ := k1; exact DataW.trod_lt m _ _ _ hm
  obtain ⟨n0, e0, rfl, S0, U0⟩ := frac_of_trod (hval 0 23 v0 rfl rfl) h0
  obtain ⟨n1, e1, rfl, S1, U1⟩ := frac_of_trod (hval 1 23 v1 rfl rfl) h1
  clear hA0 hval0
  refine (lawExactIsBestFirst n0 e0 n1 e1 W S0 U0 S1 U1).mono fun e W' ⟨he, bel⟩ => ?_
  subst he
  exact ⟨_, rfl, _, _, _, [], _, [], hW', trodAll_mk1 (shut_bool Try.underlying4 _), (trodAll_cons_mk (Below.trod laidOut (by kernel_rfl) (of_decide_eq_true (by kernel_rfl)) k0 bel lt0) (trodAll_cons_mk (Below.trod laidOut (by kernel_rfl) (of_decide_eq_true (by kernel_rfl)) k1 bel lt1) trodAll_mk0)), rfl, bel.frame _, fun h => by cases h⟩

/-- THE STATEMENT. -/
theorem fnExactIsBestFirst_holds : Rows.FnExactIsBestFirstSaid :=
  OpenClaim.holds_of_wide 6 Try.f6 rfl rfl rfl rfl rfl rfl rfl ⟨rfl, rfl, rfl, rfl, rfl⟩ rfl rfl rfl rfl rfl (by kernel_rfl) Try.func6 (by kernel_rfl)
    (of_decide_eq_true (by kernel_rfl)) (by unfold Func.isWrapper; first | (rw [if_pos (by decide +kernel)]; kernel_rfl) | (rw [if_neg (by decide +kernel)]; exact ⟨rfl, rfl⟩))
    (fun os started H enc _ => fnExactIsBestFirst_lifted os started H enc)
#print axioms fnExactIsBestFirst_holds

end Go.Proofs.Yteejfiflidfciaa
