/- FnExactCompareErrors holds: for all triples of fractions the program's CompareErrors returns what the reference's returns. Conditions: none. -/
import Derived.Test.YtggpldbihndgmaaOpen
import Derived.Test.YtggpldbihndgmaaCmpE
namespace Go.Proofs.Ytggpldbihndgmaa
open Go.RowKit Go.ChangeShapes Go.WideShapes Go.ChangeAt
set_option linter.unusedVariables false
set_option linter.unusedSimpArgs false

set_option maxHeartbeats 1600000 in
set_option maxRecDepth 100000 in
theorem lawExactCompareErrors (n0 e0 : Int) (n1 e1 : Int) (n2 e2 : Int) (w : World) (S0 : R64 n0) (U0 : R64 e0) (S1 : R64 n1) (U1 : R64 e1) (S2 : R64 n2) (U2 : R64 e2) :
    Calls Try.prog 8 #[.agg #[.int .i64 n0, .int .i64 e0], .agg #[.int .i64 n1, .int .i64 e1], .agg #[.int .i64 n2, .int .i64 e2]] w fun e w' => e = .returned (.bool true) ∧ Bl w w' := by
  go_enter Try.func8, Try.ntmps8
  go_wp2_with fail
  have B1 : Bl w (((w.alloc (.cells #[.int .i64 (n0), .int .i64 (e0)] 34)).alloc (.cells #[.int .i64 (n1), .int .i64 (e1)] 34)).alloc (.cells #[.int .i64 (n2), .int .i64 (e2)] 34)) := (bl_alloc (bl_alloc (bl_alloc (bl_refl _) _) _) _)
  have xb0_1 : Bx (((w.alloc (.cells #[.int .i64 (n0), .int .i64 (e0)] 34)).alloc (.cells #[.int .i64 (n1), .int .i64 (e1)] 34)).alloc (.cells #[.int .i64 (n2), .int .i64 (e2)] 34)) (w.heap.size) #[.int .i64 (n0), .int .i64 (e0)] := (((Bx.new (b := w.heap.size) _ #[.int .i64 (n0), .int .i64 (e0)] 34 (by first | rfl | simp)).alloc _).alloc _)
  have xb1_1 : Bx (((w.alloc (.cells #[.int .i64 (n0), .int .i64 (e0)] 34)).alloc (.cells #[.int .i64 (n1), .int .i64 (e1)] 34)).alloc (.cells #[.int .i64 (n2), .int .i64 (e2)] 34)) (w.heap.size + 1) #[.int .i64 (n1), .int .i64 (e1)] := ((Bx.new (b := w.heap.size + 1) _ #[.int .i64 (n1), .int .i64 (e1)] 34 (by first | rfl | simp)).alloc _)
  have xb2_1 : Bx (((w.alloc (.cells #[.int .i64 (n0), .int .i64 (e0)] 34)).alloc (.cells #[.int .i64 (n1), .int .i64 (e1)] 34)).alloc (.cells #[.int .i64 (n2), .int .i64 (e2)] 34)) (w.heap.size + 1 + 1) #[.int .i64 (n2), .int .i64 (e2)] := (Bx.new (b := w.heap.size + 1 + 1) _ #[.int .i64 (n2), .int .i64 (e2)] 34 (by first | rfl | simp))
  have zz1 : w.heap.size + 3 ≤ (((w.alloc (.cells #[.int .i64 (n0), .int .i64 (e0)] 34)).alloc (.cells #[.int .i64 (n1), .int .i64 (e1)] 34)).alloc (.cells #[.int .i64 (n2), .int .i64 (e2)] 34)).heap.size := (by simp)
  generalize (((w.alloc (.cells #[.int .i64 (n0), .int .i64 (e0)] 34)).alloc (.cells #[.int .i64 (n1), .int .i64 (e1)] 34)).alloc (.cells #[.int .i64 (n2), .int .i64 (e2)] 34)) = w1 at *
  obtain ⟨cb0_1, fb0_1, zb0_1⟩ := xb0_1.out
  obtain ⟨cb1_1, fb1_1, zb1_1⟩ := xb1_1.out
  obtain ⟨cb2_1, fb2_1, zb2_1⟩ := xb2_1.out
  go_region_held3 (fun w' => w'.cell? ⟨w.heap.size, 0, none⟩ = some (.int .i64 (n0)) ∧ w'.cell? ⟨w.heap.size, 1, none⟩ = some (.int .i64 (e0)) ∧ w'.cell? ⟨w.heap.size + 1, 0, none⟩ = some (.int .i64 (n1)) ∧ w'.cell? ⟨w.heap.size + 1, 1, none⟩ = some (.int .i64 (e1)) ∧ w'.cell? ⟨w.heap.size + 1 + 1, 0, none⟩ = some (.int .i64 (n2)) ∧ w'.cell? ⟨w.heap.size + 1 + 1, 1, none⟩ = some (.int .i64 (e2))) (first | (simp [*]; done) | go_keep)
    (first | (go_at_call_of 25 (Value.agg #[.int .i64 (n0), .int .i64 (e0)]); go_must (refine (toF_any (n0) (e0) _).mono ?_; rintro e w2 ⟨rfl, hb2⟩; have B2 : Bl w w2 := bl_call (bl_drew B1) hb2; have xb0_2 : Bx w2 (w.heap.size) #[.int .i64 (n0), .int .i64 (e0)] := (xb0_1.drew).below hb2; have xb1_2 : Bx w2 (w.heap.size + 1) #[.int .i64 (n1), .int .i64 (e1)] := (xb1_1.drew).below hb2; have xb2_2 : Bx w2 (w.heap.size + 1 + 1) #[.int .i64 (n2), .int .i64 (e2)] := (xb2_1.drew).below hb2; have zz2 : w1.heap.size ≤ w2.heap.size := (by have := hb2.size; first | omega | (simp at this; omega)); clear cb0_1 fb0_1 zb0_1 cb1_1 fb1_1 zb1_1 cb2_1 fb2_1 zb2_1; obtain ⟨cb0_2, fb0_2, zb0_2⟩ := xb0_2.out; obtain ⟨cb1_2, fb1_2, zb1_2⟩ := xb1_2.out; obtain ⟨cb2_2, fb2_2, zb2_2⟩ := xb2_2.out)) | (go_at_call_of 25 (Value.agg #[.int .i64 (n1), .int .i64 (e1)]); go_must (refine (toF_any (n1) (e1) _).mono ?_; rintro e w3 ⟨rfl, hb3⟩; have B3 : Bl w w3 := bl_call B2 hb3; have xb0_3 : Bx w3 (w.heap.size) #[.int .i64 (n0), .int .i64 (e0)] := xb0_2.below hb3; have xb1_3 : Bx w3 (w.heap.size + 1) #[.int .i64 (n1), .int .i64 (e1)] := xb1_2.below hb3; have xb2_3 : Bx w3 (w.heap.size + 1 + 1) #[.int .i64 (n2), .int .i64 (e2)] := xb2_2.below hb3; have zz3 : w2.heap.size ≤ w3.heap.size := (by have := hb3.size; first | omega | (simp at this; omega)); clear cb0_2 fb0_2 zb0_2 cb1_2 fb1_2 zb1_2 cb2_2 fb2_2 zb2_2; obtain ⟨cb0_3, fb0_3, zb0_3⟩ := xb0_3.out; obtain ⟨cb1_3, fb1_3, zb1_3⟩ := xb1_3.out; obtain ⟨cb2_3, fb2_3, zb2_3⟩ := xb2_3.out)) | (go_at_call_of 25 (Value.agg #[.int .i64 (n2), .int .i64 (e2)]); go_must (refine (toF_any (n2) (e2) _).mono ?_; rintro e w4 ⟨rfl, hb4⟩; have B4 : Bl w w4 := bl_call B3 hb4; have xb0_4 : Bx w4 (w.heap.size) #[.int .i64 (n0), .int .i64 (e0)] := xb0_3.below hb4; have xb1_4 : Bx w4 (w.heap.size + 1) #[.int .i64 (n1), .int .i64 (e1)] := xb1_3.below hb4; have xb2_4 : Bx w4 (w.heap.size + 1 + 1) #[.int .i64 (n2), .int .i64 (e2)] := xb2_3.below hb4; have zz4 : w3.heap.size ≤ w4.heap.size := (by have := hb4.size; first | omega | (simp at this; omega)); clear cb0_3 fb0_3 zb0_3 cb1_3 fb1_3 zb1_3 cb2_3 fb2_3 zb2_3; obtain ⟨cb0_4, fb0_4, zb0_4⟩ := xb0_4.out; obtain ⟨cb1_4, fb1_4, zb1_4⟩ := xb1_4.out; obtain ⟨cb2_4, fb2_4, zb2_4⟩ := xb2_4.out)) | (go_at_call_of 32 (Value.agg #[.int .i64 (n0), .int .i64 (e0)]); go_must (refine (spec_CompareErrors (n0) (e0) (n1) (e1) (n2) (e2) _ ).mono ?_; rintro e w5 ⟨rfl, hb5⟩; have B5 : Bl w w5 := bl_call B4 hb5; have xb0_5 : Bx w5 (w.heap.size) #[.int .i64 (n0), .int .i64 (e0)] := xb0_4.below hb5; have xb1_5 : Bx w5 (w.heap.size + 1) #[.int .i64 (n1), .int .i64 (e1)] := xb1_4.below hb5; have xb2_5 : Bx w5 (w.heap.size + 1 + 1) #[.int .i64 (n2), .int .i64 (e2)] := xb2_4.below hb5; have zz5 : w4.heap.size ≤ w5.heap.size := (by have := hb5.size; first | omega | (simp at this; omega)); clear cb0_4 fb0_4 zb0_4 cb1_4 fb1_4 zb1_4 cb2_4 fb2_4 zb2_4; obtain ⟨cb0_5, fb0_5, zb0_5⟩ := xb0_5.out; obtain ⟨cb1_5, fb1_5, zb1_5⟩ := xb1_5.out; obtain ⟨cb2_5, fb2_5, zb2_5⟩ := xb2_5.out)))
  go_wp2_with fail
  go_region_held3 (fun w' => w'.cell? ⟨w.heap.size, 0, none⟩ = some (.int .i64 (n0)) ∧ w'.cell? ⟨w.heap.size, 1, none⟩ = some (.int .i64 (e0)) ∧ w'.cell? ⟨w.heap.size + 1, 0, none⟩ = some (.int .i64 (n1)) ∧ w'.cell? ⟨w.heap.size + 1, 1, none⟩ = some (.int .i64 (e1)) ∧ w'.cell? ⟨w.heap.size + 1 + 1, 0, none⟩ = some (.int .i64 (n2)) ∧ w'.cell? ⟨w.heap.size + 1 + 1, 1, none⟩ = some (.int .i64 (e2))) (first | (simp [*]; done) | go_keep)
    (first | (go_at_call_of 25 (Value.agg #[.int .i64 (n0), .int .i64 (e0)]); go_must (refine (toF_any (n0) (e0) _).mono ?_; rintro e w6 ⟨rfl, hb6⟩; have B6 : Bl w w6 := bl_call (bl_drew B5) hb6; have xb0_6 : Bx w6 (w.heap.size) #[.int .i64 (n0), .int .i64 (e0)] := (xb0_5.drew).below hb6; have xb1_6 : Bx w6 (w.heap.size + 1) #[.int .i64 (n1), .int .i64 (e1)] := (xb1_5.drew).below hb6; have xb2_6 : Bx w6 (w.heap.size + 1 + 1) #[.int .i64 (n2), .int .i64 (e2)] := (xb2_5.drew).below hb6; have zz6 : w5.heap.size ≤ w6.heap.size := (by have := hb6.size; first | omega | (simp at this; omega)); clear cb0_5 fb0_5 zb0_5 cb1_5 fb1_5 zb1_5 cb2_5 fb2_5 zb2_5; obtain ⟨cb0_6, fb0_6, zb0_6⟩ := xb0_6.out; obtain ⟨cb1_6, fb1_6, zb1_6⟩ := xb1_6.out; obtain ⟨cb2_6, fb2_6, zb2_6⟩ := xb2_6.out)) | (go_at_call_of 25 (Value.agg #[.int .i64 (n1), .int .i64 (e1)]); go_must (refine (toF_any (n1) (e1) _).mono ?_; rintro e w7 ⟨rfl, hb7⟩; have B7 : Bl w w7 := bl_call B6 hb7; have xb0_7 : Bx w7 (w.heap.size) #[.int .i64 (n0), .int .i64 (e0)] := xb0_6.below hb7; have xb1_7 : Bx w7 (w.heap.size + 1) #[.int .i64 (n1), .int .i64 (e1)] := xb1_6.below hb7; have xb2_7 : Bx w7 (w.heap.size + 1 + 1) #[.int .i64 (n2), .int .i64 (e2)] := xb2_6.below hb7; have zz7 : w6.heap.size ≤ w7.heap.size := (by have := hb7.size; first | omega | (simp at this; omega)); clear cb0_6 fb0_6 zb0_6 cb1_6 fb1_6 zb1_6 cb2_6 fb2_6 zb2_6; obtain ⟨cb0_7, fb0_7, zb0_7⟩ := xb0_7.out; obtain ⟨cb1_7, fb1_7, zb1_7⟩ := xb1_7.out; obtain ⟨cb2_7, fb2_7, zb2_7⟩ := xb2_7.out)) | (go_at_call_of 25 (Value.agg #[.int .i64 (n2), .int .i64 (e2)]); go_must (refine (toF_any (n2) (e2) _).mono ?_; rintro e w8 ⟨rfl, hb8⟩; have B8 : Bl w w8 := bl_call B7 hb8; have xb0_8 : Bx w8 (w.heap.size) #[.int .i64 (n0), .int .i64 (e0)] := xb0_7.below hb8; have xb1_8 : Bx w8 (w.heap.size + 1) #[.int .i64 (n1), .int .i64 (e1)] := xb1_7.below hb8; have xb2_8 : Bx w8 (w.heap.size + 1 + 1) #[.int .i64 (n2), .int .i64 (e2)] := xb2_7.below hb8; have zz8 : w7.heap.size ≤ w8.heap.size := (by have := hb8.size; first | omega | (simp at this; omega)); clear cb0_7 fb0_7 zb0_7 cb1_7 fb1_7 zb1_7 cb2_7 fb2_7 zb2_7; obtain ⟨cb0_8, fb0_8, zb0_8⟩ := xb0_8.out; obtain ⟨cb1_8, fb1_8, zb1_8⟩ := xb1_8.out; obtain ⟨cb2_8, fb2_8, zb2_8⟩ := xb2_8.out)) | (go_at_call_of 33 (Value.agg #[.int .i64 (n0), .int .i64 (e0)]); go_must (refine (impl_CompareErrors (n0) (e0) (n1) (e1) (n2) (e2) _ ).mono ?_; rintro e w9 ⟨rfl, hb9⟩; have B9 : Bl w w9 := bl_call B8 hb9; have xb0_9 : Bx w9 (w.heap.size) #[.int .i64 (n0), .int .i64 (e0)] := xb0_8.below hb9; have xb1_9 : Bx w9 (w.heap.size + 1) #[.int .i64 (n1), .int .i64 (e1)] := xb1_8.below hb9; have xb2_9 : Bx w9 (w.heap.size + 1 + 1) #[.int .i64 (n2), .int .i64 (e2)] := xb2_8.below hb9; have zz9 : w8.heap.size ≤ w9.heap.size := (by have := hb9.size; first | omega | (simp at this; omega)); clear cb0_8 fb0_8 zb0_8 cb1_8 fb1_8 zb1_8 cb2_8 fb2_8 zb2_8; obtain ⟨cb0_9, fb0_9, zb0_9⟩ := xb0_9.out; obtain ⟨cb1_9, fb1_9, zb1_9⟩ := xb1_9.out; obtain ⟨cb2_9, fb2_9, zb2_9⟩ := xb2_9.out)))
  go_wp2
  go_ret
  exact ⟨rfl, B9⟩

set_option maxRecDepth 100000 in
theorem fnExactCompareErrors_lifted (os : Os) (started : os.Started) (H : Type) (enc : TypeId × Value → H) :
    ReturnsInHanded {} Try.checked os 8 .any (Rows.fnExactCompareErrorsSpec.pre6 enc Try.prog Try.f8 Rows.fnExactCompareErrorsRow.domain false) (Rows.fnExactCompareErrorsSpec.post enc Try.prog Try.f8 false true false false) := by
  refine returnsInHanded_of_change (C := Try.checked) own started (by kernel_rfl) Try.func8
    (ChangeSpec.witness6 (enc := enc) (C := Try.checked) false ⟨#[], #[.agg #[.int .i64 0, .int .i64 0], .agg #[.int .i64 0, .int .i64 0], .agg #[.int .i64 0, .int .i64 0]], []⟩ 8 (by kernel_rfl) (by kernel_rfl) (by kernel_rfl) (by kernel_rfl)) ?_
  intro W base args ds gs before hval0 hW hcnd _
  have hval : ∀ (j : Nat) t v, Try.f8.params[j]? = some t → args[j]? = some v → Value.okWide Try.prog W .any base t v := hval0
  have hW' := hW
  obtain ⟨p, q, hA0, hV, rfl, hfz, hnd⟩ := hW
  have hA : DataW.TrodAll enc Try.prog W 0 (fun _ => true) true Try.f8.params.toList args.toList ds p := hA0
  rw [Try.params8] at hA hval
  obtain ⟨v0, vs0, d0, ds0, p0, q0, hargs, rfl, rfl, h0, r0⟩ := trodAll_cons hA
  obtain ⟨v1, vs1, d1, ds1, p1, q1, rfl, rfl, rfl, h1, r1⟩ := trodAll_cons r0
  obtain ⟨v2, vs2, d2, ds2, p2, q2, rfl, rfl, rfl, h2, r2⟩ := trodAll_cons r1
  obtain ⟨rfl, rfl, rfl⟩ := trodAll_nil r2
  obtain rfl : args = #[v0, v1, v2] := by cases args; simp_all
  obtain ⟨rfl, rfl⟩ := trodVars_none hV
  have k0 := h0
  have lt0 : ∀ x ∈ p0, x.block < W.heap.size := by obtain ⟨m, hm⟩ := k0; exact DataW.trod_lt m _ _ _ hm
  have k1 := h1
  have lt1 : ∀ x ∈ p1, x.block < W.heap.size := by obtain ⟨m, hm⟩ := k1; exact DataW.trod_lt m _ _ _ hm
  have k2 := h2
  have lt2 : ∀ x ∈ p2, x.block < W.heap.size := by obtain ⟨m, hm⟩ := k2; exact DataW.trod_lt m _ _ _ hm
  obtain ⟨n0, e0, rfl, S0, U0⟩ := frac_of_trod (hval 0 34 v0 rfl rfl) h0
  obtain ⟨n1, e1, rfl, S1, U1⟩ := frac_of_trod (hval 1 34 v1 rfl rfl) h1
  obtain ⟨n2, e2, rfl, S2, U2⟩ := frac_of_trod (hval 2 34 v2 rfl rfl) h2
  clear hA0 hval0
  refine (lawExactCompareErrors n0 e0 n1 e1 n2 e2 W S0 U0 S1 U1 S2 U2).mono fun e W' ⟨he, bel⟩ => ?_
  subst he
  exact ⟨_, rfl, _, _, _, [], _, [], hW', trodAll_mk1 (shut_bool Try.underlying4 _), (trodAll_cons_mk (Below.trod laidOut (by kernel_rfl) (of_decide_eq_true (by kernel_rfl)) k0 bel lt0) (trodAll_cons_mk (Below.trod laidOut (by kernel_rfl) (of_decide_eq_true (by kernel_rfl)) k1 bel lt1) (trodAll_cons_mk (Below.trod laidOut (by kernel_rfl) (of_decide_eq_true (by kernel_rfl)) k2 bel lt2) trodAll_mk0))), rfl, bel.frame _, fun h => by cases h⟩

/-- THE STATEMENT. -/
theorem fnExactCompareErrors_holds : Rows.FnExactCompareErrorsSaid :=
  OpenClaim.holds_of_wide 8 Try.f8 rfl rfl rfl rfl rfl rfl rfl ⟨rfl, rfl, rfl, rfl, rfl⟩ rfl rfl rfl rfl rfl (by kernel_rfl) Try.func8 (by kernel_rfl)
    (of_decide_eq_true (by kernel_rfl)) (by unfold Func.isWrapper; first | (rw [if_pos (by decide +kernel)]; kernel_rfl) | (rw [if_neg (by decide +kernel)]; exact ⟨rfl, rfl⟩))
    (fun os started H enc _ => fnExactCompareErrors_lifted os started H enc)
#print axioms fnExactCompareErrors_holds

end Go.Proofs.Ytggpldbihndgmaa
