/- FnExactBeatsFirst holds: for all pairs of fractions the program's BeatsFirst returns what the reference's returns. Conditions: none. -/
import Derived.Test.YteejfiflidfciaaOpenF
import Derived.Test.YteejfiflidfciaaBeats
namespace Go.Proofs.Yteejfiflidfciaa
open Go.RowKit Go.ChangeShapes Go.WideShapes Go.ChangeAt
set_option linter.unusedVariables false
set_option linter.unusedSimpArgs false

set_option maxHeartbeats 1600000 in
set_option maxRecDepth 100000 in
theorem lawExactBeatsFirst (n0 e0 : Int) (n1 e1 : Int) (w : World) (S0 : R64 n0) (U0 : R64 e0) (S1 : R64 n1) (U1 : R64 e1) :
    Calls Try.prog 7 #[.agg #[.int .i64 n0, .int .i64 e0], .agg #[.int .i64 n1, .int .i64 e1]] w fun e w' => e = .returned (.bool true) ∧ Bl w w' := by
  go_enter Try.func7, Try.ntmps7
  go_wp2_with fail
  have B1 : Bl w ((w.alloc (.cells #[.int .i64 (n0), .int .i64 (e0)] 23)).alloc (.cells #[.int .i64 (n1), .int .i64 (e1)] 23)) := (bl_alloc (bl_alloc (bl_refl _) _) _)
  have xb0_1 : Bx ((w.alloc (.cells #[.int .i64 (n0), .int .i64 (e0)] 23)).alloc (.cells #[.int .i64 (n1), .int .i64 (e1)] 23)) (w.heap.size) #[.int .i64 (n0), .int .i64 (e0)] := ((Bx.new (b := w.heap.size) _ #[.int .i64 (n0), .int .i64 (e0)] 23 (by first | rfl | simp)).alloc _)
  have xb1_1 : Bx ((w.alloc (.cells #[.int .i64 (n0), .int .i64 (e0)] 23)).alloc (.cells #[.int .i64 (n1), .int .i64 (e1)] 23)) (w.heap.size + 1) #[.int .i64 (n1), .int .i64 (e1)] := (Bx.new (b := w.heap.size + 1) _ #[.int .i64 (n1), .int .i64 (e1)] 23 (by first | rfl | simp))
  have zz1 : w.heap.size + 2 ≤ ((w.alloc (.cells #[.int .i64 (n0), .int .i64 (e0)] 23)).alloc (.cells #[.int .i64 (n1), .int .i64 (e1)] 23)).heap.size := (by simp)
  generalize ((w.alloc (.cells #[.int .i64 (n0), .int .i64 (e0)] 23)).alloc (.cells #[.int .i64 (n1), .int .i64 (e1)] 23)) = w1 at *
  obtain ⟨cb0_1, fb0_1, zb0_1⟩ := xb0_1.out
  obtain ⟨cb1_1, fb1_1, zb1_1⟩ := xb1_1.out
  go_cut [5, 6] (fun s5 s6 wx => ∃ g : Nat, s5 = .pointer (some ⟨g, 0, none⟩) ∧ s6 = .int .i64 ((beatsF (n0) (e0) (n1) (e1)).2) ∧ Bx wx g #[.int .i64 ((beatsF (n0) (e0) (n1) (e1)).1.1), .int .i64 ((beatsF (n0) (e0) (n1) (e1)).1.2)] ∧ w1.heap.size ≤ g ∧ Bl w1 wx)
  case first =>
    go_region_held3 (fun w' => w'.cell? ⟨w.heap.size, 0, none⟩ = some (.int .i64 (n0)) ∧ w'.cell? ⟨w.heap.size, 1, none⟩ = some (.int .i64 (e0)) ∧ w'.cell? ⟨w.heap.size + 1, 0, none⟩ = some (.int .i64 (n1)) ∧ w'.cell? ⟨w.heap.size + 1, 1, none⟩ = some (.int .i64 (e1))) (first | (simp [*]; done) | (go_simp; done) | go_keep)
      (first | (go_at_call_of 16 (Value.agg #[.int .i64 (n0), .int .i64 (e0)]); go_must (refine (toF_any (n0) (e0) _).mono ?_; rintro e w2 ⟨rfl, hb2⟩; have A2 : Bl w1 w2 := (by first | exact bl_call (bl_drew (bl_refl _)) hb2 | exact bl_call (bl_alloc (bl_drew (bl_refl _)) _) hb2); have yb0_2 := xb0_1.below A2; obtain ⟨cyb0_2, fyb0_2, zyb0_2⟩ := yb0_2.out; have yb1_2 := xb1_1.below A2; obtain ⟨cyb1_2, fyb1_2, zyb1_2⟩ := yb1_2.out; (first | (have nb2 := (Bx.new (b := w1.heap.size) _ #[.int .i64 0, .int .i64 0] 24 rfl).drew.below hb2; obtain ⟨cn2, fn2, zn2⟩ := nb2.out) | skip))) | (go_at_call_of 16 (Value.agg #[.int .i64 (n1), .int .i64 (e1)]); go_must (refine (toF_any (n1) (e1) _).mono ?_; rintro e w3 ⟨rfl, hb3⟩; have A3 : Bl w1 w3 := (by first | exact bl_call A2 hb3 | exact bl_call (bl_alloc A2 _) hb3); have yb0_3 := xb0_1.below A3; obtain ⟨cyb0_3, fyb0_3, zyb0_3⟩ := yb0_3.out; have yb1_3 := xb1_1.below A3; obtain ⟨cyb1_3, fyb1_3, zyb1_3⟩ := yb1_3.out; (first | (have nb3 := nb2.below hb3; obtain ⟨cn3, fn3, zn3⟩ := nb3.out) | (have nb3 := (Bx.new (b := w2.heap.size) _ #[.int .i64 0, .int .i64 0] 24 rfl).below hb3; obtain ⟨cn3, fn3, zn3⟩ := nb3.out) | skip))) | (go_at_call_of 25 (Value.agg #[.int .i64 (n0), .int .i64 (e0)]); go_must (refine (spec_BeatsFirst (n0) (e0) (n1) (e1) _ ).mono ?_; rintro e w4 ⟨rfl, hb4⟩; have A4 : Bl w1 w4 := (by first | exact bl_call A3 hb4 | exact bl_call (bl_alloc A3 _) hb4); have yb0_4 := xb0_1.below A4; obtain ⟨cyb0_4, fyb0_4, zyb0_4⟩ := yb0_4.out; have yb1_4 := xb1_1.below A4; obtain ⟨cyb1_4, fyb1_4, zyb1_4⟩ := yb1_4.out; (first | (have nb4 := nb3.below hb4; obtain ⟨cn4, fn4, zn4⟩ := nb4.out) | (have nb4 := (Bx.new (b := w3.heap.size) _ #[.int .i64 0, .int .i64 0] 24 rfl).below hb4; obtain ⟨cn4, fn4, zn4⟩ := nb4.out) | skip))))
    all_goals (go_wp2_with fail; go_meet; (first | exact ⟨_, rfl, rfl, Bx.new _ _ _ rfl, (A4).size, bl_alloc A4 _⟩ | exact ⟨_, rfl, rfl, ((((Bx.new _ #[.int .i64 0, .int .i64 0] 24 rfl).below hb4).set 0 (.int .i64 ((beatsF (n0) (e0) (n1) (e1)).1.1))).set 1 (.int .i64 ((beatsF (n0) (e0) (n1) (e1)).1.2))), (A3).size, (bl_set (bl_set A4 (A3).size _) (A3).size _)⟩ | exact ⟨_, rfl, rfl, (((((Bx.new _ #[.int .i64 0, .int .i64 0] 24 rfl).below hb3).below hb4).set 0 (.int .i64 ((beatsF (n0) (e0) (n1) (e1)).1.1))).set 1 (.int .i64 ((beatsF (n0) (e0) (n1) (e1)).1.2))), (A2).size, (bl_set (bl_set A4 (A2).size _) (A2).size _)⟩ | exact ⟨_, rfl, rfl, ((((((Bx.new _ #[.int .i64 0, .int .i64 0] 24 rfl).drew.below hb2).below hb3).below hb4).set 0 (.int .i64 ((beatsF (n0) (e0) (n1) (e1)).1.1))).set 1 (.int .i64 ((beatsF (n0) (e0) (n1) (e1)).1.2))), (bl_drew (bl_refl w1)).size, (bl_set (bl_set A4 (bl_drew (bl_refl w1)).size _) (bl_drew (bl_refl w1)).size _)⟩))
  case rest =>
    obtain ⟨g5, rfl, rfl, xg5, hg5, hb5⟩ := hcut
    obtain ⟨w5, rfl⟩ : ∃ w5 : World, w5 = wc := ⟨_, rfl⟩
    have B5 : Bl w w5 := bl_call B1 hb5
    have xb0_5 : Bx w5 (w.heap.size) #[.int .i64 (n0), .int .i64 (e0)] := xb0_1.below hb5
    have xb1_5 : Bx w5 (w.heap.size + 1) #[.int .i64 (n1), .int .i64 (e1)] := xb1_1.below hb5
    have zz5 : w1.heap.size ≤ w5.heap.size := (by have := hb5.size; first | omega | (simp at this; omega))
    clear cb0_1 fb0_1 zb0_1 cb1_1 fb1_1 zb1_1
    obtain ⟨cb0_5, fb0_5, zb0_5⟩ := xb0_5.out
    obtain ⟨cb1_5, fb1_5, zb1_5⟩ := xb1_5.out
    obtain ⟨cx5, fx5, zx5⟩ := xg5.out
    go_wp2_with fail
    go_cut [7, 8] (fun s7 s8 wx => ∃ g : Nat, s7 = .pointer (some ⟨g, 0, none⟩) ∧ s8 = .int .i64 ((beatsF (n0) (e0) (n1) (e1)).2) ∧ Bx wx g #[.int .i64 ((beatsF (n0) (e0) (n1) (e1)).1.1), .int .i64 ((beatsF (n0) (e0) (n1) (e1)).1.2)] ∧ w5.heap.size ≤ g ∧ Bl w5 wx)
    case first =>
      go_region_held3 (fun w' => w'.cell? ⟨w.heap.size, 0, none⟩ = some (.int .i64 (n0)) ∧ w'.cell? ⟨w.heap.size, 1, none⟩ = some (.int .i64 (e0)) ∧ w'.cell? ⟨w.heap.size + 1, 0, none⟩ = some (.int .i64 (n1)) ∧ w'.cell? ⟨w.heap.size + 1, 1, none⟩ = some (.int .i64 (e1))) (first | (simp [*]; done) | (go_simp; done) | go_keep)
        (first | (go_at_call_of 16 (Value.agg #[.int .i64 (n0), .int .i64 (e0)]); go_must (refine (toF_any (n0) (e0) _).mono ?_; rintro e w6 ⟨rfl, hb6⟩; have A6 : Bl w5 w6 := (by first | exact bl_call (bl_drew (bl_refl _)) hb6 | exact bl_call (bl_alloc (bl_drew (bl_refl _)) _) hb6); have yb0_6 := xb0_5.below A6; obtain ⟨cyb0_6, fyb0_6, zyb0_6⟩ := yb0_6.out; have yb1_6 := xb1_5.below A6; obtain ⟨cyb1_6, fyb1_6, zyb1_6⟩ := yb1_6.out; (first | (have nb6 := (Bx.new (b := w5.heap.size) _ #[.int .i64 0, .int .i64 0] 24 rfl).drew.below hb6; obtain ⟨cn6, fn6, zn6⟩ := nb6.out) | skip))) | (go_at_call_of 16 (Value.agg #[.int .i64 (n1), .int .i64 (e1)]); go_must (refine (toF_any (n1) (e1) _).mono ?_; rintro e w7 ⟨rfl, hb7⟩; have A7 : Bl w5 w7 := (by first | exact bl_call A6 hb7 | exact bl_call (bl_alloc A6 _) hb7); have yb0_7 := xb0_5.below A7; obtain ⟨cyb0_7, fyb0_7, zyb0_7⟩ := yb0_7.out; have yb1_7 := xb1_5.below A7; obtain ⟨cyb1_7, fyb1_7, zyb1_7⟩ := yb1_7.out; (first | (have nb7 := nb6.below hb7; obtain ⟨cn7, fn7, zn7⟩ := nb7.out) | (have nb7 := (Bx.new (b := w6.heap.size) _ #[.int .i64 0, .int .i64 0] 24 rfl).below hb7; obtain ⟨cn7, fn7, zn7⟩ := nb7.out) | skip))) | (go_at_call_of 26 (Value.agg #[.int .i64 (n0), .int .i64 (e0)]); go_must (refine (impl_BeatsFirst (n0) (e0) (n1) (e1) _ ).mono ?_; rintro e w8 ⟨rfl, hb8⟩; have A8 : Bl w5 w8 := (by first | exact bl_call A7 hb8 | exact bl_call (bl_alloc A7 _) hb8); have yb0_8 := xb0_5.below A8; obtain ⟨cyb0_8, fyb0_8, zyb0_8⟩ := yb0_8.out; have yb1_8 := xb1_5.below A8; obtain ⟨cyb1_8, fyb1_8, zyb1_8⟩ := yb1_8.out; (first | (have nb8 := nb7.below hb8; obtain ⟨cn8, fn8, zn8⟩ := nb8.out) | (have nb8 := (Bx.new (b := w7.heap.size) _ #[.int .i64 0, .int .i64 0] 24 rfl).below hb8; obtain ⟨cn8, fn8, zn8⟩ := nb8.out) | skip))))
      all_goals (go_wp2_with fail; go_meet; (first | exact ⟨_, rfl, rfl, Bx.new _ _ _ rfl, (A8).size, bl_alloc A8 _⟩ | exact ⟨_, rfl, rfl, ((((Bx.new _ #[.int .i64 0, .int .i64 0] 24 rfl).below hb8).set 0 (.int .i64 ((beatsF (n0) (e0) (n1) (e1)).1.1))).set 1 (.int .i64 ((beatsF (n0) (e0) (n1) (e1)).1.2))), (A7).size, (bl_set (bl_set A8 (A7).size _) (A7).size _)⟩ | exact ⟨_, rfl, rfl, (((((Bx.new _ #[.int .i64 0, .int .i64 0] 24 rfl).below hb7).below hb8).set 0 (.int .i64 ((beatsF (n0) (e0) (n1) (e1)).1.1))).set 1 (.int .i64 ((beatsF (n0) (e0) (n1) (e1)).1.2))), (A6).size, (bl_set (bl_set A8 (A6).size _) (A6).size _)⟩ | exact ⟨_, rfl, rfl, ((((((Bx.new _ #[.int .i64 0, .int .i64 0] 24 rfl).drew.below hb6).below hb7).below hb8).set 0 (.int .i64 ((beatsF (n0) (e0) (n1) (e1)).1.1))).set 1 (.int .i64 ((beatsF (n0) (e0) (n1) (e1)).1.2))), (bl_drew (bl_refl w5)).size, (bl_set (bl_set A8 (bl_drew (bl_refl w5)).size _) (bl_drew (bl_refl w5)).size _)⟩))
    case rest =>
      obtain ⟨g9, rfl, rfl, xg9, hg9, hb9⟩ := hcut
      obtain ⟨w9, rfl⟩ : ∃ w9 : World, w9 = wc := ⟨_, rfl⟩
      have B9 : Bl w w9 := bl_call B5 hb9
      have xb0_9 : Bx w9 (w.heap.size) #[.int .i64 (n0), .int .i64 (e0)] := xb0_5.below hb9
      have xb1_9 : Bx w9 (w.heap.size + 1) #[.int .i64 (n1), .int .i64 (e1)] := xb1_5.below hb9
      have xb2_9 : Bx w9 (g5) #[.int .i64 ((beatsF (n0) (e0) (n1) (e1)).1.1), .int .i64 ((beatsF (n0) (e0) (n1) (e1)).1.2)] := xg5.below hb9
      have zz9 : w5.heap.size ≤ w9.heap.size := (by have := hb9.size; first | omega | (simp at this; omega))
      clear cb0_5 fb0_5 zb0_5 cb1_5 fb1_5 zb1_5 cx5 fx5 zx5
      obtain ⟨cb0_9, fb0_9, zb0_9⟩ := xb0_9.out
      obtain ⟨cb1_9, fb1_9, zb1_9⟩ := xb1_9.out
      obtain ⟨cb2_9, fb2_9, zb2_9⟩ := xb2_9.out
      obtain ⟨cx9, fx9, zx9⟩ := xg9.out
      go_wp2_with fail
      refine (eqF_any ((beatsF (n0) (e0) (n1) (e1)).1.1) ((beatsF (n0) (e0) (n1) (e1)).1.2) ((beatsF (n0) (e0) (n1) (e1)).1.1) ((beatsF (n0) (e0) (n1) (e1)).1.2) _).mono ?_
      rintro e w10 ⟨rfl, hb10⟩
      have B10 : Bl w w10 := bl_call B9 hb10
      have xb0_10 : Bx w10 (w.heap.size) #[.int .i64 (n0), .int .i64 (e0)] := xb0_9.below hb10
      have xb1_10 : Bx w10 (w.heap.size + 1) #[.int .i64 (n1), .int .i64 (e1)] := xb1_9.below hb10
      have xb2_10 : Bx w10 (g5) #[.int .i64 ((beatsF (n0) (e0) (n1) (e1)).1.1), .int .i64 ((beatsF (n0) (e0) (n1) (e1)).1.2)] := xb2_9.below hb10
      have xb3_10 : Bx w10 (g9) #[.int .i64 ((beatsF (n0) (e0) (n1) (e1)).1.1), .int .i64 ((beatsF (n0) (e0) (n1) (e1)).1.2)] := xg9.below hb10
      have zz10 : w9.heap.size ≤ w10.heap.size := (by have := hb10.size; first | omega | (simp at this; omega))
      clear cb0_9 fb0_9 zb0_9 cb1_9 fb1_9 zb1_9 cb2_9 fb2_9 zb2_9 cx9 fx9 zx9
      obtain ⟨cb0_10, fb0_10, zb0_10⟩ := xb0_10.out
      obtain ⟨cb1_10, fb1_10, zb1_10⟩ := xb1_10.out
      obtain ⟨cb2_10, fb2_10, zb2_10⟩ := xb2_10.out
      obtain ⟨cb3_10, fb3_10, zb3_10⟩ := xb3_10.out
      go_wp2
      go_ret
      exact ⟨rfl, B10⟩

set_option maxRecDepth 100000 in
theorem fnExactBeatsFirst_lifted (os : Os) (started : os.Started) (H : Type) (enc : TypeId × Value → H) :
    ReturnsInHanded {} Try.checked os 7 .any (Rows.fnExactBeatsFirstSpec.pre6 enc Try.prog Try.f7 Rows.fnExactBeatsFirstRow.domain false) (Rows.fnExactBeatsFirstSpec.post enc Try.prog Try.f7 false true false false) := by
  refine returnsInHanded_of_change (C := Try.checked) own started (by kernel_rfl) Try.func7
    (ChangeSpec.witness6 (enc := enc) (C := Try.checked) false ⟨#[], #[.agg #[.int .i64 0, .int .i64 0], .agg #[.int .i64 0, .int .i64 0]], []⟩ 8 (by kernel_rfl) (by kernel_rfl) (by kernel_rfl) (by kernel_rfl)) ?_
  intro W base args ds gs before hval0 hW hcnd _
  have hval : ∀ (j : Nat) t v, Try.f7.params[j]? = some t → args[j]? = some v → Value.okWide Try.prog W .any base t v := hval0
  have hW' := hW
  obtain ⟨p, q, hA0, hV, rfl, hfz, hnd⟩ := hW
  have hA : DataW.TrodAll enc Try.prog W 0 (fun _ => true) true Try.f7.params.toList args.toList ds p := hA0
  rw [Try.params7] at hA hval
  obtain ⟨v0, vs0, d0, ds0, p0, q0, hargs, rfl, rfl, h0, r0⟩ := trodAll_cons hA
  obtain ⟨v1, vs1, d1, ds1, p1, q1, rfl, rfl, rfl, h1, r1⟩ := trodAll_cons r0
  obtain ⟨rfl, rfl, rfl⟩ := trodAll_nil r1
  obtain rfl : args = #[v0, v1] := by cases args; simp_all
  obtain ⟨rfl, rfl⟩ := trodVars_none hV
  have k0 := h0
  have lt0 : ∀ x ∈ p0, x.block < W.heap.size := by obtain ⟨m, hm⟩ := k0; exact DataW.trod_lt m _ _ _ hm
  have k1 := h1
  have lt1 : ∀ x ∈ p1, x.block < W.heap.size := by obtain ⟨m, hm⟩ := k1; exact DataW.trod_lt m _ _ _ hm
  obtain ⟨n0, e0, rfl, S0, U0⟩ := frac_of_trod (hval 0 23 v0 rfl rfl) h0
  obtain ⟨n1, e1, rfl, S1, U1⟩ := frac_of_trod (hval 1 23 v1 rfl rfl) h1
  clear hA0 hval0
  refine (lawExactBeatsFirst n0 e0 n1 e1 W S0 U0 S1 U1).mono fun e W' ⟨he, bel⟩ => ?_
  subst he
  exact ⟨_, rfl, _, _, _, [], _, [], hW', trodAll_mk1 (shut_bool Try.underlying4 _), (trodAll_cons_mk (Below.trod laidOut (by kernel_rfl) (of_decide_eq_true (by kernel_rfl)) k0 bel lt0) (trodAll_cons_mk (Below.trod laidOut (by kernel_rfl) (of_decide_eq_true (by kernel_rfl)) k1 bel lt1) trodAll_mk0)), rfl, bel.frame _, fun h => by cases h⟩

/-- THE STATEMENT. -/
theorem fnExactBeatsFirst_holds : Rows.FnExactBeatsFirstSaid :=
  OpenClaim.holds_of_wide 7 Try.f7 rfl rfl rfl rfl rfl rfl rfl ⟨rfl, rfl, rfl, rfl, rfl⟩ rfl rfl rfl rfl rfl (by kernel_rfl) Try.func7 (by kernel_rfl)
    (of_decide_eq_true (by kernel_rfl)) (by unfold Func.isWrapper; first | (rw [if_pos (by decide +kernel)]; kernel_rfl) | (rw [if_neg (by decide +kernel)]; exact ⟨rfl, rfl⟩))
    (fun os started H enc _ => fnExactBeatsFirst_lifted os started H enc)
#print axioms fnExactBeatsFirst_holds

end Go.Proofs.Yteejfiflidfciaa
