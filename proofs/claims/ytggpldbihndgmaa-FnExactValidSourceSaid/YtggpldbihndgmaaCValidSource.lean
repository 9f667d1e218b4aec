/- FnExactValidSource holds: for every source the program's ValidSource returns what the reference's returns and leaves its argument as it was. Conditions: none. -/
import Derived.Test.YtggpldbihndgmaaOpen
import Derived.Test.YtggpldbihndgmaaSrcI
import Derived.Test.YtggpldbihndgmaaSrcS
import Derived.Deep.RegionHeld3
namespace Go.Proofs.Ytggpldbihndgmaa
open Go.RowKit Go.ChangeShapes Go.WideShapes Go.ChangeAt
set_option linter.unusedVariables false
set_option linter.unusedSimpArgs false

set_option maxHeartbeats 1600000 in
set_option maxRecDepth 100000 in
theorem lawValid (h p g : Value) (s : Src) (w : World) (ha : SlS w h p g s) :
    Calls Try.prog 7 #[.agg #[h, p, g]] w fun e w' => e = .returned (.bool true) ∧ Bl w w' := by
  go_enter Try.func7, Try.ntmps7
  go_wp2_with fail
  refine (szS_any _ _ _ s _ _ (ha.alloc _) (by omega) (by omega)).mono ?_
  rintro e w1 ⟨rfl, hb1⟩
  have B1 : Bl w w1 := bl_call (bl_alloc (bl_refl _) _) hb1
  have xA_1 : Bx w1 (w.heap.size) #[h, p, g] := (Bx.new (b := w.heap.size) _ #[h, p, g] 29 rfl).below hb1
  obtain ⟨cA_1, fA_1, zA_1⟩ := xA_1.out
  by_cases hsz : szS 1048576 s < 0
  · go_wp2
    go_ret
    exact ⟨rfl, B1⟩
  obtain ⟨n1, n2, n3, n4, n5⟩ := szS_nonneg 1048576 s (by omega)
  have NL := Lib.hid (show s.H.length ≤ 1048576 ∧ s.P.length ≤ 1048576 ∧ s.G.length ≤ 1048576 by omega)
  clear n1 n2 n3 n4 n5
  go_wp2_with fail
  refine (toS_any _ _ _ s _ (ha.below B1) NL.out).mono ?_
  rintro e w2 ⟨h2, p2, g2, rfl, o2, hb2⟩
  have B2 : Bl w w2 := bl_call B1 hb2
  have xA_2 := xA_1.below hb2
  clear cA_1 fA_1 zA_1
  obtain ⟨cA_2, fA_2, zA_2⟩ := xA_2.out
  go_wp2_with fail
  refine (specValid_any _ _ _ s _ o2.sl).mono ?_
  rintro e w3 ⟨rfl, hb3⟩
  have B3 : Bl w w3 := bl_call B2 hb3
  have xA_3 := xA_2.below hb3
  clear cA_2 fA_2 zA_2
  obtain ⟨cA_3, fA_3, zA_3⟩ := xA_3.out
  go_wp2_with fail
  refine (toS_any _ _ _ s _ (ha.below B3) NL.out).mono ?_
  rintro e w4 ⟨h4, p4, g4, rfl, o4, hb4⟩
  obtain ⟨⟨d1, m1, e1, rfl⟩, ⟨d2, m2, e2, rfl⟩, ⟨d3, m3, e3, rfl⟩⟩ := o4.shape
  have B4 : Bl w w4 := bl_call B3 hb4
  have xA_4 := xA_3.below hb4
  clear cA_3 fA_3 zA_3
  obtain ⟨cA_4, fA_4, zA_4⟩ := xA_4.out
  go_wp2_with fail
  refine (ivalid_any _ _ _ s _ (o4.sl.alloc _)).mono ?_
  rintro e w5 ⟨rfl, hb5⟩
  have B5 : Bl w w5 := bl_call (bl_alloc B4 _) hb5
  have o5 := (o4.alloc _).below hb5
  have xA_5 : Bx w5 (w.heap.size) #[h, p, g] := (xA_4.alloc _).below hb5
  have xX_5 : Bx w5 (w4.heap.size) #[.slice d1 m1 e1, .slice d2 m2 e2, .slice d3 m3 e3] := (Bx.new (b := w4.heap.size) _ #[.slice d1 m1 e1, .slice d2 m2 e2, .slice d3 m3 e3] 24 rfl).below hb5
  clear cA_4 fA_4 zA_4
  obtain ⟨cA_5, fA_5, zA_5⟩ := xA_5.out
  obtain ⟨cX_5, fX_5, zX_5⟩ := xX_5.out
  go_wp2_with fail
  go_region_held3 (fun w' => (w'.cell? ⟨w.heap.size, 0, none⟩ = some h ∧ w'.cell? ⟨w.heap.size, 1, none⟩ = some p ∧ w'.cell? ⟨w.heap.size, 2, none⟩ = some g) ∧ w'.cell? ⟨w4.heap.size, 0, none⟩ = some (.slice d1 m1 e1) ∧ w'.cell? ⟨w4.heap.size, 1, none⟩ = some (.slice d2 m2 e2) ∧ w'.cell? ⟨w4.heap.size, 2, none⟩ = some (.slice d3 m3 e3)) (first | (simp [cA_5, cX_5]; done) | (simp [*]; done))
    (first
     | (go_at_call 22; go_must (refine (toS_any _ _ _ s _ ((ha.below B5).drew) NL.out).mono ?_; rintro e w6 ⟨h6, p6, g6, rfl, o6, hb6⟩; have xA_6 := xA_5.drew.below hb6; have xX_6 := xX_5.drew.below hb6; have o5' := (OwnS.drew o5).below hb6; obtain ⟨cA_6, fA_6, zA_6⟩ := xA_6.out; obtain ⟨cX_6, fX_6, zX_6⟩ := xX_6.out))
     | (go_at_call 17; refine (eqS_any _ _ _ _ _ _ s s _ (OwnS.sl (by assumption)) (OwnS.sl (by assumption))).mono ?_; rintro e w7 ⟨rfl, hb7⟩; have xA_7 := xA_6.below hb7; have xX_7 := xX_6.below hb7; obtain ⟨cA_7, fA_7, zA_7⟩ := xA_7.out; obtain ⟨cX_7, fX_7, zX_7⟩ := xX_7.out))
  all_goals go_wp2
  all_goals go_ret
  all_goals exact ⟨rfl, bl_call (bl_call (bl_drew B5) hb6) hb7⟩
set_option maxRecDepth 100000 in
theorem fnExactValidSource_lifted (os : Os) (started : os.Started) (H : Type) (enc : TypeId × Value → H) :
    ReturnsInHanded {} Try.checked os 7 .any (Rows.fnExactValidSourceSpec.pre6 enc Try.prog Try.f7 Rows.fnExactValidSourceRow.domain false) (Rows.fnExactValidSourceSpec.post enc Try.prog Try.f7 false true false false) := by
  refine returnsInHanded_of_change (C := Try.checked) own started (by kernel_rfl) Try.func7
    (ChangeSpec.witness6 (enc := enc) (C := Try.checked) false ⟨#[], #[.agg #[.slice none 0 0, .slice none 0 0, .slice none 0 0]], []⟩ 8 (by kernel_rfl) (by kernel_rfl) (by kernel_rfl) (by kernel_rfl)) ?_
  intro W base args ds gs before hval0 hW hcnd _
  have hval : ∀ (j : Nat) t v, Try.f7.params[j]? = some t → args[j]? = some v → Value.okWide Try.prog W .any base t v := hval0
  have hW' := hW
  obtain ⟨p, q, hA0, hV, rfl, hfz, hnd⟩ := hW
  have hA : DataW.TrodAll enc Try.prog W 0 (fun _ => true) true Try.f7.params.toList args.toList ds p := hA0
  rw [Try.params7] at hA hval
  obtain ⟨v0, vs0, d0, ds0, p0, q0, hargs, rfl, rfl, h0, r0⟩ := trodAll_cons hA
  obtain ⟨rfl, rfl, rfl⟩ := trodAll_nil r0
  obtain rfl : args = #[v0] := by cases args; simp_all
  obtain ⟨rfl, rfl⟩ := trodVars_none hV
  have k0 := h0
  have lt0 : ∀ x ∈ p0, x.block < W.heap.size := by obtain ⟨m, hm⟩ := k0; exact DataW.trod_lt m _ _ _ hm
  obtain ⟨a0, b0, c0, s0, rfl, S0⟩ := src_of_trod (hval 0 29 v0 rfl rfl) h0
  clear hA0 hval0
  refine (lawValid a0 b0 c0 s0 W S0).mono fun e W' ⟨he, bel⟩ => ?_
  subst he
  exact ⟨_, rfl, _, _, _, [], _, [], hW', trodAll_mk1 (shut_bool Try.underlying4 _), (trodAll_cons_mk (Below.trod laidOut (by kernel_rfl) (of_decide_eq_true (by kernel_rfl)) k0 bel lt0) trodAll_mk0), rfl, bel.frame _, fun h => by cases h⟩

/-- THE STATEMENT. -/
theorem fnExactValidSource_holds : Rows.FnExactValidSourceSaid :=
  OpenClaim.holds_of_wide 7 Try.f7 rfl rfl rfl rfl rfl rfl rfl ⟨rfl, rfl, rfl, rfl, rfl⟩ rfl rfl rfl rfl rfl (by kernel_rfl) Try.func7 (by kernel_rfl)
    (of_decide_eq_true (by kernel_rfl)) (by unfold Func.isWrapper; first | (rw [if_pos (by decide +kernel)]; kernel_rfl) | (rw [if_neg (by decide +kernel)]; exact ⟨rfl, rfl⟩))
    (fun os started H enc _ => fnExactValidSource_lifted os started H enc)
#print axioms fnExactValidSource_holds

end Go.Proofs.Ytggpldbihndgmaa
