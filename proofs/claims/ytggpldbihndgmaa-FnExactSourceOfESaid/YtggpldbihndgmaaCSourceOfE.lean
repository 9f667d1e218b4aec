/- FnExactSourceOfE holds: the program's SourceOfE returns what the reference's returns, in new memory. Conditions: none. -/
import Derived.Test.YtggpldbihndgmaaOpen
import Derived.Test.YtggpldbihndgmaaSrcE
namespace Go.Proofs.Ytggpldbihndgmaa
open Go.RowKit Go.ChangeShapes Go.WideShapes Go.ChangeAt
set_option linter.unusedVariables false
set_option linter.unusedSimpArgs false

set_option maxHeartbeats 1600000 in
set_option maxRecDepth 100000 in
theorem lawExactSourceOfE  (w : World)  :
    Calls Try.prog 3 #[] w fun e w' => e = .returned (.bool true) ∧ Bl w w' := by
  go_enter Try.func3, Try.ntmps3
  go_wp2_with fail
  refine (specE_any  _ ).mono ?_
  rintro e w1 ⟨h1_0, p1_0, g1_0, rfl, o1_0, hb1⟩
  obtain ⟨⟨a1_00, n1_00, c1_00, rfl⟩, ⟨a1_01, n1_01, c1_01, rfl⟩, ⟨a1_02, n1_02, c1_02, rfl⟩⟩ := o1_0.shape
  have B1 : Bl w w1 := bl_call (bl_refl _) hb1
  have zz1 : w.heap.size ≤ w1.heap.size := (by have := hb1.size; first | omega | (simp at this; omega))
  have R1_0 : ∀ k, blks (.slice a1_00 n1_00 c1_00) (.slice a1_01 n1_01 c1_01) (.slice a1_02 n1_02 c1_02) k → w.heap.size ≤ k ∧ k < w1.heap.size := fun k hk => (by have := o1_0.blk k hk; first | omega | (simp at this; omega))
  have R1_0 := Lib.hid R1_0
  have m1_0 := o1_0.mono ((bl_refl _)).size
  clear o1_0
  go_wp2_with fail
  refine (implE_any  _ ).mono ?_
  rintro e w2 ⟨h2_0, p2_0, g2_0, rfl, o2_0, hb2⟩
  obtain ⟨⟨a2_00, n2_00, c2_00, rfl⟩, ⟨a2_01, n2_01, c2_01, rfl⟩, ⟨a2_02, n2_02, c2_02, rfl⟩⟩ := o2_0.shape
  have B2 : Bl w w2 := bl_call (bl_alloc B1 _) hb2
  have xb0_2 : Bx w2 (w1.heap.size) #[(.slice a1_00 n1_00 c1_00), (.slice a1_01 n1_01 c1_01), (.slice a1_02 n1_02 c1_02)] := (Bx.new (b := w1.heap.size) _ #[(.slice a1_00 n1_00 c1_00), (.slice a1_01 n1_01 c1_01), (.slice a1_02 n1_02 c1_02)] 24 (by first | rfl | simp)).below hb2
  have o1_0_2 := (m1_0.alloc _).below hb2
  have zz2 : w1.heap.size + 1 ≤ w2.heap.size := (by have := hb2.size; first | omega | (simp at this; omega))
  obtain ⟨cb0_2, fb0_2, zb0_2⟩ := xb0_2.out
  have R2_0 : ∀ k, blks (.slice a2_00 n2_00 c2_00) (.slice a2_01 n2_01 c2_01) (.slice a2_02 n2_02 c2_02) k → w1.heap.size + 1 ≤ k ∧ k < w2.heap.size := fun k hk => (by have := o2_0.blk k hk; first | omega | (simp at this; omega))
  have R2_0 := Lib.hid R2_0
  have m2_0 := o2_0.mono ((bl_alloc B1 _)).size
  clear o2_0
  go_wp2_with fail
  refine (eqS_any _ _ _ _ _ _ (srcE) (srcE) _ (m2_0.alloc _).sl (o1_0_2.alloc _).sl).mono ?_
  rintro e w3 ⟨rfl, hb3⟩
  have B3 : Bl w w3 := bl_call (bl_alloc B2 _) hb3
  have xb0_3 : Bx w3 (w1.heap.size) #[(.slice a1_00 n1_00 c1_00), (.slice a1_01 n1_01 c1_01), (.slice a1_02 n1_02 c1_02)] := (xb0_2.alloc _).below hb3
  have xb1_3 : Bx w3 (w2.heap.size) #[(.slice a2_00 n2_00 c2_00), (.slice a2_01 n2_01 c2_01), (.slice a2_02 n2_02 c2_02)] := (Bx.new (b := w2.heap.size) _ #[(.slice a2_00 n2_00 c2_00), (.slice a2_01 n2_01 c2_01), (.slice a2_02 n2_02 c2_02)] 24 (by first | rfl | simp)).below hb3
  have o1_0_3 := (o1_0_2.alloc _).below hb3
  have o2_0_3 := (m2_0.alloc _).below hb3
  have zz3 : w2.heap.size + 1 ≤ w3.heap.size := (by have := hb3.size; first | omega | (simp at this; omega))
  clear cb0_2 fb0_2 zb0_2
  obtain ⟨cb0_3, fb0_3, zb0_3⟩ := xb0_3.out
  obtain ⟨cb1_3, fb1_3, zb1_3⟩ := xb1_3.out
  go_wp2_with fail
  refine (markS_any _ _ _ (srcE) (1) w.heap.size _ o2_0_3 (by omega) (by have := srcE_len; omega)).mono ?_
  rintro e w4 ⟨rfl, on4, O4⟩
  have zz4 : w3.heap.size ≤ w4.heap.size := (by have := O4.size; first | omega | (simp at this; omega))
  have B4 : Bl w w4 := Below.only B3 O4 (B3).size (fun k hk => by have := R2_0.out k hk; omega)
  have xb0_4 : Bx w4 (w1.heap.size) #[(.slice a1_00 n1_00 c1_00), (.slice a1_01 n1_01 c1_01), (.slice a1_02 n1_02 c1_02)] := xb0_3.only O4 (fun q => by have := R2_0.out _ q; omega)
  have xb1_4 : Bx w4 (w2.heap.size) #[(.slice a2_00 n2_00 c2_00), (.slice a2_01 n2_01 c2_01), (.slice a2_02 n2_02 c2_02)] := xb1_3.only O4 (fun q => by have := R2_0.out _ q; omega)
  have o1_0_4 := o1_0_3.only2 O4 (fun k q q' => by have := R1_0.out k q; have := R2_0.out k q'; omega)
  clear cb0_3 fb0_3 zb0_3 cb1_3 fb1_3 zb1_3
  obtain ⟨cb0_4, fb0_4, zb0_4⟩ := xb0_4.out
  obtain ⟨cb1_4, fb1_4, zb1_4⟩ := xb1_4.out
  go_wp2_with fail
  refine (heldS_yes _ _ _ ((srcE).H.length) ((srcE).P.length) ((srcE).G.length) (1) _ on4.sl (by omega) (by have := srcE_len; omega)).mono ?_
  rintro e w5 ⟨rfl, hb5⟩
  have B5 : Bl w w5 := bl_call B4 hb5
  have xb0_5 : Bx w5 (w1.heap.size) #[(.slice a1_00 n1_00 c1_00), (.slice a1_01 n1_01 c1_01), (.slice a1_02 n1_02 c1_02)] := xb0_4.below hb5
  have xb1_5 : Bx w5 (w2.heap.size) #[(.slice a2_00 n2_00 c2_00), (.slice a2_01 n2_01 c2_01), (.slice a2_02 n2_02 c2_02)] := xb1_4.below hb5
  have o1_0_5 := o1_0_4.below hb5
  have o2_0_5 := on4.below hb5
  have zz5 : w4.heap.size ≤ w5.heap.size := (by have := hb5.size; first | omega | (simp at this; omega))
  clear cb0_4 fb0_4 zb0_4 cb1_4 fb1_4 zb1_4
  obtain ⟨cb0_5, fb0_5, zb0_5⟩ := xb0_5.out
  obtain ⟨cb1_5, fb1_5, zb1_5⟩ := xb1_5.out
  go_wp2_with fail
  refine (implE_any  _ ).mono ?_
  rintro e w6 ⟨h6_0, p6_0, g6_0, rfl, o6_0, hb6⟩
  obtain ⟨⟨a6_00, n6_00, c6_00, rfl⟩, ⟨a6_01, n6_01, c6_01, rfl⟩, ⟨a6_02, n6_02, c6_02, rfl⟩⟩ := o6_0.shape
  have B6 : Bl w w6 := bl_call B5 hb6
  have xb0_6 : Bx w6 (w1.heap.size) #[(.slice a1_00 n1_00 c1_00), (.slice a1_01 n1_01 c1_01), (.slice a1_02 n1_02 c1_02)] := xb0_5.below hb6
  have xb1_6 : Bx w6 (w2.heap.size) #[(.slice a2_00 n2_00 c2_00), (.slice a2_01 n2_01 c2_01), (.slice a2_02 n2_02 c2_02)] := xb1_5.below hb6
  have o1_0_6 := o1_0_5.below hb6
  have o2_0_6 := o2_0_5.below hb6
  have zz6 : w5.heap.size ≤ w6.heap.size := (by have := hb6.size; first | omega | (simp at this; omega))
  clear cb0_5 fb0_5 zb0_5 cb1_5 fb1_5 zb1_5
  obtain ⟨cb0_6, fb0_6, zb0_6⟩ := xb0_6.out
  obtain ⟨cb1_6, fb1_6, zb1_6⟩ := xb1_6.out
  have R6_0 : ∀ k, blks (.slice a6_00 n6_00 c6_00) (.slice a6_01 n6_01 c6_01) (.slice a6_02 n6_02 c6_02) k → w5.heap.size ≤ k ∧ k < w6.heap.size := fun k hk => (by have := o6_0.blk k hk; first | omega | (simp at this; omega))
  have R6_0 := Lib.hid R6_0
  have m6_0 := o6_0.mono (B5).size
  clear o6_0
  go_wp2_with fail
  refine (eqS_any _ _ _ _ _ _ (srcE) (srcE) _ (m6_0.alloc _).sl (o1_0_6.alloc _).sl).mono ?_
  rintro e w7 ⟨rfl, hb7⟩
  have B7 : Bl w w7 := bl_call (bl_alloc B6 _) hb7
  have xb0_7 : Bx w7 (w1.heap.size) #[(.slice a1_00 n1_00 c1_00), (.slice a1_01 n1_01 c1_01), (.slice a1_02 n1_02 c1_02)] := (xb0_6.alloc _).below hb7
  have xb1_7 : Bx w7 (w2.heap.size) #[(.slice a2_00 n2_00 c2_00), (.slice a2_01 n2_01 c2_01), (.slice a2_02 n2_02 c2_02)] := (xb1_6.alloc _).below hb7
  have xb2_7 : Bx w7 (w6.heap.size) #[(.slice a6_00 n6_00 c6_00), (.slice a6_01 n6_01 c6_01), (.slice a6_02 n6_02 c6_02)] := (Bx.new (b := w6.heap.size) _ #[(.slice a6_00 n6_00 c6_00), (.slice a6_01 n6_01 c6_01), (.slice a6_02 n6_02 c6_02)] 24 (by first | rfl | simp)).below hb7
  have o1_0_7 := (o1_0_6.alloc _).below hb7
  have o2_0_7 := (o2_0_6.alloc _).below hb7
  have o6_0_7 := (m6_0.alloc _).below hb7
  have zz7 : w6.heap.size + 1 ≤ w7.heap.size := (by have := hb7.size; first | omega | (simp at this; omega))
  clear cb0_6 fb0_6 zb0_6 cb1_6 fb1_6 zb1_6
  obtain ⟨cb0_7, fb0_7, zb0_7⟩ := xb0_7.out
  obtain ⟨cb1_7, fb1_7, zb1_7⟩ := xb1_7.out
  obtain ⟨cb2_7, fb2_7, zb2_7⟩ := xb2_7.out
  go_wp2_with fail
  refine (heldS_yes _ _ _ ((srcE).H.length) ((srcE).P.length) ((srcE).G.length) (1) _ o2_0_7.sl (by omega) (by have := srcE_len; omega)).mono ?_
  rintro e w8 ⟨rfl, hb8⟩
  have B8 : Bl w w8 := bl_call B7 hb8
  have xb0_8 : Bx w8 (w1.heap.size) #[(.slice a1_00 n1_00 c1_00), (.slice a1_01 n1_01 c1_01), (.slice a1_02 n1_02 c1_02)] := xb0_7.below hb8
  have xb1_8 : Bx w8 (w2.heap.size) #[(.slice a2_00 n2_00 c2_00), (.slice a2_01 n2_01 c2_01), (.slice a2_02 n2_02 c2_02)] := xb1_7.below hb8
  have xb2_8 : Bx w8 (w6.heap.size) #[(.slice a6_00 n6_00 c6_00), (.slice a6_01 n6_01 c6_01), (.slice a6_02 n6_02 c6_02)] := xb2_7.below hb8
  have o1_0_8 := o1_0_7.below hb8
  have o2_0_8 := o2_0_7.below hb8
  have o6_0_8 := o6_0_7.below hb8
  have zz8 : w7.heap.size ≤ w8.heap.size := (by have := hb8.size; first | omega | (simp at this; omega))
  clear cb0_7 fb0_7 zb0_7 cb1_7 fb1_7 zb1_7 cb2_7 fb2_7 zb2_7
  obtain ⟨cb0_8, fb0_8, zb0_8⟩ := xb0_8.out
  obtain ⟨cb1_8, fb1_8, zb1_8⟩ := xb1_8.out
  obtain ⟨cb2_8, fb2_8, zb2_8⟩ := xb2_8.out
  go_wp2
  go_ret
  exact ⟨rfl, B8⟩

set_option maxRecDepth 100000 in
theorem fnExactSourceOfE_lifted (os : Os) (started : os.Started) (H : Type) (enc : TypeId × Value → H) :
    ReturnsInHanded {} Try.checked os 3 .any (Rows.fnExactSourceOfESpec.pre6 enc Try.prog Try.f3 Rows.fnExactSourceOfERow.domain false) (Rows.fnExactSourceOfESpec.post enc Try.prog Try.f3 false true false false) := by
  refine returnsInHanded_of_change (C := Try.checked) own started (by kernel_rfl) Try.func3
    (ChangeSpec.witness6 (enc := enc) (C := Try.checked) false ⟨#[], #[], []⟩ 8 (by kernel_rfl) (by kernel_rfl) (by kernel_rfl) (by kernel_rfl)) ?_
  intro W base args ds gs before hval0 hW hcnd _
  have hval : ∀ (j : Nat) t v, Try.f3.params[j]? = some t → args[j]? = some v → Value.okWide Try.prog W .any base t v := hval0
  have hW' := hW
  obtain ⟨p, q, hA0, hV, rfl, hfz, hnd⟩ := hW
  have hA : DataW.TrodAll enc Try.prog W 0 (fun _ => true) true Try.f3.params.toList args.toList ds p := hA0
  rw [Try.params3] at hA hval
  obtain ⟨hargs, rfl, rfl⟩ := trodAll_nil hA
  obtain rfl : args = #[] := by cases args; simp_all
  obtain ⟨rfl, rfl⟩ := trodVars_none hV
  clear hA0 hval0
  refine (lawExactSourceOfE  W ).mono fun e W' ⟨he, bel⟩ => ?_
  subst he
  exact ⟨_, rfl, _, _, _, [], _, [], hW', trodAll_mk1 (shut_bool Try.underlying4 _), trodAll_mk0, rfl, bel.frame _, fun h => by cases h⟩

/-- THE STATEMENT. -/
theorem fnExactSourceOfE_holds : Rows.FnExactSourceOfESaid :=
  OpenClaim.holds_of_wide 3 Try.f3 rfl rfl rfl rfl rfl rfl rfl ⟨rfl, rfl, rfl, rfl, rfl⟩ rfl rfl rfl rfl rfl (by kernel_rfl) Try.func3 (by kernel_rfl)
    (of_decide_eq_true (by kernel_rfl)) (by unfold Func.isWrapper; first | (rw [if_pos (by decide +kernel)]; kernel_rfl) | (rw [if_neg (by decide +kernel)]; exact ⟨rfl, rfl⟩))
    (fun os started H enc _ => fnExactSourceOfE_lifted os started H enc)
#print axioms fnExactSourceOfE_holds

end Go.Proofs.Ytggpldbihndgmaa
