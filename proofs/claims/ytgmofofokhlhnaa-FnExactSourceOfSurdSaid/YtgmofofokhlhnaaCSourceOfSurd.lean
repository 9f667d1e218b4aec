/- FnExactSourceOfSurd holds: for all surds the program's SourceOfSurd returns what the reference's returns. Conditions: none. -/
import Derived.Test.YtgmofofokhlhnaaOpenS
import Derived.Test.YtgmofofokhlhnaaSurdX
import Derived.Test.YtgmofofokhlhnaaSurdK
import Derived.Test.YtgmofofokhlhnaaOpenU
import Derived.Test.YtgmofofokhlhnaaOpenSrc
namespace Go.Proofs.Ytgmofofokhlhnaa
open Go.RowKit Go.ChangeShapes Go.WideShapes Go.ChangeAt
set_option linter.unusedVariables false
set_option linter.unusedSimpArgs false

set_option maxHeartbeats 1600000 in
set_option maxRecDepth 100000 in
theorem lawExactSourceOfSurd (n0 e0 f0 : Int) (w : World) (S0 : R64 n0) (U0 : R64 e0) (X0 : R64 f0) :
    Calls Try.prog 9 #[.agg #[.int .i64 n0, .int .i64 e0, .int .i64 f0]] w fun e w' => e = .returned (.bool true) ∧ Bl w w' := by
  go_enter Try.func9, Try.ntmps9
  go_wp2_with fail
  refine (toSu_any (n0) (e0) (f0) _).mono ?_
  rintro e w1 ⟨rfl, hb1⟩
  have B1 : Bl w w1 := bl_call (bl_alloc (bl_refl _) _) hb1
  have xb0_1 : Bx w1 (w.heap.size) #[.int .i64 (n0), .int .i64 (e0), .int .i64 (f0)] := (Bx.new (b := w.heap.size) _ #[.int .i64 (n0), .int .i64 (e0), .int .i64 (f0)] 80 (by first | rfl | simp)).below hb1
  have zz1 : w.heap.size + 1 ≤ w1.heap.size := (by have := hb1.size; first | omega | (simp at this; omega))
  obtain ⟨cb0_1, fb0_1, zb0_1⟩ := xb0_1.out
  go_wp2_with fail
  refine (spec_SourceOfSurd (n0) (e0) (f0) _ ).mono ?_
  rintro e w2 ⟨h2_0, p2_0, g2_0, rfl, o2_0, hb2⟩
  obtain ⟨⟨a2_00, n2_00, c2_00, rfl⟩, ⟨a2_01, n2_01, c2_01, rfl⟩, ⟨a2_02, n2_02, c2_02, rfl⟩⟩ := o2_0.shape
  have B2 : Bl w w2 := bl_call B1 hb2
  have xb0_2 : Bx w2 (w.heap.size) #[.int .i64 (n0), .int .i64 (e0), .int .i64 (f0)] := xb0_1.below hb2
  have zz2 : w1.heap.size ≤ w2.heap.size := (by have := hb2.size; first | omega | (simp at this; omega))
  clear cb0_1 fb0_1 zb0_1
  obtain ⟨cb0_2, fb0_2, zb0_2⟩ := xb0_2.out
  have R2_0 : ∀ k, blks (.slice a2_00 n2_00 c2_00) (.slice a2_01 n2_01 c2_01) (.slice a2_02 n2_02 c2_02) k → w1.heap.size ≤ k ∧ k < w2.heap.size := fun k hk => (by have := o2_0.blk k hk; first | omega | (simp at this; omega))
  have R2_0 := Lib.hid R2_0
  have m2_0 := o2_0.mono (B1).size
  clear o2_0
  go_wp2_with fail
  refine (toSu_any (n0) (e0) (f0) _).mono ?_
  rintro e w3 ⟨rfl, hb3⟩
  have B3 : Bl w w3 := bl_call (bl_alloc B2 _) hb3
  have xb0_3 : Bx w3 (w.heap.size) #[.int .i64 (n0), .int .i64 (e0), .int .i64 (f0)] := (xb0_2.alloc _).below hb3
  have xb1_3 : Bx w3 (w2.heap.size) #[(.slice a2_00 n2_00 c2_00), (.slice a2_01 n2_01 c2_01), (.slice a2_02 n2_02 c2_02)] := (Bx.new (b := w2.heap.size) _ #[(.slice a2_00 n2_00 c2_00), (.slice a2_01 n2_01 c2_01), (.slice a2_02 n2_02 c2_02)] 26 (by first | rfl | simp)).below hb3
  have o2_0_3 := (m2_0.alloc _).below hb3
  have zz3 : w2.heap.size + 1 ≤ w3.heap.size := (by have := hb3.size; first | omega | (simp at this; omega))
  clear cb0_2 fb0_2 zb0_2
  obtain ⟨cb0_3, fb0_3, zb0_3⟩ := xb0_3.out
  obtain ⟨cb1_3, fb1_3, zb1_3⟩ := xb1_3.out
  go_wp2_with fail
  refine (impl_SourceOfSurd (n0) (e0) (f0) _ ).mono ?_
  rintro e w4 ⟨h4_0, p4_0, g4_0, rfl, o4_0, hb4⟩
  obtain ⟨⟨a4_00, n4_00, c4_00, rfl⟩, ⟨a4_01, n4_01, c4_01, rfl⟩, ⟨a4_02, n4_02, c4_02, rfl⟩⟩ := o4_0.shape
  have B4 : Bl w w4 := bl_call B3 hb4
  have xb0_4 : Bx w4 (w.heap.size) #[.int .i64 (n0), .int .i64 (e0), .int .i64 (f0)] := xb0_3.below hb4
  have xb1_4 : Bx w4 (w2.heap.size) #[(.slice a2_00 n2_00 c2_00), (.slice a2_01 n2_01 c2_01), (.slice a2_02 n2_02 c2_02)] := xb1_3.below hb4
  have o2_0_4 := o2_0_3.below hb4
  have zz4 : w3.heap.size ≤ w4.heap.size := (by have := hb4.size; first | omega | (simp at this; omega))
  clear cb0_3 fb0_3 zb0_3 cb1_3 fb1_3 zb1_3
  obtain ⟨cb0_4, fb0_4, zb0_4⟩ := xb0_4.out
  obtain ⟨cb1_4, fb1_4, zb1_4⟩ := xb1_4.out
  have R4_0 : ∀ k, blks (.slice a4_00 n4_00 c4_00) (.slice a4_01 n4_01 c4_01) (.slice a4_02 n4_02 c4_02) k → w3.heap.size ≤ k ∧ k < w4.heap.size := fun k hk => (by have := o4_0.blk k hk; first | omega | (simp at this; omega))
  have R4_0 := Lib.hid R4_0
  have m4_0 := o4_0.mono (B3).size
  clear o4_0
  go_wp2_with fail
  refine (eqS_any _ _ _ _ _ _ ((surdF (n0) (e0) (f0)).1) ((surdF (n0) (e0) (f0)).1) _ (m4_0.alloc _).sl (o2_0_4.alloc _).sl).mono ?_
  rintro e w5 ⟨rfl, hb5⟩
  have B5 : Bl w w5 := bl_call (bl_alloc B4 _) hb5
  have xb0_5 : Bx w5 (w.heap.size) #[.int .i64 (n0), .int .i64 (e0), .int .i64 (f0)] := (xb0_4.alloc _).below hb5
  have xb1_5 : Bx w5 (w2.heap.size) #[(.slice a2_00 n2_00 c2_00), (.slice a2_01 n2_01 c2_01), (.slice a2_02 n2_02 c2_02)] := (xb1_4.alloc _).below hb5
  have xb2_5 : Bx w5 (w4.heap.size) #[(.slice a4_00 n4_00 c4_00), (.slice a4_01 n4_01 c4_01), (.slice a4_02 n4_02 c4_02)] := (Bx.new (b := w4.heap.size) _ #[(.slice a4_00 n4_00 c4_00), (.slice a4_01 n4_01 c4_01), (.slice a4_02 n4_02 c4_02)] 26 (by first | rfl | simp)).below hb5
  have o2_0_5 := (o2_0_4.alloc _).below hb5
  have o4_0_5 := (m4_0.alloc _).below hb5
  have zz5 : w4.heap.size + 1 ≤ w5.heap.size := (by have := hb5.size; first | omega | (simp at this; omega))
  clear cb0_4 fb0_4 zb0_4 cb1_4 fb1_4 zb1_4
  obtain ⟨cb0_5, fb0_5, zb0_5⟩ := xb0_5.out
  obtain ⟨cb1_5, fb1_5, zb1_5⟩ := xb1_5.out
  obtain ⟨cb2_5, fb2_5, zb2_5⟩ := xb2_5.out
  go_wp2_with fail
  refine (markS_any _ _ _ ((surdF (n0) (e0) (f0)).1) (1) w.heap.size _ o4_0_5 (by omega) (by have := (surdF_len (n0) (e0) (f0)); omega)).mono ?_
  rintro e w6 ⟨rfl, on6, O6⟩
  have zz6 : w5.heap.size ≤ w6.heap.size := (by have := O6.size; first | omega | (simp at this; omega))
  have B6 : Bl w w6 := Below.only B5 O6 (B5).size (fun k hk => by have := R4_0.out k hk; omega)
  have xb0_6 : Bx w6 (w.heap.size) #[.int .i64 (n0), .int .i64 (e0), .int .i64 (f0)] := xb0_5.only O6 (fun q => by have := R4_0.out _ q; omega)
  have xb1_6 : Bx w6 (w2.heap.size) #[(.slice a2_00 n2_00 c2_00), (.slice a2_01 n2_01 c2_01), (.slice a2_02 n2_02 c2_02)] := xb1_5.only O6 (fun q => by have := R4_0.out _ q; omega)
  have xb2_6 : Bx w6 (w4.heap.size) #[(.slice a4_00 n4_00 c4_00), (.slice a4_01 n4_01 c4_01), (.slice a4_02 n4_02 c4_02)] := xb2_5.only O6 (fun q => by have := R4_0.out _ q; omega)
  have o2_0_6 := o2_0_5.only2 O6 (fun k q q' => by have := R2_0.out k q; have := R4_0.out k q'; omega)
  clear cb0_5 fb0_5 zb0_5 cb1_5 fb1_5 zb1_5 cb2_5 fb2_5 zb2_5
  obtain ⟨cb0_6, fb0_6, zb0_6⟩ := xb0_6.out
  obtain ⟨cb1_6, fb1_6, zb1_6⟩ := xb1_6.out
  obtain ⟨cb2_6, fb2_6, zb2_6⟩ := xb2_6.out
  go_wp2_with fail
  refine (heldS_yes _ _ _ (((surdF (n0) (e0) (f0)).1).H.length) (((surdF (n0) (e0) (f0)).1).P.length) (((surdF (n0) (e0) (f0)).1).G.length) (1) _ on6.sl (by omega) (by have := (surdF_len (n0) (e0) (f0)); omega)).mono ?_
  rintro e w7 ⟨rfl, hb7⟩
  have B7 : Bl w w7 := bl_call B6 hb7
  have xb0_7 : Bx w7 (w.heap.size) #[.int .i64 (n0), .int .i64 (e0), .int .i64 (f0)] := xb0_6.below hb7
  have xb1_7 : Bx w7 (w2.heap.size) #[(.slice a2_00 n2_00 c2_00), (.slice a2_01 n2_01 c2_01), (.slice a2_02 n2_02 c2_02)] := xb1_6.below hb7
  have xb2_7 : Bx w7 (w4.heap.size) #[(.slice a4_00 n4_00 c4_00), (.slice a4_01 n4_01 c4_01), (.slice a4_02 n4_02 c4_02)] := xb2_6.below hb7
  have o2_0_7 := o2_0_6.below hb7
  have o4_0_7 := on6.below hb7
  have zz7 : w6.heap.size ≤ w7.heap.size := (by have := hb7.size; first | omega | (simp at this; omega))
  clear cb0_6 fb0_6 zb0_6 cb1_6 fb1_6 zb1_6 cb2_6 fb2_6 zb2_6
  obtain ⟨cb0_7, fb0_7, zb0_7⟩ := xb0_7.out
  obtain ⟨cb1_7, fb1_7, zb1_7⟩ := xb1_7.out
  obtain ⟨cb2_7, fb2_7, zb2_7⟩ := xb2_7.out
  go_wp2_with fail
  refine (toSu_any (n0) (e0) (f0) _).mono ?_
  rintro e w8 ⟨rfl, hb8⟩
  have B8 : Bl w w8 := bl_call B7 hb8
  have xb0_8 : Bx w8 (w.heap.size) #[.int .i64 (n0), .int .i64 (e0), .int .i64 (f0)] := xb0_7.below hb8
  have xb1_8 : Bx w8 (w2.heap.size) #[(.slice a2_00 n2_00 c2_00), (.slice a2_01 n2_01 c2_01), (.slice a2_02 n2_02 c2_02)] := xb1_7.below hb8
  have xb2_8 : Bx w8 (w4.heap.size) #[(.slice a4_00 n4_00 c4_00), (.slice a4_01 n4_01 c4_01), (.slice a4_02 n4_02 c4_02)] := xb2_7.below hb8
  have o2_0_8 := o2_0_7.below hb8
  have o4_0_8 := o4_0_7.below hb8
  have zz8 : w7.heap.size ≤ w8.heap.size := (by have := hb8.size; first | omega | (simp at this; omega))
  clear cb0_7 fb0_7 zb0_7 cb1_7 fb1_7 zb1_7 cb2_7 fb2_7 zb2_7
  obtain ⟨cb0_8, fb0_8, zb0_8⟩ := xb0_8.out
  obtain ⟨cb1_8, fb1_8, zb1_8⟩ := xb1_8.out
  obtain ⟨cb2_8, fb2_8, zb2_8⟩ := xb2_8.out
  go_wp2_with fail
  refine (impl_SourceOfSurd (n0) (e0) (f0) _ ).mono ?_
  rintro e w9 ⟨h9_0, p9_0, g9_0, rfl, o9_0, hb9⟩
  obtain ⟨⟨a9_00, n9_00, c9_00, rfl⟩, ⟨a9_01, n9_01, c9_01, rfl⟩, ⟨a9_02, n9_02, c9_02, rfl⟩⟩ := o9_0.shape
  have B9 : Bl w w9 := bl_call B8 hb9
  have xb0_9 : Bx w9 (w.heap.size) #[.int .i64 (n0), .int .i64 (e0), .int .i64 (f0)] := xb0_8.below hb9
  have xb1_9 : Bx w9 (w2.heap.size) #[(.slice a2_00 n2_00 c2_00), (.slice a2_01 n2_01 c2_01), (.slice a2_02 n2_02 c2_02)] := xb1_8.below hb9
  have xb2_9 : Bx w9 (w4.heap.size) #[(.slice a4_00 n4_00 c4_00), (.slice a4_01 n4_01 c4_01), (.slice a4_02 n4_02 c4_02)] := xb2_8.below hb9
  have o2_0_9 := o2_0_8.below hb9
  have o4_0_9 := o4_0_8.below hb9
  have zz9 : w8.heap.size ≤ w9.heap.size := (by have := hb9.size; first | omega | (simp at this; omega))
  clear cb0_8 fb0_8 zb0_8 cb1_8 fb1_8 zb1_8 cb2_8 fb2_8 zb2_8
  obtain ⟨cb0_9, fb0_9, zb0_9⟩ := xb0_9.out
  obtain ⟨cb1_9, fb1_9, zb1_9⟩ := xb1_9.out
  obtain ⟨cb2_9, fb2_9, zb2_9⟩ := xb2_9.out
  have R9_0 : ∀ k, blks (.slice a9_00 n9_00 c9_00) (.slice a9_01 n9_01 c9_01) (.slice a9_02 n9_02 c9_02) k → w8.heap.size ≤ k ∧ k < w9.heap.size := fun k hk => (by have := o9_0.blk k hk; first | omega | (simp at this; omega))
  have R9_0 := Lib.hid R9_0
  have m9_0 := o9_0.mono (B8).size
  clear o9_0
  go_wp2_with fail
  refine (eqS_any _ _ _ _ _ _ ((surdF (n0) (e0) (f0)).1) ((surdF (n0) (e0) (f0)).1) _ (m9_0.alloc _).sl (o2_0_9.alloc _).sl).mono ?_
  rintro e w10 ⟨rfl, hb10⟩
  have B10 : Bl w w10 := bl_call (bl_alloc B9 _) hb10
  have xb0_10 : Bx w10 (w.heap.size) #[.int .i64 (n0), .int .i64 (e0), .int .i64 (f0)] := (xb0_9.alloc _).below hb10
  have xb1_10 : Bx w10 (w2.heap.size) #[(.slice a2_00 n2_00 c2_00), (.slice a2_01 n2_01 c2_01), (.slice a2_02 n2_02 c2_02)] := (xb1_9.alloc _).below hb10
  have xb2_10 : Bx w10 (w4.heap.size) #[(.slice a4_00 n4_00 c4_00), (.slice a4_01 n4_01 c4_01), (.slice a4_02 n4_02 c4_02)] := (xb2_9.alloc _).below hb10
  have xb3_10 : Bx w10 (w9.heap.size) #[(.slice a9_00 n9_00 c9_00), (.slice a9_01 n9_01 c9_01), (.slice a9_02 n9_02 c9_02)] := (Bx.new (b := w9.heap.size) _ #[(.slice a9_00 n9_00 c9_00), (.slice a9_01 n9_01 c9_01), (.slice a9_02 n9_02 c9_02)] 26 (by first | rfl | simp)).below hb10
  have o2_0_10 := (o2_0_9.alloc _).below hb10
  have o4_0_10 := (o4_0_9.alloc _).below hb10
  have o9_0_10 := (m9_0.alloc _).below hb10
  have zz10 : w9.heap.size + 1 ≤ w10.heap.size := (by have := hb10.size; first | omega | (simp at this; omega))
  clear cb0_9 fb0_9 zb0_9 cb1_9 fb1_9 zb1_9 cb2_9 fb2_9 zb2_9
  obtain ⟨cb0_10, fb0_10, zb0_10⟩ := xb0_10.out
  obtain ⟨cb1_10, fb1_10, zb1_10⟩ := xb1_10.out
  obtain ⟨cb2_10, fb2_10, zb2_10⟩ := xb2_10.out
  obtain ⟨cb3_10, fb3_10, zb3_10⟩ := xb3_10.out
  go_wp2_with fail
  refine (heldS_yes _ _ _ (((surdF (n0) (e0) (f0)).1).H.length) (((surdF (n0) (e0) (f0)).1).P.length) (((surdF (n0) (e0) (f0)).1).G.length) (1) _ o4_0_10.sl (by omega) (by have := (surdF_len (n0) (e0) (f0)); omega)).mono ?_
  rintro e w11 ⟨rfl, hb11⟩
  have B11 : Bl w w11 := bl_call B10 hb11
  have xb0_11 : Bx w11 (w.heap.size) #[.int .i64 (n0), .int .i64 (e0), .int .i64 (f0)] := xb0_10.below hb11
  have xb1_11 : Bx w11 (w2.heap.size) #[(.slice a2_00 n2_00 c2_00), (.slice a2_01 n2_01 c2_01), (.slice a2_02 n2_02 c2_02)] := xb1_10.below hb11
  have xb2_11 : Bx w11 (w4.heap.size) #[(.slice a4_00 n4_00 c4_00), (.slice a4_01 n4_01 c4_01), (.slice a4_02 n4_02 c4_02)] := xb2_10.below hb11
  have xb3_11 : Bx w11 (w9.heap.size) #[(.slice a9_00 n9_00 c9_00), (.slice a9_01 n9_01 c9_01), (.slice a9_02 n9_02 c9_02)] := xb3_10.below hb11
  have o2_0_11 := o2_0_10.below hb11
  have o4_0_11 := o4_0_10.below hb11
  have o9_0_11 := o9_0_10.below hb11
  have zz11 : w10.heap.size ≤ w11.heap.size := (by have := hb11.size; first | omega | (simp at this; omega))
  clear cb0_10 fb0_10 zb0_10 cb1_10 fb1_10 zb1_10 cb2_10 fb2_10 zb2_10 cb3_10 fb3_10 zb3_10
  obtain ⟨cb0_11, fb0_11, zb0_11⟩ := xb0_11.out
  obtain ⟨cb1_11, fb1_11, zb1_11⟩ := xb1_11.out
  obtain ⟨cb2_11, fb2_11, zb2_11⟩ := xb2_11.out
  obtain ⟨cb3_11, fb3_11, zb3_11⟩ := xb3_11.out
  go_wp2
  go_ret
  exact ⟨rfl, B11⟩

set_option maxRecDepth 100000 in
theorem fnExactSourceOfSurd_lifted (os : Os) (started : os.Started) (H : Type) (enc : TypeId × Value → H) :
    ReturnsInHanded {} Try.checked os 9 .any (Rows.fnExactSourceOfSurdSpec.pre6 enc Try.prog Try.f9 Rows.fnExactSourceOfSurdRow.domain false) (Rows.fnExactSourceOfSurdSpec.post enc Try.prog Try.f9 false true false false) := by
  refine returnsInHanded_of_change (C := Try.checked) own started (by kernel_rfl) Try.func9
    (ChangeSpec.witness6 (enc := enc) (C := Try.checked) false ⟨#[], #[.agg #[.int .i64 0, .int .i64 0, .int .i64 0]], []⟩ 8 (by kernel_rfl) (by kernel_rfl) (by kernel_rfl) (by kernel_rfl)) ?_
  intro W base args ds gs before hval0 hW hcnd _
  have hval : ∀ (j : Nat) t v, Try.f9.params[j]? = some t → args[j]? = some v → Value.okWide Try.prog W .any base t v := hval0
  have hW' := hW
  obtain ⟨p, q, hA0, hV, rfl, hfz, hnd⟩ := hW
  have hA : DataW.TrodAll enc Try.prog W 0 (fun _ => true) true Try.f9.params.toList args.toList ds p := hA0
  rw [Try.params9] at hA hval
  obtain ⟨v0, vs0, d0, ds0, p0, q0, hargs, rfl, rfl, h0, r0⟩ := trodAll_cons hA
  obtain ⟨rfl, rfl, rfl⟩ := trodAll_nil r0
  obtain rfl : args = #[v0] := by cases args; simp_all
  obtain ⟨rfl, rfl⟩ := trodVars_none hV
  have k0 := h0
  have lt0 : ∀ x ∈ p0, x.block < W.heap.size := by obtain ⟨m, hm⟩ := k0; exact DataW.trod_lt m _ _ _ hm
  obtain ⟨n0, e0, f0, rfl, S0, U0, X0⟩ := surd_of_trod (hval 0 80 v0 rfl rfl) h0
  clear hA0 hval0
  refine (lawExactSourceOfSurd n0 e0 f0 W S0 U0 X0).mono fun e W' ⟨he, bel⟩ => ?_
  subst he
  exact ⟨_, rfl, _, _, _, [], _, [], hW', trodAll_mk1 (shut_bool Try.underlying4 _), (trodAll_cons_mk (Below.trod laidOut (by kernel_rfl) (of_decide_eq_true (by kernel_rfl)) k0 bel lt0) trodAll_mk0), rfl, bel.frame _, fun h => by cases h⟩

/-- THE STATEMENT. -/
theorem fnExactSourceOfSurd_holds : Rows.FnExactSourceOfSurdSaid :=
  OpenClaim.holds_of_wide 9 Try.f9 rfl rfl rfl rfl rfl rfl rfl ⟨rfl, rfl, rfl, rfl, rfl⟩ rfl rfl rfl rfl rfl (by kernel_rfl) Try.func9 (by kernel_rfl)
    (of_decide_eq_true (by kernel_rfl)) (by unfold Func.isWrapper; first | (rw [if_pos (by decide +kernel)]; kernel_rfl) | (rw [if_neg (by decide +kernel)]; exact ⟨rfl, rfl⟩))
    (fun os started H enc _ => fnExactSourceOfSurd_lifted os started H enc)
#print axioms fnExactSourceOfSurd_holds

end Go.Proofs.Ytgmofofokhlhnaa
