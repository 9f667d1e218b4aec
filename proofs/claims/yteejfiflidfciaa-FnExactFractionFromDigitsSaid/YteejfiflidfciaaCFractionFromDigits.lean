/- FnExactFractionFromDigits holds: for all bases, floors and digits the program's FractionFromDigits returns what the reference's returns. Conditions: none. -/
import Derived.Test.YteejfiflidfciaaOpenI
import Derived.Test.YteejfiflidfciaaFrDig
namespace Go.Proofs.Yteejfiflidfciaa
open Go.RowKit Go.ChangeShapes Go.WideShapes Go.ChangeAt
set_option linter.unusedVariables false
set_option linter.unusedSimpArgs false

set_option maxHeartbeats 1600000 in
set_option maxRecDepth 100000 in
theorem lawExactFractionFromDigits (x0 : Int) (x1 : Int) (v2 : Value) (y2 : List Int) (v3 : Value) (y3 : List Int) (w : World) (S0 : R64 x0) (S1 : R64 x1) (S2 : Sl w v2 y2) (S3 : Sl w v3 y3) :
    Calls Try.prog 14 #[.int .i64 x0, .int .i64 x1, v2, v3] w fun e w' => e = .returned (.bool true) ∧ Bl w w' := by
  have ll2 := S2.len
  obtain ⟨va2, vc2, rfl, _⟩ := S2.form
  have ll3 := S3.len
  obtain ⟨va3, vc3, rfl, _⟩ := S3.form
  by_cases hln2 : 1048576 < y2.length
  · go_enter Try.func14, Try.ntmps14
    go_wp2
    go_ret
    exact ⟨rfl, (bl_refl _)⟩
  have NL2 := Lib.hid (show y2.length ≤ 1048576 by omega)
  by_cases hln3 : 1048576 < y3.length
  · go_enter Try.func14, Try.ntmps14
    go_wp2
    go_ret
    exact ⟨rfl, (bl_refl _)⟩
  have NL3 := Lib.hid (show y3.length ≤ 1048576 by omega)
  go_enter Try.func14, Try.ntmps14
  go_wp2_with fail
  refine (toI_any _ (y2) _ (S2.below (bl_refl _)) (by have := NL2.out; omega)).mono ?_
  rintro e w1 ⟨a1_0, n1_0, c1_0, rfl, o1_0, hb1⟩
  have B1 : Bl w w1 := bl_call (bl_refl _) hb1
  have zz1 : w.heap.size ≤ w1.heap.size := (by have := hb1.size; first | omega | (simp at this; omega))
  have R1_0 : ∀ k, ((Value.slice a1_0 n1_0 c1_0)).ownBlock = some k → w.heap.size ≤ k ∧ k < w1.heap.size := fun k hk => (by have := o1_0.lt k hk; first | omega | (simp at this; omega))
  have R1_0 := Lib.hid R1_0
  have m1_0 := o1_0.mono ((bl_refl _)).size
  clear o1_0
  go_wp2_with fail
  refine (toI_any _ (y3) _ (S3.below B1) (by have := NL3.out; omega)).mono ?_
  rintro e w2 ⟨a2_0, n2_0, c2_0, rfl, o2_0, hb2⟩
  have B2 : Bl w w2 := bl_call B1 hb2
  have o1_0_2 := m1_0.below hb2
  have zz2 : w1.heap.size ≤ w2.heap.size := (by have := hb2.size; first | omega | (simp at this; omega))
  have R2_0 : ∀ k, ((Value.slice a2_0 n2_0 c2_0)).ownBlock = some k → w1.heap.size ≤ k ∧ k < w2.heap.size := fun k hk => (by have := o2_0.lt k hk; first | omega | (simp at this; omega))
  have R2_0 := Lib.hid R2_0
  have m2_0 := o2_0.mono (B1).size
  clear o2_0
  go_wp2_with fail
  refine (spec_FractionFromDigits (x0) (x1) _ (y2) _ (y3) _ o1_0_2.sl NL2.out m2_0.sl NL3.out).mono ?_
  rintro e w3 ⟨rfl, hb3⟩
  have B3 : Bl w w3 := bl_call B2 hb3
  have o1_0_3 := o1_0_2.below hb3
  have o2_0_3 := m2_0.below hb3
  have zz3 : w2.heap.size ≤ w3.heap.size := (by have := hb3.size; first | omega | (simp at this; omega))
  go_wp2_with fail
  refine (toI_any _ (y2) _ (S2.below (bl_alloc B3 _)) (by have := NL2.out; omega)).mono ?_
  rintro e w4 ⟨a4_0, n4_0, c4_0, rfl, o4_0, hb4⟩
  have B4 : Bl w w4 := bl_call (bl_alloc B3 _) hb4
  have xb0_4 : Bx w4 (w3.heap.size) #[.int .i64 ((frDigF (x0) (x1) (y2) (y3)).1.1), .int .i64 ((frDigF (x0) (x1) (y2) (y3)).1.2)] := (Bx.new (b := w3.heap.size) _ #[.int .i64 ((frDigF (x0) (x1) (y2) (y3)).1.1), .int .i64 ((frDigF (x0) (x1) (y2) (y3)).1.2)] 24 (by first | rfl | simp)).below hb4
  have o1_0_4 := (o1_0_3.alloc _).below hb4
  have o2_0_4 := (o2_0_3.alloc _).below hb4
  have zz4 : w3.heap.size + 1 ≤ w4.heap.size := (by have := hb4.size; first | omega | (simp at this; omega))
  obtain ⟨cb0_4, fb0_4, zb0_4⟩ := xb0_4.out
  have R4_0 : ∀ k, ((Value.slice a4_0 n4_0 c4_0)).ownBlock = some k → w3.heap.size + 1 ≤ k ∧ k < w4.heap.size := fun k hk => (by have := o4_0.lt k hk; first | omega | (simp at this; omega))
  have R4_0 := Lib.hid R4_0
  have m4_0 := o4_0.mono ((bl_alloc B3 _)).size
  clear o4_0
  go_wp2_with fail
  refine (toI_any _ (y3) _ (S3.below B4) (by have := NL3.out; omega)).mono ?_
  rintro e w5 ⟨a5_0, n5_0, c5_0, rfl, o5_0, hb5⟩
  have B5 : Bl w w5 := bl_call B4 hb5
  have xb0_5 : Bx w5 (w3.heap.size) #[.int .i64 ((frDigF (x0) (x1) (y2) (y3)).1.1), .int .i64 ((frDigF (x0) (x1) (y2) (y3)).1.2)] := xb0_4.below hb5
  have o1_0_5 := o1_0_4.below hb5
  have o2_0_5 := o2_0_4.below hb5
  have o4_0_5 := m4_0.below hb5
  have zz5 : w4.heap.size ≤ w5.heap.size := (by have := hb5.size; first | omega | (simp at this; omega))
  clear cb0_4 fb0_4 zb0_4
  obtain ⟨cb0_5, fb0_5, zb0_5⟩ := xb0_5.out
  have R5_0 : ∀ k, ((Value.slice a5_0 n5_0 c5_0)).ownBlock = some k → w4.heap.size ≤ k ∧ k < w5.heap.size := fun k hk => (by have := o5_0.lt k hk; first | omega | (simp at this; omega))
  have R5_0 := Lib.hid R5_0
  have m5_0 := o5_0.mono (B4).size
  clear o5_0
  go_wp2_with fail
  refine (impl_FractionFromDigits (x0) (x1) _ (y2) _ (y3) _ o4_0_5.sl NL2.out m5_0.sl NL3.out).mono ?_
  rintro e w6 ⟨rfl, hb6⟩
  have B6 : Bl w w6 := bl_call B5 hb6
  have xb0_6 : Bx w6 (w3.heap.size) #[.int .i64 ((frDigF (x0) (x1) (y2) (y3)).1.1), .int .i64 ((frDigF (x0) (x1) (y2) (y3)).1.2)] := xb0_5.below hb6
  have o1_0_6 := o1_0_5.below hb6
  have o2_0_6 := o2_0_5.below hb6
  have o4_0_6 := o4_0_5.below hb6
  have o5_0_6 := m5_0.below hb6
  have zz6 : w5.heap.size ≤ w6.heap.size := (by have := hb6.size; first | omega | (simp at this; omega))
  clear cb0_5 fb0_5 zb0_5
  obtain ⟨cb0_6, fb0_6, zb0_6⟩ := xb0_6.out
  go_wp2_with fail
  refine (eqF_any ((frDigF (x0) (x1) (y2) (y3)).1.1) ((frDigF (x0) (x1) (y2) (y3)).1.2) ((frDigF (x0) (x1) (y2) (y3)).1.1) ((frDigF (x0) (x1) (y2) (y3)).1.2) _).mono ?_
  rintro e w7 ⟨rfl, hb7⟩
  have B7 : Bl w w7 := bl_call (bl_alloc B6 _) hb7
  have xb0_7 : Bx w7 (w3.heap.size) #[.int .i64 ((frDigF (x0) (x1) (y2) (y3)).1.1), .int .i64 ((frDigF (x0) (x1) (y2) (y3)).1.2)] := (xb0_6.alloc _).below hb7
  have xb1_7 : Bx w7 (w6.heap.size) #[.int .i64 ((frDigF (x0) (x1) (y2) (y3)).1.1), .int .i64 ((frDigF (x0) (x1) (y2) (y3)).1.2)] := (Bx.new (b := w6.heap.size) _ #[.int .i64 ((frDigF (x0) (x1) (y2) (y3)).1.1), .int .i64 ((frDigF (x0) (x1) (y2) (y3)).1.2)] 24 (by first | rfl | simp)).below hb7
  have o1_0_7 := (o1_0_6.alloc _).below hb7
  have o2_0_7 := (o2_0_6.alloc _).below hb7
  have o4_0_7 := (o4_0_6.alloc _).below hb7
  have o5_0_7 := (o5_0_6.alloc _).below hb7
  have zz7 : w6.heap.size + 1 ≤ w7.heap.size := (by have := hb7.size; first | omega | (simp at this; omega))
  clear cb0_6 fb0_6 zb0_6
  obtain ⟨cb0_7, fb0_7, zb0_7⟩ := xb0_7.out
  obtain ⟨cb1_7, fb1_7, zb1_7⟩ := xb1_7.out
  go_wp2_with fail
  refine (toI_any _ (y2) _ (S2.below B7) (by have := NL2.out; omega)).mono ?_
  rintro e w8 ⟨a8_0, n8_0, c8_0, rfl, o8_0, hb8⟩
  have B8 : Bl w w8 := bl_call B7 hb8
  have xb0_8 : Bx w8 (w3.heap.size) #[.int .i64 ((frDigF (x0) (x1) (y2) (y3)).1.1), .int .i64 ((frDigF (x0) (x1) (y2) (y3)).1.2)] := xb0_7.below hb8
  have xb1_8 : Bx w8 (w6.heap.size) #[.int .i64 ((frDigF (x0) (x1) (y2) (y3)).1.1), .int .i64 ((frDigF (x0) (x1) (y2) (y3)).1.2)] := xb1_7.below hb8
  have o1_0_8 := o1_0_7.below hb8
  have o2_0_8 := o2_0_7.below hb8
  have o4_0_8 := o4_0_7.below hb8
  have o5_0_8 := o5_0_7.below hb8
  have zz8 : w7.heap.size ≤ w8.heap.size := (by have := hb8.size; first | omega | (simp at this; omega))
  clear cb0_7 fb0_7 zb0_7 cb1_7 fb1_7 zb1_7
  obtain ⟨cb0_8, fb0_8, zb0_8⟩ := xb0_8.out
  obtain ⟨cb1_8, fb1_8, zb1_8⟩ := xb1_8.out
  have R8_0 : ∀ k, ((Value.slice a8_0 n8_0 c8_0)).ownBlock = some k → w7.heap.size ≤ k ∧ k < w8.heap.size := fun k hk => (by have := o8_0.lt k hk; first | omega | (simp at this; omega))
  have R8_0 := Lib.hid R8_0
  have m8_0 := o8_0.mono (B7).size
  clear o8_0
  go_wp2_with fail
  refine (eqI_any _ _ (y2) (y2) _ o4_0_8.sl m8_0.sl).mono ?_
  rintro e w9 ⟨rfl, hb9⟩
  have B9 : Bl w w9 := bl_call B8 hb9
  have xb0_9 : Bx w9 (w3.heap.size) #[.int .i64 ((frDigF (x0) (x1) (y2) (y3)).1.1), .int .i64 ((frDigF (x0) (x1) (y2) (y3)).1.2)] := xb0_8.below hb9
  have xb1_9 : Bx w9 (w6.heap.size) #[.int .i64 ((frDigF (x0) (x1) (y2) (y3)).1.1), .int .i64 ((frDigF (x0) (x1) (y2) (y3)).1.2)] := xb1_8.below hb9
  have o1_0_9 := o1_0_8.below hb9
  have o2_0_9 := o2_0_8.below hb9
  have o4_0_9 := o4_0_8.below hb9
  have o5_0_9 := o5_0_8.below hb9
  have o8_0_9 := m8_0.below hb9
  have zz9 : w8.heap.size ≤ w9.heap.size := (by have := hb9.size; first | omega | (simp at this; omega))
  clear cb0_8 fb0_8 zb0_8 cb1_8 fb1_8 zb1_8
  obtain ⟨cb0_9, fb0_9, zb0_9⟩ := xb0_9.out
  obtain ⟨cb1_9, fb1_9, zb1_9⟩ := xb1_9.out
  go_wp2_with fail
  refine (toI_any _ (y3) _ (S3.below B9) (by have := NL3.out; omega)).mono ?_
  rintro e w10 ⟨a10_0, n10_0, c10_0, rfl, o10_0, hb10⟩
  have B10 : Bl w w10 := bl_call B9 hb10
  have xb0_10 : Bx w10 (w3.heap.size) #[.int .i64 ((frDigF (x0) (x1) (y2) (y3)).1.1), .int .i64 ((frDigF (x0) (x1) (y2) (y3)).1.2)] := xb0_9.below hb10
  have xb1_10 : Bx w10 (w6.heap.size) #[.int .i64 ((frDigF (x0) (x1) (y2) (y3)).1.1), .int .i64 ((frDigF (x0) (x1) (y2) (y3)).1.2)] := xb1_9.below hb10
  have o1_0_10 := o1_0_9.below hb10
  have o2_0_10 := o2_0_9.below hb10
  have o4_0_10 := o4_0_9.below hb10
  have o5_0_10 := o5_0_9.below hb10
  have o8_0_10 := o8_0_9.below hb10
  have zz10 : w9.heap.size ≤ w10.heap.size := (by have := hb10.size; first | omega | (simp at this; omega))
  clear cb0_9 fb0_9 zb0_9 cb1_9 fb1_9 zb1_9
  obtain ⟨cb0_10, fb0_10, zb0_10⟩ := xb0_10.out
  obtain ⟨cb1_10, fb1_10, zb1_10⟩ := xb1_10.out
  have R10_0 : ∀ k, ((Value.slice a10_0 n10_0 c10_0)).ownBlock = some k → w9.heap.size ≤ k ∧ k < w10.heap.size := fun k hk => (by have := o10_0.lt k hk; first | omega | (simp at this; omega))
  have R10_0 := Lib.hid R10_0
  have m10_0 := o10_0.mono (B9).size
  clear o10_0
  go_wp2_with fail
  refine (eqI_any _ _ (y3) (y3) _ o5_0_10.sl m10_0.sl).mono ?_
  rintro e w11 ⟨rfl, hb11⟩
  have B11 : Bl w w11 := bl_call B10 hb11
  have xb0_11 : Bx w11 (w3.heap.size) #[.int .i64 ((frDigF (x0) (x1) (y2) (y3)).1.1), .int .i64 ((frDigF (x0) (x1) (y2) (y3)).1.2)] := xb0_10.below hb11
  have xb1_11 : Bx w11 (w6.heap.size) #[.int .i64 ((frDigF (x0) (x1) (y2) (y3)).1.1), .int .i64 ((frDigF (x0) (x1) (y2) (y3)).1.2)] := xb1_10.below hb11
  have o1_0_11 := o1_0_10.below hb11
  have o2_0_11 := o2_0_10.below hb11
  have o4_0_11 := o4_0_10.below hb11
  have o5_0_11 := o5_0_10.below hb11
  have o8_0_11 := o8_0_10.below hb11
  have o10_0_11 := m10_0.below hb11
  have zz11 : w10.heap.size ≤ w11.heap.size := (by have := hb11.size; first | omega | (simp at this; omega))
  clear cb0_10 fb0_10 zb0_10 cb1_10 fb1_10 zb1_10
  obtain ⟨cb0_11, fb0_11, zb0_11⟩ := xb0_11.out
  obtain ⟨cb1_11, fb1_11, zb1_11⟩ := xb1_11.out
  go_wp2
  go_ret
  exact ⟨rfl, B11⟩

set_option maxRecDepth 100000 in
theorem fnExactFractionFromDigits_lifted (os : Os) (started : os.Started) (H : Type) (enc : TypeId × Value → H) :
    ReturnsInHanded {} Try.checked os 14 .any (Rows.fnExactFractionFromDigitsSpec.pre6 enc Try.prog Try.f14 Rows.fnExactFractionFromDigitsRow.domain false) (Rows.fnExactFractionFromDigitsSpec.post enc Try.prog Try.f14 false true false false) := by
  refine returnsInHanded_of_change (C := Try.checked) own started (by kernel_rfl) Try.func14
    (ChangeSpec.witness6 (enc := enc) (C := Try.checked) false ⟨#[], #[.int .i64 0, .int .i64 0, .slice none 0 0, .slice none 0 0], []⟩ 8 (by kernel_rfl) (by kernel_rfl) (by kernel_rfl) (by kernel_rfl)) ?_
  intro W base args ds gs before hval0 hW hcnd _
  have hval : ∀ (j : Nat) t v, Try.f14.params[j]? = some t → args[j]? = some v → Value.okWide Try.prog W .any base t v := hval0
  have hW' := hW
  obtain ⟨p, q, hA0, hV, rfl, hfz, hnd⟩ := hW
  have hA : DataW.TrodAll enc Try.prog W 0 (fun _ => true) true Try.f14.params.toList args.toList ds p := hA0
  rw [Try.params14] at hA hval
  obtain ⟨v0, vs0, d0, ds0, p0, q0, hargs, rfl, rfl, h0, r0⟩ := trodAll_cons hA
  obtain ⟨v1, vs1, d1, ds1, p1, q1, rfl, rfl, rfl, h1, r1⟩ := trodAll_cons r0
  obtain ⟨v2, vs2, d2, ds2, p2, q2, rfl, rfl, rfl, h2, r2⟩ := trodAll_cons r1
  obtain ⟨v3, vs3, d3, ds3, p3, q3, rfl, rfl, rfl, h3, r3⟩ := trodAll_cons r2
  obtain ⟨rfl, rfl, rfl⟩ := trodAll_nil r3
  obtain rfl : args = #[v0, v1, v2, v3] := by cases args; simp_all
  obtain ⟨rfl, rfl⟩ := trodVars_none hV
  have k0 := h0
  have lt0 : ∀ x ∈ p0, x.block < W.heap.size := by obtain ⟨m, hm⟩ := k0; exact DataW.trod_lt m _ _ _ hm
  have k1 := h1
  have lt1 : ∀ x ∈ p1, x.block < W.heap.size := by obtain ⟨m, hm⟩ := k1; exact DataW.trod_lt m _ _ _ hm
  have k2 := h2
  have lt2 : ∀ x ∈ p2, x.block < W.heap.size := by obtain ⟨m, hm⟩ := k2; exact DataW.trod_lt m _ _ _ hm
  have k3 := h3
  have lt3 : ∀ x ∈ p3, x.block < W.heap.size := by obtain ⟨m, hm⟩ := k3; exact DataW.trod_lt m _ _ _ hm
  have hv0 := hval 0 2 v0 rfl rfl
  obtain ⟨x0, rfl, _, _, w0⟩ := open_int Try.underlying2 hv0 h0
  have hv1 := hval 1 2 v1 rfl rfl
  obtain ⟨x1, rfl, _, _, w1⟩ := open_int Try.underlying2 hv1 h1
  obtain ⟨x2, S2⟩ := ints_of_trod (hval 2 41 v2 rfl rfl) h2
  obtain ⟨x3, S3⟩ := ints_of_trod (hval 3 41 v3 rfl rfl) h3
  clear hA0 hval0
  refine (lawExactFractionFromDigits x0 x1 v2 x2 v3 x3 W (r64_of_wf w0) (r64_of_wf w1) S2 S3).mono fun e W' ⟨he, bel⟩ => ?_
  subst he
  exact ⟨_, rfl, _, _, _, [], _, [], hW', trodAll_mk1 (shut_bool Try.underlying4 _), (trodAll_cons_mk (Below.trod laidOut (by kernel_rfl) (of_decide_eq_true (by kernel_rfl)) k0 bel lt0) (trodAll_cons_mk (Below.trod laidOut (by kernel_rfl) (of_decide_eq_true (by kernel_rfl)) k1 bel lt1) (trodAll_cons_mk (Below.trod laidOut (by kernel_rfl) (of_decide_eq_true (by kernel_rfl)) k2 bel lt2) (trodAll_cons_mk (Below.trod laidOut (by kernel_rfl) (of_decide_eq_true (by kernel_rfl)) k3 bel lt3) trodAll_mk0)))), rfl, bel.frame _, fun h => by cases h⟩

/-- THE STATEMENT. -/
theorem fnExactFractionFromDigits_holds : Rows.FnExactFractionFromDigitsSaid :=
  OpenClaim.holds_of_wide 14 Try.f14 rfl rfl rfl rfl rfl rfl rfl ⟨rfl, rfl, rfl, rfl, rfl⟩ rfl rfl rfl rfl rfl (by kernel_rfl) Try.func14 (by kernel_rfl)
    (of_decide_eq_true (by kernel_rfl)) (by unfold Func.isWrapper; first | (rw [if_pos (by decide +kernel)]; kernel_rfl) | (rw [if_neg (by decide +kernel)]; exact ⟨rfl, rfl⟩))
    (fun os started H enc _ => fnExactFractionFromDigits_lifted os started H enc)
#print axioms fnExactFractionFromDigits_holds

end Go.Proofs.Yteejfiflidfciaa
