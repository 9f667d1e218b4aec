/- FnExactOperateTerms holds: for all operations and terms the program's OperateTerms returns what the reference's returns. Conditions: none. -/
import Derived.Test.YtbncinbngmfamaaOpenS
import Derived.Test.YtbncinbngmfamaaDbO
namespace Go.Proofs.Ytbncinbngmfamaa
open Go.RowKit Go.ChangeShapes Go.WideShapes Go.ChangeAt
set_option linter.unusedVariables false
set_option linter.unusedSimpArgs false

set_option maxHeartbeats 1600000 in
set_option maxRecDepth 100000 in
theorem lawExactOperateTerms (x0 : Int) (v1 : Value) (y1 : List Int) (v2 : Value) (y2 : List Int) (w : World) (S0 : R64 x0) (S1 : Sl w v1 y1) (S2 : Sl w v2 y2) :
    Calls Try.prog 13 #[.int .i64 x0, v1, v2] w fun e w' => e = .returned (.bool true) ∧ Bl w w' := by
  have ll1 := S1.len
  obtain ⟨va1, vc1, rfl, _⟩ := S1.form
  have ll2 := S2.len
  obtain ⟨va2, vc2, rfl, _⟩ := S2.form
  by_cases hln1 : 1048576 < y1.length
  · go_enter Try.func13, Try.ntmps13
    go_wp2
    go_ret
    exact ⟨rfl, (bl_refl _)⟩
  have NL1 := Lib.hid (show y1.length ≤ 1048576 by omega)
  by_cases hln2 : 1048576 < y2.length
  · go_enter Try.func13, Try.ntmps13
    go_wp2
    go_ret
    exact ⟨rfl, (bl_refl _)⟩
  have NL2 := Lib.hid (show y2.length ≤ 1048576 by omega)
  go_enter Try.func13, Try.ntmps13
  go_wp2_with fail
  refine (toI_any _ (y1) _ (S1.below (bl_refl _)) (by have := NL1.out; omega)).mono ?_
  rintro e w1 ⟨a1_0, n1_0, c1_0, rfl, o1_0, hb1⟩
  have B1 : Bl w w1 := bl_call (bl_refl _) hb1
  have zz1 : w.heap.size ≤ w1.heap.size := (by have := hb1.size; first | omega | (simp at this; omega))
  have R1_0 : ∀ k, ((Value.slice a1_0 n1_0 c1_0)).ownBlock = some k → w.heap.size ≤ k ∧ k < w1.heap.size := fun k hk => (by have := o1_0.lt k hk; first | omega | (simp at this; omega))
  have R1_0 := Lib.hid R1_0
  have m1_0 := o1_0.mono ((bl_refl _)).size
  clear o1_0
  go_wp2_with fail
  refine (toI_any _ (y2) _ (S2.below B1) (by have := NL2.out; omega)).mono ?_
  rintro e w2 ⟨a2_0, n2_0, c2_0, rfl, o2_0, hb2⟩
  have B2 : Bl w w2 := bl_call B1 hb2
  have o1_0_2 := m1_0.below hb2
  have zz2 : w1.heap.size ≤ w2.heap.size := (by have := hb2.size; first | omega | (simp at this; omega))
  have R2_0 : ∀ k, ((Value.slice a2_0 n2_0 c2_0)).ownBlock = some k → w1.heap.size ≤ k ∧ k < w2.heap.size := fun k hk => (by have := o2_0.lt k hk; first | omega | (simp at this; omega))
  have R2_0 := Lib.hid R2_0
  have m2_0 := o2_0.mono (B1).size
  clear o2_0
  go_wp2_with fail
  refine (spec_OperateTerms (x0) _ (y1) _ (y2) _ o1_0_2.sl NL1.out m2_0.sl NL2.out).mono ?_
  rintro e w3 ⟨a3_0, n3_0, c3_0, rfl, o3_0, hb3⟩
  have B3 : Bl w w3 := bl_call B2 hb3
  have o1_0_3 := o1_0_2.below hb3
  have o2_0_3 := m2_0.below hb3
  have zz3 : w2.heap.size ≤ w3.heap.size := (by have := hb3.size; first | omega | (simp at this; omega))
  have R3_0 : ∀ k, ((Value.slice a3_0 n3_0 c3_0)).ownBlock = some k → w2.heap.size ≤ k ∧ k < w3.heap.size := fun k hk => (by have := o3_0.lt k hk; first | omega | (simp at this; omega))
  have R3_0 := Lib.hid R3_0
  have m3_0 := o3_0.mono (B2).size
  clear o3_0
  go_wp2_with fail
  refine (toI_any _ (y1) _ (S1.below B3) (by have := NL1.out; omega)).mono ?_
  rintro e w4 ⟨a4_0, n4_0, c4_0, rfl, o4_0, hb4⟩
  have B4 : Bl w w4 := bl_call B3 hb4
  have o1_0_4 := o1_0_3.below hb4
  have o2_0_4 := o2_0_3.below hb4
  have o3_0_4 := m3_0.below hb4
  have zz4 : w3.heap.size ≤ w4.heap.size := (by have := hb4.size; first | omega | (simp at this; omega))
  have R4_0 : ∀ k, ((Value.slice a4_0 n4_0 c4_0)).ownBlock = some k → w3.heap.size ≤ k ∧ k < w4.heap.size := fun k hk => (by have := o4_0.lt k hk; first | omega | (simp at this; omega))
  have R4_0 := Lib.hid R4_0
  have m4_0 := o4_0.mono (B3).size
  clear o4_0
  go_wp2_with fail
  refine (toI_any _ (y2) _ (S2.below B4) (by have := NL2.out; omega)).mono ?_
  rintro e w5 ⟨a5_0, n5_0, c5_0, rfl, o5_0, hb5⟩
  have B5 : Bl w w5 := bl_call B4 hb5
  have o1_0_5 := o1_0_4.below hb5
  have o2_0_5 := o2_0_4.below hb5
  have o3_0_5 := o3_0_4.below hb5
  have o4_0_5 := m4_0.below hb5
  have zz5 : w4.heap.size ≤ w5.heap.size := (by have := hb5.size; first | omega | (simp at this; omega))
  have R5_0 : ∀ k, ((Value.slice a5_0 n5_0 c5_0)).ownBlock = some k → w4.heap.size ≤ k ∧ k < w5.heap.size := fun k hk => (by have := o5_0.lt k hk; first | omega | (simp at this; omega))
  have R5_0 := Lib.hid R5_0
  have m5_0 := o5_0.mono (B4).size
  clear o5_0
  go_wp2_with fail
  refine (impl_OperateTerms (x0) _ (y1) _ (y2) _ o4_0_5.sl NL1.out m5_0.sl NL2.out).mono ?_
  rintro e w6 ⟨a6_0, n6_0, c6_0, rfl, o6_0, hb6⟩
  have B6 : Bl w w6 := bl_call B5 hb6
  have o1_0_6 := o1_0_5.below hb6
  have o2_0_6 := o2_0_5.below hb6
  have o3_0_6 := o3_0_5.below hb6
  have o4_0_6 := o4_0_5.below hb6
  have o5_0_6 := m5_0.below hb6
  have zz6 : w5.heap.size ≤ w6.heap.size := (by have := hb6.size; first | omega | (simp at this; omega))
  have R6_0 : ∀ k, ((Value.slice a6_0 n6_0 c6_0)).ownBlock = some k → w5.heap.size ≤ k ∧ k < w6.heap.size := fun k hk => (by have := o6_0.lt k hk; first | omega | (simp at this; omega))
  have R6_0 := Lib.hid R6_0
  have m6_0 := o6_0.mono (B5).size
  clear o6_0
  go_wp2_with fail
  refine (eqI_any _ _ ((opF (x0) (y1) (y2)).1) ((opF (x0) (y1) (y2)).1) _ m6_0.sl o3_0_6.sl).mono ?_
  rintro e w7 ⟨rfl, hb7⟩
  have B7 : Bl w w7 := bl_call B6 hb7
  have o1_0_7 := o1_0_6.below hb7
  have o2_0_7 := o2_0_6.below hb7
  have o3_0_7 := o3_0_6.below hb7
  have o4_0_7 := o4_0_6.below hb7
  have o5_0_7 := o5_0_6.below hb7
  have o6_0_7 := m6_0.below hb7
  have zz7 : w6.heap.size ≤ w7.heap.size := (by have := hb7.size; first | omega | (simp at this; omega))
  go_wp2_with fail
  refine (toI_any _ (y1) _ (S1.below B7) (by have := NL1.out; omega)).mono ?_
  rintro e w8 ⟨a8_0, n8_0, c8_0, rfl, o8_0, hb8⟩
  have B8 : Bl w w8 := bl_call B7 hb8
  have o1_0_8 := o1_0_7.below hb8
  have o2_0_8 := o2_0_7.below hb8
  have o3_0_8 := o3_0_7.below hb8
  have o4_0_8 := o4_0_7.below hb8
  have o5_0_8 := o5_0_7.below hb8
  have o6_0_8 := o6_0_7.below hb8
  have zz8 : w7.heap.size ≤ w8.heap.size := (by have := hb8.size; first | omega | (simp at this; omega))
  have R8_0 : ∀ k, ((Value.slice a8_0 n8_0 c8_0)).ownBlock = some k → w7.heap.size ≤ k ∧ k < w8.heap.size := fun k hk => (by have := o8_0.lt k hk; first | omega | (simp at this; omega))
  have R8_0 := Lib.hid R8_0
  have m8_0 := o8_0.mono (B7).size
  clear o8_0
  go_wp2_with fail
  refine (eqI_any _ _ (y1) (y1) _ o4_0_8.sl m8_0.sl).mono ?_
  rintro e w9 ⟨rfl, hb9⟩
  have B9 : Bl w w9 := bl_call B8 hb9
  have o1_0_9 := o1_0_8.below hb9
  have o2_0_9 := o2_0_8.below hb9
  have o3_0_9 := o3_0_8.below hb9
  have o4_0_9 := o4_0_8.below hb9
  have o5_0_9 := o5_0_8.below hb9
  have o6_0_9 := o6_0_8.below hb9
  have o8_0_9 := m8_0.below hb9
  have zz9 : w8.heap.size ≤ w9.heap.size := (by have := hb9.size; first | omega | (simp at this; omega))
  go_wp2_with fail
  refine (toI_any _ (y2) _ (S2.below B9) (by have := NL2.out; omega)).mono ?_
  rintro e w10 ⟨a10_0, n10_0, c10_0, rfl, o10_0, hb10⟩
  have B10 : Bl w w10 := bl_call B9 hb10
  have o1_0_10 := o1_0_9.below hb10
  have o2_0_10 := o2_0_9.below hb10
  have o3_0_10 := o3_0_9.below hb10
  have o4_0_10 := o4_0_9.below hb10
  have o5_0_10 := o5_0_9.below hb10
  have o6_0_10 := o6_0_9.below hb10
  have o8_0_10 := o8_0_9.below hb10
  have zz10 : w9.heap.size ≤ w10.heap.size := (by have := hb10.size; first | omega | (simp at this; omega))
  have R10_0 : ∀ k, ((Value.slice a10_0 n10_0 c10_0)).ownBlock = some k → w9.heap.size ≤ k ∧ k < w10.heap.size := fun k hk => (by have := o10_0.lt k hk; first | omega | (simp at this; omega))
  have R10_0 := Lib.hid R10_0
  have m10_0 := o10_0.mono (B9).size
  clear o10_0
  go_wp2_with fail
  refine (eqI_any _ _ (y2) (y2) _ o5_0_10.sl m10_0.sl).mono ?_
  rintro e w11 ⟨rfl, hb11⟩
  have B11 : Bl w w11 := bl_call B10 hb11
  have o1_0_11 := o1_0_10.below hb11
  have o2_0_11 := o2_0_10.below hb11
  have o3_0_11 := o3_0_10.below hb11
  have o4_0_11 := o4_0_10.below hb11
  have o5_0_11 := o5_0_10.below hb11
  have o6_0_11 := o6_0_10.below hb11
  have o8_0_11 := o8_0_10.below hb11
  have o10_0_11 := m10_0.below hb11
  have zz11 : w10.heap.size ≤ w11.heap.size := (by have := hb11.size; first | omega | (simp at this; omega))
  go_wp2_with fail
  refine (markI_any _ (y1) (1) w.heap.size _ o4_0_11 (by omega) (by have := NL1.out; omega)).mono ?_
  rintro e w12 ⟨rfl, on12, O12'⟩
  have O12 := Only.of_grown (S := fun k => ((Value.slice a4_0 n4_0 c4_0)).ownBlock = some k) O12' (fun _ e => e)
  have zz12 : w11.heap.size ≤ w12.heap.size := (by have := O12.size; first | omega | (simp at this; omega))
  have B12 : Bl w w12 := Below.only B11 O12 (B11).size (fun k hk => by have := R4_0.out k hk; omega)
  have o1_0_12 := o1_0_11.only O12 (fun k q q' => by have := R1_0.out k q; have := R4_0.out k q'; omega)
  have o2_0_12 := o2_0_11.only O12 (fun k q q' => by have := R2_0.out k q; have := R4_0.out k q'; omega)
  have o3_0_12 := o3_0_11.only O12 (fun k q q' => by have := R3_0.out k q; have := R4_0.out k q'; omega)
  have o5_0_12 := o5_0_11.only O12 (fun k q q' => by have := R5_0.out k q; have := R4_0.out k q'; omega)
  have o6_0_12 := o6_0_11.only O12 (fun k q q' => by have := R6_0.out k q; have := R4_0.out k q'; omega)
  have o8_0_12 := o8_0_11.only O12 (fun k q q' => by have := R8_0.out k q; have := R4_0.out k q'; omega)
  have o10_0_12 := o10_0_11.only O12 (fun k q q' => by have := R10_0.out k q; have := R4_0.out k q'; omega)
  go_wp2_with fail
  refine (markI_any _ (y2) (1 + (y1).length) w.heap.size _ o5_0_12 (by omega) (by have := NL2.out; omega)).mono ?_
  rintro e w13 ⟨rfl, on13, O13'⟩
  have O13 := Only.of_grown (S := fun k => ((Value.slice a5_0 n5_0 c5_0)).ownBlock = some k) O13' (fun _ e => e)
  have zz13 : w12.heap.size ≤ w13.heap.size := (by have := O13.size; first | omega | (simp at this; omega))
  have B13 : Bl w w13 := Below.only B12 O13 (B12).size (fun k hk => by have := R5_0.out k hk; omega)
  have o1_0_13 := o1_0_12.only O13 (fun k q q' => by have := R1_0.out k q; have := R5_0.out k q'; omega)
  have o2_0_13 := o2_0_12.only O13 (fun k q q' => by have := R2_0.out k q; have := R5_0.out k q'; omega)
  have o3_0_13 := o3_0_12.only O13 (fun k q q' => by have := R3_0.out k q; have := R5_0.out k q'; omega)
  have o4_0_13 := on12.only O13 (fun k q q' => by have := R4_0.out k q; have := R5_0.out k q'; omega)
  have o6_0_13 := o6_0_12.only O13 (fun k q q' => by have := R6_0.out k q; have := R5_0.out k q'; omega)
  have o8_0_13 := o8_0_12.only O13 (fun k q q' => by have := R8_0.out k q; have := R5_0.out k q'; omega)
  have o10_0_13 := o10_0_12.only O13 (fun k q q' => by have := R10_0.out k q; have := R5_0.out k q'; omega)
  go_wp2_with fail
  refine (eqI_any _ _ ((opF (x0) (y1) (y2)).1) ((opF (x0) (y1) (y2)).1) _ o6_0_13.sl o3_0_13.sl).mono ?_
  rintro e w14 ⟨rfl, hb14⟩
  have B14 : Bl w w14 := bl_call B13 hb14
  have o1_0_14 := o1_0_13.below hb14
  have o2_0_14 := o2_0_13.below hb14
  have o3_0_14 := o3_0_13.below hb14
  have o4_0_14 := o4_0_13.below hb14
  have o5_0_14 := on13.below hb14
  have o6_0_14 := o6_0_13.below hb14
  have o8_0_14 := o8_0_13.below hb14
  have o10_0_14 := o10_0_13.below hb14
  have zz14 : w13.heap.size ≤ w14.heap.size := (by have := hb14.size; first | omega | (simp at this; omega))
  go_wp2_with fail
  refine (markI_any _ ((opF (x0) (y1) (y2)).1) (1) w.heap.size _ o6_0_14 (by omega) (by have := (opF_len (x0) (y1) (y2)); omega)).mono ?_
  rintro e w15 ⟨rfl, on15, O15'⟩
  have O15 := Only.of_grown (S := fun k => ((Value.slice a6_0 n6_0 c6_0)).ownBlock = some k) O15' (fun _ e => e)
  have zz15 : w14.heap.size ≤ w15.heap.size := (by have := O15.size; first | omega | (simp at this; omega))
  have B15 : Bl w w15 := Below.only B14 O15 (B14).size (fun k hk => by have := R6_0.out k hk; omega)
  have o1_0_15 := o1_0_14.only O15 (fun k q q' => by have := R1_0.out k q; have := R6_0.out k q'; omega)
  have o2_0_15 := o2_0_14.only O15 (fun k q q' => by have := R2_0.out k q; have := R6_0.out k q'; omega)
  have o3_0_15 := o3_0_14.only O15 (fun k q q' => by have := R3_0.out k q; have := R6_0.out k q'; omega)
  have o4_0_15 := o4_0_14.only O15 (fun k q q' => by have := R4_0.out k q; have := R6_0.out k q'; omega)
  have o5_0_15 := o5_0_14.only O15 (fun k q q' => by have := R5_0.out k q; have := R6_0.out k q'; omega)
  have o8_0_15 := o8_0_14.only O15 (fun k q q' => by have := R8_0.out k q; have := R6_0.out k q'; omega)
  have o10_0_15 := o10_0_14.only O15 (fun k q q' => by have := R10_0.out k q; have := R6_0.out k q'; omega)
  go_wp2_with fail
  refine (heldI_yes _ (((opF (x0) (y1) (y2)).1).length) (1) _ on15.sl (by omega) (by have := (opF_len (x0) (y1) (y2)); omega)).mono ?_
  rintro e w16 ⟨rfl, hb16⟩
  have B16 : Bl w w16 := bl_call B15 hb16
  have o1_0_16 := o1_0_15.below hb16
  have o2_0_16 := o2_0_15.below hb16
  have o3_0_16 := o3_0_15.below hb16
  have o4_0_16 := o4_0_15.below hb16
  have o5_0_16 := o5_0_15.below hb16
  have o6_0_16 := on15.below hb16
  have o8_0_16 := o8_0_15.below hb16
  have o10_0_16 := o10_0_15.below hb16
  have zz16 : w15.heap.size ≤ w16.heap.size := (by have := hb16.size; first | omega | (simp at this; omega))
  go_wp2_with fail
  refine (toI_any _ (y1) _ (S1.below B16) (by have := NL1.out; omega)).mono ?_
  rintro e w17 ⟨a17_0, n17_0, c17_0, rfl, o17_0, hb17⟩
  have B17 : Bl w w17 := bl_call B16 hb17
  have o1_0_17 := o1_0_16.below hb17
  have o2_0_17 := o2_0_16.below hb17
  have o3_0_17 := o3_0_16.below hb17
  have o4_0_17 := o4_0_16.below hb17
  have o5_0_17 := o5_0_16.below hb17
  have o6_0_17 := o6_0_16.below hb17
  have o8_0_17 := o8_0_16.below hb17
  have o10_0_17 := o10_0_16.below hb17
  have zz17 : w16.heap.size ≤ w17.heap.size := (by have := hb17.size; first | omega | (simp at this; omega))
  have R17_0 : ∀ k, ((Value.slice a17_0 n17_0 c17_0)).ownBlock = some k → w16.heap.size ≤ k ∧ k < w17.heap.size := fun k hk => (by have := o17_0.lt k hk; first | omega | (simp at this; omega))
  have R17_0 := Lib.hid R17_0
  have m17_0 := o17_0.mono (B16).size
  clear o17_0
  go_wp2_with fail
  refine (toI_any _ (y2) _ (S2.below B17) (by have := NL2.out; omega)).mono ?_
  rintro e w18 ⟨a18_0, n18_0, c18_0, rfl, o18_0, hb18⟩
  have B18 : Bl w w18 := bl_call B17 hb18
  have o1_0_18 := o1_0_17.below hb18
  have o2_0_18 := o2_0_17.below hb18
  have o3_0_18 := o3_0_17.below hb18
  have o4_0_18 := o4_0_17.below hb18
  have o5_0_18 := o5_0_17.below hb18
  have o6_0_18 := o6_0_17.below hb18
  have o8_0_18 := o8_0_17.below hb18
  have o10_0_18 := o10_0_17.below hb18
  have o17_0_18 := m17_0.below hb18
  have zz18 : w17.heap.size ≤ w18.heap.size := (by have := hb18.size; first | omega | (simp at this; omega))
  have R18_0 : ∀ k, ((Value.slice a18_0 n18_0 c18_0)).ownBlock = some k → w17.heap.size ≤ k ∧ k < w18.heap.size := fun k hk => (by have := o18_0.lt k hk; first | omega | (simp at this; omega))
  have R18_0 := Lib.hid R18_0
  have m18_0 := o18_0.mono (B17).size
  clear o18_0
  go_wp2_with fail
  refine (impl_OperateTerms (x0) _ (y1) _ (y2) _ o17_0_18.sl NL1.out m18_0.sl NL2.out).mono ?_
  rintro e w19 ⟨a19_0, n19_0, c19_0, rfl, o19_0, hb19⟩
  have B19 : Bl w w19 := bl_call B18 hb19
  have o1_0_19 := o1_0_18.below hb19
  have o2_0_19 := o2_0_18.below hb19
  have o3_0_19 := o3_0_18.below hb19
  have o4_0_19 := o4_0_18.below hb19
  have o5_0_19 := o5_0_18.below hb19
  have o6_0_19 := o6_0_18.below hb19
  have o8_0_19 := o8_0_18.below hb19
  have o10_0_19 := o10_0_18.below hb19
  have o17_0_19 := o17_0_18.below hb19
  have o18_0_19 := m18_0.below hb19
  have zz19 : w18.heap.size ≤ w19.heap.size := (by have := hb19.size; first | omega | (simp at this; omega))
  have R19_0 : ∀ k, ((Value.slice a19_0 n19_0 c19_0)).ownBlock = some k → w18.heap.size ≤ k ∧ k < w19.heap.size := fun k hk => (by have := o19_0.lt k hk; first | omega | (simp at this; omega))
  have R19_0 := Lib.hid R19_0
  have m19_0 := o19_0.mono (B18).size
  clear o19_0
  go_wp2_with fail
  refine (eqI_any _ _ ((opF (x0) (y1) (y2)).1) ((opF (x0) (y1) (y2)).1) _ m19_0.sl o3_0_19.sl).mono ?_
  rintro e w20 ⟨rfl, hb20⟩
  have B20 : Bl w w20 := bl_call B19 hb20
  have o1_0_20 := o1_0_19.below hb20
  have o2_0_20 := o2_0_19.below hb20
  have o3_0_20 := o3_0_19.below hb20
  have o4_0_20 := o4_0_19.below hb20
  have o5_0_20 := o5_0_19.below hb20
  have o6_0_20 := o6_0_19.below hb20
  have o8_0_20 := o8_0_19.below hb20
  have o10_0_20 := o10_0_19.below hb20
  have o17_0_20 := o17_0_19.below hb20
  have o18_0_20 := o18_0_19.below hb20
  have o19_0_20 := m19_0.below hb20
  have zz20 : w19.heap.size ≤ w20.heap.size := (by have := hb20.size; first | omega | (simp at this; omega))
  go_wp2_with fail
  refine (heldI_yes _ (((opF (x0) (y1) (y2)).1).length) (1) _ o6_0_20.sl (by omega) (by have := (opF_len (x0) (y1) (y2)); omega)).mono ?_
  rintro e w21 ⟨rfl, hb21⟩
  have B21 : Bl w w21 := bl_call B20 hb21
  have o1_0_21 := o1_0_20.below hb21
  have o2_0_21 := o2_0_20.below hb21
  have o3_0_21 := o3_0_20.below hb21
  have o4_0_21 := o4_0_20.below hb21
  have o5_0_21 := o5_0_20.below hb21
  have o6_0_21 := o6_0_20.below hb21
  have o8_0_21 := o8_0_20.below hb21
  have o10_0_21 := o10_0_20.below hb21
  have o17_0_21 := o17_0_20.below hb21
  have o18_0_21 := o18_0_20.below hb21
  have o19_0_21 := o19_0_20.below hb21
  have zz21 : w20.heap.size ≤ w21.heap.size := (by have := hb21.size; first | omega | (simp at this; omega))
  go_wp2
  go_ret
  exact ⟨rfl, B21⟩

set_option maxRecDepth 100000 in
theorem fnExactOperateTerms_lifted (os : Os) (started : os.Started) (H : Type) (enc : TypeId × Value → H) :
    ReturnsInHanded {} Try.checked os 13 .any (Rows.fnExactOperateTermsSpec.pre6 enc Try.prog Try.f13 Rows.fnExactOperateTermsRow.domain false) (Rows.fnExactOperateTermsSpec.post enc Try.prog Try.f13 false true false false) := by
  refine returnsInHanded_of_change (C := Try.checked) own started (by kernel_rfl) Try.func13
    (ChangeSpec.witness6 (enc := enc) (C := Try.checked) false ⟨#[], #[.int .i64 0, .slice none 0 0, .slice none 0 0], []⟩ 8 (by kernel_rfl) (by kernel_rfl) (by kernel_rfl) (by kernel_rfl)) ?_
  intro W base args ds gs before hval0 hW hcnd _
  have hval : ∀ (j : Nat) t v, Try.f13.params[j]? = some t → args[j]? = some v → Value.okWide Try.prog W .any base t v := hval0
  have hW' := hW
  obtain ⟨p, q, hA0, hV, rfl, hfz, hnd⟩ := hW
  have hA : DataW.TrodAll enc Try.prog W 0 (fun _ => true) true Try.f13.params.toList args.toList ds p := hA0
  rw [Try.params13] at hA hval
  obtain ⟨v0, vs0, d0, ds0, p0, q0, hargs, rfl, rfl, h0, r0⟩ := trodAll_cons hA
  obtain ⟨v1, vs1, d1, ds1, p1, q1, rfl, rfl, rfl, h1, r1⟩ := trodAll_cons r0
  obtain ⟨v2, vs2, d2, ds2, p2, q2, rfl, rfl, rfl, h2, r2⟩ := trodAll_cons r1
  obtain ⟨rfl, rfl, rfl⟩ := trodAll_nil r2
  obtain rfl : args = #[v0, v1, v2] := by cases args; simp_all
  obtain ⟨rfl, rfl⟩ := trodVars_none hV
  have k0 := h0
  have lt0 : ∀ x ∈ p0, x.block < W.heap.size := by obtain ⟨m, hm⟩ := k0; exact DataW.trod_lt m _ _ _ hm
  have k1 := h1
  have lt1 : ∀ x ∈ p1, x.block < W.heap.size := by obtain ⟨m, hm⟩ := k1; exact DataW.trod_lt m _ _ _ hm
  have k2 := h2
  have lt2 : ∀ x ∈ p2, x.block < W.heap.size := by obtain ⟨m, hm⟩ := k2; exact DataW.trod_lt m _ _ _ hm
  have hv0 := hval 0 2 v0 rfl rfl
  obtain ⟨x0, rfl, _, _, w0⟩ := open_int Try.underlying2 hv0 h0
  obtain ⟨x1, S1⟩ := ints_of_trod (hval 1 46 v1 rfl rfl) h1
  obtain ⟨x2, S2⟩ := ints_of_trod (hval 2 46 v2 rfl rfl) h2
  clear hA0 hval0
  refine (lawExactOperateTerms x0 v1 x1 v2 x2 W (r64_of_wf w0) S1 S2).mono fun e W' ⟨he, bel⟩ => ?_
  subst he
  exact ⟨_, rfl, _, _, _, [], _, [], hW', trodAll_mk1 (shut_bool Try.underlying4 _), (trodAll_cons_mk (Below.trod laidOut (by kernel_rfl) (of_decide_eq_true (by kernel_rfl)) k0 bel lt0) (trodAll_cons_mk (Below.trod laidOut (by kernel_rfl) (of_decide_eq_true (by kernel_rfl)) k1 bel lt1) (trodAll_cons_mk (Below.trod laidOut (by kernel_rfl) (of_decide_eq_true (by kernel_rfl)) k2 bel lt2) trodAll_mk0))), rfl, bel.frame _, fun h => by cases h⟩

/-- THE STATEMENT. -/
theorem fnExactOperateTerms_holds : Rows.FnExactOperateTermsSaid :=
  OpenClaim.holds_of_wide 13 Try.f13 rfl rfl rfl rfl rfl rfl rfl ⟨rfl, rfl, rfl, rfl, rfl⟩ rfl rfl rfl rfl rfl (by kernel_rfl) Try.func13 (by kernel_rfl)
    (of_decide_eq_true (by kernel_rfl)) (by unfold Func.isWrapper; first | (rw [if_pos (by decide +kernel)]; kernel_rfl) | (rw [if_neg (by decide +kernel)]; exact ⟨rfl, rfl⟩))
    (fun os started H enc _ => fnExactOperateTerms_lifted os started H enc)
#print axioms fnExactOperateTerms_holds

end Go.Proofs.Ytbncinbngmfamaa
