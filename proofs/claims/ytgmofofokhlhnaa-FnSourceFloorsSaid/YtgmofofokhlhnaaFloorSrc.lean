/- FloorOfSource: the program and the reference give the same. No condition. -/
import Derived.Test.YtgmofofokhlhnaaL17
namespace Go.Proofs.Ytgmofofokhlhnaa
open Go.RowKit
set_option linter.unusedVariables false
set_option linter.unusedSimpArgs false

noncomputable def floorSrcF (s : Src) : Int × Int := if okSrc s then ((termP (plainS s) 0).1, 0) else (0, 1)

set_option maxRecDepth 100000 in
set_option maxHeartbeats 3200000 in
theorem impl_FloorOfSource (h p g : Value) (s : Src) (w : World) (hs : SlS w h p g s) :
    Calls Try.prog 69 #[.agg #[h, p, g]] w fun e w' => e = .returned (.tuple #[.int .i64 (floorSrcF s).1, .int .i64 (floorSrcF s).2]) ∧ Bl w w' := by
  cases e1 : okSrc s with
  | false =>
    have HR := Lib.hid (show floorSrcF s = (0, 1) by simp [floorSrcF, e1])
    have E1 := Lib.hid e1
    clear e1
    go_enter Try.func69, Try.ntmps69
    go_wp2_with fail
    refine (ivalid_eqL E1.out _ (hs.below (bl_alloc (bl_refl _) _))).mono ?_
    rintro e w1 ⟨rfl, hb1⟩
    have B1 : Bl w w1 := bl_call (bl_alloc (bl_refl _) _) hb1
    have xF_1 : Bx w1 (w.heap.size) #[h, p, g] := (Bx.new (b := w.heap.size) _ #[h, p, g] 26 (by first | rfl | simp)).below hb1
    obtain ⟨cF_1, fF_1, zF_1⟩ := xF_1.out
    go_wp2
    go_ret2
    exact ⟨ret_ii2 HR.out, B1⟩
  | true =>
    have HR := Lib.hid (show floorSrcF s = ((termP (plainS s) 0).1, 0) by simp [floorSrcF, e1])
    have K1 := okSrc_H e1
    obtain ⟨⟨x, o⟩, hx⟩ : ∃ z, termP (plainS s) 0 = z := ⟨_, rfl⟩
    rw [hx] at HR
    have HX := Lib.hid hx
    clear hx
    have E1 := Lib.hid e1
    clear e1
    go_enter Try.func69, Try.ntmps69
    go_wp2_with fail
    refine (ivalid_eqL E1.out _ (hs.below (bl_alloc (bl_refl _) _))).mono ?_
    rintro e w1 ⟨rfl, hb1⟩
    have B1 : Bl w w1 := bl_call (bl_alloc (bl_refl _) _) hb1
    have xF_1 : Bx w1 (w.heap.size) #[h, p, g] := (Bx.new (b := w.heap.size) _ #[h, p, g] 26 (by first | rfl | simp)).below hb1
    obtain ⟨cF_1, fF_1, zF_1⟩ := xF_1.out
    go_wp2_with fail
    refine (shortOf_any h p g s _ (hs.below B1) K1).mono ?_
    rintro e w2 ⟨ax1, nx1, cx1, ax2, nx2, cx2, ax3, nx3, cx3, ax4, nx4, cx4, fx, rfl, HZ, hb2⟩
    have B2 : Bl w w2 := bl_call B1 hb2
    have xF_2 : Bx w2 (w.heap.size) #[h, p, g] := xF_1.below hb2
    clear cF_1 fF_1 zF_1
    obtain ⟨cF_2, fF_2, zF_2⟩ := xF_2.out
    go_wp2_with fail
    refine (at_eq (k := 0) HX.out _ HZ (by omega)).mono ?_
    rintro e w3 ⟨rfl, hb3⟩
    have B3 : Bl w w3 := bl_call B2 hb3
    have xF_3 : Bx w3 (w.heap.size) #[h, p, g] := xF_2.below hb3
    clear cF_2 fF_2 zF_2
    obtain ⟨cF_3, fF_3, zF_3⟩ := xF_3.out
    go_wp2
    go_ret2
    exact ⟨ret_ii2 HR.out, B3⟩

set_option maxRecDepth 100000 in
set_option maxHeartbeats 3200000 in
theorem spec_FloorOfSource (h p g : Value) (s : Src) (w : World) (hs : SlS w h p g s) :
    Calls Try.prog 70 #[.agg #[h, p, g]] w fun e w' => e = .returned (.tuple #[.int .i64 (floorSrcF s).1, .int .i64 (floorSrcF s).2]) ∧ Bl w w' := by
  cases e1 : okSrc s with
  | false =>
    have HR := Lib.hid (show floorSrcF s = (0, 1) by simp [floorSrcF, e1])
    have E1 := Lib.hid e1
    clear e1
    go_enter Try.func70, Try.ntmps70
    go_wp2_with fail
    refine (svalid_eqL E1.out _ (w.heap.size) (hs.below (bl_alloc (bl_refl _) _)) (Bx.new (b := w.heap.size) _ #[h, p, g] 26 (by first | rfl | simp))).mono ?_
    rintro e w1 ⟨rfl, hb1⟩
    have B1 : Bl w w1 := bl_call (bl_alloc (bl_refl _) _) hb1
    have xF_1 : Bx w1 (w.heap.size) #[h, p, g] := (Bx.new (b := w.heap.size) _ #[h, p, g] 26 (by first | rfl | simp)).below hb1
    obtain ⟨cF_1, fF_1, zF_1⟩ := xF_1.out
    go_wp2
    go_ret2
    exact ⟨ret_ii2 HR.out, B1⟩
  | true =>
    have HR := Lib.hid (show floorSrcF s = ((termP (plainS s) 0).1, 0) by simp [floorSrcF, e1])
    have K1 := okSrc_H e1
    obtain ⟨⟨x, o⟩, hx⟩ : ∃ z, termP (plainS s) 0 = z := ⟨_, rfl⟩
    rw [hx] at HR
    have HX := Lib.hid hx
    clear hx
    have E1 := Lib.hid e1
    clear e1
    go_enter Try.func70, Try.ntmps70
    go_wp2_with fail
    refine (svalid_eqL E1.out _ (w.heap.size) (hs.below (bl_alloc (bl_refl _) _)) (Bx.new (b := w.heap.size) _ #[h, p, g] 26 (by first | rfl | simp))).mono ?_
    rintro e w1 ⟨rfl, hb1⟩
    have B1 : Bl w w1 := bl_call (bl_alloc (bl_refl _) _) hb1
    have xF_1 : Bx w1 (w.heap.size) #[h, p, g] := (Bx.new (b := w.heap.size) _ #[h, p, g] 26 (by first | rfl | simp)).below hb1
    obtain ⟨cF_1, fF_1, zF_1⟩ := xF_1.out
    go_wp2_with fail
    refine (plainSrc_any h p g s _ (w.heap.size) (hs.below B1) xF_1 K1.okPer K1.hb).mono ?_
    rintro e w2 ⟨u1, v1, z1, u2, v2, z2, u3, v3, z3, rfl, HA, hb2⟩
    have B2 : Bl w w2 := bl_call B1 hb2
    have xF_2 : Bx w2 (w.heap.size) #[h, p, g] := xF_1.below hb2
    clear cF_1 fF_1 zF_1
    obtain ⟨cF_2, fF_2, zF_2⟩ := xF_2.out
    have HA := Lib.hid HA
    go_wp2_with fail
    refine (sterm_eqS (k := 0) HX.out _ (w2.heap.size) (HA.out.alloc _) (Bx.new (b := w2.heap.size) _ #[.slice u1 v1 z1, .slice u2 v2 z2, .slice u3 v3 z3] 26 (by first | rfl | simp)) K1.okPer.plain (by omega)).mono ?_
    rintro e w3 ⟨rfl, hb3⟩
    have B3 : Bl w w3 := bl_call (bl_alloc B2 _) hb3
    have xF_3 : Bx w3 (w.heap.size) #[h, p, g] := (xF_2.alloc _).below hb3
    have xA_3 : Bx w3 (w2.heap.size) #[.slice u1 v1 z1, .slice u2 v2 z2, .slice u3 v3 z3] := (Bx.new (b := w2.heap.size) _ #[.slice u1 v1 z1, .slice u2 v2 z2, .slice u3 v3 z3] 26 (by first | rfl | simp)).below hb3
    clear cF_2 fF_2 zF_2
    obtain ⟨cF_3, fF_3, zF_3⟩ := xF_3.out
    obtain ⟨cA_3, fA_3, zA_3⟩ := xA_3.out
    go_wp2
    go_ret2
    exact ⟨ret_ii2 HR.out, B3⟩

end Go.Proofs.Ytgmofofokhlhnaa
