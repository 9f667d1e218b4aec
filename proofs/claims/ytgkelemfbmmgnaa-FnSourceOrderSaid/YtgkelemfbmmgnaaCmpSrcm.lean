/- CompareSources: the program and the reference give the same. No condition. -/
import Derived.Test.YtgkelemfbmmgnaaMO4
namespace Go.Proofs.Ytgkelemfbmmgnaa
open Go.RowKit
set_option linter.unusedVariables false
set_option linter.unusedSimpArgs false


noncomputable def cmpSrcF (s t : Src) (m : Int) : Int × Int := if code17 s t m = 0 then cmpP (plainS s) (plainS t) m.toNat else (0, code17 s t m)

set_option maxRecDepth 100000 in
set_option maxHeartbeats 3200000 in
theorem impl_CompareSources (h p g : Value) (s : Src) (h' p' g' : Value) (t : Src) (m : Int) (w : World) (hs : SlS w h p g s) (ht : SlS w h' p' g' t) :
    Calls Try.prog 7 #[.agg #[h, p, g], .agg #[h', p', g'], .int .i64 m] w fun e w' => e = .returned (.tuple #[.int .i64 (cmpSrcF s t m).1, .int .i64 (cmpSrcF s t m).2]) ∧ Bl w w' := by
  cases e1 : okSrc s with
  | false =>
    have hcd : code17 s t m = 1 := by simp [code17, e1]
    have HR := Lib.hid (show cmpSrcF s t m = (0, 1) by rw [cmpSrcF, if_neg (by omega), hcd])
    clear hcd
    have E1 := Lib.hid e1
    clear e1
    go_enter Try.func7, Try.ntmps7
    go_wp2_with fail
    refine (ivalid_eqL E1.out _ (hs.below (bl_alloc (bl_alloc (bl_refl _) _) _))).mono ?_
    rintro e w1 ⟨rfl, hb1⟩
    have B1 : Bl w w1 := bl_call (bl_alloc (bl_alloc (bl_refl _) _) _) hb1
    have xF_1 : Bx w1 (w.heap.size) #[h, p, g] := ((Bx.new (b := w.heap.size) _ #[h, p, g] 26 (by first | rfl | simp)).alloc _).below hb1
    have xG_1 : Bx w1 (w.heap.size + 1) #[h', p', g'] := (Bx.new (b := w.heap.size + 1) _ #[h', p', g'] 26 (by first | rfl | simp)).below hb1
    obtain ⟨cF_1, fF_1, zF_1⟩ := xF_1.out
    obtain ⟨cG_1, fG_1, zG_1⟩ := xG_1.out
    go_wp2
    go_ret2
    exact ⟨ret_ii2 HR.out, B1⟩
  | true =>
    cases e2 : okSrc t with
    | false =>
      have hcd : code17 s t m = 1 := by simp [code17, e1, e2]
      have HR := Lib.hid (show cmpSrcF s t m = (0, 1) by rw [cmpSrcF, if_neg (by omega), hcd])
      clear hcd
      have E1 := Lib.hid e1
      clear e1
      have E2 := Lib.hid e2
      clear e2
      go_enter Try.func7, Try.ntmps7
      go_wp2_with fail
      refine (ivalid_eqL E1.out _ (hs.below (bl_alloc (bl_alloc (bl_refl _) _) _))).mono ?_
      rintro e w1 ⟨rfl, hb1⟩
      have B1 : Bl w w1 := bl_call (bl_alloc (bl_alloc (bl_refl _) _) _) hb1
      have xF_1 : Bx w1 (w.heap.size) #[h, p, g] := ((Bx.new (b := w.heap.size) _ #[h, p, g] 26 (by first | rfl | simp)).alloc _).below hb1
      have xG_1 : Bx w1 (w.heap.size + 1) #[h', p', g'] := (Bx.new (b := w.heap.size + 1) _ #[h', p', g'] 26 (by first | rfl | simp)).below hb1
      obtain ⟨cF_1, fF_1, zF_1⟩ := xF_1.out
      obtain ⟨cG_1, fG_1, zG_1⟩ := xG_1.out
      go_wp2_with fail
      refine (ivalid_eqL E2.out _ (ht.below B1)).mono ?_
      rintro e w2 ⟨rfl, hb2⟩
      have B2 : Bl w w2 := bl_call B1 hb2
      have xF_2 : Bx w2 (w.heap.size) #[h, p, g] := xF_1.below hb2
      have xG_2 : Bx w2 (w.heap.size + 1) #[h', p', g'] := xG_1.below hb2
      clear cF_1 fF_1 zF_1 cG_1 fG_1 zG_1
      obtain ⟨cF_2, fF_2, zF_2⟩ := xF_2.out
      obtain ⟨cG_2, fG_2, zG_2⟩ := xG_2.out
      go_wp2
      go_ret2
      exact ⟨ret_ii2 HR.out, B2⟩
    | true =>
      cases e3 : inB m 1 1000 with
      | false =>
        have hcd : code17 s t m = 2 := by simp [code17, e1, e2, e3]
        have HR := Lib.hid (show cmpSrcF s t m = (0, 2) by rw [cmpSrcF, if_neg (by omega), hcd])
        clear hcd
        have E1 := Lib.hid e1
        clear e1
        have E2 := Lib.hid e2
        clear e2
        have E3 := Lib.hid e3
        clear e3
        go_enter Try.func7, Try.ntmps7
        go_wp2_with fail
        refine (ivalid_eqL E1.out _ (hs.below (bl_alloc (bl_alloc (bl_refl _) _) _))).mono ?_
        rintro e w1 ⟨rfl, hb1⟩
        have B1 : Bl w w1 := bl_call (bl_alloc (bl_alloc (bl_refl _) _) _) hb1
        have xF_1 : Bx w1 (w.heap.size) #[h, p, g] := ((Bx.new (b := w.heap.size) _ #[h, p, g] 26 (by first | rfl | simp)).alloc _).below hb1
        have xG_1 : Bx w1 (w.heap.size + 1) #[h', p', g'] := (Bx.new (b := w.heap.size + 1) _ #[h', p', g'] 26 (by first | rfl | simp)).below hb1
        obtain ⟨cF_1, fF_1, zF_1⟩ := xF_1.out
        obtain ⟨cG_1, fG_1, zG_1⟩ := xG_1.out
        go_wp2_with fail
        refine (ivalid_eqL E2.out _ (ht.below B1)).mono ?_
        rintro e w2 ⟨rfl, hb2⟩
        have B2 : Bl w w2 := bl_call B1 hb2
        have xF_2 : Bx w2 (w.heap.size) #[h, p, g] := xF_1.below hb2
        have xG_2 : Bx w2 (w.heap.size + 1) #[h', p', g'] := xG_1.below hb2
        clear cF_1 fF_1 zF_1 cG_1 fG_1 zG_1
        obtain ⟨cF_2, fF_2, zF_2⟩ := xF_2.out
        obtain ⟨cG_2, fG_2, zG_2⟩ := xG_2.out
        go_wp2_with fail
        refine (isMost_eq E3.out _).mono ?_
        rintro e w9 ⟨rfl, rfl⟩
        go_wp2
        go_ret2
        exact ⟨ret_ii2 HR.out, B2⟩
      | true =>
        have hcd : code17 s t m = 0 := by simp [code17, e1, e2, e3]
        have HR := Lib.hid (show cmpSrcF s t m = cmpP (plainS s) (plainS t) m.toNat by rw [cmpSrcF, if_pos hcd])
        have hm := inB_iff.1 e3
        obtain ⟨M, rfl⟩ := Int.eq_ofNat_of_zero_le (show 0 ≤ m by omega)
        rw [Int.toNat_natCast] at HR
        have K1 := okSrc_H e1
        have K2 := okSrc_H e2
        clear hcd
        have E1 := Lib.hid e1
        clear e1
        have E2 := Lib.hid e2
        clear e2
        have E3 := Lib.hid e3
        clear e3
        go_enter Try.func7, Try.ntmps7
        go_wp2_with fail
        refine (ivalid_eqL E1.out _ (hs.below (bl_alloc (bl_alloc (bl_refl _) _) _))).mono ?_
        rintro e w1 ⟨rfl, hb1⟩
        have B1 : Bl w w1 := bl_call (bl_alloc (bl_alloc (bl_refl _) _) _) hb1
        have xF_1 : Bx w1 (w.heap.size) #[h, p, g] := ((Bx.new (b := w.heap.size) _ #[h, p, g] 26 (by first | rfl | simp)).alloc _).below hb1
        have xG_1 : Bx w1 (w.heap.size + 1) #[h', p', g'] := (Bx.new (b := w.heap.size + 1) _ #[h', p', g'] 26 (by first | rfl | simp)).below hb1
        obtain ⟨cF_1, fF_1, zF_1⟩ := xF_1.out
        obtain ⟨cG_1, fG_1, zG_1⟩ := xG_1.out
        go_wp2_with fail
        refine (ivalid_eqL E2.out _ (ht.below B1)).mono ?_
        rintro e w2 ⟨rfl, hb2⟩
        have B2 : Bl w w2 := bl_call B1 hb2
        have xF_2 : Bx w2 (w.heap.size) #[h, p, g] := xF_1.below hb2
        have xG_2 : Bx w2 (w.heap.size + 1) #[h', p', g'] := xG_1.below hb2
        clear cF_1 fF_1 zF_1 cG_1 fG_1 zG_1
        obtain ⟨cF_2, fF_2, zF_2⟩ := xF_2.out
        obtain ⟨cG_2, fG_2, zG_2⟩ := xG_2.out
        go_wp2_with fail
        refine (isMost_eq E3.out _).mono ?_
        rintro e w9 ⟨rfl, rfl⟩
        go_wp2_with fail
        go_region_held3 (fun w' => w'.cell? ⟨w.heap.size, 0, none⟩ = some (h) ∧ w'.cell? ⟨w.heap.size, 1, none⟩ = some (p) ∧ w'.cell? ⟨w.heap.size, 2, none⟩ = some (g) ∧ w'.cell? ⟨w.heap.size + 1, 0, none⟩ = some (h') ∧ w'.cell? ⟨w.heap.size + 1, 1, none⟩ = some (p') ∧ w'.cell? ⟨w.heap.size + 1, 2, none⟩ = some (g')) (first | (simp [*]; done) | (go_simp; done) | go_keep)
          (first | (go_at_call_of 42 (h); go_must (refine (shortOf_any h p g s _ (hs.below (bl_drew B2)) K1).mono ?_; rintro e w3 ⟨ax1, nx1, cx1, ax2, nx2, cx2, ax3, nx3, cx3, ax4, nx4, cx4, fx, rfl, HX, hb3⟩; have B3 : Bl w w3 := bl_call (bl_drew B2) hb3; have xF_3 : Bx w3 (w.heap.size) #[h, p, g] := xF_2.drew.below hb3; have xG_3 : Bx w3 (w.heap.size + 1) #[h', p', g'] := xG_2.drew.below hb3; clear cF_2 fF_2 zF_2 cG_2 fG_2 zG_2; obtain ⟨cF_3, fF_3, zF_3⟩ := xF_3.out; obtain ⟨cG_3, fG_3, zG_3⟩ := xG_3.out)) | (go_at_call_of 42 (h'); go_must (refine (shortOf_any h' p' g' t _ (ht.below B3) K2).mono ?_; rintro e w4 ⟨ay1, ny1, cy1, ay2, ny2, cy2, ay3, ny3, cy3, ay4, ny4, cy4, fy, rfl, HY, hb4⟩; have B4 : Bl w w4 := bl_call B3 hb4; have xF_4 : Bx w4 (w.heap.size) #[h, p, g] := xF_3.below hb4; have xG_4 : Bx w4 (w.heap.size + 1) #[h', p', g'] := xG_3.below hb4; clear cF_3 fF_3 zF_3 cG_3 fG_3 zG_3; obtain ⟨cF_4, fF_4, zF_4⟩ := xF_4.out; obtain ⟨cG_4, fG_4, zG_4⟩ := xG_4.out)) | (go_at_call 41; go_must (refine (compareBy_any _ _ _ _ _ _ _ _ _ _ _ _ _ (plainS s) _ _ _ _ _ _ _ _ _ _ _ _ _ (plainS t) M _ (HX.below hb4) HY (by omega)).mono ?_; rintro e w5 ⟨rfl, hb5⟩; have B5 : Bl w w5 := bl_call B4 hb5; have xF_5 : Bx w5 (w.heap.size) #[h, p, g] := xF_4.below hb5; have xG_5 : Bx w5 (w.heap.size + 1) #[h', p', g'] := xG_4.below hb5; clear cF_4 fF_4 zF_4 cG_4 fG_4 zG_4; obtain ⟨cF_5, fF_5, zF_5⟩ := xF_5.out; obtain ⟨cG_5, fG_5, zG_5⟩ := xG_5.out)))
        go_wp2
        go_ret2
        exact ⟨ret_ii2 HR.out, B5⟩

set_option maxRecDepth 100000 in
set_option maxHeartbeats 3200000 in
theorem spec_CompareSources (h p g : Value) (s : Src) (h' p' g' : Value) (t : Src) (m : Int) (w : World) (hs : SlS w h p g s) (ht : SlS w h' p' g' t) :
    Calls Try.prog 8 #[.agg #[h, p, g], .agg #[h', p', g'], .int .i64 m] w fun e w' => e = .returned (.tuple #[.int .i64 (cmpSrcF s t m).1, .int .i64 (cmpSrcF s t m).2]) ∧ Bl w w' := by
  by_cases hc : code17 s t m = 0
  ·
    have HR := Lib.hid (show cmpSrcF s t m = cmpP (plainS s) (plainS t) m.toNat by rw [cmpSrcF, if_pos hc])
    obtain ⟨k1, k2, hm⟩ := code17_zero hc
    obtain ⟨M, rfl⟩ := Int.eq_ofNat_of_zero_le (show 0 ≤ m by omega)
    rw [Int.toNat_natCast] at HR
    have hb : (code17 s t M != 0) = false := by simp [hc]
    have K1 := okSrc_H k1
    have K2 := okSrc_H k2
    clear k1 k2
    clear hc
    generalize hcc : code17 s t M = cc at *
    have HC := Lib.hid hcc
    clear hcc
    go_enter Try.func8, Try.ntmps8
    go_wp2_with fail
    refine (code17_any h p g s h' p' g' t M _ (w.heap.size) (w.heap.size + 1) (hs.below (bl_alloc (bl_alloc (bl_refl _) _) _)) (ht.below (bl_alloc (bl_alloc (bl_refl _) _) _)) ((Bx.new (b := w.heap.size) _ #[h, p, g] 26 (by first | rfl | simp)).alloc _) (Bx.new (b := w.heap.size + 1) _ #[h', p', g'] 26 (by first | rfl | simp))).mono ?_
    rintro e w1 ⟨rfl, hb1⟩
    have B1 : Bl w w1 := bl_call (bl_alloc (bl_alloc (bl_refl _) _) _) hb1
    have xF_1 : Bx w1 (w.heap.size) #[h, p, g] := ((Bx.new (b := w.heap.size) _ #[h, p, g] 26 (by first | rfl | simp)).alloc _).below hb1
    have xG_1 : Bx w1 (w.heap.size + 1) #[h', p', g'] := (Bx.new (b := w.heap.size + 1) _ #[h', p', g'] 26 (by first | rfl | simp)).below hb1
    obtain ⟨cF_1, fF_1, zF_1⟩ := xF_1.out
    obtain ⟨cG_1, fG_1, zG_1⟩ := xG_1.out
    rw [HC.out]
    go_wp2_with fail
    refine (scompare_any h p g s h' p' g' t M _ (w.heap.size) (w.heap.size + 1) (hs.below B1) (ht.below B1) xF_1 xG_1 K1.okPer K2.okPer K1.hb K2.hb (by omega)).mono ?_
    rintro e w2 ⟨rfl, hb2⟩
    have B2 : Bl w w2 := bl_call B1 hb2
    have xF_2 : Bx w2 (w.heap.size) #[h, p, g] := xF_1.below hb2
    have xG_2 : Bx w2 (w.heap.size + 1) #[h', p', g'] := xG_1.below hb2
    clear cF_1 fF_1 zF_1 cG_1 fG_1 zG_1
    obtain ⟨cF_2, fF_2, zF_2⟩ := xF_2.out
    obtain ⟨cG_2, fG_2, zG_2⟩ := xG_2.out
    go_wp2
    go_ret2
    exact ⟨ret_ii2 HR.out, B2⟩
  ·
    have HR := Lib.hid (show cmpSrcF s t m = (0, code17 s t m) by rw [cmpSrcF, if_neg hc])
    have hb : (code17 s t m != 0) = true := by simp [hc]
    clear hc
    generalize hcc : code17 s t m = cc at *
    have HC := Lib.hid hcc
    clear hcc
    go_enter Try.func8, Try.ntmps8
    go_wp2_with fail
    refine (code17_any h p g s h' p' g' t m _ (w.heap.size) (w.heap.size + 1) (hs.below (bl_alloc (bl_alloc (bl_refl _) _) _)) (ht.below (bl_alloc (bl_alloc (bl_refl _) _) _)) ((Bx.new (b := w.heap.size) _ #[h, p, g] 26 (by first | rfl | simp)).alloc _) (Bx.new (b := w.heap.size + 1) _ #[h', p', g'] 26 (by first | rfl | simp))).mono ?_
    rintro e w1 ⟨rfl, hb1⟩
    have B1 : Bl w w1 := bl_call (bl_alloc (bl_alloc (bl_refl _) _) _) hb1
    have xF_1 : Bx w1 (w.heap.size) #[h, p, g] := ((Bx.new (b := w.heap.size) _ #[h, p, g] 26 (by first | rfl | simp)).alloc _).below hb1
    have xG_1 : Bx w1 (w.heap.size + 1) #[h', p', g'] := (Bx.new (b := w.heap.size + 1) _ #[h', p', g'] 26 (by first | rfl | simp)).below hb1
    obtain ⟨cF_1, fF_1, zF_1⟩ := xF_1.out
    obtain ⟨cG_1, fG_1, zG_1⟩ := xG_1.out
    rw [HC.out]
    go_wp2
    go_ret2
    exact ⟨ret_ii2 HR.out, B1⟩

end Go.Proofs.Ytgkelemfbmmgnaa
