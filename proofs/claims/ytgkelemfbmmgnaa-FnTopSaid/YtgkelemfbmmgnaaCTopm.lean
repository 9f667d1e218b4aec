/- FnTop holds: sums, differences, products and quotients of terms are the terms of the exact results; the period of a surd comes again; and no fraction with a denominator up to a limit is nearer than the told one. Conditions: none. -/
import Derived.Test.YtgkelemfbmmgnaaMTp5
import Derived.Test.YtgkelemfbmmgnaaMTp41
import Derived.Test.YtgkelemfbmmgnaaMTp45
import Derived.Test.YtgkelemfbmmgnaaMTp9
namespace Go.Proofs.Ytgkelemfbmmgnaa
open Go.RowKit Go.ChangeShapes Go.WideShapes Go.ChangeAt
set_option linter.unusedVariables false
set_option linter.unusedSimpArgs false

theorem same_eqT {va vb : Value} {xs : List Int} (w : World) (ha : Sl w va xs) (hb : Sl w vb xs) :
    Calls Try.prog 26 #[va, vb] w fun e w' => e = .returned (.bool true) ∧ Bl w w' :=
  (a2same_any va vb xs xs w ha hb).mono fun e w' q => ⟨by rw [q.1]; simp, q.2⟩
theorem opT_eq {op k : Int} {xs ys L : List Int} {vx vy : Value} (hr : opF op xs ys = (L, k)) (w : World) (hx : Sl w vx xs) (lx : xs.length ≤ 1048576) (hy : Sl w vy ys) (ly : ys.length ≤ 1048576) :
    Calls Try.prog 25 #[.int .i64 op, vx, vy] w fun r w' => ∃ a c, r = .returned (.tuple #[.slice a L.length c, .int .i64 k]) ∧ Own w' w.heap.size (.slice a L.length c) L ∧ Bl w w' :=
  (impl_OperateTerms op vx xs vy ys w hx lx hy ly).mono fun r w' ⟨x, n, c, h1, h2, h3⟩ => by
    rw [hr] at h1 h2
    obtain ⟨a2, c2, e2, _⟩ := h2.form
    injection e2 with g1 g2 g3
    subst g1; subst g2; subst g3
    exact ⟨_, _, h1, h2, h3⟩
theorem nearT_eq {n d m x y : Int} (h : nearFrF n d m = ((x, y), 0)) (w : World) : Calls Try.prog 32 #[.agg #[.int .i64 n, .int .i64 d], .int .i64 m] w fun r w' => r = .returned (.tuple #[.agg #[.int .i64 x, .int .i64 y], .int .i64 0]) ∧ Bl w w' :=
  (impl_NearestFraction n d m w).mono fun _ _ q => by rw [h] at q; exact q
theorem cmpT_eq {n d a b p q c : Int} (h : compErrF n d a b p q = (c, 0)) (w : World) : Calls Try.prog 35 #[.agg #[.int .i64 n, .int .i64 d], .agg #[.int .i64 a, .int .i64 b], .agg #[.int .i64 p, .int .i64 q]] w fun r w' => r = .returned (.tuple #[.int .i64 c, .int .i64 0]) ∧ Bl w w' :=
  (spec_CompareErrors n d a b p q w).mono fun _ _ q => by rw [h] at q; exact q
theorem expT_eq {n d : Int} (w : World) (ok : okF n d = true) :
    Calls Try.prog 23 #[.agg #[.int .i64 n, .int .i64 d]] w fun e w' => ∃ a c, e = .returned (.tuple #[.slice a (termsF n d).length c, .int .i64 0]) ∧ Own w' w.heap.size (.slice a (termsF n d).length c) (termsF n d) ∧ Bl w w' :=
  expandS_okR w ok
theorem tosT_eq {x y z : Int} {T L : List Int} {k n : Nat} (w : World) (h0 : okU x y z = true) (hw : wkF [] [] (x, y, z) = some (T, k)) (hn : n ≤ 200) (hL : tsL T k n = L) :
    Calls Try.prog 29 #[.agg #[.int .i64 x, .int .i64 y, .int .i64 z], .int .i64 n] w fun e w' => ∃ a c, e = .returned (.tuple #[.slice a L.length c, .int .i64 0]) ∧ Own w' w.heap.size (.slice a L.length c) L ∧ Bl w w' := hL ▸ itos_ok w h0 hw hn
theorem pb_T {n q d : Int} (hn : -2000 ≤ n ∧ n ≤ 2000) (hq : 1 ≤ q ∧ q ≤ 60) (hd : 1 ≤ d) : (-120000 ≤ n * q ∧ n * q ≤ 120000) ∧ (-120000 ≤ (n * q).tdiv d ∧ (n * q).tdiv d ≤ 120000) := by
  have m := mulU (x := n) (y := q) (X := 2000) (Y := 60) (by omega) hn (by omega)
  exact ⟨m, tdiv_bd (a := n * q) (M := 120000) d m⟩
theorem own_madeT (X : World) {B k : Nat} (hk : k = X.heap.size) (hB : B ≤ X.heap.size) : Own (X.alloc (.cells #[] 2)) B (.slice (some ⟨k, 0, none⟩) 0 0) [] := by subst hk; exact own_made X hB
theorem svalidT_eq {n d : Int} {b : Bool} (h : okF n d = b) (w : World) :
    Calls Try.prog 33 #[.agg #[.int .i64 n, .int .i64 d]] w fun e w' => e = .returned (.bool b) ∧ Bl w w' := by
  subst h
  go_enter Try.func33, Try.ntmps33
  go_wp2_with fail
  refine (ok_any n d _).mono ?_
  rintro e w1 ⟨rfl, hb1⟩
  have B1 : Bl w w1 := bl_call (bl_alloc (bl_refl _) _) hb1
  have xF_1 : Bx w1 (w.heap.size) #[.int .i64 n, .int .i64 d] := (Bx.new (b := w.heap.size) _ #[.int .i64 n, .int .i64 d] 44 (by first | rfl | simp)).below hb1
  obtain ⟨cF_1, fF_1, zF_1⟩ := xF_1.out
  go_wp2
  go_ret
  exact ⟨rfl, B1⟩
set_option maxRecDepth 100000 in
set_option maxHeartbeats 51200000 in
theorem lawTop (v0 : Value) (x0 : List Int) (v1 : Value) (x1 : List Int) (w : World) (S0 : SlB w v0 x0) (S1 : SlB w v1 x1) :
    Calls Try.prog 4 #[v0, v1] w fun e w' => e = .returned (.bool true) ∧ Bl w w' := by
  have H0 := Lib.hid S0
  have H1 := Lib.hid S1
  obtain ⟨a0, c0, rfl, _⟩ := S0.form
  obtain ⟨a1, c1, rfl, _⟩ := S1.form
  clear S0 S1
  by_cases hl : 3000 < x0.length ∨ 3000 < x1.length
  · have hL := Lib.hid (decide_eq_true hl)
    clear hl
    go_enter Try.func4, Try.ntmps4
    go_wp2_with fail
    refine (a2long_any H0.out H1.out).mono ?_
    rintro e w9 ⟨rfl, rfl⟩
    rw [hL.out]
    go_wp2
    go_ret
    exact ⟨rfl, bl_refl _⟩
  · have hL := Lib.hid (decide_eq_false hl)
    have hl0 : x0.length ≤ 3000 := by omega
    have hl1 : x1.length ≤ 3000 := by omega
    clear hl
    go_enter Try.func4, Try.ntmps4
    go_wp2_with fail
    refine (a2long_any H0.out H1.out).mono ?_
    rintro e w9 ⟨rfl, rfl⟩
    rw [hL.out]
    go_wp2_with fail
    refine (a2frac_any H0.out hl0).mono ?_
    rintro e w1 ⟨xn, xd, yn, yd, n3, d3, rfl, hq1, hq2, hq3, hb1⟩
    have B1 : Bl w w1 := bl_call (bl_refl _) hb1
    obtain ⟨hgx, hxd, hxn⟩ := hq1
    obtain ⟨hgy, hyd, hyn⟩ := hq2
    clear hq3
    have HX := Lib.hid (show okF xn xd = true from okF_iff.2 ⟨by omega, by omega, hgx⟩)
    have HY := Lib.hid (show okF yn yd = true from okF_iff.2 ⟨by omega, by omega, hgy⟩)
    clear hgx hgy
    go_wp2_with fail
    have B2 : Bl w (((w1.alloc (.cells #[.int .i64 xn, .int .i64 xd] 44)).alloc (.cells #[.int .i64 yn, .int .i64 yd] 44)).alloc (.cells #[.int .i64 n3, .int .i64 d3] 44)) := (bl_alloc (bl_alloc (bl_alloc B1 _) _) _)
    have xX_2 : Bx (((w1.alloc (.cells #[.int .i64 xn, .int .i64 xd] 44)).alloc (.cells #[.int .i64 yn, .int .i64 yd] 44)).alloc (.cells #[.int .i64 n3, .int .i64 d3] 44)) (w1.heap.size) #[.int .i64 xn, .int .i64 xd] := (((Bx.new (b := w1.heap.size) _ #[.int .i64 xn, .int .i64 xd] 44 (by first | rfl | simp)).alloc _).alloc _)
    have xY_2 : Bx (((w1.alloc (.cells #[.int .i64 xn, .int .i64 xd] 44)).alloc (.cells #[.int .i64 yn, .int .i64 yd] 44)).alloc (.cells #[.int .i64 n3, .int .i64 d3] 44)) (w1.heap.size + 1) #[.int .i64 yn, .int .i64 yd] := ((Bx.new (b := w1.heap.size + 1) _ #[.int .i64 yn, .int .i64 yd] 44 (by first | rfl | simp)).alloc _)
    have xZ_2 : Bx (((w1.alloc (.cells #[.int .i64 xn, .int .i64 xd] 44)).alloc (.cells #[.int .i64 yn, .int .i64 yd] 44)).alloc (.cells #[.int .i64 n3, .int .i64 d3] 44)) (w1.heap.size + 1 + 1) #[.int .i64 n3, .int .i64 d3] := (Bx.new (b := w1.heap.size + 1 + 1) _ #[.int .i64 n3, .int .i64 d3] 44 (by first | rfl | simp))
    have zz2 : w1.heap.size + 3 ≤ (((w1.alloc (.cells #[.int .i64 xn, .int .i64 xd] 44)).alloc (.cells #[.int .i64 yn, .int .i64 yd] 44)).alloc (.cells #[.int .i64 n3, .int .i64 d3] 44)).heap.size := (by simp)
    generalize (((w1.alloc (.cells #[.int .i64 xn, .int .i64 xd] 44)).alloc (.cells #[.int .i64 yn, .int .i64 yd] 44)).alloc (.cells #[.int .i64 n3, .int .i64 d3] 44)) = w2 at *
    obtain ⟨cX_2, fX_2, zX_2⟩ := xX_2.out
    obtain ⟨cY_2, fY_2, zY_2⟩ := xY_2.out
    obtain ⟨cZ_2, fZ_2, zZ_2⟩ := xZ_2.out
    have HLAW : Hid (∀ op : Int, 1 ≤ op ∧ op ≤ 4 → _) := Lib.hid (fun op hop => op_law hop HX.out HY.out hxn hxd.2 hyn hyd.2)
    obtain ⟨xs, hxs⟩ : ∃ xs, xs = termsF xn xd := ⟨_, rfl⟩
    obtain ⟨ys, hys⟩ : ∃ ys, ys = termsF yn yd := ⟨_, rfl⟩
    have hlx : xs.length ≤ 60 := by rw [hxs]; exact termsF_60 (by omega) (by omega)
    have hly : ys.length ≤ 60 := by rw [hys]; exact termsF_60 (by omega) (by omega)
    rw [← hxs, ← hys] at HLAW
    have HXS := Lib.hid hxs
    have HYS := Lib.hid hys
    clear hxs hys
    refine (expT_eq _ HX.out).mono ?_
    rintro e w3 ⟨p1, q1, rfl, HT, hb3⟩
    have B3 : Bl w w3 := bl_call B2 hb3
    have xX_3 : Bx w3 (w1.heap.size) #[.int .i64 xn, .int .i64 xd] := xX_2.below hb3
    have xY_3 : Bx w3 (w1.heap.size + 1) #[.int .i64 yn, .int .i64 yd] := xY_2.below hb3
    have xZ_3 : Bx w3 (w1.heap.size + 1 + 1) #[.int .i64 n3, .int .i64 d3] := xZ_2.below hb3
    clear cX_2 fX_2 zX_2 cY_2 fY_2 zY_2 cZ_2 fZ_2 zZ_2
    obtain ⟨cX_3, fX_3, zX_3⟩ := xX_3.out
    obtain ⟨cY_3, fY_3, zY_3⟩ := xY_3.out
    obtain ⟨cZ_3, fZ_3, zZ_3⟩ := xZ_3.out
    rw [← HXS.out] at HT
    rw [← HXS.out]
    have HT := Lib.hid HT.sl
    clear HXS
    go_wp2_with fail
    refine (expT_eq _ HY.out).mono ?_
    rintro e w4 ⟨p2, q2, rfl, HU, hb4⟩
    have B4 : Bl w w4 := bl_call B3 hb4
    have xX_4 : Bx w4 (w1.heap.size) #[.int .i64 xn, .int .i64 xd] := xX_3.below hb4
    have xY_4 : Bx w4 (w1.heap.size + 1) #[.int .i64 yn, .int .i64 yd] := xY_3.below hb4
    have xZ_4 : Bx w4 (w1.heap.size + 1 + 1) #[.int .i64 n3, .int .i64 d3] := xZ_3.below hb4
    clear cX_3 fX_3 zX_3 cY_3 fY_3 zY_3 cZ_3 fZ_3 zZ_3
    obtain ⟨cX_4, fX_4, zX_4⟩ := xX_4.out
    obtain ⟨cY_4, fY_4, zY_4⟩ := xY_4.out
    obtain ⟨cZ_4, fZ_4, zZ_4⟩ := xZ_4.out
    have HT : Hid (Sl w4 (.slice p1 xs.length q1) xs) := Lib.hid ((HT.out.below (bl_refl w3)).below hb4)
    rw [← HYS.out] at HU
    rw [← HYS.out]
    have HU := Lib.hid HU.sl
    clear HYS
    go_wp2_with fail
    clear cX_4 fX_4 zX_4 cY_4 fY_4 zY_4 cZ_4 fZ_4 zZ_4
    go_loopw [12] (fun s12 wr => ∃ op : Int, (1 ≤ op ∧ op ≤ 5) ∧ s12 = .int .i64 op ∧ Bx wr (w1.heap.size) #[.int .i64 xn, .int .i64 xd] ∧ Bx wr (w1.heap.size + 1) #[.int .i64 yn, .int .i64 yd] ∧ Hid (Sl wr (.slice p1 xs.length q1) xs) ∧ Hid (Sl wr (.slice p2 ys.length q2) ys) ∧ Bl w wr) (fun s12 _ => (5 - intOf s12).toNat)
    case atStart => exact ⟨1, by omega, rfl, xX_4, xY_4, HT, HU, B4⟩
    case round =>
      obtain ⟨op, hop, rfl, xXr, xYr, HTr, HUr, hB⟩ := hrel
      clear HT HU xX_4 xY_4
      by_cases hop4 : op ≤ 4
      · rcases HLAW.out op (by omega) with ⟨ha, hb⟩ | ⟨p, q, ha, hpq, hb⟩
        · skip
          have HA := Lib.hid ha
          have HB := Lib.hid hb
          clear ha hb
          obtain ⟨cXr, fXr, zXr⟩ := xXr.out
          obtain ⟨cYr, fYr, zYr⟩ := xYr.out
          go_wp2_with fail
          refine (lres_any _ (by omega) HX.out HY.out hxn hxd hyn hyd HA.out).mono ?_
          rintro e wr1 ⟨rfl, hbr1⟩
          have Br1 : Bl w wr1 := bl_call hB hbr1
          have xX_r1 : Bx wr1 (w1.heap.size) #[.int .i64 xn, .int .i64 xd] := xXr.below hbr1
          have xY_r1 : Bx wr1 (w1.heap.size + 1) #[.int .i64 yn, .int .i64 yd] := xYr.below hbr1
          clear cXr fXr zXr cYr fYr zYr
          obtain ⟨cX_r1, fX_r1, zX_r1⟩ := xX_r1.out
          obtain ⟨cY_r1, fY_r1, zY_r1⟩ := xY_r1.out
          have HTr : Hid (Sl wr1 (.slice p1 xs.length q1) xs) := Lib.hid ((HTr.out.below (bl_refl wr)).below hbr1)
          have HUr : Hid (Sl wr1 (.slice p2 ys.length q2) ys) := Lib.hid ((HUr.out.below (bl_refl wr)).below hbr1)
          go_wp2_with fail
          have Br2 : Bl w (wr1.alloc (.cells #[.int .i64 0, .int .i64 0] 44)) := (bl_alloc Br1 _)
          have xX_r2 : Bx (wr1.alloc (.cells #[.int .i64 0, .int .i64 0] 44)) (w1.heap.size) #[.int .i64 xn, .int .i64 xd] := (xX_r1.alloc _)
          have xY_r2 : Bx (wr1.alloc (.cells #[.int .i64 0, .int .i64 0] 44)) (w1.heap.size + 1) #[.int .i64 yn, .int .i64 yd] := (xY_r1.alloc _)
          have xW_r2 : Bx (wr1.alloc (.cells #[.int .i64 0, .int .i64 0] 44)) (wr1.heap.size) #[.int .i64 0, .int .i64 0] := (Bx.new (b := wr1.heap.size) _ #[.int .i64 0, .int .i64 0] 44 (by first | rfl | simp))
          have zzr2 : wr1.heap.size + 1 ≤ (wr1.alloc (.cells #[.int .i64 0, .int .i64 0] 44)).heap.size := (by simp)
          clear cX_r1 fX_r1 zX_r1 cY_r1 fY_r1 zY_r1
          have HTr : Hid (Sl (wr1.alloc (.cells #[.int .i64 0, .int .i64 0] 44)) (.slice p1 xs.length q1) xs) := Lib.hid (HTr.out.below (bl_alloc (bl_refl wr1) _))
          have HUr : Hid (Sl (wr1.alloc (.cells #[.int .i64 0, .int .i64 0] 44)) (.slice p2 ys.length q2) ys) := Lib.hid (HUr.out.below (bl_alloc (bl_refl wr1) _))
          generalize (wr1.alloc (.cells #[.int .i64 0, .int .i64 0] 44)) = wr2 at *
          obtain ⟨cX_r2, fX_r2, zX_r2⟩ := xX_r2.out
          obtain ⟨cY_r2, fY_r2, zY_r2⟩ := xY_r2.out
          obtain ⟨cW_r2, fW_r2, zW_r2⟩ := xW_r2.out
          refine (opT_eq HB.out _ HTr.out (by omega) HUr.out (by omega)).mono ?_
          rintro e wr3 ⟨x9, c9, rfl, HL, hbr3⟩
          have Br3 : Bl w wr3 := bl_call Br2 hbr3
          have xX_r3 : Bx wr3 (w1.heap.size) #[.int .i64 xn, .int .i64 xd] := xX_r2.below hbr3
          have xY_r3 : Bx wr3 (w1.heap.size + 1) #[.int .i64 yn, .int .i64 yd] := xY_r2.below hbr3
          have xW_r3 : Bx wr3 (wr1.heap.size) #[.int .i64 0, .int .i64 0] := xW_r2.below hbr3
          clear cX_r2 fX_r2 zX_r2 cY_r2 fY_r2 zY_r2 cW_r2 fW_r2 zW_r2
          obtain ⟨cX_r3, fX_r3, zX_r3⟩ := xX_r3.out
          obtain ⟨cY_r3, fY_r3, zY_r3⟩ := xY_r3.out
          obtain ⟨cW_r3, fW_r3, zW_r3⟩ := xW_r3.out
          have HTr : Hid (Sl wr3 (.slice p1 xs.length q1) xs) := Lib.hid ((HTr.out.below (bl_refl wr2)).below hbr3)
          have HUr : Hid (Sl wr3 (.slice p2 ys.length q2) ys) := Lib.hid ((HUr.out.below (bl_refl wr2)).below hbr3)
          go_wp2
          go_roundw
          case rel => exact ⟨op + 1, by omega, by go_num, xX_r3, xY_r3, HTr, HUr, Br3⟩
          case measure => simp only [intOf]; omega
        · skip
          have HA := Lib.hid ha
          have HB := Lib.hid hb
          clear ha hb
          have HPQ := Lib.hid hpq
          obtain ⟨zs, hzs⟩ : ∃ zs, zs = termsF p q := ⟨_, rfl⟩
          rw [← hzs] at HB
          have HZS := Lib.hid hzs
          have hopq := okF_iff.1 hpq
          have hzl : zs.length ≤ 60 := by rw [hzs]; exact termsF_60 (by omega) (by omega)
          clear hpq hzs hopq
          obtain ⟨cXr, fXr, zXr⟩ := xXr.out
          obtain ⟨cYr, fYr, zYr⟩ := xYr.out
          go_wp2_with fail
          refine (lres_any _ (by omega) HX.out HY.out hxn hxd hyn hyd HA.out).mono ?_
          rintro e wr1 ⟨rfl, hbr1⟩
          have Br1 : Bl w wr1 := bl_call hB hbr1
          have xX_r1 : Bx wr1 (w1.heap.size) #[.int .i64 xn, .int .i64 xd] := xXr.below hbr1
          have xY_r1 : Bx wr1 (w1.heap.size + 1) #[.int .i64 yn, .int .i64 yd] := xYr.below hbr1
          clear cXr fXr zXr cYr fYr zYr
          obtain ⟨cX_r1, fX_r1, zX_r1⟩ := xX_r1.out
          obtain ⟨cY_r1, fY_r1, zY_r1⟩ := xY_r1.out
          have HTr : Hid (Sl wr1 (.slice p1 xs.length q1) xs) := Lib.hid ((HTr.out.below (bl_refl wr)).below hbr1)
          have HUr : Hid (Sl wr1 (.slice p2 ys.length q2) ys) := Lib.hid ((HUr.out.below (bl_refl wr)).below hbr1)
          go_wp2_with fail
          have Br2 : Bl w (wr1.alloc (.cells #[.int .i64 p, .int .i64 q] 44)) := (bl_alloc Br1 _)
          have xX_r2 : Bx (wr1.alloc (.cells #[.int .i64 p, .int .i64 q] 44)) (w1.heap.size) #[.int .i64 xn, .int .i64 xd] := (xX_r1.alloc _)
          have xY_r2 : Bx (wr1.alloc (.cells #[.int .i64 p, .int .i64 q] 44)) (w1.heap.size + 1) #[.int .i64 yn, .int .i64 yd] := (xY_r1.alloc _)
          have xW_r2 : Bx (wr1.alloc (.cells #[.int .i64 p, .int .i64 q] 44)) (wr1.heap.size) #[.int .i64 p, .int .i64 q] := (Bx.new (b := wr1.heap.size) _ #[.int .i64 p, .int .i64 q] 44 (by first | rfl | simp))
          have zzr2 : wr1.heap.size + 1 ≤ (wr1.alloc (.cells #[.int .i64 p, .int .i64 q] 44)).heap.size := (by simp)
          clear cX_r1 fX_r1 zX_r1 cY_r1 fY_r1 zY_r1
          have HTr : Hid (Sl (wr1.alloc (.cells #[.int .i64 p, .int .i64 q] 44)) (.slice p1 xs.length q1) xs) := Lib.hid (HTr.out.below (bl_alloc (bl_refl wr1) _))
          have HUr : Hid (Sl (wr1.alloc (.cells #[.int .i64 p, .int .i64 q] 44)) (.slice p2 ys.length q2) ys) := Lib.hid (HUr.out.below (bl_alloc (bl_refl wr1) _))
          generalize (wr1.alloc (.cells #[.int .i64 p, .int .i64 q] 44)) = wr2 at *
          obtain ⟨cX_r2, fX_r2, zX_r2⟩ := xX_r2.out
          obtain ⟨cY_r2, fY_r2, zY_r2⟩ := xY_r2.out
          obtain ⟨cW_r2, fW_r2, zW_r2⟩ := xW_r2.out
          refine (opT_eq HB.out _ HTr.out (by omega) HUr.out (by omega)).mono ?_
          rintro e wr3 ⟨x9, c9, rfl, HL, hbr3⟩
          have Br3 : Bl w wr3 := bl_call Br2 hbr3
          have xX_r3 : Bx wr3 (w1.heap.size) #[.int .i64 xn, .int .i64 xd] := xX_r2.below hbr3
          have xY_r3 : Bx wr3 (w1.heap.size + 1) #[.int .i64 yn, .int .i64 yd] := xY_r2.below hbr3
          have xW_r3 : Bx wr3 (wr1.heap.size) #[.int .i64 p, .int .i64 q] := xW_r2.below hbr3
          clear cX_r2 fX_r2 zX_r2 cY_r2 fY_r2 zY_r2 cW_r2 fW_r2 zW_r2
          obtain ⟨cX_r3, fX_r3, zX_r3⟩ := xX_r3.out
          obtain ⟨cY_r3, fY_r3, zY_r3⟩ := xY_r3.out
          obtain ⟨cW_r3, fW_r3, zW_r3⟩ := xW_r3.out
          have HTr : Hid (Sl wr3 (.slice p1 xs.length q1) xs) := Lib.hid ((HTr.out.below (bl_refl wr2)).below hbr3)
          have HUr : Hid (Sl wr3 (.slice p2 ys.length q2) ys) := Lib.hid ((HUr.out.below (bl_refl wr2)).below hbr3)
          have HL := Lib.hid HL.sl
          go_wp2_with fail
          refine (expT_eq _ HPQ.out).mono ?_
          rintro e wr4 ⟨p3, q3, rfl, HW, hbr4⟩
          have Br4 : Bl w wr4 := bl_call Br3 hbr4
          have xX_r4 : Bx wr4 (w1.heap.size) #[.int .i64 xn, .int .i64 xd] := xX_r3.below hbr4
          have xY_r4 : Bx wr4 (w1.heap.size + 1) #[.int .i64 yn, .int .i64 yd] := xY_r3.below hbr4
          have xW_r4 : Bx wr4 (wr1.heap.size) #[.int .i64 p, .int .i64 q] := xW_r3.below hbr4
          clear cX_r3 fX_r3 zX_r3 cY_r3 fY_r3 zY_r3 cW_r3 fW_r3 zW_r3
          obtain ⟨cX_r4, fX_r4, zX_r4⟩ := xX_r4.out
          obtain ⟨cY_r4, fY_r4, zY_r4⟩ := xY_r4.out
          obtain ⟨cW_r4, fW_r4, zW_r4⟩ := xW_r4.out
          have HTr : Hid (Sl wr4 (.slice p1 xs.length q1) xs) := Lib.hid ((HTr.out.below (bl_refl wr3)).below hbr4)
          have HUr : Hid (Sl wr4 (.slice p2 ys.length q2) ys) := Lib.hid ((HUr.out.below (bl_refl wr3)).below hbr4)
          have HL : Hid (Sl wr4 (.slice x9 zs.length c9) zs) := Lib.hid ((HL.out.below (bl_refl wr3)).below hbr4)
          rw [← HZS.out] at HW
          rw [← HZS.out]
          have HW := Lib.hid HW.sl
          go_wp2_with fail
          refine (same_eqT _ HL.out HW.out).mono ?_
          rintro e wr5 ⟨rfl, hbr5⟩
          have Br5 : Bl w wr5 := bl_call Br4 hbr5
          have xX_r5 : Bx wr5 (w1.heap.size) #[.int .i64 xn, .int .i64 xd] := xX_r4.below hbr5
          have xY_r5 : Bx wr5 (w1.heap.size + 1) #[.int .i64 yn, .int .i64 yd] := xY_r4.below hbr5
          have xW_r5 : Bx wr5 (wr1.heap.size) #[.int .i64 p, .int .i64 q] := xW_r4.below hbr5
          clear cX_r4 fX_r4 zX_r4 cY_r4 fY_r4 zY_r4 cW_r4 fW_r4 zW_r4
          obtain ⟨cX_r5, fX_r5, zX_r5⟩ := xX_r5.out
          obtain ⟨cY_r5, fY_r5, zY_r5⟩ := xY_r5.out
          obtain ⟨cW_r5, fW_r5, zW_r5⟩ := xW_r5.out
          have HTr : Hid (Sl wr5 (.slice p1 xs.length q1) xs) := Lib.hid ((HTr.out.below (bl_refl wr4)).below hbr5)
          have HUr : Hid (Sl wr5 (.slice p2 ys.length q2) ys) := Lib.hid ((HUr.out.below (bl_refl wr4)).below hbr5)
          have HL : Hid (Sl wr5 (.slice x9 zs.length c9) zs) := Lib.hid ((HL.out.below (bl_refl wr4)).below hbr5)
          go_wp2
          go_roundw
          case rel => exact ⟨op + 1, by omega, by go_num, xX_r5, xY_r5, HTr, HUr, Br5⟩
          case measure => simp only [intOf]; omega
      · clear xXr xYr HTr HUr HLAW HX HY hxn hxd hyn hyd
        have H1s := Lib.hid (H1.out.below hB)
        go_wp2_with fail
        refine (a2surd_any H1s.out (by omega)).mono ?_
        rintro e ws1 ⟨x, y, z, rfl, hbs1⟩
        have Bs1 : Bl w ws1 := bl_call hB hbs1
        go_wp2_with fail
        have Bs2 : Bl w (ws1.alloc (.cells #[.int .i64 x, .int .i64 y, .int .i64 z] 52)) := (bl_alloc Bs1 _)
        have xS_s2 : Bx (ws1.alloc (.cells #[.int .i64 x, .int .i64 y, .int .i64 z] 52)) (ws1.heap.size) #[.int .i64 x, .int .i64 y, .int .i64 z] := (Bx.new (b := ws1.heap.size) _ #[.int .i64 x, .int .i64 y, .int .i64 z] 52 (by first | rfl | simp))
        have zzs2 : ws1.heap.size + 1 ≤ (ws1.alloc (.cells #[.int .i64 x, .int .i64 y, .int .i64 z] 52)).heap.size := (by simp)
        generalize (ws1.alloc (.cells #[.int .i64 x, .int .i64 y, .int .i64 z] 52)) = ws2 at *
        obtain ⟨cS_s2, fS_s2, zS_s2⟩ := xS_s2.out
        cases hu : okU x y z with
        | false =>
          have HU2 := Lib.hid hu
          clear hu
          go_wp2_with fail
          refine (iperc_bad _ HU2.out).mono ?_
          rintro e wb3 ⟨rfl, hbb3⟩
          have Bb3 : Bl w wb3 := bl_call Bs2 hbb3
          have xS_b3 : Bx wb3 (ws1.heap.size) #[.int .i64 x, .int .i64 y, .int .i64 z] := xS_s2.below hbb3
          clear cS_s2 fS_s2 zS_s2
          obtain ⟨cS_b3, fS_b3, zS_b3⟩ := xS_b3.out
          clear cS_b3 fS_b3 zS_b3
          have H0t := Lib.hid (H0.out.below Bb3)
          have H1t := Lib.hid (H1.out.below Bb3)
          go_wp2_with fail
          refine (a2small_any H1t.out hl1).mono ?_
          rintro e wc1 ⟨n, d, rfl, hg, hd, hn, hbc1⟩
          have Bc1 : Bl w wc1 := bl_call Bb3 hbc1
          have HOK := Lib.hid (show okF n d = true from okF_iff.2 ⟨by omega, by omega, hg⟩)
          clear hg
          go_wp2_with fail
          have Bc2 : Bl w (wc1.alloc (.cells #[.int .i64 n, .int .i64 d] 44)) := (bl_alloc Bc1 _)
          have xF_c2 : Bx (wc1.alloc (.cells #[.int .i64 n, .int .i64 d] 44)) (wc1.heap.size) #[.int .i64 n, .int .i64 d] := (Bx.new (b := wc1.heap.size) _ #[.int .i64 n, .int .i64 d] 44 (by first | rfl | simp))
          have zzc2 : wc1.heap.size + 1 ≤ (wc1.alloc (.cells #[.int .i64 n, .int .i64 d] 44)).heap.size := (by simp)
          generalize (wc1.alloc (.cells #[.int .i64 n, .int .i64 d] 44)) = wc2 at *
          obtain ⟨cF_c2, fF_c2, zF_c2⟩ := xF_c2.out
          have H0u := Lib.hid (H0.out.below Bc2)
          refine (bytes_at H0u.out (by omega) 0 60 (by omega) (by omega)).mono ?_
          rintro r w9 ⟨t, rfl, ht0, ht1, rfl⟩
          obtain ⟨m, hm⟩ : ∃ m, m = 1 + t := ⟨_, rfl⟩
          have HM := Lib.hid hm.symm
          have hmb : 1 ≤ m ∧ m ≤ 60 := by omega
          clear hm
          obtain ⟨x, y, hnr, hxy, hyb, hcm⟩ := near_facts HOK.out hn hd.2 hmb
          have HNR := Lib.hid hnr
          have HXY := Lib.hid hxy
          have HCM := Lib.hid hcm
          clear hnr hxy hcm
          go_wp2_with fail
          rw [HM.out]
          refine (nearT_eq HNR.out _).mono ?_
          rintro e wc3 ⟨rfl, hbc3⟩
          have Bc3 : Bl w wc3 := bl_call Bc2 hbc3
          have xF_c3 : Bx wc3 (wc1.heap.size) #[.int .i64 n, .int .i64 d] := xF_c2.below hbc3
          clear cF_c2 fF_c2 zF_c2
          obtain ⟨cF_c3, fF_c3, zF_c3⟩ := xF_c3.out
          go_wp2_with fail
          have Bc4 : Bl w (wc3.alloc (.cells #[.int .i64 x, .int .i64 y] 44)) := (bl_alloc Bc3 _)
          have xF_c4 : Bx (wc3.alloc (.cells #[.int .i64 x, .int .i64 y] 44)) (wc1.heap.size) #[.int .i64 n, .int .i64 d] := (xF_c3.alloc _)
          have xG_c4 : Bx (wc3.alloc (.cells #[.int .i64 x, .int .i64 y] 44)) (wc3.heap.size) #[.int .i64 x, .int .i64 y] := (Bx.new (b := wc3.heap.size) _ #[.int .i64 x, .int .i64 y] 44 (by first | rfl | simp))
          have zzc4 : wc3.heap.size + 1 ≤ (wc3.alloc (.cells #[.int .i64 x, .int .i64 y] 44)).heap.size := (by simp)
          clear cF_c3 fF_c3 zF_c3
          generalize (wc3.alloc (.cells #[.int .i64 x, .int .i64 y] 44)) = wc4 at *
          obtain ⟨cF_c4, fF_c4, zF_c4⟩ := xF_c4.out
          obtain ⟨cG_c4, fG_c4, zG_c4⟩ := xG_c4.out
          refine (svalidT_eq HXY.out _).mono ?_
          rintro e wc5 ⟨rfl, hbc5⟩
          have Bc5 : Bl w wc5 := bl_call Bc4 hbc5
          have xF_c5 : Bx wc5 (wc1.heap.size) #[.int .i64 n, .int .i64 d] := xF_c4.below hbc5
          have xG_c5 : Bx wc5 (wc3.heap.size) #[.int .i64 x, .int .i64 y] := xG_c4.below hbc5
          clear cF_c4 fF_c4 zF_c4 cG_c4 fG_c4 zG_c4
          obtain ⟨cF_c5, fF_c5, zF_c5⟩ := xF_c5.out
          obtain ⟨cG_c5, fG_c5, zG_c5⟩ := xG_c5.out
          go_wp2_with fail
          clear cF_c5 fF_c5 zF_c5 cG_c5 fG_c5 zG_c5
          go_loopw [30] (fun s30 wq => ∃ q : Int, (1 ≤ q ∧ q ≤ m + 1) ∧ s30 = .int .i64 q ∧ Bx wq (wc1.heap.size) #[.int .i64 n, .int .i64 d] ∧ Bx wq (wc3.heap.size) #[.int .i64 x, .int .i64 y] ∧ Bl w wq) (fun s30 _ => (m + 1 - intOf s30).toNat)
          case atStart => exact ⟨1, by omega, rfl, xF_c5, xG_c5, Bc5⟩
          case round =>
            obtain ⟨q, hq, rfl, xFq, xGq, hBq⟩ := hrel
            clear xF_c5 xG_c5
            by_cases hqm : q ≤ m
            · have pb := pb_T (d := d) hn (show 1 ≤ q ∧ q ≤ 60 by omega) hd.1
              obtain ⟨p, hp⟩ : ∃ p, p = (n * q).tdiv d := ⟨_, rfl⟩
              have hdz : (d == 0) = false := by simp; omega
              have hdz2 : d ≠ 0 := by omega
              have hwp : IntKind.i64.wrap ((n * q).tdiv d) = p := by rw [← hp, IntKind.wrap_i64]; omega
              have hwm : IntKind.i64.wrap (n * q) = n * q := by rw [IntKind.wrap_i64]; omega
              rw [← hp] at pb
              clear hp
              obtain ⟨cFq, fFq, zFq⟩ := xFq.out
              obtain ⟨cGq, fGq, zGq⟩ := xGq.out
              go_wp2_with fail
              clear cFq fFq zFq cGq fGq zGq
              go_loopw [32] (fun s32 wi => ∃ k : Int, (p - 1 ≤ k ∧ k ≤ p + 2) ∧ s32 = .int .i64 k ∧ Bx wi (wc1.heap.size) #[.int .i64 n, .int .i64 d] ∧ Bx wi (wc3.heap.size) #[.int .i64 x, .int .i64 y] ∧ Bl w wi) (fun s32 _ => (p + 2 - intOf s32).toNat)
              case atStart => exact ⟨p - 1, by omega, by go_num, xFq, xGq, hBq⟩
              case round =>
                obtain ⟨k, hk, rfl, xFi, xGi, hBi⟩ := hrel
                clear xFq xGq hBq
                by_cases hkp : k ≤ p + 1
                · obtain ⟨u, v, hlow, huv, hvb, hub⟩ := low_facts (k := k) (q := q) (m := m) (by omega) (by omega) hmb.2
                  obtain ⟨c, hcc, hc0⟩ := HCM.out u v huv hvb hub
                  have HLOW := Lib.hid hlow
                  have HCC := Lib.hid hcc
                  clear hlow huv hcc
                  obtain ⟨cFi, fFi, zFi⟩ := xFi.out
                  obtain ⟨cGi, fGi, zGi⟩ := xGi.out
                  go_wp2_with fail
                  refine (smake_any _ (by omega) (by omega) HLOW.out).mono ?_
                  rintro e wci1 ⟨rfl, hbci1⟩
                  have Bci1 : Bl w wci1 := bl_call hBi hbci1
                  have xF_ci1 : Bx wci1 (wc1.heap.size) #[.int .i64 n, .int .i64 d] := xFi.below hbci1
                  have xG_ci1 : Bx wci1 (wc3.heap.size) #[.int .i64 x, .int .i64 y] := xGi.below hbci1
                  clear cFi fFi zFi cGi fGi zGi
                  obtain ⟨cF_ci1, fF_ci1, zF_ci1⟩ := xF_ci1.out
                  obtain ⟨cG_ci1, fG_ci1, zG_ci1⟩ := xG_ci1.out
                  go_wp2_with fail
                  have Bci2 : Bl w (wci1.alloc (.cells #[.int .i64 u, .int .i64 v] 44)) := (bl_alloc Bci1 _)
                  have xF_ci2 : Bx (wci1.alloc (.cells #[.int .i64 u, .int .i64 v] 44)) (wc1.heap.size) #[.int .i64 n, .int .i64 d] := (xF_ci1.alloc _)
                  have xG_ci2 : Bx (wci1.alloc (.cells #[.int .i64 u, .int .i64 v] 44)) (wc3.heap.size) #[.int .i64 x, .int .i64 y] := (xG_ci1.alloc _)
                  have xV_ci2 : Bx (wci1.alloc (.cells #[.int .i64 u, .int .i64 v] 44)) (wci1.heap.size) #[.int .i64 u, .int .i64 v] := (Bx.new (b := wci1.heap.size) _ #[.int .i64 u, .int .i64 v] 44 (by first | rfl | simp))
                  have zzci2 : wci1.heap.size + 1 ≤ (wci1.alloc (.cells #[.int .i64 u, .int .i64 v] 44)).heap.size := (by simp)
                  clear cF_ci1 fF_ci1 zF_ci1 cG_ci1 fG_ci1 zG_ci1
                  generalize (wci1.alloc (.cells #[.int .i64 u, .int .i64 v] 44)) = wci2 at *
                  obtain ⟨cF_ci2, fF_ci2, zF_ci2⟩ := xF_ci2.out
                  obtain ⟨cG_ci2, fG_ci2, zG_ci2⟩ := xG_ci2.out
                  obtain ⟨cV_ci2, fV_ci2, zV_ci2⟩ := xV_ci2.out
                  refine (cmpT_eq HCC.out _).mono ?_
                  rintro e wci3 ⟨rfl, hbci3⟩
                  have Bci3 : Bl w wci3 := bl_call Bci2 hbci3
                  have xF_ci3 : Bx wci3 (wc1.heap.size) #[.int .i64 n, .int .i64 d] := xF_ci2.below hbci3
                  have xG_ci3 : Bx wci3 (wc3.heap.size) #[.int .i64 x, .int .i64 y] := xG_ci2.below hbci3
                  have xV_ci3 : Bx wci3 (wci1.heap.size) #[.int .i64 u, .int .i64 v] := xV_ci2.below hbci3
                  clear cF_ci2 fF_ci2 zF_ci2 cG_ci2 fG_ci2 zG_ci2 cV_ci2 fV_ci2 zV_ci2
                  obtain ⟨cF_ci3, fF_ci3, zF_ci3⟩ := xF_ci3.out
                  obtain ⟨cG_ci3, fG_ci3, zG_ci3⟩ := xG_ci3.out
                  obtain ⟨cV_ci3, fV_ci3, zV_ci3⟩ := xV_ci3.out
                  go_wp2
                  go_roundw
                  case rel => exact ⟨k + 1, by omega, by go_num, xF_ci3, xG_ci3, Bci3⟩
                  case measure => simp only [intOf]; omega
                · go_wp2
                  go_roundw
                  case rel => exact ⟨q + 1, by omega, by go_num, xFi, xGi, hBi⟩
                  case measure => simp only [intOf]; omega
            · go_wp2
              go_ret
              exact ⟨rfl, hBq⟩
        | true =>
          have HU2 := Lib.hid hu
          clear hu
          cases hwk : wkF [] [] (x, y, z) with
          | none =>
            have HWK := Lib.hid hwk
            clear hwk
            go_wp2_with fail
            refine (iperc_full _ HU2.out HWK.out).mono ?_
            rintro e wd3 ⟨rfl, hbd3⟩
            have Bd3 : Bl w wd3 := bl_call Bs2 hbd3
            have xS_d3 : Bx wd3 (ws1.heap.size) #[.int .i64 x, .int .i64 y, .int .i64 z] := xS_s2.below hbd3
            clear cS_s2 fS_s2 zS_s2
            obtain ⟨cS_d3, fS_d3, zS_d3⟩ := xS_d3.out
            clear cS_d3 fS_d3 zS_d3
            have H0t := Lib.hid (H0.out.below Bd3)
            have H1t := Lib.hid (H1.out.below Bd3)
            go_wp2_with fail
            refine (a2small_any H1t.out hl1).mono ?_
            rintro e we1 ⟨n, d, rfl, hg, hd, hn, hbe1⟩
            have Be1 : Bl w we1 := bl_call Bd3 hbe1
            have HOK := Lib.hid (show okF n d = true from okF_iff.2 ⟨by omega, by omega, hg⟩)
            clear hg
            go_wp2_with fail
            have Be2 : Bl w (we1.alloc (.cells #[.int .i64 n, .int .i64 d] 44)) := (bl_alloc Be1 _)
            have xF_e2 : Bx (we1.alloc (.cells #[.int .i64 n, .int .i64 d] 44)) (we1.heap.size) #[.int .i64 n, .int .i64 d] := (Bx.new (b := we1.heap.size) _ #[.int .i64 n, .int .i64 d] 44 (by first | rfl | simp))
            have zze2 : we1.heap.size + 1 ≤ (we1.alloc (.cells #[.int .i64 n, .int .i64 d] 44)).heap.size := (by simp)
            generalize (we1.alloc (.cells #[.int .i64 n, .int .i64 d] 44)) = we2 at *
            obtain ⟨cF_e2, fF_e2, zF_e2⟩ := xF_e2.out
            have H0u := Lib.hid (H0.out.below Be2)
            refine (bytes_at H0u.out (by omega) 0 60 (by omega) (by omega)).mono ?_
            rintro r w9 ⟨t, rfl, ht0, ht1, rfl⟩
            obtain ⟨m, hm⟩ : ∃ m, m = 1 + t := ⟨_, rfl⟩
            have HM := Lib.hid hm.symm
            have hmb : 1 ≤ m ∧ m ≤ 60 := by omega
            clear hm
            obtain ⟨x, y, hnr, hxy, hyb, hcm⟩ := near_facts HOK.out hn hd.2 hmb
            have HNR := Lib.hid hnr
            have HXY := Lib.hid hxy
            have HCM := Lib.hid hcm
            clear hnr hxy hcm
            go_wp2_with fail
            rw [HM.out]
            refine (nearT_eq HNR.out _).mono ?_
            rintro e we3 ⟨rfl, hbe3⟩
            have Be3 : Bl w we3 := bl_call Be2 hbe3
            have xF_e3 : Bx we3 (we1.heap.size) #[.int .i64 n, .int .i64 d] := xF_e2.below hbe3
            clear cF_e2 fF_e2 zF_e2
            obtain ⟨cF_e3, fF_e3, zF_e3⟩ := xF_e3.out
            go_wp2_with fail
            have Be4 : Bl w (we3.alloc (.cells #[.int .i64 x, .int .i64 y] 44)) := (bl_alloc Be3 _)
            have xF_e4 : Bx (we3.alloc (.cells #[.int .i64 x, .int .i64 y] 44)) (we1.heap.size) #[.int .i64 n, .int .i64 d] := (xF_e3.alloc _)
            have xG_e4 : Bx (we3.alloc (.cells #[.int .i64 x, .int .i64 y] 44)) (we3.heap.size) #[.int .i64 x, .int .i64 y] := (Bx.new (b := we3.heap.size) _ #[.int .i64 x, .int .i64 y] 44 (by first | rfl | simp))
            have zze4 : we3.heap.size + 1 ≤ (we3.alloc (.cells #[.int .i64 x, .int .i64 y] 44)).heap.size := (by simp)
            clear cF_e3 fF_e3 zF_e3
            generalize (we3.alloc (.cells #[.int .i64 x, .int .i64 y] 44)) = we4 at *
            obtain ⟨cF_e4, fF_e4, zF_e4⟩ := xF_e4.out
            obtain ⟨cG_e4, fG_e4, zG_e4⟩ := xG_e4.out
            refine (svalidT_eq HXY.out _).mono ?_
            rintro e we5 ⟨rfl, hbe5⟩
            have Be5 : Bl w we5 := bl_call Be4 hbe5
            have xF_e5 : Bx we5 (we1.heap.size) #[.int .i64 n, .int .i64 d] := xF_e4.below hbe5
            have xG_e5 : Bx we5 (we3.heap.size) #[.int .i64 x, .int .i64 y] := xG_e4.below hbe5
            clear cF_e4 fF_e4 zF_e4 cG_e4 fG_e4 zG_e4
            obtain ⟨cF_e5, fF_e5, zF_e5⟩ := xF_e5.out
            obtain ⟨cG_e5, fG_e5, zG_e5⟩ := xG_e5.out
            go_wp2_with fail
            clear cF_e5 fF_e5 zF_e5 cG_e5 fG_e5 zG_e5
            go_loopw [30] (fun s30 wq => ∃ q : Int, (1 ≤ q ∧ q ≤ m + 1) ∧ s30 = .int .i64 q ∧ Bx wq (we1.heap.size) #[.int .i64 n, .int .i64 d] ∧ Bx wq (we3.heap.size) #[.int .i64 x, .int .i64 y] ∧ Bl w wq) (fun s30 _ => (m + 1 - intOf s30).toNat)
            case atStart => exact ⟨1, by omega, rfl, xF_e5, xG_e5, Be5⟩
            case round =>
              obtain ⟨q, hq, rfl, xFq, xGq, hBq⟩ := hrel
              clear xF_e5 xG_e5
              by_cases hqm : q ≤ m
              · have pb := pb_T (d := d) hn (show 1 ≤ q ∧ q ≤ 60 by omega) hd.1
                obtain ⟨p, hp⟩ : ∃ p, p = (n * q).tdiv d := ⟨_, rfl⟩
                have hdz : (d == 0) = false := by simp; omega
                have hdz2 : d ≠ 0 := by omega
                have hwp : IntKind.i64.wrap ((n * q).tdiv d) = p := by rw [← hp, IntKind.wrap_i64]; omega
                have hwm : IntKind.i64.wrap (n * q) = n * q := by rw [IntKind.wrap_i64]; omega
                rw [← hp] at pb
                clear hp
                obtain ⟨cFq, fFq, zFq⟩ := xFq.out
                obtain ⟨cGq, fGq, zGq⟩ := xGq.out
                go_wp2_with fail
                clear cFq fFq zFq cGq fGq zGq
                go_loopw [32] (fun s32 wi => ∃ k : Int, (p - 1 ≤ k ∧ k ≤ p + 2) ∧ s32 = .int .i64 k ∧ Bx wi (we1.heap.size) #[.int .i64 n, .int .i64 d] ∧ Bx wi (we3.heap.size) #[.int .i64 x, .int .i64 y] ∧ Bl w wi) (fun s32 _ => (p + 2 - intOf s32).toNat)
                case atStart => exact ⟨p - 1, by omega, by go_num, xFq, xGq, hBq⟩
                case round =>
                  obtain ⟨k, hk, rfl, xFi, xGi, hBi⟩ := hrel
                  clear xFq xGq hBq
                  by_cases hkp : k ≤ p + 1
                  · obtain ⟨u, v, hlow, huv, hvb, hub⟩ := low_facts (k := k) (q := q) (m := m) (by omega) (by omega) hmb.2
                    obtain ⟨c, hcc, hc0⟩ := HCM.out u v huv hvb hub
                    have HLOW := Lib.hid hlow
                    have HCC := Lib.hid hcc
                    clear hlow huv hcc
                    obtain ⟨cFi, fFi, zFi⟩ := xFi.out
                    obtain ⟨cGi, fGi, zGi⟩ := xGi.out
                    go_wp2_with fail
                    refine (smake_any _ (by omega) (by omega) HLOW.out).mono ?_
                    rintro e wei1 ⟨rfl, hbei1⟩
                    have Bei1 : Bl w wei1 := bl_call hBi hbei1
                    have xF_ei1 : Bx wei1 (we1.heap.size) #[.int .i64 n, .int .i64 d] := xFi.below hbei1
                    have xG_ei1 : Bx wei1 (we3.heap.size) #[.int .i64 x, .int .i64 y] := xGi.below hbei1
                    clear cFi fFi zFi cGi fGi zGi
                    obtain ⟨cF_ei1, fF_ei1, zF_ei1⟩ := xF_ei1.out
                    obtain ⟨cG_ei1, fG_ei1, zG_ei1⟩ := xG_ei1.out
                    go_wp2_with fail
                    have Bei2 : Bl w (wei1.alloc (.cells #[.int .i64 u, .int .i64 v] 44)) := (bl_alloc Bei1 _)
                    have xF_ei2 : Bx (wei1.alloc (.cells #[.int .i64 u, .int .i64 v] 44)) (we1.heap.size) #[.int .i64 n, .int .i64 d] := (xF_ei1.alloc _)
                    have xG_ei2 : Bx (wei1.alloc (.cells #[.int .i64 u, .int .i64 v] 44)) (we3.heap.size) #[.int .i64 x, .int .i64 y] := (xG_ei1.alloc _)
                    have xV_ei2 : Bx (wei1.alloc (.cells #[.int .i64 u, .int .i64 v] 44)) (wei1.heap.size) #[.int .i64 u, .int .i64 v] := (Bx.new (b := wei1.heap.size) _ #[.int .i64 u, .int .i64 v] 44 (by first | rfl | simp))
                    have zzei2 : wei1.heap.size + 1 ≤ (wei1.alloc (.cells #[.int .i64 u, .int .i64 v] 44)).heap.size := (by simp)
                    clear cF_ei1 fF_ei1 zF_ei1 cG_ei1 fG_ei1 zG_ei1
                    generalize (wei1.alloc (.cells #[.int .i64 u, .int .i64 v] 44)) = wei2 at *
                    obtain ⟨cF_ei2, fF_ei2, zF_ei2⟩ := xF_ei2.out
                    obtain ⟨cG_ei2, fG_ei2, zG_ei2⟩ := xG_ei2.out
                    obtain ⟨cV_ei2, fV_ei2, zV_ei2⟩ := xV_ei2.out
                    refine (cmpT_eq HCC.out _).mono ?_
                    rintro e wei3 ⟨rfl, hbei3⟩
                    have Bei3 : Bl w wei3 := bl_call Bei2 hbei3
                    have xF_ei3 : Bx wei3 (we1.heap.size) #[.int .i64 n, .int .i64 d] := xF_ei2.below hbei3
                    have xG_ei3 : Bx wei3 (we3.heap.size) #[.int .i64 x, .int .i64 y] := xG_ei2.below hbei3
                    have xV_ei3 : Bx wei3 (wei1.heap.size) #[.int .i64 u, .int .i64 v] := xV_ei2.below hbei3
                    clear cF_ei2 fF_ei2 zF_ei2 cG_ei2 fG_ei2 zG_ei2 cV_ei2 fV_ei2 zV_ei2
                    obtain ⟨cF_ei3, fF_ei3, zF_ei3⟩ := xF_ei3.out
                    obtain ⟨cG_ei3, fG_ei3, zG_ei3⟩ := xG_ei3.out
                    obtain ⟨cV_ei3, fV_ei3, zV_ei3⟩ := xV_ei3.out
                    go_wp2
                    go_roundw
                    case rel => exact ⟨k + 1, by omega, by go_num, xF_ei3, xG_ei3, Bei3⟩
                    case measure => simp only [intOf]; omega
                  · go_wp2
                    go_roundw
                    case rel => exact ⟨q + 1, by omega, by go_num, xFi, xGi, hBi⟩
                    case measure => simp only [intOf]; omega
              · go_wp2
                go_ret
                exact ⟨rfl, hBq⟩
          | some r =>
            obtain ⟨T, kk⟩ := r
            have HWK := Lib.hid hwk
            obtain ⟨LL, hTL, hkL, _⟩ := wkF_cyc hwk
            have hkT : kk < T.length := by rw [hTL]; simpa using hkL
            clear hwk hTL hkL
            go_wp2_with fail
            refine (iperc_ok _ HU2.out HWK.out).mono ?_
            rintro e wf3 ⟨hv, pv, rfl, hk1, hk2, OH, OP, hdis, hbf3⟩
            have Bf3 : Bl w wf3 := bl_call Bs2 hbf3
            have xS_f3 : Bx wf3 (ws1.heap.size) #[.int .i64 x, .int .i64 y, .int .i64 z] := xS_s2.below hbf3
            clear cS_s2 fS_s2 zS_s2
            obtain ⟨cS_f3, fS_f3, zS_f3⟩ := xS_f3.out
            obtain ⟨hh, hhe⟩ : ∃ hh, hh = T.take kk := ⟨_, rfl⟩
            obtain ⟨pp, hpe⟩ : ∃ pp, pp = T.drop kk := ⟨_, rfl⟩
            have hhl : hh.length = kk := by rw [hhe]; simp; omega
            have hpl : pp.length = T.length - kk := by rw [hpe]; simp
            have HTS := Lib.hid (show tsL T kk (kk + 2 * (T.length - kk)) = hh ++ pp ++ pp by rw [tsL_twice hkT, hhe, hpe])
            rw [← hhe] at OH
            rw [← hpe] at OP
            clear hhe hpe hdis
            have hpos : 0 < pp.length := by omega
            have htot : hh.length + 2 * pp.length = kk + 2 * (T.length - kk) := by omega
            rw [← htot] at HTS
            have hhl4 : hh.length ≤ 400 := by omega
            have hpl4 : pp.length ≤ 400 := by omega
            clear hhl hpl htot hk1 hk2 hkT
            obtain ⟨ah, ch, rfl, _⟩ := OH.form
            obtain ⟨ap, cp, rfl, _⟩ := OP.form
            have OH := Lib.hid OH.sl
            have OP := Lib.hid OP.sl
            by_cases hlen : hh.length + 2 * pp.length ≤ 200
            · skip
              have O0 := own_madeT wf3 (k := wf3.heap.size) (B := wf3.heap.size) rfl (Nat.le_refl _)
              have BH0 := Lib.hid (bl_alloc (bl_refl wf3) (.cells #[] 2))
              have hsz0 : wf3.heap.size ≤ (wf3.alloc (.cells #[] 2)).heap.size := by simp
              have HO0 := Lib.hid O0
              clear O0
              obtain ⟨al, hal⟩ : ∃ al, al = hh ++ pp ++ pp := ⟨_, rfl⟩
              obtain ⟨N, hN⟩ : ∃ N, N = hh.length + 2 * pp.length := ⟨_, rfl⟩
              have hall : al.length = N := by rw [hal, hN]; simp; omega
              have HAL := Lib.hid hal
              rw [← hN, ← hal] at HTS
              have hN2 : N ≤ 200 := by omega
              have HNN := Lib.hid hN
              clear hall hal hN
              go_wp2_with (first | (at_builtin; refine wpList_append_sl rfl _ _ rfl wf3.heap.size _ (([] : List Int)) (by rfl) HO0.out (.slice ah hh.length ch) hh (by rfl) (OH.out.below BH0.out) (by simp; omega) (by have := BH0.out.size; omega) ?_; intro v' w1x ho1x hg1x hloc1x; obtain ⟨a1x, c1x, rfl, _⟩ := ho1x.form; have hl1x : (([] : List Int) ++ hh).length = hh.length := (by have hNq := HNN.out; simp <;> omega); rw [hl1x] at ho1x; have BH1x := Lib.hid (bl_grown BH0.out hg1x (fun k hk => (HO0.out.lt k hk).1)); have HO1x := Lib.hid ho1x; clear ho1x hg1x hloc1x; rw [hl1x]; clear hl1x) | (at_builtin; refine wpList_append_sl rfl _ _ rfl wf3.heap.size _ ([] ++ hh) (by rfl) HO1x.out (.slice ap pp.length cp) pp (by rfl) (OP.out.below BH1x.out) (by simp; omega) (by have := BH1x.out.size; omega) ?_; intro v' w2x ho2x hg2x hloc2x; obtain ⟨a2x, c2x, rfl, _⟩ := ho2x.form; have hl2x : ([] ++ hh ++ pp).length = hh.length + pp.length := (by have hNq := HNN.out; simp <;> omega); rw [hl2x] at ho2x; have BH2x := Lib.hid (bl_grown BH1x.out hg2x (fun k hk => (HO1x.out.lt k hk).1)); have HO2x := Lib.hid ho2x; clear ho2x hg2x hloc2x; rw [hl2x]; clear hl2x) | (at_builtin; refine wpList_append_sl rfl _ _ rfl wf3.heap.size _ ([] ++ hh ++ pp) (by rfl) HO2x.out (.slice ap pp.length cp) pp (by rfl) (OP.out.below BH2x.out) (by simp; omega) (by have := BH2x.out.size; omega) ?_; intro v' w3x ho3x hg3x hloc3x; obtain ⟨a3x, c3x, rfl, _⟩ := ho3x.form; have hl3x : ([] ++ hh ++ pp ++ pp).length = N := (by have hNq := HNN.out; simp <;> omega); rw [hl3x] at ho3x; have BH3x := Lib.hid (bl_grown BH2x.out hg3x (fun k hk => (HO2x.out.lt k hk).1)); have HO3x := Lib.hid ho3x; clear ho3x hg3x hloc3x; rw [hl3x]; clear hl3x; have xSx := xS_f3.below BH3x.out; clear cS_f3 fS_f3 zS_f3; obtain ⟨cSx, fSx, zSx⟩ := xSx.out))
              have BX := bl_call Bf3 BH3x.out
              have hal2 : [] ++ hh ++ pp ++ pp = al := by rw [HAL.out]; simp
              have OA := HO3x.out
              rw [hal2] at OA
              clear HO0 HO1x HO2x HO3x BH0 BH1x BH2x
              have OA := Lib.hid OA.sl
              refine (tosT_eq _ HU2.out HWK.out hN2 HTS.out).mono ?_
              rintro e wm4 ⟨a4x, c4x, rfl, OT, hbm4⟩
              have Bm4 : Bl w wm4 := bl_call BX hbm4
              have xS_m4 : Bx wm4 (ws1.heap.size) #[.int .i64 x, .int .i64 y, .int .i64 z] := xSx.below hbm4
              clear cSx fSx zSx
              obtain ⟨cS_m4, fS_m4, zS_m4⟩ := xS_m4.out
              have OA : Hid (Sl wm4 (.slice a3x N c3x) al) := Lib.hid ((OA.out.below (bl_refl w3x)).below hbm4)
              have hpz : ((pp.length : Int) == 0) = false := by simp; intro e; rw [e] at hpos; simp at hpos
              have OT := Lib.hid OT.sl
              go_wp2_with fail
              refine (same_eqT _ OT.out OA.out).mono ?_
              rintro e wm5 ⟨rfl, hbm5⟩
              have Bm5 : Bl w wm5 := bl_call Bm4 hbm5
              have xS_m5 : Bx wm5 (ws1.heap.size) #[.int .i64 x, .int .i64 y, .int .i64 z] := xS_m4.below hbm5
              clear cS_m4 fS_m4 zS_m4
              obtain ⟨cS_m5, fS_m5, zS_m5⟩ := xS_m5.out
              have OA : Hid (Sl wm5 (.slice a3x N c3x) al) := Lib.hid ((OA.out.below (bl_refl wm4)).below hbm5)
              have OT : Hid (Sl wm5 (.slice a4x al.length c4x) al) := Lib.hid ((OT.out.below (bl_refl wm4)).below hbm5)
              clear cS_m5 fS_m5 zS_m5 OA OT
              have H0t := Lib.hid (H0.out.below Bm5)
              have H1t := Lib.hid (H1.out.below Bm5)
              go_wp2_with fail
              refine (a2small_any H1t.out hl1).mono ?_
              rintro e wu1 ⟨n, d, rfl, hg, hd, hn, hbu1⟩
              have Bu1 : Bl w wu1 := bl_call Bm5 hbu1
              have HOK := Lib.hid (show okF n d = true from okF_iff.2 ⟨by omega, by omega, hg⟩)
              clear hg
              go_wp2_with fail
              have Bu2 : Bl w (wu1.alloc (.cells #[.int .i64 n, .int .i64 d] 44)) := (bl_alloc Bu1 _)
              have xF_u2 : Bx (wu1.alloc (.cells #[.int .i64 n, .int .i64 d] 44)) (wu1.heap.size) #[.int .i64 n, .int .i64 d] := (Bx.new (b := wu1.heap.size) _ #[.int .i64 n, .int .i64 d] 44 (by first | rfl | simp))
              have zzu2 : wu1.heap.size + 1 ≤ (wu1.alloc (.cells #[.int .i64 n, .int .i64 d] 44)).heap.size := (by simp)
              generalize (wu1.alloc (.cells #[.int .i64 n, .int .i64 d] 44)) = wu2 at *
              obtain ⟨cF_u2, fF_u2, zF_u2⟩ := xF_u2.out
              have H0u := Lib.hid (H0.out.below Bu2)
              refine (bytes_at H0u.out (by omega) 0 60 (by omega) (by omega)).mono ?_
              rintro r w9 ⟨t, rfl, ht0, ht1, rfl⟩
              obtain ⟨m, hm⟩ : ∃ m, m = 1 + t := ⟨_, rfl⟩
              have HM := Lib.hid hm.symm
              have hmb : 1 ≤ m ∧ m ≤ 60 := by omega
              clear hm
              obtain ⟨x, y, hnr, hxy, hyb, hcm⟩ := near_facts HOK.out hn hd.2 hmb
              have HNR := Lib.hid hnr
              have HXY := Lib.hid hxy
              have HCM := Lib.hid hcm
              clear hnr hxy hcm
              go_wp2_with fail
              rw [HM.out]
              refine (nearT_eq HNR.out _).mono ?_
              rintro e wu3 ⟨rfl, hbu3⟩
              have Bu3 : Bl w wu3 := bl_call Bu2 hbu3
              have xF_u3 : Bx wu3 (wu1.heap.size) #[.int .i64 n, .int .i64 d] := xF_u2.below hbu3
              clear cF_u2 fF_u2 zF_u2
              obtain ⟨cF_u3, fF_u3, zF_u3⟩ := xF_u3.out
              go_wp2_with fail
              have Bu4 : Bl w (wu3.alloc (.cells #[.int .i64 x, .int .i64 y] 44)) := (bl_alloc Bu3 _)
              have xF_u4 : Bx (wu3.alloc (.cells #[.int .i64 x, .int .i64 y] 44)) (wu1.heap.size) #[.int .i64 n, .int .i64 d] := (xF_u3.alloc _)
              have xG_u4 : Bx (wu3.alloc (.cells #[.int .i64 x, .int .i64 y] 44)) (wu3.heap.size) #[.int .i64 x, .int .i64 y] := (Bx.new (b := wu3.heap.size) _ #[.int .i64 x, .int .i64 y] 44 (by first | rfl | simp))
              have zzu4 : wu3.heap.size + 1 ≤ (wu3.alloc (.cells #[.int .i64 x, .int .i64 y] 44)).heap.size := (by simp)
              clear cF_u3 fF_u3 zF_u3
              generalize (wu3.alloc (.cells #[.int .i64 x, .int .i64 y] 44)) = wu4 at *
              obtain ⟨cF_u4, fF_u4, zF_u4⟩ := xF_u4.out
              obtain ⟨cG_u4, fG_u4, zG_u4⟩ := xG_u4.out
              refine (svalidT_eq HXY.out _).mono ?_
              rintro e wu5 ⟨rfl, hbu5⟩
              have Bu5 : Bl w wu5 := bl_call Bu4 hbu5
              have xF_u5 : Bx wu5 (wu1.heap.size) #[.int .i64 n, .int .i64 d] := xF_u4.below hbu5
              have xG_u5 : Bx wu5 (wu3.heap.size) #[.int .i64 x, .int .i64 y] := xG_u4.below hbu5
              clear cF_u4 fF_u4 zF_u4 cG_u4 fG_u4 zG_u4
              obtain ⟨cF_u5, fF_u5, zF_u5⟩ := xF_u5.out
              obtain ⟨cG_u5, fG_u5, zG_u5⟩ := xG_u5.out
              go_wp2_with fail
              clear cF_u5 fF_u5 zF_u5 cG_u5 fG_u5 zG_u5
              go_loopw [30] (fun s30 wq => ∃ q : Int, (1 ≤ q ∧ q ≤ m + 1) ∧ s30 = .int .i64 q ∧ Bx wq (wu1.heap.size) #[.int .i64 n, .int .i64 d] ∧ Bx wq (wu3.heap.size) #[.int .i64 x, .int .i64 y] ∧ Bl w wq) (fun s30 _ => (m + 1 - intOf s30).toNat)
              case atStart => exact ⟨1, by omega, rfl, xF_u5, xG_u5, Bu5⟩
              case round =>
                obtain ⟨q, hq, rfl, xFq, xGq, hBq⟩ := hrel
                clear xF_u5 xG_u5
                by_cases hqm : q ≤ m
                · have pb := pb_T (d := d) hn (show 1 ≤ q ∧ q ≤ 60 by omega) hd.1
                  obtain ⟨p, hp⟩ : ∃ p, p = (n * q).tdiv d := ⟨_, rfl⟩
                  have hdz : (d == 0) = false := by simp; omega
                  have hdz2 : d ≠ 0 := by omega
                  have hwp : IntKind.i64.wrap ((n * q).tdiv d) = p := by rw [← hp, IntKind.wrap_i64]; omega
                  have hwm : IntKind.i64.wrap (n * q) = n * q := by rw [IntKind.wrap_i64]; omega
                  rw [← hp] at pb
                  clear hp
                  obtain ⟨cFq, fFq, zFq⟩ := xFq.out
                  obtain ⟨cGq, fGq, zGq⟩ := xGq.out
                  go_wp2_with fail
                  clear cFq fFq zFq cGq fGq zGq
                  go_loopw [32] (fun s32 wi => ∃ k : Int, (p - 1 ≤ k ∧ k ≤ p + 2) ∧ s32 = .int .i64 k ∧ Bx wi (wu1.heap.size) #[.int .i64 n, .int .i64 d] ∧ Bx wi (wu3.heap.size) #[.int .i64 x, .int .i64 y] ∧ Bl w wi) (fun s32 _ => (p + 2 - intOf s32).toNat)
                  case atStart => exact ⟨p - 1, by omega, by go_num, xFq, xGq, hBq⟩
                  case round =>
                    obtain ⟨k, hk, rfl, xFi, xGi, hBi⟩ := hrel
                    clear xFq xGq hBq
                    by_cases hkp : k ≤ p + 1
                    · obtain ⟨u, v, hlow, huv, hvb, hub⟩ := low_facts (k := k) (q := q) (m := m) (by omega) (by omega) hmb.2
                      obtain ⟨c, hcc, hc0⟩ := HCM.out u v huv hvb hub
                      have HLOW := Lib.hid hlow
                      have HCC := Lib.hid hcc
                      clear hlow huv hcc
                      obtain ⟨cFi, fFi, zFi⟩ := xFi.out
                      obtain ⟨cGi, fGi, zGi⟩ := xGi.out
                      go_wp2_with fail
                      refine (smake_any _ (by omega) (by omega) HLOW.out).mono ?_
                      rintro e wui1 ⟨rfl, hbui1⟩
                      have Bui1 : Bl w wui1 := bl_call hBi hbui1
                      have xF_ui1 : Bx wui1 (wu1.heap.size) #[.int .i64 n, .int .i64 d] := xFi.below hbui1
                      have xG_ui1 : Bx wui1 (wu3.heap.size) #[.int .i64 x, .int .i64 y] := xGi.below hbui1
                      clear cFi fFi zFi cGi fGi zGi
                      obtain ⟨cF_ui1, fF_ui1, zF_ui1⟩ := xF_ui1.out
                      obtain ⟨cG_ui1, fG_ui1, zG_ui1⟩ := xG_ui1.out
                      go_wp2_with fail
                      have Bui2 : Bl w (wui1.alloc (.cells #[.int .i64 u, .int .i64 v] 44)) := (bl_alloc Bui1 _)
                      have xF_ui2 : Bx (wui1.alloc (.cells #[.int .i64 u, .int .i64 v] 44)) (wu1.heap.size) #[.int .i64 n, .int .i64 d] := (xF_ui1.alloc _)
                      have xG_ui2 : Bx (wui1.alloc (.cells #[.int .i64 u, .int .i64 v] 44)) (wu3.heap.size) #[.int .i64 x, .int .i64 y] := (xG_ui1.alloc _)
                      have xV_ui2 : Bx (wui1.alloc (.cells #[.int .i64 u, .int .i64 v] 44)) (wui1.heap.size) #[.int .i64 u, .int .i64 v] := (Bx.new (b := wui1.heap.size) _ #[.int .i64 u, .int .i64 v] 44 (by first | rfl | simp))
                      have zzui2 : wui1.heap.size + 1 ≤ (wui1.alloc (.cells #[.int .i64 u, .int .i64 v] 44)).heap.size := (by simp)
                      clear cF_ui1 fF_ui1 zF_ui1 cG_ui1 fG_ui1 zG_ui1
                      generalize (wui1.alloc (.cells #[.int .i64 u, .int .i64 v] 44)) = wui2 at *
                      obtain ⟨cF_ui2, fF_ui2, zF_ui2⟩ := xF_ui2.out
                      obtain ⟨cG_ui2, fG_ui2, zG_ui2⟩ := xG_ui2.out
                      obtain ⟨cV_ui2, fV_ui2, zV_ui2⟩ := xV_ui2.out
                      refine (cmpT_eq HCC.out _).mono ?_
                      rintro e wui3 ⟨rfl, hbui3⟩
                      have Bui3 : Bl w wui3 := bl_call Bui2 hbui3
                      have xF_ui3 : Bx wui3 (wu1.heap.size) #[.int .i64 n, .int .i64 d] := xF_ui2.below hbui3
                      have xG_ui3 : Bx wui3 (wu3.heap.size) #[.int .i64 x, .int .i64 y] := xG_ui2.below hbui3
                      have xV_ui3 : Bx wui3 (wui1.heap.size) #[.int .i64 u, .int .i64 v] := xV_ui2.below hbui3
                      clear cF_ui2 fF_ui2 zF_ui2 cG_ui2 fG_ui2 zG_ui2 cV_ui2 fV_ui2 zV_ui2
                      obtain ⟨cF_ui3, fF_ui3, zF_ui3⟩ := xF_ui3.out
                      obtain ⟨cG_ui3, fG_ui3, zG_ui3⟩ := xG_ui3.out
                      obtain ⟨cV_ui3, fV_ui3, zV_ui3⟩ := xV_ui3.out
                      go_wp2
                      go_roundw
                      case rel => exact ⟨k + 1, by omega, by go_num, xF_ui3, xG_ui3, Bui3⟩
                      case measure => simp only [intOf]; omega
                    · go_wp2
                      go_roundw
                      case rel => exact ⟨q + 1, by omega, by go_num, xFi, xGi, hBi⟩
                      case measure => simp only [intOf]; omega
                · go_wp2
                  go_ret
                  exact ⟨rfl, hBq⟩
            · skip
              clear cS_f3 fS_f3 zS_f3
              have H0t := Lib.hid (H0.out.below Bf3)
              have H1t := Lib.hid (H1.out.below Bf3)
              go_wp2_with fail
              refine (a2small_any H1t.out hl1).mono ?_
              rintro e wo1 ⟨n, d, rfl, hg, hd, hn, hbo1⟩
              have Bo1 : Bl w wo1 := bl_call Bf3 hbo1
              have HOK := Lib.hid (show okF n d = true from okF_iff.2 ⟨by omega, by omega, hg⟩)
              clear hg
              go_wp2_with fail
              have Bo2 : Bl w (wo1.alloc (.cells #[.int .i64 n, .int .i64 d] 44)) := (bl_alloc Bo1 _)
              have xF_o2 : Bx (wo1.alloc (.cells #[.int .i64 n, .int .i64 d] 44)) (wo1.heap.size) #[.int .i64 n, .int .i64 d] := (Bx.new (b := wo1.heap.size) _ #[.int .i64 n, .int .i64 d] 44 (by first | rfl | simp))
              have zzo2 : wo1.heap.size + 1 ≤ (wo1.alloc (.cells #[.int .i64 n, .int .i64 d] 44)).heap.size := (by simp)
              generalize (wo1.alloc (.cells #[.int .i64 n, .int .i64 d] 44)) = wo2 at *
              obtain ⟨cF_o2, fF_o2, zF_o2⟩ := xF_o2.out
              have H0u := Lib.hid (H0.out.below Bo2)
              refine (bytes_at H0u.out (by omega) 0 60 (by omega) (by omega)).mono ?_
              rintro r w9 ⟨t, rfl, ht0, ht1, rfl⟩
              obtain ⟨m, hm⟩ : ∃ m, m = 1 + t := ⟨_, rfl⟩
              have HM := Lib.hid hm.symm
              have hmb : 1 ≤ m ∧ m ≤ 60 := by omega
              clear hm
              obtain ⟨x, y, hnr, hxy, hyb, hcm⟩ := near_facts HOK.out hn hd.2 hmb
              have HNR := Lib.hid hnr
              have HXY := Lib.hid hxy
              have HCM := Lib.hid hcm
              clear hnr hxy hcm
              go_wp2_with fail
              rw [HM.out]
              refine (nearT_eq HNR.out _).mono ?_
              rintro e wo3 ⟨rfl, hbo3⟩
              have Bo3 : Bl w wo3 := bl_call Bo2 hbo3
              have xF_o3 : Bx wo3 (wo1.heap.size) #[.int .i64 n, .int .i64 d] := xF_o2.below hbo3
              clear cF_o2 fF_o2 zF_o2
              obtain ⟨cF_o3, fF_o3, zF_o3⟩ := xF_o3.out
              go_wp2_with fail
              have Bo4 : Bl w (wo3.alloc (.cells #[.int .i64 x, .int .i64 y] 44)) := (bl_alloc Bo3 _)
              have xF_o4 : Bx (wo3.alloc (.cells #[.int .i64 x, .int .i64 y] 44)) (wo1.heap.size) #[.int .i64 n, .int .i64 d] := (xF_o3.alloc _)
              have xG_o4 : Bx (wo3.alloc (.cells #[.int .i64 x, .int .i64 y] 44)) (wo3.heap.size) #[.int .i64 x, .int .i64 y] := (Bx.new (b := wo3.heap.size) _ #[.int .i64 x, .int .i64 y] 44 (by first | rfl | simp))
              have zzo4 : wo3.heap.size + 1 ≤ (wo3.alloc (.cells #[.int .i64 x, .int .i64 y] 44)).heap.size := (by simp)
              clear cF_o3 fF_o3 zF_o3
              generalize (wo3.alloc (.cells #[.int .i64 x, .int .i64 y] 44)) = wo4 at *
              obtain ⟨cF_o4, fF_o4, zF_o4⟩ := xF_o4.out
              obtain ⟨cG_o4, fG_o4, zG_o4⟩ := xG_o4.out
              refine (svalidT_eq HXY.out _).mono ?_
              rintro e wo5 ⟨rfl, hbo5⟩
              have Bo5 : Bl w wo5 := bl_call Bo4 hbo5
              have xF_o5 : Bx wo5 (wo1.heap.size) #[.int .i64 n, .int .i64 d] := xF_o4.below hbo5
              have xG_o5 : Bx wo5 (wo3.heap.size) #[.int .i64 x, .int .i64 y] := xG_o4.below hbo5
              clear cF_o4 fF_o4 zF_o4 cG_o4 fG_o4 zG_o4
              obtain ⟨cF_o5, fF_o5, zF_o5⟩ := xF_o5.out
              obtain ⟨cG_o5, fG_o5, zG_o5⟩ := xG_o5.out
              go_wp2_with fail
              clear cF_o5 fF_o5 zF_o5 cG_o5 fG_o5 zG_o5
              go_loopw [30] (fun s30 wq => ∃ q : Int, (1 ≤ q ∧ q ≤ m + 1) ∧ s30 = .int .i64 q ∧ Bx wq (wo1.heap.size) #[.int .i64 n, .int .i64 d] ∧ Bx wq (wo3.heap.size) #[.int .i64 x, .int .i64 y] ∧ Bl w wq) (fun s30 _ => (m + 1 - intOf s30).toNat)
              case atStart => exact ⟨1, by omega, rfl, xF_o5, xG_o5, Bo5⟩
              case round =>
                obtain ⟨q, hq, rfl, xFq, xGq, hBq⟩ := hrel
                clear xF_o5 xG_o5
                by_cases hqm : q ≤ m
                · have pb := pb_T (d := d) hn (show 1 ≤ q ∧ q ≤ 60 by omega) hd.1
                  obtain ⟨p, hp⟩ : ∃ p, p = (n * q).tdiv d := ⟨_, rfl⟩
                  have hdz : (d == 0) = false := by simp; omega
                  have hdz2 : d ≠ 0 := by omega
                  have hwp : IntKind.i64.wrap ((n * q).tdiv d) = p := by rw [← hp, IntKind.wrap_i64]; omega
                  have hwm : IntKind.i64.wrap (n * q) = n * q := by rw [IntKind.wrap_i64]; omega
                  rw [← hp] at pb
                  clear hp
                  obtain ⟨cFq, fFq, zFq⟩ := xFq.out
                  obtain ⟨cGq, fGq, zGq⟩ := xGq.out
                  go_wp2_with fail
                  clear cFq fFq zFq cGq fGq zGq
                  go_loopw [32] (fun s32 wi => ∃ k : Int, (p - 1 ≤ k ∧ k ≤ p + 2) ∧ s32 = .int .i64 k ∧ Bx wi (wo1.heap.size) #[.int .i64 n, .int .i64 d] ∧ Bx wi (wo3.heap.size) #[.int .i64 x, .int .i64 y] ∧ Bl w wi) (fun s32 _ => (p + 2 - intOf s32).toNat)
                  case atStart => exact ⟨p - 1, by omega, by go_num, xFq, xGq, hBq⟩
                  case round =>
                    obtain ⟨k, hk, rfl, xFi, xGi, hBi⟩ := hrel
                    clear xFq xGq hBq
                    by_cases hkp : k ≤ p + 1
                    · obtain ⟨u, v, hlow, huv, hvb, hub⟩ := low_facts (k := k) (q := q) (m := m) (by omega) (by omega) hmb.2
                      obtain ⟨c, hcc, hc0⟩ := HCM.out u v huv hvb hub
                      have HLOW := Lib.hid hlow
                      have HCC := Lib.hid hcc
                      clear hlow huv hcc
                      obtain ⟨cFi, fFi, zFi⟩ := xFi.out
                      obtain ⟨cGi, fGi, zGi⟩ := xGi.out
                      go_wp2_with fail
                      refine (smake_any _ (by omega) (by omega) HLOW.out).mono ?_
                      rintro e woi1 ⟨rfl, hboi1⟩
                      have Boi1 : Bl w woi1 := bl_call hBi hboi1
                      have xF_oi1 : Bx woi1 (wo1.heap.size) #[.int .i64 n, .int .i64 d] := xFi.below hboi1
                      have xG_oi1 : Bx woi1 (wo3.heap.size) #[.int .i64 x, .int .i64 y] := xGi.below hboi1
                      clear cFi fFi zFi cGi fGi zGi
                      obtain ⟨cF_oi1, fF_oi1, zF_oi1⟩ := xF_oi1.out
                      obtain ⟨cG_oi1, fG_oi1, zG_oi1⟩ := xG_oi1.out
                      go_wp2_with fail
                      have Boi2 : Bl w (woi1.alloc (.cells #[.int .i64 u, .int .i64 v] 44)) := (bl_alloc Boi1 _)
                      have xF_oi2 : Bx (woi1.alloc (.cells #[.int .i64 u, .int .i64 v] 44)) (wo1.heap.size) #[.int .i64 n, .int .i64 d] := (xF_oi1.alloc _)
                      have xG_oi2 : Bx (woi1.alloc (.cells #[.int .i64 u, .int .i64 v] 44)) (wo3.heap.size) #[.int .i64 x, .int .i64 y] := (xG_oi1.alloc _)
                      have xV_oi2 : Bx (woi1.alloc (.cells #[.int .i64 u, .int .i64 v] 44)) (woi1.heap.size) #[.int .i64 u, .int .i64 v] := (Bx.new (b := woi1.heap.size) _ #[.int .i64 u, .int .i64 v] 44 (by first | rfl | simp))
                      have zzoi2 : woi1.heap.size + 1 ≤ (woi1.alloc (.cells #[.int .i64 u, .int .i64 v] 44)).heap.size := (by simp)
                      clear cF_oi1 fF_oi1 zF_oi1 cG_oi1 fG_oi1 zG_oi1
                      generalize (woi1.alloc (.cells #[.int .i64 u, .int .i64 v] 44)) = woi2 at *
                      obtain ⟨cF_oi2, fF_oi2, zF_oi2⟩ := xF_oi2.out
                      obtain ⟨cG_oi2, fG_oi2, zG_oi2⟩ := xG_oi2.out
                      obtain ⟨cV_oi2, fV_oi2, zV_oi2⟩ := xV_oi2.out
                      refine (cmpT_eq HCC.out _).mono ?_
                      rintro e woi3 ⟨rfl, hboi3⟩
                      have Boi3 : Bl w woi3 := bl_call Boi2 hboi3
                      have xF_oi3 : Bx woi3 (wo1.heap.size) #[.int .i64 n, .int .i64 d] := xF_oi2.below hboi3
                      have xG_oi3 : Bx woi3 (wo3.heap.size) #[.int .i64 x, .int .i64 y] := xG_oi2.below hboi3
                      have xV_oi3 : Bx woi3 (woi1.heap.size) #[.int .i64 u, .int .i64 v] := xV_oi2.below hboi3
                      clear cF_oi2 fF_oi2 zF_oi2 cG_oi2 fG_oi2 zG_oi2 cV_oi2 fV_oi2 zV_oi2
                      obtain ⟨cF_oi3, fF_oi3, zF_oi3⟩ := xF_oi3.out
                      obtain ⟨cG_oi3, fG_oi3, zG_oi3⟩ := xG_oi3.out
                      obtain ⟨cV_oi3, fV_oi3, zV_oi3⟩ := xV_oi3.out
                      go_wp2
                      go_roundw
                      case rel => exact ⟨k + 1, by omega, by go_num, xF_oi3, xG_oi3, Boi3⟩
                      case measure => simp only [intOf]; omega
                    · go_wp2
                      go_roundw
                      case rel => exact ⟨q + 1, by omega, by go_num, xFi, xGi, hBi⟩
                      case measure => simp only [intOf]; omega
                · go_wp2
                  go_ret
                  exact ⟨rfl, hBq⟩

set_option maxRecDepth 100000 in
theorem fnTop_lifted (os : Os) (started : os.Started) (H : Type) (enc : TypeId × Value → H) :
    ReturnsInHanded {} Try.checked os 4 .any (Rows.fnTopSpec.pre6 enc Try.prog Try.f4 Rows.fnTopRow.domain false) (Rows.fnTopSpec.post enc Try.prog Try.f4 false true false false) := by
  refine returnsInHanded_of_change (C := Try.checked) own started (by kernel_rfl) Try.func4
    (ChangeSpec.witness6 (enc := enc) (C := Try.checked) false ⟨#[], #[.slice none 0 0, .slice none 0 0], []⟩ 8 (by kernel_rfl) (by kernel_rfl) (by kernel_rfl) (by kernel_rfl)) ?_
  intro W base args ds gs before hval0 hW hcnd _
  have hval : ∀ (j : Nat) t v, Try.f4.params[j]? = some t → args[j]? = some v → Value.okWide Try.prog W .any base t v := hval0
  have hW' := hW
  obtain ⟨p, q, hA0, hV, rfl, hfz, hnd⟩ := hW
  have hA : DataW.TrodAll enc Try.prog W 0 (fun _ => true) true Try.f4.params.toList args.toList ds p := hA0
  rw [Try.params4] at hA hval
  obtain ⟨v0, vs0, d0, ds0, p0, q0, hargs, rfl, rfl, h0, r0⟩ := trodAll_cons hA
  obtain ⟨v1, vs1, d1, ds1, p1, q1, rfl, rfl, rfl, h1, r1⟩ := trodAll_cons r0
  obtain ⟨rfl, rfl, rfl⟩ := trodAll_nil r1
  obtain rfl : args = #[v0, v1] := by cases args; simp_all
  obtain ⟨rfl, rfl⟩ := trodVars_none hV
  have k0 := h0
  have lt0 : ∀ x ∈ p0, x.block < W.heap.size := by obtain ⟨m, hm⟩ := k0; exact DataW.trod_lt m _ _ _ hm
  have k1 := h1
  have lt1 : ∀ x ∈ p1, x.block < W.heap.size := by obtain ⟨m, hm⟩ := k1; exact DataW.trod_lt m _ _ _ hm
  obtain ⟨x0, S0⟩ := bytes_of_trod (hval 0 22 v0 rfl rfl) h0
  obtain ⟨x1, S1⟩ := bytes_of_trod (hval 1 22 v1 rfl rfl) h1
  clear hA0 hval0
  refine (lawTop v0 x0 v1 x1 W S0 S1).mono fun e W' ⟨he, bel⟩ => ?_
  subst he
  exact ⟨_, rfl, _, _, _, [], _, [], hW', trodAll_mk1 (shut_bool Try.underlying4 _), (trodAll_cons_mk (Below.trod laidOut (by kernel_rfl) (of_decide_eq_true (by kernel_rfl)) k0 bel lt0) (trodAll_cons_mk (Below.trod laidOut (by kernel_rfl) (of_decide_eq_true (by kernel_rfl)) k1 bel lt1) trodAll_mk0)), rfl, bel.frame _, fun h => by cases h⟩

/-- THE STATEMENT. -/
theorem fnTop_holds : Rows.FnTopSaid :=
  OpenClaim.holds_of_wide 4 Try.f4 rfl rfl rfl rfl rfl rfl rfl ⟨rfl, rfl, rfl, rfl, rfl⟩ rfl rfl rfl rfl rfl (by kernel_rfl) Try.func4 (by kernel_rfl)
    (of_decide_eq_true (by kernel_rfl)) (by unfold Func.isWrapper; first | (rw [if_pos (by decide +kernel)]; kernel_rfl) | (rw [if_neg (by decide +kernel)]; exact ⟨rfl, rfl⟩))
    (fun os started H enc _ => fnTop_lifted os started H enc)
#print axioms fnTop_holds

end Go.Proofs.Ytgkelemfbmmgnaa
