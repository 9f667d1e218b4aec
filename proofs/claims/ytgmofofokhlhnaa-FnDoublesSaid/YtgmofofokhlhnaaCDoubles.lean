/- FnDoubles holds: the terms of a function of two numbers are those of its value, and exchanging both twice restores it. Conditions: none. -/
import Derived.Test.YtgmofofokhlhnaaOpenB
import Derived.Test.YtgmofofokhlhnaaDraw
import Derived.Test.YtgmofofokhlhnaaSrW
import Derived.Test.YtgmofofokhlhnaaDdW
namespace Go.Proofs.Ytgmofofokhlhnaa
open Go.RowKit Go.ChangeShapes Go.WideShapes Go.ChangeAt
set_option linter.unusedVariables false
set_option linter.unusedSimpArgs false

theorem same_eqD {va vb : Value} {xs : List Int} (w : World) (ha : Sl w va xs) (hb : Sl w vb xs) :
    Calls Try.prog 41 #[va, vb] w fun e w' => e = .returned (.bool true) ∧ Bl w w' :=
  (a2same_any va vb xs xs w ha hb).mono fun e w' q => ⟨by rw [q.1]; simp, q.2⟩
theorem dbl_at {a b c d e f g h xn xd yn yd : Int} (hs : Sm (⟨a, b, c, d, e, f, g, h⟩ : Db)) (he : enD (⟨a, b, c, d, e, f, g, h⟩ : Db) = false) (hx : okF xn xd = true) (hy : okF yn yd = true) (bx : -300 ≤ xn ∧ xn ≤ 300) (bX : xd ≤ 300) (by' : -300 ≤ yn ∧ yn ≤ 300) (bY : yd ≤ 300) :
    (bil e f g h xn xd yn yd = 0 → biF a b c d e f g h xn xd yn yd = (0, 0, 6) ∧ rdF a b c d e f g h (termsF xn xd) (termsF yn yd) = ([], 6)) ∧
    (bil e f g h xn xd yn yd ≠ 0 → ∃ p q, biF a b c d e f g h xn xd yn yd = (p, q, 0) ∧ okF p q = true ∧ rdF a b c d e f g h (termsF xn xd) (termsF yn yd) = (termsF p q, 0)) := by
  have ox := okF_iff.1 hx
  have oy := okF_iff.1 hy
  obtain ⟨_, l1, l2⟩ := dbl_law (d := (⟨a, b, c, d, e, f, g, h⟩ : Db)) (u := bil a b c d xn xd yn yd) (v := bil e f g h xn xd yn yd) hs he hx hy bx bX by' bY (by unfold bil; simp only []; grind) (by unfold bil; simp only []; grind)
  have er : rdF a b c d e f g h (termsF xn xd) (termsF yn yd) = runDF (termsF xn xd) (termsF yn yd) 0 (⟨a, b, c, d, e, f, g, h⟩ : Db) [] := by
    rw [rdF, if_pos (sm_okD hs he), if_pos (terms_okV ox.2.1 ox.1), if_pos (terms_okV oy.2.1 oy.1)]
  rw [er]
  refine ⟨fun hz => ⟨by rw [biF, if_pos hz], l1 hz⟩, fun hz => ?_⟩
  obtain ⟨p, q, h1, h2, h3⟩ := l2 hz
  exact ⟨p, q, by rw [biF, if_neg hz, h1], h2, h3⟩
theorem rund_eqD {a b c d e f g h k : Int} {xs ys l : List Int} {vx vy : Value} (hr : rdF a b c d e f g h xs ys = (l, k)) (w : World) (hx : Sl w vx xs) (lx : xs.length ≤ 1048576) (hy : Sl w vy ys) (ly : ys.length ≤ 1048576) :
    Calls Try.prog 64 #[.agg #[.int .i64 a, .int .i64 b, .int .i64 c, .int .i64 d, .int .i64 e, .int .i64 f, .int .i64 g, .int .i64 h], vx, vy] w fun r w' => ∃ x n c, r = .returned (.tuple #[.slice x n c, .int .i64 k]) ∧ Own w' w.heap.size (.slice x n c) l ∧ Bl w w' :=
  (impl_RunDouble a b c d e f g h vx xs vy ys w hx lx hy ly).mono fun r w' ⟨x, n, c, h1, h2, h3⟩ => by
    rw [hr] at h1 h2
    exact ⟨x, n, c, h1, h2, h3⟩
theorem swap_eqD {a b c d e f g h : Int} (h1 : okD (⟨a, b, c, d, e, f, g, h⟩ : Db) = true) (w : World) : Calls Try.prog 62 #[.agg #[.int .i64 a, .int .i64 b, .int .i64 c, .int .i64 d, .int .i64 e, .int .i64 f, .int .i64 g, .int .i64 h]] w fun r w' => r = .returned (.tuple #[.agg #[.int .i64 a, .int .i64 c, .int .i64 b, .int .i64 d, .int .i64 e, .int .i64 g, .int .i64 f, .int .i64 h], .int .i64 0]) ∧ Bl w w' := iswap_any a b c d e f g h w h1

set_option maxRecDepth 100000 in
set_option maxHeartbeats 12800000 in
theorem lawDoubles (v0 : Value) (x0 : List Int) (v1 : Value) (x1 : List Int) (w : World) (S0 : SlB w v0 x0) (S1 : SlB w v1 x1) :
    Calls Try.prog 10 #[v0, v1] w fun e w' => e = .returned (.bool true) ∧ Bl w w' := by
  have H0 := Lib.hid S0
  have H1 := Lib.hid S1
  obtain ⟨a0, c0, rfl, _⟩ := S0.form
  obtain ⟨a1, c1, rfl, _⟩ := S1.form
  clear S0 S1
  by_cases hl : 3000 < x0.length ∨ 3000 < x1.length
  · have hL := Lib.hid (decide_eq_true hl)
    clear hl
    go_enter Try.func10, Try.ntmps10
    go_wp2_with fail
    refine (a2long_any H0.out H1.out).mono ?_
    rintro e w9 ⟨rfl, rfl⟩
    rw [hL.out]
    go_wp2
    go_ret
    exact ⟨rfl, bl_refl _⟩
  · have hL := Lib.hid (decide_eq_false hl)
    have hl0 : x0.length ≤ 3000 := by omega
    have hl1 : x1.length ≤ 3000 := by omega
    clear hl
    go_enter Try.func10, Try.ntmps10
    go_wp2_with fail
    refine (a2long_any H0.out H1.out).mono ?_
    rintro e w9 ⟨rfl, rfl⟩
    rw [hL.out]
    go_wp2_with fail
    refine (a2frac_any H0.out hl0).mono ?_
    rintro e w1 ⟨xn, xd, yn, yd, n3, d3, rfl, hq1, hq2, hq3, hb1⟩
    have B1 : Bl w w1 := bl_call (bl_refl _) hb1
    obtain ⟨hgx, hxd, hxn⟩ := hq1
    obtain ⟨hgy, hyd, hyn⟩ := hq2
    clear hq3
    have HX := Lib.hid (show okF xn xd = true from okF_iff.2 ⟨by omega, by omega, hgx⟩)
    have HY := Lib.hid (show okF yn yd = true from okF_iff.2 ⟨by omega, by omega, hgy⟩)
    clear hgx hgy
    go_wp2_with fail
    have B2 : Bl w (((w1.alloc (.cells #[.int .i64 xn, .int .i64 xd] 55)).alloc (.cells #[.int .i64 yn, .int .i64 yd] 55)).alloc (.cells #[.int .i64 n3, .int .i64 d3] 55)) := (bl_alloc (bl_alloc (bl_alloc B1 _) _) _)
    have xX_2 : Bx (((w1.alloc (.cells #[.int .i64 xn, .int .i64 xd] 55)).alloc (.cells #[.int .i64 yn, .int .i64 yd] 55)).alloc (.cells #[.int .i64 n3, .int .i64 d3] 55)) (w1.heap.size) #[.int .i64 xn, .int .i64 xd] := (((Bx.new (b := w1.heap.size) _ #[.int .i64 xn, .int .i64 xd] 55 (by first | rfl | simp)).alloc _).alloc _)
    have xY_2 : Bx (((w1.alloc (.cells #[.int .i64 xn, .int .i64 xd] 55)).alloc (.cells #[.int .i64 yn, .int .i64 yd] 55)).alloc (.cells #[.int .i64 n3, .int .i64 d3] 55)) (w1.heap.size + 1) #[.int .i64 yn, .int .i64 yd] := ((Bx.new (b := w1.heap.size + 1) _ #[.int .i64 yn, .int .i64 yd] 55 (by first | rfl | simp)).alloc _)
    have xZ_2 : Bx (((w1.alloc (.cells #[.int .i64 xn, .int .i64 xd] 55)).alloc (.cells #[.int .i64 yn, .int .i64 yd] 55)).alloc (.cells #[.int .i64 n3, .int .i64 d3] 55)) (w1.heap.size + 1 + 1) #[.int .i64 n3, .int .i64 d3] := (Bx.new (b := w1.heap.size + 1 + 1) _ #[.int .i64 n3, .int .i64 d3] 55 (by first | rfl | simp))
    have zz2 : w1.heap.size + 3 ≤ (((w1.alloc (.cells #[.int .i64 xn, .int .i64 xd] 55)).alloc (.cells #[.int .i64 yn, .int .i64 yd] 55)).alloc (.cells #[.int .i64 n3, .int .i64 d3] 55)).heap.size := (by simp)
    generalize (((w1.alloc (.cells #[.int .i64 xn, .int .i64 xd] 55)).alloc (.cells #[.int .i64 yn, .int .i64 yd] 55)).alloc (.cells #[.int .i64 n3, .int .i64 d3] 55)) = w2 at *
    obtain ⟨cX_2, fX_2, zX_2⟩ := xX_2.out
    obtain ⟨cY_2, fY_2, zY_2⟩ := xY_2.out
    obtain ⟨cZ_2, fZ_2, zZ_2⟩ := xZ_2.out
    have H1c := Lib.hid (H1.out.below B2)
    refine (bytes_at H1c.out (by omega) 0 9 (by omega) (by omega)).mono ?_
    rintro r w9 ⟨r0, rfl, q0, q1, rfl⟩
    have hab : -4 ≤ r0 - 4 ∧ r0 - 4 ≤ 4 := by omega
    obtain ⟨a, ha⟩ : ∃ q, q = r0 - 4 := ⟨_, rfl⟩
    have hwa : IntKind.i64.wrap (r0 - 4) = a := by rw [IntKind.wrap_i64]; omega
    rw [← ha] at hab
    clear ha q0 q1
    go_wp2_with fail
    refine (bytes_at H1c.out (by omega) 1 9 (by omega) (by omega)).mono ?_
    rintro r w9 ⟨r1, rfl, q0, q1, rfl⟩
    have hbb : -4 ≤ r1 - 4 ∧ r1 - 4 ≤ 4 := by omega
    obtain ⟨b, hb⟩ : ∃ q, q = r1 - 4 := ⟨_, rfl⟩
    have hwb : IntKind.i64.wrap (r1 - 4) = b := by rw [IntKind.wrap_i64]; omega
    rw [← hb] at hbb
    clear hb q0 q1
    go_wp2_with fail
    refine (bytes_at H1c.out (by omega) 2 9 (by omega) (by omega)).mono ?_
    rintro r w9 ⟨r2, rfl, q0, q1, rfl⟩
    have hcb : -4 ≤ r2 - 4 ∧ r2 - 4 ≤ 4 := by omega
    obtain ⟨c, hc⟩ : ∃ q, q = r2 - 4 := ⟨_, rfl⟩
    have hwc : IntKind.i64.wrap (r2 - 4) = c := by rw [IntKind.wrap_i64]; omega
    rw [← hc] at hcb
    clear hc q0 q1
    go_wp2_with fail
    refine (bytes_at H1c.out (by omega) 3 9 (by omega) (by omega)).mono ?_
    rintro r w9 ⟨r3, rfl, q0, q1, rfl⟩
    have hdb : -4 ≤ r3 - 4 ∧ r3 - 4 ≤ 4 := by omega
    obtain ⟨d, hd⟩ : ∃ q, q = r3 - 4 := ⟨_, rfl⟩
    have hwd : IntKind.i64.wrap (r3 - 4) = d := by rw [IntKind.wrap_i64]; omega
    rw [← hd] at hdb
    clear hd q0 q1
    go_wp2_with fail
    refine (bytes_at H1c.out (by omega) 4 3 (by omega) (by omega)).mono ?_
    rintro r w9 ⟨e, rfl, he0, he1, rfl⟩
    go_wp2_with fail
    refine (bytes_at H1c.out (by omega) 5 3 (by omega) (by omega)).mono ?_
    rintro r w9 ⟨f, rfl, hf0, hf1, rfl⟩
    go_wp2_with fail
    refine (bytes_at H1c.out (by omega) 6 3 (by omega) (by omega)).mono ?_
    rintro r w9 ⟨g, rfl, hg0, hg1, rfl⟩
    go_wp2_with fail
    refine (bytes_at H1c.out (by omega) 7 3 (by omega) (by omega)).mono ?_
    rintro r w9 ⟨r7, rfl, q0, q1, rfl⟩
    have hhb : 1 ≤ 1 + r7 ∧ 1 + r7 ≤ 3 := by omega
    obtain ⟨h, hh⟩ : ∃ q, q = 1 + r7 := ⟨_, rfl⟩
    have hwh : IntKind.i64.wrap (1 + r7) = h := by rw [IntKind.wrap_i64]; omega
    rw [← hh] at hhb
    clear hh q0 q1
    go_wp2_with fail
    have hs : Sm (⟨a, b, c, d, e, f, g, h⟩ : Db) := ⟨hab, hbb, hcb, hdb, by show -4 ≤ e ∧ e ≤ 4; omega, by show -4 ≤ f ∧ f ≤ 4; omega, by show -4 ≤ g ∧ g ≤ 4; omega, by show -4 ≤ h ∧ h ≤ 4; omega⟩
    have hs2 : Sm (⟨a, c, b, d, e, g, f, h⟩ : Db) := ⟨hab, hcb, hbb, hdb, hs.e, hs.g, hs.f, hs.h⟩
    have he : enD (⟨a, b, c, d, e, f, g, h⟩ : Db) = false := by
      cases q : enD (⟨a, b, c, d, e, f, g, h⟩ : Db) with
      | false => rfl
      | true => have := (enD_iff.1 q).2.2.2; simp only at this; omega
    have he2 : enD (⟨a, c, b, d, e, g, f, h⟩ : Db) = false := by
      cases q : enD (⟨a, c, b, d, e, g, f, h⟩ : Db) with
      | false => rfl
      | true => have := (enD_iff.1 q).2.2.2; simp only at this; omega
    have HOK := Lib.hid (sm_okD hs he)
    have HOK2 := Lib.hid (sm_okD hs2 he2)
    have HSM := Lib.hid hs
    have HSM2 := Lib.hid hs2
    obtain ⟨hz0, hz1⟩ := dbl_at hs he HX.out HY.out hxn hxd.2 hyn hyd.2
    clear hs hs2 he he2 hab hbb hcb hdb he0 he1 hf0 hf1 hg0 hg1 hhb hwa hwb hwc hwd hwh
    have HZ0 := Lib.hid hz0
    have HZ1 := Lib.hid hz1
    clear hz0 hz1
    obtain ⟨xs, hxs⟩ : ∃ xs, xs = termsF xn xd := ⟨_, rfl⟩
    obtain ⟨ys, hys⟩ : ∃ ys, ys = termsF yn yd := ⟨_, rfl⟩
    have hlx : xs.length ≤ 60 := by rw [hxs]; exact termsF_60 (by omega) (by omega)
    have hly : ys.length ≤ 60 := by rw [hys]; exact termsF_60 (by omega) (by omega)
    rw [← hxs, ← hys] at HZ0 HZ1
    have HXS := Lib.hid hxs
    have HYS := Lib.hid hys
    clear hxs hys
    have B3 : Bl w (w2.alloc (.cells #[.int .i64 a, .int .i64 b, .int .i64 c, .int .i64 d, .int .i64 e, .int .i64 f, .int .i64 g, .int .i64 h] 86)) := (bl_alloc B2 _)
    have xX_3 : Bx (w2.alloc (.cells #[.int .i64 a, .int .i64 b, .int .i64 c, .int .i64 d, .int .i64 e, .int .i64 f, .int .i64 g, .int .i64 h] 86)) (w1.heap.size) #[.int .i64 xn, .int .i64 xd] := (xX_2.alloc _)
    have xY_3 : Bx (w2.alloc (.cells #[.int .i64 a, .int .i64 b, .int .i64 c, .int .i64 d, .int .i64 e, .int .i64 f, .int .i64 g, .int .i64 h] 86)) (w1.heap.size + 1) #[.int .i64 yn, .int .i64 yd] := (xY_2.alloc _)
    have xZ_3 : Bx (w2.alloc (.cells #[.int .i64 a, .int .i64 b, .int .i64 c, .int .i64 d, .int .i64 e, .int .i64 f, .int .i64 g, .int .i64 h] 86)) (w1.heap.size + 1 + 1) #[.int .i64 n3, .int .i64 d3] := (xZ_2.alloc _)
    have xD_3 : Bx (w2.alloc (.cells #[.int .i64 a, .int .i64 b, .int .i64 c, .int .i64 d, .int .i64 e, .int .i64 f, .int .i64 g, .int .i64 h] 86)) (w2.heap.size) #[.int .i64 a, .int .i64 b, .int .i64 c, .int .i64 d, .int .i64 e, .int .i64 f, .int .i64 g, .int .i64 h] := (Bx.new (b := w2.heap.size) _ #[.int .i64 a, .int .i64 b, .int .i64 c, .int .i64 d, .int .i64 e, .int .i64 f, .int .i64 g, .int .i64 h] 86 (by first | rfl | simp))
    have zz3 : w2.heap.size + 1 ≤ (w2.alloc (.cells #[.int .i64 a, .int .i64 b, .int .i64 c, .int .i64 d, .int .i64 e, .int .i64 f, .int .i64 g, .int .i64 h] 86)).heap.size := (by simp)
    clear cX_2 fX_2 zX_2 cY_2 fY_2 zY_2 cZ_2 fZ_2 zZ_2
    generalize (w2.alloc (.cells #[.int .i64 a, .int .i64 b, .int .i64 c, .int .i64 d, .int .i64 e, .int .i64 f, .int .i64 g, .int .i64 h] 86)) = w3 at *
    obtain ⟨cX_3, fX_3, zX_3⟩ := xX_3.out
    obtain ⟨cY_3, fY_3, zY_3⟩ := xY_3.out
    obtain ⟨cZ_3, fZ_3, zZ_3⟩ := xZ_3.out
    obtain ⟨cD_3, fD_3, zD_3⟩ := xD_3.out
    refine (swap_eqD HOK.out _).mono ?_
    rintro e w4 ⟨rfl, hb4⟩
    have B4 : Bl w w4 := bl_call B3 hb4
    have xX_4 : Bx w4 (w1.heap.size) #[.int .i64 xn, .int .i64 xd] := xX_3.below hb4
    have xY_4 : Bx w4 (w1.heap.size + 1) #[.int .i64 yn, .int .i64 yd] := xY_3.below hb4
    have xZ_4 : Bx w4 (w1.heap.size + 1 + 1) #[.int .i64 n3, .int .i64 d3] := xZ_3.below hb4
    have xD_4 : Bx w4 (w2.heap.size) #[.int .i64 a, .int .i64 b, .int .i64 c, .int .i64 d, .int .i64 e, .int .i64 f, .int .i64 g, .int .i64 h] := xD_3.below hb4
    clear cX_3 fX_3 zX_3 cY_3 fY_3 zY_3 cZ_3 fZ_3 zZ_3 cD_3 fD_3 zD_3
    obtain ⟨cX_4, fX_4, zX_4⟩ := xX_4.out
    obtain ⟨cY_4, fY_4, zY_4⟩ := xY_4.out
    obtain ⟨cZ_4, fZ_4, zZ_4⟩ := xZ_4.out
    obtain ⟨cD_4, fD_4, zD_4⟩ := xD_4.out
    go_wp2_with fail
    have B5 : Bl w (w4.alloc (.cells #[.int .i64 a, .int .i64 c, .int .i64 b, .int .i64 d, .int .i64 e, .int .i64 g, .int .i64 f, .int .i64 h] 86)) := (bl_alloc B4 _)
    have xX_5 : Bx (w4.alloc (.cells #[.int .i64 a, .int .i64 c, .int .i64 b, .int .i64 d, .int .i64 e, .int .i64 g, .int .i64 f, .int .i64 h] 86)) (w1.heap.size) #[.int .i64 xn, .int .i64 xd] := (xX_4.alloc _)
    have xY_5 : Bx (w4.alloc (.cells #[.int .i64 a, .int .i64 c, .int .i64 b, .int .i64 d, .int .i64 e, .int .i64 g, .int .i64 f, .int .i64 h] 86)) (w1.heap.size + 1) #[.int .i64 yn, .int .i64 yd] := (xY_4.alloc _)
    have xZ_5 : Bx (w4.alloc (.cells #[.int .i64 a, .int .i64 c, .int .i64 b, .int .i64 d, .int .i64 e, .int .i64 g, .int .i64 f, .int .i64 h] 86)) (w1.heap.size + 1 + 1) #[.int .i64 n3, .int .i64 d3] := (xZ_4.alloc _)
    have xD_5 : Bx (w4.alloc (.cells #[.int .i64 a, .int .i64 c, .int .i64 b, .int .i64 d, .int .i64 e, .int .i64 g, .int .i64 f, .int .i64 h] 86)) (w2.heap.size) #[.int .i64 a, .int .i64 b, .int .i64 c, .int .i64 d, .int .i64 e, .int .i64 f, .int .i64 g, .int .i64 h] := (xD_4.alloc _)
    have xS_5 : Bx (w4.alloc (.cells #[.int .i64 a, .int .i64 c, .int .i64 b, .int .i64 d, .int .i64 e, .int .i64 g, .int .i64 f, .int .i64 h] 86)) (w4.heap.size) #[.int .i64 a, .int .i64 c, .int .i64 b, .int .i64 d, .int .i64 e, .int .i64 g, .int .i64 f, .int .i64 h] := (Bx.new (b := w4.heap.size) _ #[.int .i64 a, .int .i64 c, .int .i64 b, .int .i64 d, .int .i64 e, .int .i64 g, .int .i64 f, .int .i64 h] 86 (by first | rfl | simp))
    have zz5 : w4.heap.size + 1 ≤ (w4.alloc (.cells #[.int .i64 a, .int .i64 c, .int .i64 b, .int .i64 d, .int .i64 e, .int .i64 g, .int .i64 f, .int .i64 h] 86)).heap.size := (by simp)
    clear cX_4 fX_4 zX_4 cY_4 fY_4 zY_4 cZ_4 fZ_4 zZ_4 cD_4 fD_4 zD_4
    generalize (w4.alloc (.cells #[.int .i64 a, .int .i64 c, .int .i64 b, .int .i64 d, .int .i64 e, .int .i64 g, .int .i64 f, .int .i64 h] 86)) = w5 at *
    obtain ⟨cX_5, fX_5, zX_5⟩ := xX_5.out
    obtain ⟨cY_5, fY_5, zY_5⟩ := xY_5.out
    obtain ⟨cZ_5, fZ_5, zZ_5⟩ := xZ_5.out
    obtain ⟨cD_5, fD_5, zD_5⟩ := xD_5.out
    obtain ⟨cS_5, fS_5, zS_5⟩ := xS_5.out
    refine (swap_eqD HOK2.out _).mono ?_
    rintro e w6 ⟨rfl, hb6⟩
    have B6 : Bl w w6 := bl_call B5 hb6
    have xX_6 : Bx w6 (w1.heap.size) #[.int .i64 xn, .int .i64 xd] := xX_5.below hb6
    have xY_6 : Bx w6 (w1.heap.size + 1) #[.int .i64 yn, .int .i64 yd] := xY_5.below hb6
    have xZ_6 : Bx w6 (w1.heap.size + 1 + 1) #[.int .i64 n3, .int .i64 d3] := xZ_5.below hb6
    have xD_6 : Bx w6 (w2.heap.size) #[.int .i64 a, .int .i64 b, .int .i64 c, .int .i64 d, .int .i64 e, .int .i64 f, .int .i64 g, .int .i64 h] := xD_5.below hb6
    have xS_6 : Bx w6 (w4.heap.size) #[.int .i64 a, .int .i64 c, .int .i64 b, .int .i64 d, .int .i64 e, .int .i64 g, .int .i64 f, .int .i64 h] := xS_5.below hb6
    clear cX_5 fX_5 zX_5 cY_5 fY_5 zY_5 cZ_5 fZ_5 zZ_5 cD_5 fD_5 zD_5 cS_5 fS_5 zS_5
    obtain ⟨cX_6, fX_6, zX_6⟩ := xX_6.out
    obtain ⟨cY_6, fY_6, zY_6⟩ := xY_6.out
    obtain ⟨cZ_6, fZ_6, zZ_6⟩ := xZ_6.out
    obtain ⟨cD_6, fD_6, zD_6⟩ := xD_6.out
    obtain ⟨cS_6, fS_6, zS_6⟩ := xS_6.out
    go_wp2_with fail
    have B7 : Bl w (w6.alloc (.cells #[.int .i64 a, .int .i64 b, .int .i64 c, .int .i64 d, .int .i64 e, .int .i64 f, .int .i64 g, .int .i64 h] 86)) := (bl_alloc B6 _)
    have xX_7 : Bx (w6.alloc (.cells #[.int .i64 a, .int .i64 b, .int .i64 c, .int .i64 d, .int .i64 e, .int .i64 f, .int .i64 g, .int .i64 h] 86)) (w1.heap.size) #[.int .i64 xn, .int .i64 xd] := (xX_6.alloc _)
    have xY_7 : Bx (w6.alloc (.cells #[.int .i64 a, .int .i64 b, .int .i64 c, .int .i64 d, .int .i64 e, .int .i64 f, .int .i64 g, .int .i64 h] 86)) (w1.heap.size + 1) #[.int .i64 yn, .int .i64 yd] := (xY_6.alloc _)
    have xZ_7 : Bx (w6.alloc (.cells #[.int .i64 a, .int .i64 b, .int .i64 c, .int .i64 d, .int .i64 e, .int .i64 f, .int .i64 g, .int .i64 h] 86)) (w1.heap.size + 1 + 1) #[.int .i64 n3, .int .i64 d3] := (xZ_6.alloc _)
    have xD_7 : Bx (w6.alloc (.cells #[.int .i64 a, .int .i64 b, .int .i64 c, .int .i64 d, .int .i64 e, .int .i64 f, .int .i64 g, .int .i64 h] 86)) (w2.heap.size) #[.int .i64 a, .int .i64 b, .int .i64 c, .int .i64 d, .int .i64 e, .int .i64 f, .int .i64 g, .int .i64 h] := (xD_6.alloc _)
    have xS_7 : Bx (w6.alloc (.cells #[.int .i64 a, .int .i64 b, .int .i64 c, .int .i64 d, .int .i64 e, .int .i64 f, .int .i64 g, .int .i64 h] 86)) (w4.heap.size) #[.int .i64 a, .int .i64 c, .int .i64 b, .int .i64 d, .int .i64 e, .int .i64 g, .int .i64 f, .int .i64 h] := (xS_6.alloc _)
    have xB_7 : Bx (w6.alloc (.cells #[.int .i64 a, .int .i64 b, .int .i64 c, .int .i64 d, .int .i64 e, .int .i64 f, .int .i64 g, .int .i64 h] 86)) (w6.heap.size) #[.int .i64 a, .int .i64 b, .int .i64 c, .int .i64 d, .int .i64 e, .int .i64 f, .int .i64 g, .int .i64 h] := (Bx.new (b := w6.heap.size) _ #[.int .i64 a, .int .i64 b, .int .i64 c, .int .i64 d, .int .i64 e, .int .i64 f, .int .i64 g, .int .i64 h] 86 (by first | rfl | simp))
    have zz7 : w6.heap.size + 1 ≤ (w6.alloc (.cells #[.int .i64 a, .int .i64 b, .int .i64 c, .int .i64 d, .int .i64 e, .int .i64 f, .int .i64 g, .int .i64 h] 86)).heap.size := (by simp)
    clear cX_6 fX_6 zX_6 cY_6 fY_6 zY_6 cZ_6 fZ_6 zZ_6 cD_6 fD_6 zD_6 cS_6 fS_6 zS_6
    generalize (w6.alloc (.cells #[.int .i64 a, .int .i64 b, .int .i64 c, .int .i64 d, .int .i64 e, .int .i64 f, .int .i64 g, .int .i64 h] 86)) = w7 at *
    obtain ⟨cX_7, fX_7, zX_7⟩ := xX_7.out
    obtain ⟨cY_7, fY_7, zY_7⟩ := xY_7.out
    obtain ⟨cZ_7, fZ_7, zZ_7⟩ := xZ_7.out
    obtain ⟨cD_7, fD_7, zD_7⟩ := xD_7.out
    obtain ⟨cS_7, fS_7, zS_7⟩ := xS_7.out
    obtain ⟨cB_7, fB_7, zB_7⟩ := xB_7.out
    refine (expandS_okR _ HX.out).mono ?_
    rintro e w8 ⟨p1, q1, rfl, HT, hb8⟩
    have B8 : Bl w w8 := bl_call B7 hb8
    have xX_8 : Bx w8 (w1.heap.size) #[.int .i64 xn, .int .i64 xd] := xX_7.below hb8
    have xY_8 : Bx w8 (w1.heap.size + 1) #[.int .i64 yn, .int .i64 yd] := xY_7.below hb8
    have xZ_8 : Bx w8 (w1.heap.size + 1 + 1) #[.int .i64 n3, .int .i64 d3] := xZ_7.below hb8
    have xD_8 : Bx w8 (w2.heap.size) #[.int .i64 a, .int .i64 b, .int .i64 c, .int .i64 d, .int .i64 e, .int .i64 f, .int .i64 g, .int .i64 h] := xD_7.below hb8
    have xS_8 : Bx w8 (w4.heap.size) #[.int .i64 a, .int .i64 c, .int .i64 b, .int .i64 d, .int .i64 e, .int .i64 g, .int .i64 f, .int .i64 h] := xS_7.below hb8
    have xB_8 : Bx w8 (w6.heap.size) #[.int .i64 a, .int .i64 b, .int .i64 c, .int .i64 d, .int .i64 e, .int .i64 f, .int .i64 g, .int .i64 h] := xB_7.below hb8
    clear cX_7 fX_7 zX_7 cY_7 fY_7 zY_7 cZ_7 fZ_7 zZ_7 cD_7 fD_7 zD_7 cS_7 fS_7 zS_7 cB_7 fB_7 zB_7
    obtain ⟨cX_8, fX_8, zX_8⟩ := xX_8.out
    obtain ⟨cY_8, fY_8, zY_8⟩ := xY_8.out
    obtain ⟨cZ_8, fZ_8, zZ_8⟩ := xZ_8.out
    obtain ⟨cD_8, fD_8, zD_8⟩ := xD_8.out
    obtain ⟨cS_8, fS_8, zS_8⟩ := xS_8.out
    obtain ⟨cB_8, fB_8, zB_8⟩ := xB_8.out
    rw [← HXS.out] at HT
    rw [← HXS.out]
    have HT := Lib.hid HT.sl
    clear HXS
    go_wp2_with fail
    refine (expandS_okR _ HY.out).mono ?_
    rintro e w9 ⟨p2, q2, rfl, HU, hb9⟩
    have B9 : Bl w w9 := bl_call B8 hb9
    have xX_9 : Bx w9 (w1.heap.size) #[.int .i64 xn, .int .i64 xd] := xX_8.below hb9
    have xY_9 : Bx w9 (w1.heap.size + 1) #[.int .i64 yn, .int .i64 yd] := xY_8.below hb9
    have xZ_9 : Bx w9 (w1.heap.size + 1 + 1) #[.int .i64 n3, .int .i64 d3] := xZ_8.below hb9
    have xD_9 : Bx w9 (w2.heap.size) #[.int .i64 a, .int .i64 b, .int .i64 c, .int .i64 d, .int .i64 e, .int .i64 f, .int .i64 g, .int .i64 h] := xD_8.below hb9
    have xS_9 : Bx w9 (w4.heap.size) #[.int .i64 a, .int .i64 c, .int .i64 b, .int .i64 d, .int .i64 e, .int .i64 g, .int .i64 f, .int .i64 h] := xS_8.below hb9
    have xB_9 : Bx w9 (w6.heap.size) #[.int .i64 a, .int .i64 b, .int .i64 c, .int .i64 d, .int .i64 e, .int .i64 f, .int .i64 g, .int .i64 h] := xB_8.below hb9
    clear cX_8 fX_8 zX_8 cY_8 fY_8 zY_8 cZ_8 fZ_8 zZ_8 cD_8 fD_8 zD_8 cS_8 fS_8 zS_8 cB_8 fB_8 zB_8
    obtain ⟨cX_9, fX_9, zX_9⟩ := xX_9.out
    obtain ⟨cY_9, fY_9, zY_9⟩ := xY_9.out
    obtain ⟨cZ_9, fZ_9, zZ_9⟩ := xZ_9.out
    obtain ⟨cD_9, fD_9, zD_9⟩ := xD_9.out
    obtain ⟨cS_9, fS_9, zS_9⟩ := xS_9.out
    obtain ⟨cB_9, fB_9, zB_9⟩ := xB_9.out
    have HT : Hid (Sl w9 (.slice p1 xs.length q1) xs) := Lib.hid ((HT.out.below (bl_refl w8)).below hb9)
    rw [← HYS.out] at HU
    rw [← HYS.out]
    have HU := Lib.hid HU.sl
    clear HYS
    by_cases hz : bil e f g h xn xd yn yd = 0
    · skip
      obtain ⟨hb, hr⟩ := HZ0.out hz
      have HB := Lib.hid hb
      have HB2 := Lib.hid ((biF_sw a b c d e f g h xn xd yn yd).trans hb)
      have HR := Lib.hid hr
      clear HZ0 HZ1 hz hb hr
      go_wp2_with fail
      refine (iat_any _ HSM.out HOK.out HX.out HY.out hxn hxd hyn hyd HB.out).mono ?_
      rintro e w10 ⟨rfl, hb10⟩
      have B10 : Bl w w10 := bl_call B9 hb10
      have xX_10 : Bx w10 (w1.heap.size) #[.int .i64 xn, .int .i64 xd] := xX_9.below hb10
      have xY_10 : Bx w10 (w1.heap.size + 1) #[.int .i64 yn, .int .i64 yd] := xY_9.below hb10
      have xZ_10 : Bx w10 (w1.heap.size + 1 + 1) #[.int .i64 n3, .int .i64 d3] := xZ_9.below hb10
      have xD_10 : Bx w10 (w2.heap.size) #[.int .i64 a, .int .i64 b, .int .i64 c, .int .i64 d, .int .i64 e, .int .i64 f, .int .i64 g, .int .i64 h] := xD_9.below hb10
      have xS_10 : Bx w10 (w4.heap.size) #[.int .i64 a, .int .i64 c, .int .i64 b, .int .i64 d, .int .i64 e, .int .i64 g, .int .i64 f, .int .i64 h] := xS_9.below hb10
      have xB_10 : Bx w10 (w6.heap.size) #[.int .i64 a, .int .i64 b, .int .i64 c, .int .i64 d, .int .i64 e, .int .i64 f, .int .i64 g, .int .i64 h] := xB_9.below hb10
      clear cX_9 fX_9 zX_9 cY_9 fY_9 zY_9 cZ_9 fZ_9 zZ_9 cD_9 fD_9 zD_9 cS_9 fS_9 zS_9 cB_9 fB_9 zB_9
      obtain ⟨cX_10, fX_10, zX_10⟩ := xX_10.out
      obtain ⟨cY_10, fY_10, zY_10⟩ := xY_10.out
      obtain ⟨cZ_10, fZ_10, zZ_10⟩ := xZ_10.out
      obtain ⟨cD_10, fD_10, zD_10⟩ := xD_10.out
      obtain ⟨cS_10, fS_10, zS_10⟩ := xS_10.out
      obtain ⟨cB_10, fB_10, zB_10⟩ := xB_10.out
      have HT : Hid (Sl w10 (.slice p1 xs.length q1) xs) := Lib.hid ((HT.out.below (bl_refl w9)).below hb10)
      have HU : Hid (Sl w10 (.slice p2 ys.length q2) ys) := Lib.hid ((HU.out.below (bl_refl w9)).below hb10)
      go_wp2_with fail
      have B11 : Bl w (w10.alloc (.cells #[.int .i64 0, .int .i64 0] 55)) := (bl_alloc B10 _)
      have xX_11 : Bx (w10.alloc (.cells #[.int .i64 0, .int .i64 0] 55)) (w1.heap.size) #[.int .i64 xn, .int .i64 xd] := (xX_10.alloc _)
      have xY_11 : Bx (w10.alloc (.cells #[.int .i64 0, .int .i64 0] 55)) (w1.heap.size + 1) #[.int .i64 yn, .int .i64 yd] := (xY_10.alloc _)
      have xZ_11 : Bx (w10.alloc (.cells #[.int .i64 0, .int .i64 0] 55)) (w1.heap.size + 1 + 1) #[.int .i64 n3, .int .i64 d3] := (xZ_10.alloc _)
      have xD_11 : Bx (w10.alloc (.cells #[.int .i64 0, .int .i64 0] 55)) (w2.heap.size) #[.int .i64 a, .int .i64 b, .int .i64 c, .int .i64 d, .int .i64 e, .int .i64 f, .int .i64 g, .int .i64 h] := (xD_10.alloc _)
      have xS_11 : Bx (w10.alloc (.cells #[.int .i64 0, .int .i64 0] 55)) (w4.heap.size) #[.int .i64 a, .int .i64 c, .int .i64 b, .int .i64 d, .int .i64 e, .int .i64 g, .int .i64 f, .int .i64 h] := (xS_10.alloc _)
      have xB_11 : Bx (w10.alloc (.cells #[.int .i64 0, .int .i64 0] 55)) (w6.heap.size) #[.int .i64 a, .int .i64 b, .int .i64 c, .int .i64 d, .int .i64 e, .int .i64 f, .int .i64 g, .int .i64 h] := (xB_10.alloc _)
      have xV_11 : Bx (w10.alloc (.cells #[.int .i64 0, .int .i64 0] 55)) (w10.heap.size) #[.int .i64 0, .int .i64 0] := (Bx.new (b := w10.heap.size) _ #[.int .i64 0, .int .i64 0] 55 (by first | rfl | simp))
      have zz11 : w10.heap.size + 1 ≤ (w10.alloc (.cells #[.int .i64 0, .int .i64 0] 55)).heap.size := (by simp)
      clear cX_10 fX_10 zX_10 cY_10 fY_10 zY_10 cZ_10 fZ_10 zZ_10 cD_10 fD_10 zD_10 cS_10 fS_10 zS_10 cB_10 fB_10 zB_10
      have HT : Hid (Sl (w10.alloc (.cells #[.int .i64 0, .int .i64 0] 55)) (.slice p1 xs.length q1) xs) := Lib.hid (HT.out.below (bl_alloc (bl_refl w10) _))
      have HU : Hid (Sl (w10.alloc (.cells #[.int .i64 0, .int .i64 0] 55)) (.slice p2 ys.length q2) ys) := Lib.hid (HU.out.below (bl_alloc (bl_refl w10) _))
      generalize (w10.alloc (.cells #[.int .i64 0, .int .i64 0] 55)) = w11 at *
      obtain ⟨cX_11, fX_11, zX_11⟩ := xX_11.out
      obtain ⟨cY_11, fY_11, zY_11⟩ := xY_11.out
      obtain ⟨cZ_11, fZ_11, zZ_11⟩ := xZ_11.out
      obtain ⟨cD_11, fD_11, zD_11⟩ := xD_11.out
      obtain ⟨cS_11, fS_11, zS_11⟩ := xS_11.out
      obtain ⟨cB_11, fB_11, zB_11⟩ := xB_11.out
      obtain ⟨cV_11, fV_11, zV_11⟩ := xV_11.out
      refine (iat_any _ HSM2.out HOK2.out HY.out HX.out hyn hyd hxn hxd HB2.out).mono ?_
      rintro e w12 ⟨rfl, hb12⟩
      have B12 : Bl w w12 := bl_call B11 hb12
      have xX_12 : Bx w12 (w1.heap.size) #[.int .i64 xn, .int .i64 xd] := xX_11.below hb12
      have xY_12 : Bx w12 (w1.heap.size + 1) #[.int .i64 yn, .int .i64 yd] := xY_11.below hb12
      have xZ_12 : Bx w12 (w1.heap.size + 1 + 1) #[.int .i64 n3, .int .i64 d3] := xZ_11.below hb12
      have xD_12 : Bx w12 (w2.heap.size) #[.int .i64 a, .int .i64 b, .int .i64 c, .int .i64 d, .int .i64 e, .int .i64 f, .int .i64 g, .int .i64 h] := xD_11.below hb12
      have xS_12 : Bx w12 (w4.heap.size) #[.int .i64 a, .int .i64 c, .int .i64 b, .int .i64 d, .int .i64 e, .int .i64 g, .int .i64 f, .int .i64 h] := xS_11.below hb12
      have xB_12 : Bx w12 (w6.heap.size) #[.int .i64 a, .int .i64 b, .int .i64 c, .int .i64 d, .int .i64 e, .int .i64 f, .int .i64 g, .int .i64 h] := xB_11.below hb12
      have xV_12 : Bx w12 (w10.heap.size) #[.int .i64 0, .int .i64 0] := xV_11.below hb12
      clear cX_11 fX_11 zX_11 cY_11 fY_11 zY_11 cZ_11 fZ_11 zZ_11 cD_11 fD_11 zD_11 cS_11 fS_11 zS_11 cB_11 fB_11 zB_11 cV_11 fV_11 zV_11
      obtain ⟨cX_12, fX_12, zX_12⟩ := xX_12.out
      obtain ⟨cY_12, fY_12, zY_12⟩ := xY_12.out
      obtain ⟨cZ_12, fZ_12, zZ_12⟩ := xZ_12.out
      obtain ⟨cD_12, fD_12, zD_12⟩ := xD_12.out
      obtain ⟨cS_12, fS_12, zS_12⟩ := xS_12.out
      obtain ⟨cB_12, fB_12, zB_12⟩ := xB_12.out
      obtain ⟨cV_12, fV_12, zV_12⟩ := xV_12.out
      have HT : Hid (Sl w12 (.slice p1 xs.length q1) xs) := Lib.hid ((HT.out.below (bl_refl w11)).below hb12)
      have HU : Hid (Sl w12 (.slice p2 ys.length q2) ys) := Lib.hid ((HU.out.below (bl_refl w11)).below hb12)
      go_wp2_with fail
      have B13 : Bl w (w12.alloc (.cells #[.int .i64 0, .int .i64 0] 55)) := (bl_alloc B12 _)
      have xX_13 : Bx (w12.alloc (.cells #[.int .i64 0, .int .i64 0] 55)) (w1.heap.size) #[.int .i64 xn, .int .i64 xd] := (xX_12.alloc _)
      have xY_13 : Bx (w12.alloc (.cells #[.int .i64 0, .int .i64 0] 55)) (w1.heap.size + 1) #[.int .i64 yn, .int .i64 yd] := (xY_12.alloc _)
      have xZ_13 : Bx (w12.alloc (.cells #[.int .i64 0, .int .i64 0] 55)) (w1.heap.size + 1 + 1) #[.int .i64 n3, .int .i64 d3] := (xZ_12.alloc _)
      have xD_13 : Bx (w12.alloc (.cells #[.int .i64 0, .int .i64 0] 55)) (w2.heap.size) #[.int .i64 a, .int .i64 b, .int .i64 c, .int .i64 d, .int .i64 e, .int .i64 f, .int .i64 g, .int .i64 h] := (xD_12.alloc _)
      have xS_13 : Bx (w12.alloc (.cells #[.int .i64 0, .int .i64 0] 55)) (w4.heap.size) #[.int .i64 a, .int .i64 c, .int .i64 b, .int .i64 d, .int .i64 e, .int .i64 g, .int .i64 f, .int .i64 h] := (xS_12.alloc _)
      have xB_13 : Bx (w12.alloc (.cells #[.int .i64 0, .int .i64 0] 55)) (w6.heap.size) #[.int .i64 a, .int .i64 b, .int .i64 c, .int .i64 d, .int .i64 e, .int .i64 f, .int .i64 g, .int .i64 h] := (xB_12.alloc _)
      have xV_13 : Bx (w12.alloc (.cells #[.int .i64 0, .int .i64 0] 55)) (w10.heap.size) #[.int .i64 0, .int .i64 0] := (xV_12.alloc _)
      have xU_13 : Bx (w12.alloc (.cells #[.int .i64 0, .int .i64 0] 55)) (w12.heap.size) #[.int .i64 0, .int .i64 0] := (Bx.new (b := w12.heap.size) _ #[.int .i64 0, .int .i64 0] 55 (by first | rfl | simp))
      have zz13 : w12.heap.size + 1 ≤ (w12.alloc (.cells #[.int .i64 0, .int .i64 0] 55)).heap.size := (by simp)
      clear cX_12 fX_12 zX_12 cY_12 fY_12 zY_12 cZ_12 fZ_12 zZ_12 cD_12 fD_12 zD_12 cS_12 fS_12 zS_12 cB_12 fB_12 zB_12 cV_12 fV_12 zV_12
      have HT : Hid (Sl (w12.alloc (.cells #[.int .i64 0, .int .i64 0] 55)) (.slice p1 xs.length q1) xs) := Lib.hid (HT.out.below (bl_alloc (bl_refl w12) _))
      have HU : Hid (Sl (w12.alloc (.cells #[.int .i64 0, .int .i64 0] 55)) (.slice p2 ys.length q2) ys) := Lib.hid (HU.out.below (bl_alloc (bl_refl w12) _))
      generalize (w12.alloc (.cells #[.int .i64 0, .int .i64 0] 55)) = w13 at *
      obtain ⟨cX_13, fX_13, zX_13⟩ := xX_13.out
      obtain ⟨cY_13, fY_13, zY_13⟩ := xY_13.out
      obtain ⟨cZ_13, fZ_13, zZ_13⟩ := xZ_13.out
      obtain ⟨cD_13, fD_13, zD_13⟩ := xD_13.out
      obtain ⟨cS_13, fS_13, zS_13⟩ := xS_13.out
      obtain ⟨cB_13, fB_13, zB_13⟩ := xB_13.out
      obtain ⟨cV_13, fV_13, zV_13⟩ := xV_13.out
      obtain ⟨cU_13, fU_13, zU_13⟩ := xU_13.out
      refine (rund_eqD HR.out _ HT.out (by omega) HU.out (by omega)).mono ?_
      rintro e w14 ⟨x9, n9, c9, rfl, HL, hb14⟩
      have B14 : Bl w w14 := bl_call B13 hb14
      have xX_14 : Bx w14 (w1.heap.size) #[.int .i64 xn, .int .i64 xd] := xX_13.below hb14
      have xY_14 : Bx w14 (w1.heap.size + 1) #[.int .i64 yn, .int .i64 yd] := xY_13.below hb14
      have xZ_14 : Bx w14 (w1.heap.size + 1 + 1) #[.int .i64 n3, .int .i64 d3] := xZ_13.below hb14
      have xD_14 : Bx w14 (w2.heap.size) #[.int .i64 a, .int .i64 b, .int .i64 c, .int .i64 d, .int .i64 e, .int .i64 f, .int .i64 g, .int .i64 h] := xD_13.below hb14
      have xS_14 : Bx w14 (w4.heap.size) #[.int .i64 a, .int .i64 c, .int .i64 b, .int .i64 d, .int .i64 e, .int .i64 g, .int .i64 f, .int .i64 h] := xS_13.below hb14
      have xB_14 : Bx w14 (w6.heap.size) #[.int .i64 a, .int .i64 b, .int .i64 c, .int .i64 d, .int .i64 e, .int .i64 f, .int .i64 g, .int .i64 h] := xB_13.below hb14
      have xV_14 : Bx w14 (w10.heap.size) #[.int .i64 0, .int .i64 0] := xV_13.below hb14
      have xU_14 : Bx w14 (w12.heap.size) #[.int .i64 0, .int .i64 0] := xU_13.below hb14
      clear cX_13 fX_13 zX_13 cY_13 fY_13 zY_13 cZ_13 fZ_13 zZ_13 cD_13 fD_13 zD_13 cS_13 fS_13 zS_13 cB_13 fB_13 zB_13 cV_13 fV_13 zV_13 cU_13 fU_13 zU_13
      obtain ⟨cX_14, fX_14, zX_14⟩ := xX_14.out
      obtain ⟨cY_14, fY_14, zY_14⟩ := xY_14.out
      obtain ⟨cZ_14, fZ_14, zZ_14⟩ := xZ_14.out
      obtain ⟨cD_14, fD_14, zD_14⟩ := xD_14.out
      obtain ⟨cS_14, fS_14, zS_14⟩ := xS_14.out
      obtain ⟨cB_14, fB_14, zB_14⟩ := xB_14.out
      obtain ⟨cV_14, fV_14, zV_14⟩ := xV_14.out
      obtain ⟨cU_14, fU_14, zU_14⟩ := xU_14.out
      have HT : Hid (Sl w14 (.slice p1 xs.length q1) xs) := Lib.hid ((HT.out.below (bl_refl w13)).below hb14)
      have HU : Hid (Sl w14 (.slice p2 ys.length q2) ys) := Lib.hid ((HU.out.below (bl_refl w13)).below hb14)
      go_wp2
      go_ret
      exact ⟨rfl, B14⟩
    · skip
      obtain ⟨p, q, hb, hpq, hr⟩ := HZ1.out hz
      have HB := Lib.hid hb
      have HB2 := Lib.hid ((biF_sw a b c d e f g h xn xd yn yd).trans hb)
      have HPQ := Lib.hid hpq
      have hpb := okF_bdE hpq
      obtain ⟨zs, hzs⟩ : ∃ zs, zs = termsF p q := ⟨_, rfl⟩
      have HZS := Lib.hid hzs
      rw [← hzs] at hr
      have hzl : zs.length ≤ 60 := by rw [hzs]; exact termsF_60 (by omega) (by omega)
      have HR := Lib.hid hr
      clear HZ0 HZ1 hz hb hr hpq hzs
      go_wp2_with fail
      refine (iat_any _ HSM.out HOK.out HX.out HY.out hxn hxd hyn hyd HB.out).mono ?_
      rintro e w10 ⟨rfl, hb10⟩
      have B10 : Bl w w10 := bl_call B9 hb10
      have xX_10 : Bx w10 (w1.heap.size) #[.int .i64 xn, .int .i64 xd] := xX_9.below hb10
      have xY_10 : Bx w10 (w1.heap.size + 1) #[.int .i64 yn, .int .i64 yd] := xY_9.below hb10
      have xZ_10 : Bx w10 (w1.heap.size + 1 + 1) #[.int .i64 n3, .int .i64 d3] := xZ_9.below hb10
      have xD_10 : Bx w10 (w2.heap.size) #[.int .i64 a, .int .i64 b, .int .i64 c, .int .i64 d, .int .i64 e, .int .i64 f, .int .i64 g, .int .i64 h] := xD_9.below hb10
      have xS_10 : Bx w10 (w4.heap.size) #[.int .i64 a, .int .i64 c, .int .i64 b, .int .i64 d, .int .i64 e, .int .i64 g, .int .i64 f, .int .i64 h] := xS_9.below hb10
      have xB_10 : Bx w10 (w6.heap.size) #[.int .i64 a, .int .i64 b, .int .i64 c, .int .i64 d, .int .i64 e, .int .i64 f, .int .i64 g, .int .i64 h] := xB_9.below hb10
      clear cX_9 fX_9 zX_9 cY_9 fY_9 zY_9 cZ_9 fZ_9 zZ_9 cD_9 fD_9 zD_9 cS_9 fS_9 zS_9 cB_9 fB_9 zB_9
      obtain ⟨cX_10, fX_10, zX_10⟩ := xX_10.out
      obtain ⟨cY_10, fY_10, zY_10⟩ := xY_10.out
      obtain ⟨cZ_10, fZ_10, zZ_10⟩ := xZ_10.out
      obtain ⟨cD_10, fD_10, zD_10⟩ := xD_10.out
      obtain ⟨cS_10, fS_10, zS_10⟩ := xS_10.out
      obtain ⟨cB_10, fB_10, zB_10⟩ := xB_10.out
      have HT : Hid (Sl w10 (.slice p1 xs.length q1) xs) := Lib.hid ((HT.out.below (bl_refl w9)).below hb10)
      have HU : Hid (Sl w10 (.slice p2 ys.length q2) ys) := Lib.hid ((HU.out.below (bl_refl w9)).below hb10)
      go_wp2_with fail
      have B11 : Bl w (w10.alloc (.cells #[.int .i64 p, .int .i64 q] 55)) := (bl_alloc B10 _)
      have xX_11 : Bx (w10.alloc (.cells #[.int .i64 p, .int .i64 q] 55)) (w1.heap.size) #[.int .i64 xn, .int .i64 xd] := (xX_10.alloc _)
      have xY_11 : Bx (w10.alloc (.cells #[.int .i64 p, .int .i64 q] 55)) (w1.heap.size + 1) #[.int .i64 yn, .int .i64 yd] := (xY_10.alloc _)
      have xZ_11 : Bx (w10.alloc (.cells #[.int .i64 p, .int .i64 q] 55)) (w1.heap.size + 1 + 1) #[.int .i64 n3, .int .i64 d3] := (xZ_10.alloc _)
      have xD_11 : Bx (w10.alloc (.cells #[.int .i64 p, .int .i64 q] 55)) (w2.heap.size) #[.int .i64 a, .int .i64 b, .int .i64 c, .int .i64 d, .int .i64 e, .int .i64 f, .int .i64 g, .int .i64 h] := (xD_10.alloc _)
      have xS_11 : Bx (w10.alloc (.cells #[.int .i64 p, .int .i64 q] 55)) (w4.heap.size) #[.int .i64 a, .int .i64 c, .int .i64 b, .int .i64 d, .int .i64 e, .int .i64 g, .int .i64 f, .int .i64 h] := (xS_10.alloc _)
      have xB_11 : Bx (w10.alloc (.cells #[.int .i64 p, .int .i64 q] 55)) (w6.heap.size) #[.int .i64 a, .int .i64 b, .int .i64 c, .int .i64 d, .int .i64 e, .int .i64 f, .int .i64 g, .int .i64 h] := (xB_10.alloc _)
      have xV_11 : Bx (w10.alloc (.cells #[.int .i64 p, .int .i64 q] 55)) (w10.heap.size) #[.int .i64 p, .int .i64 q] := (Bx.new (b := w10.heap.size) _ #[.int .i64 p, .int .i64 q] 55 (by first | rfl | simp))
      have zz11 : w10.heap.size + 1 ≤ (w10.alloc (.cells #[.int .i64 p, .int .i64 q] 55)).heap.size := (by simp)
      clear cX_10 fX_10 zX_10 cY_10 fY_10 zY_10 cZ_10 fZ_10 zZ_10 cD_10 fD_10 zD_10 cS_10 fS_10 zS_10 cB_10 fB_10 zB_10
      have HT : Hid (Sl (w10.alloc (.cells #[.int .i64 p, .int .i64 q] 55)) (.slice p1 xs.length q1) xs) := Lib.hid (HT.out.below (bl_alloc (bl_refl w10) _))
      have HU : Hid (Sl (w10.alloc (.cells #[.int .i64 p, .int .i64 q] 55)) (.slice p2 ys.length q2) ys) := Lib.hid (HU.out.below (bl_alloc (bl_refl w10) _))
      generalize (w10.alloc (.cells #[.int .i64 p, .int .i64 q] 55)) = w11 at *
      obtain ⟨cX_11, fX_11, zX_11⟩ := xX_11.out
      obtain ⟨cY_11, fY_11, zY_11⟩ := xY_11.out
      obtain ⟨cZ_11, fZ_11, zZ_11⟩ := xZ_11.out
      obtain ⟨cD_11, fD_11, zD_11⟩ := xD_11.out
      obtain ⟨cS_11, fS_11, zS_11⟩ := xS_11.out
      obtain ⟨cB_11, fB_11, zB_11⟩ := xB_11.out
      obtain ⟨cV_11, fV_11, zV_11⟩ := xV_11.out
      refine (iat_any _ HSM2.out HOK2.out HY.out HX.out hyn hyd hxn hxd HB2.out).mono ?_
      rintro e w12 ⟨rfl, hb12⟩
      have B12 : Bl w w12 := bl_call B11 hb12
      have xX_12 : Bx w12 (w1.heap.size) #[.int .i64 xn, .int .i64 xd] := xX_11.below hb12
      have xY_12 : Bx w12 (w1.heap.size + 1) #[.int .i64 yn, .int .i64 yd] := xY_11.below hb12
      have xZ_12 : Bx w12 (w1.heap.size + 1 + 1) #[.int .i64 n3, .int .i64 d3] := xZ_11.below hb12
      have xD_12 : Bx w12 (w2.heap.size) #[.int .i64 a, .int .i64 b, .int .i64 c, .int .i64 d, .int .i64 e, .int .i64 f, .int .i64 g, .int .i64 h] := xD_11.below hb12
      have xS_12 : Bx w12 (w4.heap.size) #[.int .i64 a, .int .i64 c, .int .i64 b, .int .i64 d, .int .i64 e, .int .i64 g, .int .i64 f, .int .i64 h] := xS_11.below hb12
      have xB_12 : Bx w12 (w6.heap.size) #[.int .i64 a, .int .i64 b, .int .i64 c, .int .i64 d, .int .i64 e, .int .i64 f, .int .i64 g, .int .i64 h] := xB_11.below hb12
      have xV_12 : Bx w12 (w10.heap.size) #[.int .i64 p, .int .i64 q] := xV_11.below hb12
      clear cX_11 fX_11 zX_11 cY_11 fY_11 zY_11 cZ_11 fZ_11 zZ_11 cD_11 fD_11 zD_11 cS_11 fS_11 zS_11 cB_11 fB_11 zB_11 cV_11 fV_11 zV_11
      obtain ⟨cX_12, fX_12, zX_12⟩ := xX_12.out
      obtain ⟨cY_12, fY_12, zY_12⟩ := xY_12.out
      obtain ⟨cZ_12, fZ_12, zZ_12⟩ := xZ_12.out
      obtain ⟨cD_12, fD_12, zD_12⟩ := xD_12.out
      obtain ⟨cS_12, fS_12, zS_12⟩ := xS_12.out
      obtain ⟨cB_12, fB_12, zB_12⟩ := xB_12.out
      obtain ⟨cV_12, fV_12, zV_12⟩ := xV_12.out
      have HT : Hid (Sl w12 (.slice p1 xs.length q1) xs) := Lib.hid ((HT.out.below (bl_refl w11)).below hb12)
      have HU : Hid (Sl w12 (.slice p2 ys.length q2) ys) := Lib.hid ((HU.out.below (bl_refl w11)).below hb12)
      go_wp2_with fail
      have B13 : Bl w (w12.alloc (.cells #[.int .i64 p, .int .i64 q] 55)) := (bl_alloc B12 _)
      have xX_13 : Bx (w12.alloc (.cells #[.int .i64 p, .int .i64 q] 55)) (w1.heap.size) #[.int .i64 xn, .int .i64 xd] := (xX_12.alloc _)
      have xY_13 : Bx (w12.alloc (.cells #[.int .i64 p, .int .i64 q] 55)) (w1.heap.size + 1) #[.int .i64 yn, .int .i64 yd] := (xY_12.alloc _)
      have xZ_13 : Bx (w12.alloc (.cells #[.int .i64 p, .int .i64 q] 55)) (w1.heap.size + 1 + 1) #[.int .i64 n3, .int .i64 d3] := (xZ_12.alloc _)
      have xD_13 : Bx (w12.alloc (.cells #[.int .i64 p, .int .i64 q] 55)) (w2.heap.size) #[.int .i64 a, .int .i64 b, .int .i64 c, .int .i64 d, .int .i64 e, .int .i64 f, .int .i64 g, .int .i64 h] := (xD_12.alloc _)
      have xS_13 : Bx (w12.alloc (.cells #[.int .i64 p, .int .i64 q] 55)) (w4.heap.size) #[.int .i64 a, .int .i64 c, .int .i64 b, .int .i64 d, .int .i64 e, .int .i64 g, .int .i64 f, .int .i64 h] := (xS_12.alloc _)
      have xB_13 : Bx (w12.alloc (.cells #[.int .i64 p, .int .i64 q] 55)) (w6.heap.size) #[.int .i64 a, .int .i64 b, .int .i64 c, .int .i64 d, .int .i64 e, .int .i64 f, .int .i64 g, .int .i64 h] := (xB_12.alloc _)
      have xV_13 : Bx (w12.alloc (.cells #[.int .i64 p, .int .i64 q] 55)) (w10.heap.size) #[.int .i64 p, .int .i64 q] := (xV_12.alloc _)
      have xU_13 : Bx (w12.alloc (.cells #[.int .i64 p, .int .i64 q] 55)) (w12.heap.size) #[.int .i64 p, .int .i64 q] := (Bx.new (b := w12.heap.size) _ #[.int .i64 p, .int .i64 q] 55 (by first | rfl | simp))
      have zz13 : w12.heap.size + 1 ≤ (w12.alloc (.cells #[.int .i64 p, .int .i64 q] 55)).heap.size := (by simp)
      clear cX_12 fX_12 zX_12 cY_12 fY_12 zY_12 cZ_12 fZ_12 zZ_12 cD_12 fD_12 zD_12 cS_12 fS_12 zS_12 cB_12 fB_12 zB_12 cV_12 fV_12 zV_12
      have HT : Hid (Sl (w12.alloc (.cells #[.int .i64 p, .int .i64 q] 55)) (.slice p1 xs.length q1) xs) := Lib.hid (HT.out.below (bl_alloc (bl_refl w12) _))
      have HU : Hid (Sl (w12.alloc (.cells #[.int .i64 p, .int .i64 q] 55)) (.slice p2 ys.length q2) ys) := Lib.hid (HU.out.below (bl_alloc (bl_refl w12) _))
      generalize (w12.alloc (.cells #[.int .i64 p, .int .i64 q] 55)) = w13 at *
      obtain ⟨cX_13, fX_13, zX_13⟩ := xX_13.out
      obtain ⟨cY_13, fY_13, zY_13⟩ := xY_13.out
      obtain ⟨cZ_13, fZ_13, zZ_13⟩ := xZ_13.out
      obtain ⟨cD_13, fD_13, zD_13⟩ := xD_13.out
      obtain ⟨cS_13, fS_13, zS_13⟩ := xS_13.out
      obtain ⟨cB_13, fB_13, zB_13⟩ := xB_13.out
      obtain ⟨cV_13, fV_13, zV_13⟩ := xV_13.out
      obtain ⟨cU_13, fU_13, zU_13⟩ := xU_13.out
      refine (rund_eqD HR.out _ HT.out (by omega) HU.out (by omega)).mono ?_
      rintro e w14 ⟨x9, n9, c9, rfl, HL, hb14⟩
      have B14 : Bl w w14 := bl_call B13 hb14
      have xX_14 : Bx w14 (w1.heap.size) #[.int .i64 xn, .int .i64 xd] := xX_13.below hb14
      have xY_14 : Bx w14 (w1.heap.size + 1) #[.int .i64 yn, .int .i64 yd] := xY_13.below hb14
      have xZ_14 : Bx w14 (w1.heap.size + 1 + 1) #[.int .i64 n3, .int .i64 d3] := xZ_13.below hb14
      have xD_14 : Bx w14 (w2.heap.size) #[.int .i64 a, .int .i64 b, .int .i64 c, .int .i64 d, .int .i64 e, .int .i64 f, .int .i64 g, .int .i64 h] := xD_13.below hb14
      have xS_14 : Bx w14 (w4.heap.size) #[.int .i64 a, .int .i64 c, .int .i64 b, .int .i64 d, .int .i64 e, .int .i64 g, .int .i64 f, .int .i64 h] := xS_13.below hb14
      have xB_14 : Bx w14 (w6.heap.size) #[.int .i64 a, .int .i64 b, .int .i64 c, .int .i64 d, .int .i64 e, .int .i64 f, .int .i64 g, .int .i64 h] := xB_13.below hb14
      have xV_14 : Bx w14 (w10.heap.size) #[.int .i64 p, .int .i64 q] := xV_13.below hb14
      have xU_14 : Bx w14 (w12.heap.size) #[.int .i64 p, .int .i64 q] := xU_13.below hb14
      clear cX_13 fX_13 zX_13 cY_13 fY_13 zY_13 cZ_13 fZ_13 zZ_13 cD_13 fD_13 zD_13 cS_13 fS_13 zS_13 cB_13 fB_13 zB_13 cV_13 fV_13 zV_13 cU_13 fU_13 zU_13
      obtain ⟨cX_14, fX_14, zX_14⟩ := xX_14.out
      obtain ⟨cY_14, fY_14, zY_14⟩ := xY_14.out
      obtain ⟨cZ_14, fZ_14, zZ_14⟩ := xZ_14.out
      obtain ⟨cD_14, fD_14, zD_14⟩ := xD_14.out
      obtain ⟨cS_14, fS_14, zS_14⟩ := xS_14.out
      obtain ⟨cB_14, fB_14, zB_14⟩ := xB_14.out
      obtain ⟨cV_14, fV_14, zV_14⟩ := xV_14.out
      obtain ⟨cU_14, fU_14, zU_14⟩ := xU_14.out
      have HT : Hid (Sl w14 (.slice p1 xs.length q1) xs) := Lib.hid ((HT.out.below (bl_refl w13)).below hb14)
      have HU : Hid (Sl w14 (.slice p2 ys.length q2) ys) := Lib.hid ((HU.out.below (bl_refl w13)).below hb14)
      obtain ⟨a9, c8, e9, _⟩ := HL.sl.form'
      obtain ⟨rfl, rfl, rfl⟩ : x9 = a9 ∧ n9 = zs.length ∧ c9 = c8 := by simpa using e9
      clear e9
      have HL := Lib.hid HL.sl
      go_wp2_with fail
      refine (expandS_okR _ HPQ.out).mono ?_
      rintro e w15 ⟨p3, q3, rfl, HW, hb15⟩
      have B15 : Bl w w15 := bl_call B14 hb15
      have xX_15 : Bx w15 (w1.heap.size) #[.int .i64 xn, .int .i64 xd] := xX_14.below hb15
      have xY_15 : Bx w15 (w1.heap.size + 1) #[.int .i64 yn, .int .i64 yd] := xY_14.below hb15
      have xZ_15 : Bx w15 (w1.heap.size + 1 + 1) #[.int .i64 n3, .int .i64 d3] := xZ_14.below hb15
      have xD_15 : Bx w15 (w2.heap.size) #[.int .i64 a, .int .i64 b, .int .i64 c, .int .i64 d, .int .i64 e, .int .i64 f, .int .i64 g, .int .i64 h] := xD_14.below hb15
      have xS_15 : Bx w15 (w4.heap.size) #[.int .i64 a, .int .i64 c, .int .i64 b, .int .i64 d, .int .i64 e, .int .i64 g, .int .i64 f, .int .i64 h] := xS_14.below hb15
      have xB_15 : Bx w15 (w6.heap.size) #[.int .i64 a, .int .i64 b, .int .i64 c, .int .i64 d, .int .i64 e, .int .i64 f, .int .i64 g, .int .i64 h] := xB_14.below hb15
      have xV_15 : Bx w15 (w10.heap.size) #[.int .i64 p, .int .i64 q] := xV_14.below hb15
      have xU_15 : Bx w15 (w12.heap.size) #[.int .i64 p, .int .i64 q] := xU_14.below hb15
      clear cX_14 fX_14 zX_14 cY_14 fY_14 zY_14 cZ_14 fZ_14 zZ_14 cD_14 fD_14 zD_14 cS_14 fS_14 zS_14 cB_14 fB_14 zB_14 cV_14 fV_14 zV_14 cU_14 fU_14 zU_14
      obtain ⟨cX_15, fX_15, zX_15⟩ := xX_15.out
      obtain ⟨cY_15, fY_15, zY_15⟩ := xY_15.out
      obtain ⟨cZ_15, fZ_15, zZ_15⟩ := xZ_15.out
      obtain ⟨cD_15, fD_15, zD_15⟩ := xD_15.out
      obtain ⟨cS_15, fS_15, zS_15⟩ := xS_15.out
      obtain ⟨cB_15, fB_15, zB_15⟩ := xB_15.out
      obtain ⟨cV_15, fV_15, zV_15⟩ := xV_15.out
      obtain ⟨cU_15, fU_15, zU_15⟩ := xU_15.out
      have HT : Hid (Sl w15 (.slice p1 xs.length q1) xs) := Lib.hid ((HT.out.below (bl_refl w14)).below hb15)
      have HU : Hid (Sl w15 (.slice p2 ys.length q2) ys) := Lib.hid ((HU.out.below (bl_refl w14)).below hb15)
      have HL : Hid (Sl w15 (.slice x9 zs.length c9) zs) := Lib.hid ((HL.out.below (bl_refl w14)).below hb15)
      rw [← HZS.out] at HW
      rw [← HZS.out]
      have HW := Lib.hid HW.sl
      clear HZS
      go_wp2_with fail
      refine (same_eqD _ HL.out HW.out).mono ?_
      rintro e w16 ⟨rfl, hb16⟩
      have B16 : Bl w w16 := bl_call B15 hb16
      have xX_16 : Bx w16 (w1.heap.size) #[.int .i64 xn, .int .i64 xd] := xX_15.below hb16
      have xY_16 : Bx w16 (w1.heap.size + 1) #[.int .i64 yn, .int .i64 yd] := xY_15.below hb16
      have xZ_16 : Bx w16 (w1.heap.size + 1 + 1) #[.int .i64 n3, .int .i64 d3] := xZ_15.below hb16
      have xD_16 : Bx w16 (w2.heap.size) #[.int .i64 a, .int .i64 b, .int .i64 c, .int .i64 d, .int .i64 e, .int .i64 f, .int .i64 g, .int .i64 h] := xD_15.below hb16
      have xS_16 : Bx w16 (w4.heap.size) #[.int .i64 a, .int .i64 c, .int .i64 b, .int .i64 d, .int .i64 e, .int .i64 g, .int .i64 f, .int .i64 h] := xS_15.below hb16
      have xB_16 : Bx w16 (w6.heap.size) #[.int .i64 a, .int .i64 b, .int .i64 c, .int .i64 d, .int .i64 e, .int .i64 f, .int .i64 g, .int .i64 h] := xB_15.below hb16
      have xV_16 : Bx w16 (w10.heap.size) #[.int .i64 p, .int .i64 q] := xV_15.below hb16
      have xU_16 : Bx w16 (w12.heap.size) #[.int .i64 p, .int .i64 q] := xU_15.below hb16
      clear cX_15 fX_15 zX_15 cY_15 fY_15 zY_15 cZ_15 fZ_15 zZ_15 cD_15 fD_15 zD_15 cS_15 fS_15 zS_15 cB_15 fB_15 zB_15 cV_15 fV_15 zV_15 cU_15 fU_15 zU_15
      obtain ⟨cX_16, fX_16, zX_16⟩ := xX_16.out
      obtain ⟨cY_16, fY_16, zY_16⟩ := xY_16.out
      obtain ⟨cZ_16, fZ_16, zZ_16⟩ := xZ_16.out
      obtain ⟨cD_16, fD_16, zD_16⟩ := xD_16.out
      obtain ⟨cS_16, fS_16, zS_16⟩ := xS_16.out
      obtain ⟨cB_16, fB_16, zB_16⟩ := xB_16.out
      obtain ⟨cV_16, fV_16, zV_16⟩ := xV_16.out
      obtain ⟨cU_16, fU_16, zU_16⟩ := xU_16.out
      have HT : Hid (Sl w16 (.slice p1 xs.length q1) xs) := Lib.hid ((HT.out.below (bl_refl w15)).below hb16)
      have HU : Hid (Sl w16 (.slice p2 ys.length q2) ys) := Lib.hid ((HU.out.below (bl_refl w15)).below hb16)
      have HL : Hid (Sl w16 (.slice x9 zs.length c9) zs) := Lib.hid ((HL.out.below (bl_refl w15)).below hb16)
      go_wp2
      go_ret
      exact ⟨rfl, B16⟩

set_option maxRecDepth 100000 in
theorem fnDoubles_lifted (os : Os) (started : os.Started) (H : Type) (enc : TypeId × Value → H) :
    ReturnsInHanded {} Try.checked os 10 .any (Rows.fnDoublesSpec.pre6 enc Try.prog Try.f10 Rows.fnDoublesRow.domain false) (Rows.fnDoublesSpec.post enc Try.prog Try.f10 false true false false) := by
  refine returnsInHanded_of_change (C := Try.checked) own started (by kernel_rfl) Try.func10
    (ChangeSpec.witness6 (enc := enc) (C := Try.checked) false ⟨#[], #[.slice none 0 0, .slice none 0 0], []⟩ 8 (by kernel_rfl) (by kernel_rfl) (by kernel_rfl) (by kernel_rfl)) ?_
  intro W base args ds gs before hval0 hW hcnd _
  have hval : ∀ (j : Nat) t v, Try.f10.params[j]? = some t → args[j]? = some v → Value.okWide Try.prog W .any base t v := hval0
  have hW' := hW
  obtain ⟨p, q, hA0, hV, rfl, hfz, hnd⟩ := hW
  have hA : DataW.TrodAll enc Try.prog W 0 (fun _ => true) true Try.f10.params.toList args.toList ds p := hA0
  rw [Try.params10] at hA hval
  obtain ⟨v0, vs0, d0, ds0, p0, q0, hargs, rfl, rfl, h0, r0⟩ := trodAll_cons hA
  obtain ⟨v1, vs1, d1, ds1, p1, q1, rfl, rfl, rfl, h1, r1⟩ := trodAll_cons r0
  obtain ⟨rfl, rfl, rfl⟩ := trodAll_nil r1
  obtain rfl : args = #[v0, v1] := by cases args; simp_all
  obtain ⟨rfl, rfl⟩ := trodVars_none hV
  have k0 := h0
  have lt0 : ∀ x ∈ p0, x.block < W.heap.size := by obtain ⟨m, hm⟩ := k0; exact DataW.trod_lt m _ _ _ hm
  have k1 := h1
  have lt1 : ∀ x ∈ p1, x.block < W.heap.size := by obtain ⟨m, hm⟩ := k1; exact DataW.trod_lt m _ _ _ hm
  obtain ⟨x0, S0⟩ := bytes_of_trod (hval 0 22 v0 rfl rfl) h0
  obtain ⟨x1, S1⟩ := bytes_of_trod (hval 1 22 v1 rfl rfl) h1
  clear hA0 hval0
  refine (lawDoubles v0 x0 v1 x1 W S0 S1).mono fun e W' ⟨he, bel⟩ => ?_
  subst he
  exact ⟨_, rfl, _, _, _, [], _, [], hW', trodAll_mk1 (shut_bool Try.underlying4 _), (trodAll_cons_mk (Below.trod laidOut (by kernel_rfl) (of_decide_eq_true (by kernel_rfl)) k0 bel lt0) (trodAll_cons_mk (Below.trod laidOut (by kernel_rfl) (of_decide_eq_true (by kernel_rfl)) k1 bel lt1) trodAll_mk0)), rfl, bel.frame _, fun h => by cases h⟩

/-- THE STATEMENT. -/
theorem fnDoubles_holds : Rows.FnDoublesSaid :=
  OpenClaim.holds_of_wide 10 Try.f10 rfl rfl rfl rfl rfl rfl rfl ⟨rfl, rfl, rfl, rfl, rfl⟩ rfl rfl rfl rfl rfl (by kernel_rfl) Try.func10 (by kernel_rfl)
    (of_decide_eq_true (by kernel_rfl)) (by unfold Func.isWrapper; first | (rw [if_pos (by decide +kernel)]; kernel_rfl) | (rw [if_neg (by decide +kernel)]; exact ⟨rfl, rfl⟩))
    (fun os started H enc _ => fnDoubles_lifted os started H enc)
#print axioms fnDoubles_holds

end Go.Proofs.Ytgmofofokhlhnaa
