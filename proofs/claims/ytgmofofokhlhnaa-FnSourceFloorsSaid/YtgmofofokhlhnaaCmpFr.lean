/- CompareWithFraction: the program and the reference give the same. No condition. -/
import Derived.Test.YtgmofofokhlhnaaL17
import Derived.Test.YtgmofofokhlhnaaTermsW
import Derived.Test.YtgmofofokhlhnaaOk
namespace Go.Proofs.Ytgmofofokhlhnaa
open Go.RowKit
set_option linter.unusedVariables false
set_option linter.unusedSimpArgs false

theorem termsF_last (f : Nat) : ∀ (n d : Int), 0 < d → d < n → d < f → ∀ x, (termsF n d).getLast? = some x → 2 ≤ x := by
  induction f with
  | zero => intro n d h1 h2 h3; omega
  | succ f ih =>
    intro n d h1 h2 h3 x hx
    have hr := rest_lt (n := n) h1
    rw [termsF_step h1] at hx
    by_cases hz : n - n / d * d = 0
    · rw [hz, termsF_zero] at hx
      simp at hx
      subst hx
      have e : n = n / d * d := by omega
      rcases Int.lt_or_le (n / d) 2 with h | h
      · have := Int.mul_le_mul_of_nonneg_right (show n / d ≤ 1 by omega) (show 0 ≤ d by omega)
        omega
      · exact h
    · have hne : termsF d (n - n / d * d) ≠ [] := by
        have := termsF_pos (n := d) (d := n - n / d * d) (by omega)
        intro e; rw [e] at this; simp at this
      rw [List.getLast?_cons_of_ne_nil hne] at hx
      exact ih d _ (by omega) hr.2 (by omega) x hx
theorem shortL_terms {n d : Int} (h1 : 0 < d) : shortL (termsF n d) = termsF n d := by
  refine shortL_no fun q => ?_
  obtain ⟨q1, q2⟩ := q
  rw [← List.getLast?_eq_getElem?] at q2
  have hr := rest_lt (n := n) h1
  rw [termsF_step h1] at q1 q2
  by_cases hz : n - n / d * d = 0
  · rw [hz, termsF_zero] at q1
    simp at q1
  · have hne : termsF d (n - n / d * d) ≠ [] := by
      have := termsF_pos (n := d) (d := n - n / d * d) (by omega)
      intro e; rw [e] at this; simp at this
    rw [List.getLast?_cons_of_ne_nil hne] at q2
    have := termsF_last (d.toNat + 1) d (n - n / d * d) (by omega) hr.2 (by omega) 1 q2
    omega
theorem plain_terms {n d : Int} (h1 : 0 < d) : plainS ⟨termsF n d, [], []⟩ = ⟨termsF n d, [], []⟩ := by
  rw [plainS, if_pos (by rfl)]
  simp only [Src.mk.injEq, and_true]
  exact shortL_terms h1
theorem validF_eqC {n d : Int} {b : Bool} (h : okF n d = b) (w : World) : Calls Try.prog 127 #[.agg #[.int .i64 n, .int .i64 d]] w fun e w' => e = .returned (.bool b) ∧ Bl w w' := h ▸ validF_any n d w
theorem ok_eqC {n d : Int} {b : Bool} (h : okF n d = b) (w : World) : Calls Try.prog 101 #[.agg #[.int .i64 n, .int .i64 d]] w fun e w' => e = .returned (.bool b) ∧ Bl w w' := h ▸ ok_any n d w
noncomputable def cmpFrF (s : Src) (n d m : Int) : Int × Int :=
  if okSrc s && okF n d then (if inB m 1 1000 then cmpP (plainS s) ⟨termsF n d, [], []⟩ m.toNat else (0, 2)) else (0, 1)

set_option maxRecDepth 100000 in
set_option maxHeartbeats 3200000 in
theorem impl_CompareWithFraction (h p g : Value) (s : Src) (n d m : Int) (w : World) (hs : SlS w h p g s) :
    Calls Try.prog 66 #[.agg #[h, p, g], .agg #[.int .i64 n, .int .i64 d], .int .i64 m] w fun e w' => e = .returned (.tuple #[.int .i64 (cmpFrF s n d m).1, .int .i64 (cmpFrF s n d m).2]) ∧ Bl w w' := by
  cases e1 : okSrc s with
  | false =>
    have HR := Lib.hid (show cmpFrF s n d m = (0, 1) by simp [cmpFrF, e1])
    have E1 := Lib.hid e1
    clear e1
    go_enter Try.func66, Try.ntmps66
    go_wp2_with fail
    refine (ivalid_eqL E1.out _ (hs.below (bl_alloc (bl_alloc (bl_refl _) _) _))).mono ?_
    rintro e w1 ⟨rfl, hb1⟩
    have B1 : Bl w w1 := bl_call (bl_alloc (bl_alloc (bl_refl _) _) _) hb1
    have xF_1 : Bx w1 (w.heap.size) #[h, p, g] := ((Bx.new (b := w.heap.size) _ #[h, p, g] 26 (by first | rfl | simp)).alloc _).below hb1
    have xG_1 : Bx w1 (w.heap.size + 1) #[.int .i64 n, .int .i64 d] := (Bx.new (b := w.heap.size + 1) _ #[.int .i64 n, .int .i64 d] 55 (by first | rfl | simp)).below hb1
    obtain ⟨cF_1, fF_1, zF_1⟩ := xF_1.out
    obtain ⟨cG_1, fG_1, zG_1⟩ := xG_1.out
    go_wp2
    go_ret2
    exact ⟨ret_ii2 HR.out, B1⟩
  | true =>
    cases e2 : okF n d with
    | false =>
      have HR := Lib.hid (show cmpFrF s n d m = (0, 1) by simp [cmpFrF, e1, e2])
      have E1 := Lib.hid e1
      clear e1
      have E2 := Lib.hid e2
      clear e2
      go_enter Try.func66, Try.ntmps66
      go_wp2_with fail
      refine (ivalid_eqL E1.out _ (hs.below (bl_alloc (bl_alloc (bl_refl _) _) _))).mono ?_
      rintro e w1 ⟨rfl, hb1⟩
      have B1 : Bl w w1 := bl_call (bl_alloc (bl_alloc (bl_refl _) _) _) hb1
      have xF_1 : Bx w1 (w.heap.size) #[h, p, g] := ((Bx.new (b := w.heap.size) _ #[h, p, g] 26 (by first | rfl | simp)).alloc _).below hb1
      have xG_1 : Bx w1 (w.heap.size + 1) #[.int .i64 n, .int .i64 d] := (Bx.new (b := w.heap.size + 1) _ #[.int .i64 n, .int .i64 d] 55 (by first | rfl | simp)).below hb1
      obtain ⟨cF_1, fF_1, zF_1⟩ := xF_1.out
      obtain ⟨cG_1, fG_1, zG_1⟩ := xG_1.out
      go_wp2_with fail
      refine (validF_eqC E2.out _).mono ?_
      rintro e w2 ⟨rfl, hb2⟩
      have B2 : Bl w w2 := bl_call B1 hb2
      have xF_2 : Bx w2 (w.heap.size) #[h, p, g] := xF_1.below hb2
      have xG_2 : Bx w2 (w.heap.size + 1) #[.int .i64 n, .int .i64 d] := xG_1.below hb2
      clear cF_1 fF_1 zF_1 cG_1 fG_1 zG_1
      obtain ⟨cF_2, fF_2, zF_2⟩ := xF_2.out
      obtain ⟨cG_2, fG_2, zG_2⟩ := xG_2.out
      go_wp2
      go_ret2
      exact ⟨ret_ii2 HR.out, B2⟩
    | true =>
      cases e3 : inB m 1 1000 with
      | false =>
        have HR := Lib.hid (show cmpFrF s n d m = (0, 2) by simp [cmpFrF, e1, e2, e3])
        obtain ⟨⟨k1, k2⟩, ⟨k3, k4⟩, _⟩ := okF_iff.1 e2
        have E1 := Lib.hid e1
        clear e1
        have E2 := Lib.hid e2
        clear e2
        have E3 := Lib.hid e3
        clear e3
        go_enter Try.func66, Try.ntmps66
        go_wp2_with fail
        refine (ivalid_eqL E1.out _ (hs.below (bl_alloc (bl_alloc (bl_refl _) _) _))).mono ?_
        rintro e w1 ⟨rfl, hb1⟩
        have B1 : Bl w w1 := bl_call (bl_alloc (bl_alloc (bl_refl _) _) _) hb1
        have xF_1 : Bx w1 (w.heap.size) #[h, p, g] := ((Bx.new (b := w.heap.size) _ #[h, p, g] 26 (by first | rfl | simp)).alloc _).below hb1
        have xG_1 : Bx w1 (w.heap.size + 1) #[.int .i64 n, .int .i64 d] := (Bx.new (b := w.heap.size + 1) _ #[.int .i64 n, .int .i64 d] 55 (by first | rfl | simp)).below hb1
        obtain ⟨cF_1, fF_1, zF_1⟩ := xF_1.out
        obtain ⟨cG_1, fG_1, zG_1⟩ := xG_1.out
        go_wp2_with fail
        refine (validF_eqC E2.out _).mono ?_
        rintro e w2 ⟨rfl, hb2⟩
        have B2 : Bl w w2 := bl_call B1 hb2
        have xF_2 : Bx w2 (w.heap.size) #[h, p, g] := xF_1.below hb2
        have xG_2 : Bx w2 (w.heap.size + 1) #[.int .i64 n, .int .i64 d] := xG_1.below hb2
        clear cF_1 fF_1 zF_1 cG_1 fG_1 zG_1
        obtain ⟨cF_2, fF_2, zF_2⟩ := xF_2.out
        obtain ⟨cG_2, fG_2, zG_2⟩ := xG_2.out
        go_wp2_with fail
        refine (isMost_eq E3.out _).mono ?_
        rintro e w9 ⟨rfl, rfl⟩
        go_wp2
        go_ret2
        exact ⟨ret_ii2 HR.out, B2⟩
      | true =>
        have HR := (show cmpFrF s n d m = cmpP (plainS s) ⟨termsF n d, [], []⟩ m.toNat by simp [cmpFrF, e1, e2, e3])
        have hm := inB_iff.1 e3
        obtain ⟨M, rfl⟩ := Int.eq_ofNat_of_zero_le (show 0 ≤ m by omega)
        rw [Int.toNat_natCast] at HR
        have HR := Lib.hid HR
        have K1 := okSrc_H e1
        obtain ⟨⟨k1, k2⟩, ⟨k3, k4⟩, _⟩ := okF_iff.1 e2
        have hok2 := Lib.hid (okPer_fin (xs := termsF n d) (by have := termsF_60 (n := n) (d := d) (by omega) k2; omega))
        have E1 := Lib.hid e1
        clear e1
        have E2 := Lib.hid e2
        clear e2
        have E3 := Lib.hid e3
        clear e3
        go_enter Try.func66, Try.ntmps66
        go_wp2_with fail
        refine (ivalid_eqL E1.out _ (hs.below (bl_alloc (bl_alloc (bl_refl _) _) _))).mono ?_
        rintro e w1 ⟨rfl, hb1⟩
        have B1 : Bl w w1 := bl_call (bl_alloc (bl_alloc (bl_refl _) _) _) hb1
        have xF_1 : Bx w1 (w.heap.size) #[h, p, g] := ((Bx.new (b := w.heap.size) _ #[h, p, g] 26 (by first | rfl | simp)).alloc _).below hb1
        have xG_1 : Bx w1 (w.heap.size + 1) #[.int .i64 n, .int .i64 d] := (Bx.new (b := w.heap.size + 1) _ #[.int .i64 n, .int .i64 d] 55 (by first | rfl | simp)).below hb1
        obtain ⟨cF_1, fF_1, zF_1⟩ := xF_1.out
        obtain ⟨cG_1, fG_1, zG_1⟩ := xG_1.out
        go_wp2_with fail
        refine (validF_eqC E2.out _).mono ?_
        rintro e w2 ⟨rfl, hb2⟩
        have B2 : Bl w w2 := bl_call B1 hb2
        have xF_2 : Bx w2 (w.heap.size) #[h, p, g] := xF_1.below hb2
        have xG_2 : Bx w2 (w.heap.size + 1) #[.int .i64 n, .int .i64 d] := xG_1.below hb2
        clear cF_1 fF_1 zF_1 cG_1 fG_1 zG_1
        obtain ⟨cF_2, fF_2, zF_2⟩ := xF_2.out
        obtain ⟨cG_2, fG_2, zG_2⟩ := xG_2.out
        go_wp2_with fail
        refine (isMost_eq E3.out _).mono ?_
        rintro e w9 ⟨rfl, rfl⟩
        go_wp2_with fail
        go_region_held3 (fun w' => w'.cell? ⟨w.heap.size, 0, none⟩ = some (h) ∧ w'.cell? ⟨w.heap.size, 1, none⟩ = some (p) ∧ w'.cell? ⟨w.heap.size, 2, none⟩ = some (g) ∧ w'.cell? ⟨w.heap.size + 1, 0, none⟩ = some (.int .i64 n) ∧ w'.cell? ⟨w.heap.size + 1, 1, none⟩ = some (.int .i64 d)) (first | (simp [*]; done) | (go_simp; done) | go_keep)
          (first | (go_at_call_of 81 (h); go_must (refine (shortOf_any h p g s _ (hs.below (bl_drew B2)) K1).mono ?_; rintro e w3 ⟨ax1, nx1, cx1, ax2, nx2, cx2, ax3, nx3, cx3, ax4, nx4, cx4, fx, rfl, HX, hb3⟩; have B3 : Bl w w3 := bl_call (bl_drew B2) hb3; have xF_3 : Bx w3 (w.heap.size) #[h, p, g] := xF_2.drew.below hb3; have xG_3 : Bx w3 (w.heap.size + 1) #[.int .i64 n, .int .i64 d] := xG_2.drew.below hb3; clear cF_2 fF_2 zF_2 cG_2 fG_2 zG_2; obtain ⟨cF_3, fF_3, zF_3⟩ := xF_3.out; obtain ⟨cG_3, fG_3, zG_3⟩ := xG_3.out)) | (go_at_call 136; go_must (refine (expand_any n d _ (by omega) (by omega) (by omega)).mono ?_; rintro e w4 ⟨ya, yc, rfl, HY, hb4⟩; have B4 : Bl w w4 := bl_call B3 hb4; have xF_4 : Bx w4 (w.heap.size) #[h, p, g] := xF_3.below hb4; have xG_4 : Bx w4 (w.heap.size + 1) #[.int .i64 n, .int .i64 d] := xG_3.below hb4; clear cF_3 fF_3 zF_3 cG_3 fG_3 zG_3; obtain ⟨cF_4, fF_4, zF_4⟩ := xF_4.out; obtain ⟨cG_4, fG_4, zG_4⟩ := xG_4.out)) | (go_at_call 80; go_must (refine (compareBy_any _ _ _ _ _ _ _ _ _ _ _ _ _ (plainS s) none 0 0 none 0 0 none 0 0 _ _ _ true ⟨termsF n d, [], []⟩ M _ (HX.below hb4) ⟨hok2.out, .inr ⟨rfl, rfl, HY.sl⟩⟩ (by omega)).mono ?_; rintro e w5 ⟨rfl, hb5⟩; have B5 : Bl w w5 := bl_call B4 hb5; have xF_5 : Bx w5 (w.heap.size) #[h, p, g] := xF_4.below hb5; have xG_5 : Bx w5 (w.heap.size + 1) #[.int .i64 n, .int .i64 d] := xG_4.below hb5; clear cF_4 fF_4 zF_4 cG_4 fG_4 zG_4; obtain ⟨cF_5, fF_5, zF_5⟩ := xF_5.out; obtain ⟨cG_5, fG_5, zG_5⟩ := xG_5.out)))
        go_wp2
        go_ret2
        exact ⟨ret_ii2 HR.out, B5⟩

set_option maxRecDepth 100000 in
set_option maxHeartbeats 3200000 in
theorem spec_CompareWithFraction (h p g : Value) (s : Src) (n d m : Int) (w : World) (hs : SlS w h p g s) :
    Calls Try.prog 67 #[.agg #[h, p, g], .agg #[.int .i64 n, .int .i64 d], .int .i64 m] w fun e w' => e = .returned (.tuple #[.int .i64 (cmpFrF s n d m).1, .int .i64 (cmpFrF s n d m).2]) ∧ Bl w w' := by
  cases e2 : okF n d with
  | false =>
    have HR := Lib.hid (show cmpFrF s n d m = (0, 1) by simp [cmpFrF, e2])
    have E2 := Lib.hid e2
    clear e2
    go_enter Try.func67, Try.ntmps67
    go_wp2_with fail
    refine (ok_eqC E2.out _).mono ?_
    rintro e w1 ⟨rfl, hb1⟩
    have B1 : Bl w w1 := bl_call (bl_alloc (bl_alloc (bl_refl _) _) _) hb1
    have xF_1 : Bx w1 (w.heap.size) #[h, p, g] := ((Bx.new (b := w.heap.size) _ #[h, p, g] 26 (by first | rfl | simp)).alloc _).below hb1
    have xG_1 : Bx w1 (w.heap.size + 1) #[.int .i64 n, .int .i64 d] := (Bx.new (b := w.heap.size + 1) _ #[.int .i64 n, .int .i64 d] 55 (by first | rfl | simp)).below hb1
    obtain ⟨cF_1, fF_1, zF_1⟩ := xF_1.out
    obtain ⟨cG_1, fG_1, zG_1⟩ := xG_1.out
    go_wp2
    go_ret2
    exact ⟨ret_ii2 HR.out, B1⟩
  | true =>
    cases e1 : okSrc s with
    | false =>
      have HR := Lib.hid (show cmpFrF s n d m = (0, 1) by simp [cmpFrF, e1])
      obtain ⟨⟨k1, k2⟩, ⟨k3, k4⟩, _⟩ := okF_iff.1 e2
      have E1 := Lib.hid e1
      clear e1
      have E2 := Lib.hid e2
      clear e2
      go_enter Try.func67, Try.ntmps67
      go_wp2_with fail
      refine (ok_eqC E2.out _).mono ?_
      rintro e w1 ⟨rfl, hb1⟩
      have B1 : Bl w w1 := bl_call (bl_alloc (bl_alloc (bl_refl _) _) _) hb1
      have xF_1 : Bx w1 (w.heap.size) #[h, p, g] := ((Bx.new (b := w.heap.size) _ #[h, p, g] 26 (by first | rfl | simp)).alloc _).below hb1
      have xG_1 : Bx w1 (w.heap.size + 1) #[.int .i64 n, .int .i64 d] := (Bx.new (b := w.heap.size + 1) _ #[.int .i64 n, .int .i64 d] 55 (by first | rfl | simp)).below hb1
      obtain ⟨cF_1, fF_1, zF_1⟩ := xF_1.out
      obtain ⟨cG_1, fG_1, zG_1⟩ := xG_1.out
      go_wp2_with fail
      refine (lterms_any n d _ (by omega) (by omega) (by omega)).mono ?_
      rintro e w2 ⟨ya, yc, rfl, HY, hb2⟩
      have B2 : Bl w w2 := bl_call B1 hb2
      have xF_2 : Bx w2 (w.heap.size) #[h, p, g] := xF_1.below hb2
      have xG_2 : Bx w2 (w.heap.size + 1) #[.int .i64 n, .int .i64 d] := xG_1.below hb2
      clear cF_1 fF_1 zF_1 cG_1 fG_1 zG_1
      obtain ⟨cF_2, fF_2, zF_2⟩ := xF_2.out
      obtain ⟨cG_2, fG_2, zG_2⟩ := xG_2.out
      have HY := Lib.hid HY.sl
      go_wp2_with fail
      refine (svalid_eqL E1.out _ (w.heap.size) (hs.below (bl_alloc B2 _)) (xF_2.alloc _)).mono ?_
      rintro e w3 ⟨rfl, hb3⟩
      have B3 : Bl w w3 := bl_call (bl_alloc B2 _) hb3
      have xF_3 : Bx w3 (w.heap.size) #[h, p, g] := (xF_2.alloc _).below hb3
      have xG_3 : Bx w3 (w.heap.size + 1) #[.int .i64 n, .int .i64 d] := (xG_2.alloc _).below hb3
      have xO_3 : Bx w3 (w2.heap.size) #[.slice ya (termsF n d).length yc, .slice none 0 0, .slice none 0 0] := (Bx.new (b := w2.heap.size) _ #[.slice ya (termsF n d).length yc, .slice none 0 0, .slice none 0 0] 26 (by first | rfl | simp)).below hb3
      clear cF_2 fF_2 zF_2 cG_2 fG_2 zG_2
      obtain ⟨cF_3, fF_3, zF_3⟩ := xF_3.out
      obtain ⟨cG_3, fG_3, zG_3⟩ := xG_3.out
      obtain ⟨cO_3, fO_3, zO_3⟩ := xO_3.out
      go_wp2
      go_ret2
      exact ⟨ret_ii2 HR.out, B3⟩
    | true =>
      cases e3 : inB m 1 1000 with
      | false =>
        have HR := Lib.hid (show cmpFrF s n d m = (0, 2) by simp [cmpFrF, e1, e2, e3])
        obtain ⟨⟨k1, k2⟩, ⟨k3, k4⟩, _⟩ := okF_iff.1 e2
        have E1 := Lib.hid e1
        clear e1
        have E2 := Lib.hid e2
        clear e2
        have E3 := Lib.hid e3
        clear e3
        go_enter Try.func67, Try.ntmps67
        go_wp2_with fail
        refine (ok_eqC E2.out _).mono ?_
        rintro e w1 ⟨rfl, hb1⟩
        have B1 : Bl w w1 := bl_call (bl_alloc (bl_alloc (bl_refl _) _) _) hb1
        have xF_1 : Bx w1 (w.heap.size) #[h, p, g] := ((Bx.new (b := w.heap.size) _ #[h, p, g] 26 (by first | rfl | simp)).alloc _).below hb1
        have xG_1 : Bx w1 (w.heap.size + 1) #[.int .i64 n, .int .i64 d] := (Bx.new (b := w.heap.size + 1) _ #[.int .i64 n, .int .i64 d] 55 (by first | rfl | simp)).below hb1
        obtain ⟨cF_1, fF_1, zF_1⟩ := xF_1.out
        obtain ⟨cG_1, fG_1, zG_1⟩ := xG_1.out
        go_wp2_with fail
        refine (lterms_any n d _ (by omega) (by omega) (by omega)).mono ?_
        rintro e w2 ⟨ya, yc, rfl, HY, hb2⟩
        have B2 : Bl w w2 := bl_call B1 hb2
        have xF_2 : Bx w2 (w.heap.size) #[h, p, g] := xF_1.below hb2
        have xG_2 : Bx w2 (w.heap.size + 1) #[.int .i64 n, .int .i64 d] := xG_1.below hb2
        clear cF_1 fF_1 zF_1 cG_1 fG_1 zG_1
        obtain ⟨cF_2, fF_2, zF_2⟩ := xF_2.out
        obtain ⟨cG_2, fG_2, zG_2⟩ := xG_2.out
        have HY := Lib.hid HY.sl
        go_wp2_with fail
        refine (svalid_eqL E1.out _ (w.heap.size) (hs.below (bl_alloc B2 _)) (xF_2.alloc _)).mono ?_
        rintro e w3 ⟨rfl, hb3⟩
        have B3 : Bl w w3 := bl_call (bl_alloc B2 _) hb3
        have xF_3 : Bx w3 (w.heap.size) #[h, p, g] := (xF_2.alloc _).below hb3
        have xG_3 : Bx w3 (w.heap.size + 1) #[.int .i64 n, .int .i64 d] := (xG_2.alloc _).below hb3
        have xO_3 : Bx w3 (w2.heap.size) #[.slice ya (termsF n d).length yc, .slice none 0 0, .slice none 0 0] := (Bx.new (b := w2.heap.size) _ #[.slice ya (termsF n d).length yc, .slice none 0 0, .slice none 0 0] 26 (by first | rfl | simp)).below hb3
        clear cF_2 fF_2 zF_2 cG_2 fG_2 zG_2
        obtain ⟨cF_3, fF_3, zF_3⟩ := xF_3.out
        obtain ⟨cG_3, fG_3, zG_3⟩ := xG_3.out
        obtain ⟨cO_3, fO_3, zO_3⟩ := xO_3.out
        go_wp2_with fail
        refine (in_eq E3.out _).mono ?_
        rintro e w9 ⟨rfl, rfl⟩
        go_wp2
        go_ret2
        exact ⟨ret_ii2 HR.out, B3⟩
      | true =>
        have HR := (show cmpFrF s n d m = cmpP (plainS s) ⟨termsF n d, [], []⟩ m.toNat by simp [cmpFrF, e1, e2, e3])
        have hm := inB_iff.1 e3
        obtain ⟨M, rfl⟩ := Int.eq_ofNat_of_zero_le (show 0 ≤ m by omega)
        rw [Int.toNat_natCast] at HR
        have HR := Lib.hid HR
        have K1 := okSrc_H e1
        obtain ⟨⟨k1, k2⟩, ⟨k3, k4⟩, _⟩ := okF_iff.1 e2
        have hok2 := Lib.hid (okPer_fin (xs := termsF n d) (by have := termsF_60 (n := n) (d := d) (by omega) k2; omega))
        have E1 := Lib.hid e1
        clear e1
        have E2 := Lib.hid e2
        clear e2
        have E3 := Lib.hid e3
        clear e3
        have HPT := Lib.hid (plain_terms (n := n) (d := d) (by omega))
        have hkb := Lib.hid (termsF_R64 (n := n) (d := d) (by omega) k2 (by omega))
        go_enter Try.func67, Try.ntmps67
        go_wp2_with fail
        refine (ok_eqC E2.out _).mono ?_
        rintro e w1 ⟨rfl, hb1⟩
        have B1 : Bl w w1 := bl_call (bl_alloc (bl_alloc (bl_refl _) _) _) hb1
        have xF_1 : Bx w1 (w.heap.size) #[h, p, g] := ((Bx.new (b := w.heap.size) _ #[h, p, g] 26 (by first | rfl | simp)).alloc _).below hb1
        have xG_1 : Bx w1 (w.heap.size + 1) #[.int .i64 n, .int .i64 d] := (Bx.new (b := w.heap.size + 1) _ #[.int .i64 n, .int .i64 d] 55 (by first | rfl | simp)).below hb1
        obtain ⟨cF_1, fF_1, zF_1⟩ := xF_1.out
        obtain ⟨cG_1, fG_1, zG_1⟩ := xG_1.out
        go_wp2_with fail
        refine (lterms_any n d _ (by omega) (by omega) (by omega)).mono ?_
        rintro e w2 ⟨ya, yc, rfl, HY, hb2⟩
        have B2 : Bl w w2 := bl_call B1 hb2
        have xF_2 : Bx w2 (w.heap.size) #[h, p, g] := xF_1.below hb2
        have xG_2 : Bx w2 (w.heap.size + 1) #[.int .i64 n, .int .i64 d] := xG_1.below hb2
        clear cF_1 fF_1 zF_1 cG_1 fG_1 zG_1
        obtain ⟨cF_2, fF_2, zF_2⟩ := xF_2.out
        obtain ⟨cG_2, fG_2, zG_2⟩ := xG_2.out
        have HY := Lib.hid HY.sl
        go_wp2_with fail
        refine (svalid_eqL E1.out _ (w.heap.size) (hs.below (bl_alloc B2 _)) (xF_2.alloc _)).mono ?_
        rintro e w3 ⟨rfl, hb3⟩
        have B3 : Bl w w3 := bl_call (bl_alloc B2 _) hb3
        have xF_3 : Bx w3 (w.heap.size) #[h, p, g] := (xF_2.alloc _).below hb3
        have xG_3 : Bx w3 (w.heap.size + 1) #[.int .i64 n, .int .i64 d] := (xG_2.alloc _).below hb3
        have xO_3 : Bx w3 (w2.heap.size) #[.slice ya (termsF n d).length yc, .slice none 0 0, .slice none 0 0] := (Bx.new (b := w2.heap.size) _ #[.slice ya (termsF n d).length yc, .slice none 0 0, .slice none 0 0] 26 (by first | rfl | simp)).below hb3
        clear cF_2 fF_2 zF_2 cG_2 fG_2 zG_2
        obtain ⟨cF_3, fF_3, zF_3⟩ := xF_3.out
        obtain ⟨cG_3, fG_3, zG_3⟩ := xG_3.out
        obtain ⟨cO_3, fO_3, zO_3⟩ := xO_3.out
        go_wp2_with fail
        refine (in_eq E3.out _).mono ?_
        rintro e w9 ⟨rfl, rfl⟩
        go_wp2_with fail
        refine (scompare_any h p g s _ _ _ ⟨termsF n d, [], []⟩ M _ (w.heap.size) (w2.heap.size) (hs.below B3) ⟨(HY.out.alloc _).below hb3, Sl.nil _, Sl.nil _⟩ xF_3 xO_3 K1.okPer hok2.out K1.hb (fun y hy => by have := hkb.out y hy; omega) (by omega)).mono ?_
        rintro e w4 ⟨rfl, hb4⟩
        have B4 : Bl w w4 := bl_call B3 hb4
        have xF_4 : Bx w4 (w.heap.size) #[h, p, g] := xF_3.below hb4
        have xG_4 : Bx w4 (w.heap.size + 1) #[.int .i64 n, .int .i64 d] := xG_3.below hb4
        have xO_4 : Bx w4 (w2.heap.size) #[.slice ya (termsF n d).length yc, .slice none 0 0, .slice none 0 0] := xO_3.below hb4
        clear cF_3 fF_3 zF_3 cG_3 fG_3 zG_3 cO_3 fO_3 zO_3
        obtain ⟨cF_4, fF_4, zF_4⟩ := xF_4.out
        obtain ⟨cG_4, fG_4, zG_4⟩ := xG_4.out
        obtain ⟨cO_4, fO_4, zO_4⟩ := xO_4.out
        rw [HPT.out]
        go_wp2
        go_ret2
        exact ⟨ret_ii2 HR.out, B4⟩

end Go.Proofs.Ytgmofofokhlhnaa
