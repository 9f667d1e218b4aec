/- SkipTerms: the reference. Each theorem names its conditions. -/
import Derived.Test.YtndblondleclpaaGreatDoorSkipSa
import Derived.Test.YtndblondleclpaaGreatDoorSkipSb
namespace Go.Proofs.YtndblondleclpaaGreatDoor
open Go.RowKit
set_option linter.unusedVariables false
set_option linter.unusedSimpArgs false


set_option maxRecDepth 100000 in
set_option maxHeartbeats 12800000 in
theorem spec_SkipTerms (h p g : Value) (s : Src) (c : Int) (w : World) (hs : SlS w h p g s) (hl : s.H.length ≤ 1048576 ∧ s.P.length ≤ 1048576 ∧ s.G.length ≤ 1048576) :
    Calls Tryz.prog 14 #[.agg #[h, p, g], .int .i64 c] w (SkP (skipF s c) w) := by
  have HS := Lib.hid hs
  obtain ⟨ah, ch, rfl, hch⟩ := hs.1.form
  obtain ⟨ap, cp, rfl, _⟩ := hs.2.1.form
  obtain ⟨ag, cg, rfl, _⟩ := hs.2.2.form
  clear hs
  cases e1 : okSrc s with
  | false =>
    have E1 := Lib.hid e1
    have HR := Lib.hid (skip_1 (c := c) e1)
    clear e1
    go_enter Tryz.func14, Tryz.ntmps14
    go_wp2_with fail
    have Bs1 : Bl w ((w.alloc (.cells #[.slice ah s.H.length ch, .slice ap s.P.length cp, .slice ag s.G.length cg] 26)).alloc (.cells #[.slice none 0 0, .slice none 0 0, .slice none 0 0] 26)) := (bl_alloc (bl_alloc (bl_refl _) _) _)
    have xX_s1 : Bx ((w.alloc (.cells #[.slice ah s.H.length ch, .slice ap s.P.length cp, .slice ag s.G.length cg] 26)).alloc (.cells #[.slice none 0 0, .slice none 0 0, .slice none 0 0] 26)) (w.heap.size) #[.slice ah s.H.length ch, .slice ap s.P.length cp, .slice ag s.G.length cg] := ((Bx.new (b := w.heap.size) _ #[.slice ah s.H.length ch, .slice ap s.P.length cp, .slice ag s.G.length cg] 26 (by first | rfl | simp)).alloc _)
    have xR_s1 : Bx ((w.alloc (.cells #[.slice ah s.H.length ch, .slice ap s.P.length cp, .slice ag s.G.length cg] 26)).alloc (.cells #[.slice none 0 0, .slice none 0 0, .slice none 0 0] 26)) (w.heap.size + 1) #[.slice none 0 0, .slice none 0 0, .slice none 0 0] := (Bx.new (b := w.heap.size + 1) _ #[.slice none 0 0, .slice none 0 0, .slice none 0 0] 26 (by first | rfl | simp))
    have zzs1 : w.heap.size + 2 ≤ ((w.alloc (.cells #[.slice ah s.H.length ch, .slice ap s.P.length cp, .slice ag s.G.length cg] 26)).alloc (.cells #[.slice none 0 0, .slice none 0 0, .slice none 0 0] 26)).heap.size := (by simp)
    generalize ((w.alloc (.cells #[.slice ah s.H.length ch, .slice ap s.P.length cp, .slice ag s.G.length cg] 26)).alloc (.cells #[.slice none 0 0, .slice none 0 0, .slice none 0 0] 26)) = ws1 at *
    obtain ⟨cX_s1, fX_s1, zX_s1⟩ := xX_s1.out
    obtain ⟨cR_s1, fR_s1, zR_s1⟩ := xR_s1.out
    refine (svalid_eqKu E1.out _ (HS.out.below Bs1) xX_s1).mono ?_
    rintro e ws2 ⟨rfl, hbs2⟩
    have Bs2 : Bl w ws2 := bl_call Bs1 hbs2
    have xX_s2 : Bx ws2 (w.heap.size) #[.slice ah s.H.length ch, .slice ap s.P.length cp, .slice ag s.G.length cg] := xX_s1.below hbs2
    have xR_s2 : Bx ws2 (w.heap.size + 1) #[.slice none 0 0, .slice none 0 0, .slice none 0 0] := xR_s1.below hbs2
    clear cX_s1 fX_s1 zX_s1 cR_s1 fR_s1 zR_s1
    obtain ⟨cX_s2, fX_s2, zX_s2⟩ := xX_s2.out
    obtain ⟨cR_s2, fR_s2, zR_s2⟩ := xR_s2.out
    go_wp2
    refine bodyPost_ret (v := .tuple #[.agg #[.slice none 0 0, .slice none 0 0, .slice none 0 0], .int .i64 1]) (by simp only [results, Tryz.results14]; go_simp) rfl ?_
    refine skp_no HR.out ?_
    repeat first | (with_reducible assumption) | (with_reducible exact bl_refl _) | (with_reducible refine bl_alloc ?_ _) | (with_reducible refine bl_dN ?_ _) | (with_reducible refine bl_set ?_ (by first | exact Nat.le_refl _ | omega | (simp; done) | (simp; omega)) _)
  | true =>
    have E1 := Lib.hid e1
    have HOK := Lib.hid (okSrc_iff.1 e1)
    clear e1
    cases e2 : inB c 0 1000 with
    | false =>
      have E2 := Lib.hid e2
      have HR := Lib.hid (skip_2 E1.out e2)
      clear e2
      go_enter Tryz.func14, Tryz.ntmps14
      go_wp2_with fail
      have Bs1 : Bl w ((w.alloc (.cells #[.slice ah s.H.length ch, .slice ap s.P.length cp, .slice ag s.G.length cg] 26)).alloc (.cells #[.slice none 0 0, .slice none 0 0, .slice none 0 0] 26)) := (bl_alloc (bl_alloc (bl_refl _) _) _)
      have xX_s1 : Bx ((w.alloc (.cells #[.slice ah s.H.length ch, .slice ap s.P.length cp, .slice ag s.G.length cg] 26)).alloc (.cells #[.slice none 0 0, .slice none 0 0, .slice none 0 0] 26)) (w.heap.size) #[.slice ah s.H.length ch, .slice ap s.P.length cp, .slice ag s.G.length cg] := ((Bx.new (b := w.heap.size) _ #[.slice ah s.H.length ch, .slice ap s.P.length cp, .slice ag s.G.length cg] 26 (by first | rfl | simp)).alloc _)
      have xR_s1 : Bx ((w.alloc (.cells #[.slice ah s.H.length ch, .slice ap s.P.length cp, .slice ag s.G.length cg] 26)).alloc (.cells #[.slice none 0 0, .slice none 0 0, .slice none 0 0] 26)) (w.heap.size + 1) #[.slice none 0 0, .slice none 0 0, .slice none 0 0] := (Bx.new (b := w.heap.size + 1) _ #[.slice none 0 0, .slice none 0 0, .slice none 0 0] 26 (by first | rfl | simp))
      have zzs1 : w.heap.size + 2 ≤ ((w.alloc (.cells #[.slice ah s.H.length ch, .slice ap s.P.length cp, .slice ag s.G.length cg] 26)).alloc (.cells #[.slice none 0 0, .slice none 0 0, .slice none 0 0] 26)).heap.size := (by simp)
      generalize ((w.alloc (.cells #[.slice ah s.H.length ch, .slice ap s.P.length cp, .slice ag s.G.length cg] 26)).alloc (.cells #[.slice none 0 0, .slice none 0 0, .slice none 0 0] 26)) = ws1 at *
      obtain ⟨cX_s1, fX_s1, zX_s1⟩ := xX_s1.out
      obtain ⟨cR_s1, fR_s1, zR_s1⟩ := xR_s1.out
      refine (svalid_eqKu E1.out _ (HS.out.below Bs1) xX_s1).mono ?_
      rintro e ws2 ⟨rfl, hbs2⟩
      have Bs2 : Bl w ws2 := bl_call Bs1 hbs2
      have xX_s2 : Bx ws2 (w.heap.size) #[.slice ah s.H.length ch, .slice ap s.P.length cp, .slice ag s.G.length cg] := xX_s1.below hbs2
      have xR_s2 : Bx ws2 (w.heap.size + 1) #[.slice none 0 0, .slice none 0 0, .slice none 0 0] := xR_s1.below hbs2
      clear cX_s1 fX_s1 zX_s1 cR_s1 fR_s1 zR_s1
      obtain ⟨cX_s2, fX_s2, zX_s2⟩ := xX_s2.out
      obtain ⟨cR_s2, fR_s2, zR_s2⟩ := xR_s2.out
      go_wp2_with fail
      refine (sin_eqMKu E2.out _).mono ?_
      rintro e w9 ⟨rfl, rfl⟩
      go_wp2
      refine bodyPost_ret (v := .tuple #[.agg #[.slice none 0 0, .slice none 0 0, .slice none 0 0], .int .i64 2]) (by simp only [results, Tryz.results14]; go_simp) rfl ?_
      refine skp_no HR.out ?_
      repeat first | (with_reducible assumption) | (with_reducible exact bl_refl _) | (with_reducible refine bl_alloc ?_ _) | (with_reducible refine bl_dN ?_ _) | (with_reducible refine bl_set ?_ (by first | exact Nat.le_refl _ | omega | (simp; done) | (simp; omega)) _)
    | true =>
      have hc := inB_iff.1 e2
      obtain ⟨K, rfl⟩ := Int.eq_ofNat_of_zero_le hc.1
      have E2 := Lib.hid e2
      have h30 := HOK.out.h30
      have p30 := HOK.out.p30
      have GP := Lib.hid HOK.out.gp
      clear e2
      by_cases hA : K < s.H.length ∨ K = s.H.length ∧ 0 < s.P.length
      · have hKle : K ≤ s.H.length := by
          rcases hA with q | q
          · omega
          · omega
        have HR := Lib.hid (skip_0 E1.out E2.out (by rw [term_some]; exact decide_eq_true (hA.imp id (fun q => q.2))) (out_ok HOK.out hA))
        have HO := Lib.hid (show outF s K = ⟨s.H.drop K, s.P, s.G⟩ by rw [outF, if_pos hKle])
        have hK1 : (K : Int) ≤ (s.H.length : Int) := by omega
        have hK0 : (0 : Int) ≤ (K : Int) := by omega
        rcases hA with q | ⟨q, qm⟩
        · exact spec_SkA w HS.out hKle q E1.out E2.out (by rw [HR.out, HO.out])
        · exact spec_SkB w HS.out hKle (by omega) qm E1.out E2.out (by rw [HR.out, HO.out])
      · have hKge : ¬ K < s.H.length := by omega
        have hK1 : ¬ (K : Int) < (s.H.length : Int) := by omega
        by_cases hm : s.P.length = 0
        · have HR := Lib.hid (skip_3 E1.out E2.out (by rw [term_some]; exact decide_eq_false (by omega)))
          have cm : ((s.P.length : Int) == 0) = true := beq_iff_eq.2 (by omega)
          have cm2 : ¬ (0 : Int) < (s.P.length : Int) := by omega
          have cm3 : ¬ 0 < s.P.length := by omega
          clear hm hA
          by_cases hKe : K = s.H.length
          · have cK : ((K : Int) == (s.H.length : Int)) = true := beq_iff_eq.2 (by omega)
            have HKE := Lib.hid hKe
            clear hKe
            go_enter Tryz.func14, Tryz.ntmps14
            go_wp2_with fail
            have Bs1 : Bl w ((w.alloc (.cells #[.slice ah s.H.length ch, .slice ap s.P.length cp, .slice ag s.G.length cg] 26)).alloc (.cells #[.slice none 0 0, .slice none 0 0, .slice none 0 0] 26)) := (bl_alloc (bl_alloc (bl_refl _) _) _)
            have xX_s1 : Bx ((w.alloc (.cells #[.slice ah s.H.length ch, .slice ap s.P.length cp, .slice ag s.G.length cg] 26)).alloc (.cells #[.slice none 0 0, .slice none 0 0, .slice none 0 0] 26)) (w.heap.size) #[.slice ah s.H.length ch, .slice ap s.P.length cp, .slice ag s.G.length cg] := ((Bx.new (b := w.heap.size) _ #[.slice ah s.H.length ch, .slice ap s.P.length cp, .slice ag s.G.length cg] 26 (by first | rfl | simp)).alloc _)
            have xR_s1 : Bx ((w.alloc (.cells #[.slice ah s.H.length ch, .slice ap s.P.length cp, .slice ag s.G.length cg] 26)).alloc (.cells #[.slice none 0 0, .slice none 0 0, .slice none 0 0] 26)) (w.heap.size + 1) #[.slice none 0 0, .slice none 0 0, .slice none 0 0] := (Bx.new (b := w.heap.size + 1) _ #[.slice none 0 0, .slice none 0 0, .slice none 0 0] 26 (by first | rfl | simp))
            have zzs1 : w.heap.size + 2 ≤ ((w.alloc (.cells #[.slice ah s.H.length ch, .slice ap s.P.length cp, .slice ag s.G.length cg] 26)).alloc (.cells #[.slice none 0 0, .slice none 0 0, .slice none 0 0] 26)).heap.size := (by simp)
            generalize ((w.alloc (.cells #[.slice ah s.H.length ch, .slice ap s.P.length cp, .slice ag s.G.length cg] 26)).alloc (.cells #[.slice none 0 0, .slice none 0 0, .slice none 0 0] 26)) = ws1 at *
            obtain ⟨cX_s1, fX_s1, zX_s1⟩ := xX_s1.out
            obtain ⟨cR_s1, fR_s1, zR_s1⟩ := xR_s1.out
            refine (svalid_eqKu E1.out _ (HS.out.below Bs1) xX_s1).mono ?_
            rintro e ws2 ⟨rfl, hbs2⟩
            have Bs2 : Bl w ws2 := bl_call Bs1 hbs2
            have xX_s2 : Bx ws2 (w.heap.size) #[.slice ah s.H.length ch, .slice ap s.P.length cp, .slice ag s.G.length cg] := xX_s1.below hbs2
            have xR_s2 : Bx ws2 (w.heap.size + 1) #[.slice none 0 0, .slice none 0 0, .slice none 0 0] := xR_s1.below hbs2
            clear cX_s1 fX_s1 zX_s1 cR_s1 fR_s1 zR_s1
            obtain ⟨cX_s2, fX_s2, zX_s2⟩ := xX_s2.out
            obtain ⟨cR_s2, fR_s2, zR_s2⟩ := xR_s2.out
            go_wp2_with fail
            refine (sin_eqMKu E2.out _).mono ?_
            rintro e w9 ⟨rfl, rfl⟩
            go_wp2
            refine bodyPost_ret (v := .tuple #[.agg #[.slice none 0 0, .slice none 0 0, .slice none 0 0], .int .i64 3]) (by simp only [results, Tryz.results14]; go_simp) rfl ?_
            refine skp_no HR.out ?_
            repeat first | (with_reducible assumption) | (with_reducible exact bl_refl _) | (with_reducible refine bl_alloc ?_ _) | (with_reducible refine bl_dN ?_ _) | (with_reducible refine bl_set ?_ (by first | exact Nat.le_refl _ | omega | (simp; done) | (simp; omega)) _)
          · have cK : ((K : Int) == (s.H.length : Int)) = false := beq_eq_false_iff_ne.2 (by omega)
            clear hKe
            go_enter Tryz.func14, Tryz.ntmps14
            go_wp2_with fail
            have Bs1 : Bl w ((w.alloc (.cells #[.slice ah s.H.length ch, .slice ap s.P.length cp, .slice ag s.G.length cg] 26)).alloc (.cells #[.slice none 0 0, .slice none 0 0, .slice none 0 0] 26)) := (bl_alloc (bl_alloc (bl_refl _) _) _)
            have xX_s1 : Bx ((w.alloc (.cells #[.slice ah s.H.length ch, .slice ap s.P.length cp, .slice ag s.G.length cg] 26)).alloc (.cells #[.slice none 0 0, .slice none 0 0, .slice none 0 0] 26)) (w.heap.size) #[.slice ah s.H.length ch, .slice ap s.P.length cp, .slice ag s.G.length cg] := ((Bx.new (b := w.heap.size) _ #[.slice ah s.H.length ch, .slice ap s.P.length cp, .slice ag s.G.length cg] 26 (by first | rfl | simp)).alloc _)
            have xR_s1 : Bx ((w.alloc (.cells #[.slice ah s.H.length ch, .slice ap s.P.length cp, .slice ag s.G.length cg] 26)).alloc (.cells #[.slice none 0 0, .slice none 0 0, .slice none 0 0] 26)) (w.heap.size + 1) #[.slice none 0 0, .slice none 0 0, .slice none 0 0] := (Bx.new (b := w.heap.size + 1) _ #[.slice none 0 0, .slice none 0 0, .slice none 0 0] 26 (by first | rfl | simp))
            have zzs1 : w.heap.size + 2 ≤ ((w.alloc (.cells #[.slice ah s.H.length ch, .slice ap s.P.length cp, .slice ag s.G.length cg] 26)).alloc (.cells #[.slice none 0 0, .slice none 0 0, .slice none 0 0] 26)).heap.size := (by simp)
            generalize ((w.alloc (.cells #[.slice ah s.H.length ch, .slice ap s.P.length cp, .slice ag s.G.length cg] 26)).alloc (.cells #[.slice none 0 0, .slice none 0 0, .slice none 0 0] 26)) = ws1 at *
            obtain ⟨cX_s1, fX_s1, zX_s1⟩ := xX_s1.out
            obtain ⟨cR_s1, fR_s1, zR_s1⟩ := xR_s1.out
            refine (svalid_eqKu E1.out _ (HS.out.below Bs1) xX_s1).mono ?_
            rintro e ws2 ⟨rfl, hbs2⟩
            have Bs2 : Bl w ws2 := bl_call Bs1 hbs2
            have xX_s2 : Bx ws2 (w.heap.size) #[.slice ah s.H.length ch, .slice ap s.P.length cp, .slice ag s.G.length cg] := xX_s1.below hbs2
            have xR_s2 : Bx ws2 (w.heap.size + 1) #[.slice none 0 0, .slice none 0 0, .slice none 0 0] := xR_s1.below hbs2
            clear cX_s1 fX_s1 zX_s1 cR_s1 fR_s1 zR_s1
            obtain ⟨cX_s2, fX_s2, zX_s2⟩ := xX_s2.out
            obtain ⟨cR_s2, fR_s2, zR_s2⟩ := xR_s2.out
            go_wp2_with fail
            refine (sin_eqMKu E2.out _).mono ?_
            rintro e w9 ⟨rfl, rfl⟩
            go_wp2
            refine bodyPost_ret (v := .tuple #[.agg #[.slice none 0 0, .slice none 0 0, .slice none 0 0], .int .i64 3]) (by simp only [results, Tryz.results14]; go_simp) rfl ?_
            refine skp_no HR.out ?_
            repeat first | (with_reducible assumption) | (with_reducible exact bl_refl _) | (with_reducible refine bl_alloc ?_ _) | (with_reducible refine bl_dN ?_ _) | (with_reducible refine bl_set ?_ (by first | exact Nat.le_refl _ | omega | (simp; done) | (simp; omega)) _)

        ·
          have cm : ((s.P.length : Int) == 0) = false := beq_eq_false_iff_ne.2 (by omega)
          have cm2 : (0 : Int) < (s.P.length : Int) := by omega
          have hKn : s.H.length < K := by
            refine Nat.lt_of_le_of_ne (by omega) (fun e => hA (.inr ⟨e.symm, by omega⟩))
          have cK : ((K : Int) == (s.H.length : Int)) = false := beq_eq_false_iff_ne.2 (by omega)
          have HM := Lib.hid hm
          clear hm hA
          go_enter Tryz.func14, Tryz.ntmps14
          go_wp2_with fail
          have Bs1 : Bl w ((w.alloc (.cells #[.slice ah s.H.length ch, .slice ap s.P.length cp, .slice ag s.G.length cg] 26)).alloc (.cells #[.slice none 0 0, .slice none 0 0, .slice none 0 0] 26)) := (bl_alloc (bl_alloc (bl_refl _) _) _)
          have xX_s1 : Bx ((w.alloc (.cells #[.slice ah s.H.length ch, .slice ap s.P.length cp, .slice ag s.G.length cg] 26)).alloc (.cells #[.slice none 0 0, .slice none 0 0, .slice none 0 0] 26)) (w.heap.size) #[.slice ah s.H.length ch, .slice ap s.P.length cp, .slice ag s.G.length cg] := ((Bx.new (b := w.heap.size) _ #[.slice ah s.H.length ch, .slice ap s.P.length cp, .slice ag s.G.length cg] 26 (by first | rfl | simp)).alloc _)
          have xR_s1 : Bx ((w.alloc (.cells #[.slice ah s.H.length ch, .slice ap s.P.length cp, .slice ag s.G.length cg] 26)).alloc (.cells #[.slice none 0 0, .slice none 0 0, .slice none 0 0] 26)) (w.heap.size + 1) #[.slice none 0 0, .slice none 0 0, .slice none 0 0] := (Bx.new (b := w.heap.size + 1) _ #[.slice none 0 0, .slice none 0 0, .slice none 0 0] 26 (by first | rfl | simp))
          have zzs1 : w.heap.size + 2 ≤ ((w.alloc (.cells #[.slice ah s.H.length ch, .slice ap s.P.length cp, .slice ag s.G.length cg] 26)).alloc (.cells #[.slice none 0 0, .slice none 0 0, .slice none 0 0] 26)).heap.size := (by simp)
          generalize ((w.alloc (.cells #[.slice ah s.H.length ch, .slice ap s.P.length cp, .slice ag s.G.length cg] 26)).alloc (.cells #[.slice none 0 0, .slice none 0 0, .slice none 0 0] 26)) = ws1 at *
          obtain ⟨cX_s1, fX_s1, zX_s1⟩ := xX_s1.out
          obtain ⟨cR_s1, fR_s1, zR_s1⟩ := xR_s1.out
          refine (svalid_eqKu E1.out _ (HS.out.below Bs1) xX_s1).mono ?_
          rintro e ws2 ⟨rfl, hbs2⟩
          have Bs2 : Bl w ws2 := bl_call Bs1 hbs2
          have xX_s2 : Bx ws2 (w.heap.size) #[.slice ah s.H.length ch, .slice ap s.P.length cp, .slice ag s.G.length cg] := xX_s1.below hbs2
          have xR_s2 : Bx ws2 (w.heap.size + 1) #[.slice none 0 0, .slice none 0 0, .slice none 0 0] := xR_s1.below hbs2
          clear cX_s1 fX_s1 zX_s1 cR_s1 fR_s1 zR_s1
          obtain ⟨cX_s2, fX_s2, zX_s2⟩ := xX_s2.out
          obtain ⟨cR_s2, fR_s2, zR_s2⟩ := xR_s2.out
          go_wp2_with fail
          refine (sin_eqMKu E2.out _).mono ?_
          rintro e w9 ⟨rfl, rfl⟩
          have hWs := Bs2.size
          have xX := (xX_s2.alloc (.cells #[] 2)).alloc (.cells #[.slice (some ⟨ws2.heap.size, 0, none⟩) 0 0, .slice none 0 0, .slice none 0 0] 26)
          have xR := (xR_s2.alloc (.cells #[] 2)).alloc (.cells #[.slice (some ⟨ws2.heap.size, 0, none⟩) 0 0, .slice none 0 0, .slice none 0 0] 26)
          have hXl := xX_s2.out.2.2
          have hRl := xR_s2.out.2.2
          have B9 : Bl w ((ws2.alloc (.cells #[] 2)).alloc (.cells #[.slice (some ⟨ws2.heap.size, 0, none⟩) 0 0, .slice none 0 0, .slice none 0 0] 26)) := bl_alloc (bl_alloc Bs2 _) _
          go_wp2_with fail
          clear cX_s2 fX_s2 zX_s2 cR_s2 fR_s2 zR_s2
          go_loopw [9, 10, 11] (fun s9 _ _ wr => ∃ (i : Nat) (vp vg : Value), s9 = .int .i64 i ∧ i ≤ s.P.length ∧ Bx wr (ws2.heap.size + 1) #[.slice (some ⟨ws2.heap.size, 0, none⟩) 0 0, vp, vg] ∧ Bx wr (w.heap.size) #[.slice ah s.H.length ch, .slice ap s.P.length cp, .slice ag s.G.length cg] ∧ Bx wr (w.heap.size + 1) #[.slice none 0 0, .slice none 0 0, .slice none 0 0] ∧ Own wr w.heap.size (.slice (some ⟨ws2.heap.size, 0, none⟩) 0 0) [] ∧ Own wr w.heap.size vp (preF (fun i => (termP s (K + i)).1) i) ∧ Own wr w.heap.size vg (preF (grwF s K) i) ∧ Hid (Apart (.slice (some ⟨ws2.heap.size, 0, none⟩) 0 0) vp ∧ Apart (.slice (some ⟨ws2.heap.size, 0, none⟩) 0 0) vg ∧ Apart vp vg) ∧ Hid (∀ j, vp.ownBlock = some j ∨ vg.ownBlock = some j → j ≠ ws2.heap.size + 1 ∧ j ≠ w.heap.size ∧ j ≠ w.heap.size + 1) ∧ Bl w wr) (fun s9 _ _ _ => s.P.length - (intOf s9).toNat)
          case atStart => exact ⟨0, _, _, rfl, by omega, Bx.new (b := ws2.heap.size + 1) (ws2.alloc (.cells #[] 2)) #[.slice (some ⟨ws2.heap.size, 0, none⟩) 0 0, .slice none 0 0, .slice none 0 0] 26 (by first | rfl | simp), xX, xR, (own_madeMKu ws2 (B := w.heap.size) (k := ws2.heap.size) rfl hWs).alloc _, Own.nil _ _, Own.nil _ _, Lib.hid ⟨fun k e q => by simp [Value.ownBlock] at q, fun k e q => by simp [Value.ownBlock] at q, fun k e q => by simp [Value.ownBlock] at q⟩, Lib.hid (fun j e => by simp [Value.ownBlock] at e), B9⟩
          case round =>
            obtain ⟨i, vp, vg, rfl, hi, xD, yX, yR, hv, hp, hg, HAP, HNE, Br⟩ := hrel
            have HVO := Lib.hid hv
            have HPO := Lib.hid hp
            have HGO := Lib.hid hg
            obtain ⟨pa, pc, rfl, _⟩ := hp.form
            obtain ⟨ga, gc, rfl, _⟩ := hg.form
            clear hv hp hg
            have hBs := Br.size
            obtain ⟨c1, f1, z1⟩ := xD.out
            obtain ⟨d1, g1, u1⟩ := yX.out
            obtain ⟨k1, l1, m1⟩ := yR.out
            rw [preF_len, preF_len] at *
            by_cases hii : i < s.P.length
            · have hiI : (i : Int) < (s.P.length : Int) := by omega
              obtain ⟨t, bt, hT⟩ : ∃ t b, termP s (K + i) = (t, b) := ⟨_, _, rfl⟩
              have HT := Lib.hid hT
              have hrt : R64 t := by have := term_bdK HOK.out (k := K + i) (by omega); rw [hT] at this; exact this
              clear hT
              go_wp2_with fail
              have HH := sterm_eqK HT.out _ (HS.out.below Br) yX HOK.out.okPer (by omega)
              refine HH.mono ?_
              clear HH
              rintro e w2 ⟨rfl, hb2⟩
              have xD2 := xD.below hb2
              have yX2 := yX.below hb2
              have yR2 := yR.below hb2
              have HVO2 := Lib.hid (HVO.out.below hb2)
              have HPO2 := Lib.hid (HPO.out.below hb2)
              have HGO2 := Lib.hid (HGO.out.below hb2)
              have B2 : Bl w w2 := bl_call Br hb2
              have h2s := B2.size
              clear c1 f1 z1 d1 g1 u1 k1 l1 m1
              obtain ⟨c2, f2, z2⟩ := xD2.out
              go_wp2_with (at_builtin; refine wpList_append_one rfl _ _ rfl w.heap.size _ (preF (fun i => (termP s (K + i)).1) i) (by rfl) HPO2.out t hrt (by first | rfl | simp [Act.eval]) (by rw [preF_len]; omega) h2s ?_; intro v' wn ho hgr hloc; obtain ⟨a1, n1, rfl, _⟩ := ho.form; have xDn := xD2.grownApartF hgr (fun q => (HNE.out _ (.inl q)).1 rfl); have yXn := yX2.grownApartF hgr (fun q => (HNE.out _ (.inl q)).2.1 rfl); have yRn := yR2.grownApartF hgr (fun q => (HNE.out _ (.inl q)).2.2 rfl); have HVn := Lib.hid (own_apart HVO2.out hgr (apart_symm HAP.out.1)); have HGn := Lib.hid (own_apart HGO2.out hgr HAP.out.2.2); have Bn := bl_grown B2 hgr (fun k hk => (HPO2.out.lt k hk).1); have hns := hgr.size; clear c2 f2; obtain ⟨cN, fN, zN⟩ := xDn.out)
              have hlen : (preF (fun i => (termP s (K + i)).1) i ++ [t]).length = i + 1 := by simp [preF_len]
              have hpr : preF (fun i => (termP s (K + i)).1) i ++ [t] = preF (fun i => (termP s (K + i)).1) (i + 1) := by rw [preF_succ, HT.out]
              rw [hlen] at ho hloc
              rw [hpr] at ho
              have HPn := Lib.hid ho
              have hAP1 := Lib.hid (show Apart (.slice (some ⟨ws2.heap.size, 0, none⟩) 0 0) (.slice a1 (i + 1) n1) ∧ Apart (.slice (some ⟨ws2.heap.size, 0, none⟩) 0 0) (.slice ga i gc) ∧ Apart (.slice a1 (i + 1) n1) (.slice ga i gc) from ⟨apart_new HVO2.out HAP.out.1 hloc (by omega), HAP.out.2.1, apart_symm (apart_new HGO2.out (apart_symm HAP.out.2.2) hloc (by omega))⟩)
              have hD2 := xD2.out.2.2
              have hX2 := yX2.out.2.2
              have hR2 := yR2.out.2.2
              have hNE1 := Lib.hid (show ∀ j, (Value.slice a1 (i + 1) n1).ownBlock = some j ∨ (Value.slice ga i gc).ownBlock = some j → j ≠ ws2.heap.size + 1 ∧ j ≠ w.heap.size ∧ j ≠ w.heap.size + 1 from fun j q => by
                rcases q with q | q
                · rcases hloc with l | l
                  · exact HNE.out j (.inl (l ▸ q))
                  · rw [l] at q; injection q with q; omega
                · exact HNE.out j (.inr q))
              have hXD : w.heap.size ≠ ws2.heap.size + 1 := by omega
              have hRD : w.heap.size + 1 ≠ ws2.heap.size + 1 := by omega
              have hVD : (.slice (some ⟨ws2.heap.size, 0, none⟩) 0 0 : Value).ownBlock ≠ some (ws2.heap.size + 1) := by simp [Value.ownBlock]
              clear ho hlen hpr hloc
              have uS := upd_set (upd_refl wn (ws2.heap.size + 1)) 1 (.slice a1 (i + 1) n1)
              have xS := Bx.congMKu (xDn.set 1 (.slice a1 (i + 1) n1)) (show _ = #[.slice (some ⟨ws2.heap.size, 0, none⟩) 0 0, .slice a1 (i + 1) n1, .slice ga i gc] by simp)
              have yS := yXn.upd uS hXD
              have rS := yRn.upd uS hRD
              have HVS := Lib.hid (HVn.out.upd uS hVD)
              have HPS := Lib.hid (HPn.out.upd uS (fun e => (hNE1.out _ (.inl e)).1 rfl))
              have HGS := Lib.hid (HGn.out.upd uS (fun e => (hNE1.out _ (.inr e)).1 rfl))
              have BS := bl_upd Bn uS (by omega)
              have hsS := BS.size
              obtain ⟨D0, hD0⟩ : ∃ D0 : Nat, D0 = K - s.H.length := ⟨_, rfl⟩
              obtain ⟨j, hj⟩ : ∃ j : Nat, j = (D0 + i) % s.P.length := ⟨_, rfl⟩
              have hjm : j < s.P.length := by rw [hj]; exact Nat.mod_lt _ (by omega)
              have hjg : j < s.G.length := by rw [GP.out]; exact hjm
              obtain ⟨tb, tof, rfl, y, hy, hcy, hry⟩ := HS.out.2.2.cellAtU BS (k := j) hjg
              have HGY := Lib.hid (show grwF s K i = y by rw [grwF, ← hD0, ← hj, List.getD_eq_getElem?_getD, hy]; rfl)
              have hd1 : (K : Int) - (s.H.length : Int) = (D0 : Int) := by omega
              have hd2 : ((D0 : Int) + (i : Int)).tmod (s.P.length : Int) = (j : Int) := by rw [Int.tmod_eq_emod_of_nonneg (by omega), hj, Int.natCast_emod, Int.natCast_add]
              have hd3 : ((D0 : Int) + (i : Int)) % (s.P.length : Int) = (j : Int) := by rw [hj, Int.natCast_emod, Int.natCast_add]
              have hj1 : (j : Int) < (s.G.length : Int) := by omega
              have hD1 : (D0 : Int) ≤ 1000 := by omega
              have hPne : ¬ s.P = [] := fun e => by rw [e] at hii; simp at hii
              have hw1 : IntKind.i64.wrap (D0 : Int) = (D0 : Int) := by rw [IntKind.wrap_i64]; omega
              have hw2 : IntKind.i64.wrap ((D0 : Int) + (i : Int)) = (D0 : Int) + (i : Int) := by rw [IntKind.wrap_i64]; omega
              clear hy hj hD0
              go_wp2_with fail
              rw [preF_len]
              clear cN fN zN
              generalize wn.setCell ⟨ws2.heap.size + 1, 1, none⟩ (.slice a1 (i + 1) n1) = w3 at *
              obtain ⟨c3, f3, z3⟩ := xS.out
              obtain ⟨d3, g3, u3⟩ := yS.out
              go_region_law ((first | (refine step_append_slL (by rfl) _ _ (by rfl) w.heap.size _ (preF (grwF s K) i) (by rfl) (HGS.out.drew.alloc _) _ [y] (by rfl) (sl_one (Bx.new (b := w3.heap.size) w3.drew #[.int .i64 y] 2 (by rfl)) hry) (by simp) (by rw [preF_len]; simp; omega) (by simp; omega) ?_; intro v' wz ho2 hg2 hloc2; obtain ⟨a2, n2, rfl, _⟩ := ho2.form; have xz := (xS.drew.alloc (.cells #[.int .i64 y] 2)).grownApartF hg2 (fun q => (hNE1.out _ (.inr q)).1 rfl); have yz := (yS.drew.alloc (.cells #[.int .i64 y] 2)).grownApartF hg2 (fun q => (hNE1.out _ (.inr q)).2.1 rfl); have rz := (rS.drew.alloc (.cells #[.int .i64 y] 2)).grownApartF hg2 (fun q => (hNE1.out _ (.inr q)).2.2 rfl); have HVz := Lib.hid (own_apart (HVS.out.drew.alloc (.cells #[.int .i64 y] 2)) hg2 (apart_symm hAP1.out.2.1)); have HPz := Lib.hid (own_apart (HPS.out.drew.alloc (.cells #[.int .i64 y] 2)) hg2 (apart_symm hAP1.out.2.2)); have Bz := bl_grown (bl_alloc (bl_drew BS) (.cells #[.int .i64 y] 2)) hg2 (fun k hk => (HGS.out.lt k hk).1); obtain ⟨cz, fz, zz⟩ := xz.out)))
              all_goals
              have hlen2 : (preF (grwF s K) i ++ [y]).length = i + 1 := by simp [preF_len]
              have hpr2 : preF (grwF s K) i ++ [y] = preF (grwF s K) (i + 1) := by rw [preF_succ, HGY.out]
              rw [hlen2] at ho2 hloc2
              rw [hpr2] at ho2
              have hAP2 := Lib.hid (show Apart (.slice (some ⟨ws2.heap.size, 0, none⟩) 0 0) (.slice a1 (i + 1) n1) ∧ Apart (.slice (some ⟨ws2.heap.size, 0, none⟩) 0 0) (.slice a2 (i + 1) n2) ∧ Apart (.slice a1 (i + 1) n1) (.slice a2 (i + 1) n2) from ⟨hAP1.out.1, apart_new HVS.out hAP1.out.2.1 hloc2 (by simp), apart_new HPS.out hAP1.out.2.2 hloc2 (by simp)⟩)
              have hD3 := xS.out.2.2
              have hX3 := yS.out.2.2
              have hR3 := rS.out.2.2
              have hNE2 := Lib.hid (show ∀ j, (Value.slice a1 (i + 1) n1).ownBlock = some j ∨ (Value.slice a2 (i + 1) n2).ownBlock = some j → j ≠ ws2.heap.size + 1 ∧ j ≠ w.heap.size ∧ j ≠ w.heap.size + 1 from fun j q => by
                rcases q with q | q
                · exact hNE1.out j (.inl q)
                · rcases hloc2 with l | l
                  · exact hNE1.out j (.inr (l ▸ q))
                  · rw [l] at q; injection q with q; simp at q; omega)
              have uz := upd_set (upd_refl wz (ws2.heap.size + 1)) 2 (.slice a2 (i + 1) n2)
              have xzz := Bx.congMKu (xz.set 2 (.slice a2 (i + 1) n2)) (show _ = #[.slice (some ⟨ws2.heap.size, 0, none⟩) 0 0, .slice a1 (i + 1) n1, .slice a2 (i + 1) n2] by simp)
              have yzz := yz.upd uz hXD
              have rzz := rz.upd uz hRD
              have HVw := Lib.hid (HVz.out.upd uz hVD)
              have HPw := Lib.hid (HPz.out.upd uz (fun e => (hNE2.out _ (.inl e)).1 rfl))
              have HGw := Lib.hid (ho2.upd uz (fun e => (hNE2.out _ (.inr e)).1 rfl))
              have Bw := bl_upd Bz uz (by omega)
              clear ho2 hloc2
              go_wp2_with fail
              rw [preF_len]
              go_roundw
              case rel => exact ⟨i + 1, _, _, by go_num, by omega, xzz, yzz, rzz, HVw.out, HPw.out, HGw.out, hAP2, hNE2, Bw⟩
              case measure => simp only [intOf, Int.toNat_natCast]; omega
            · have hiI : ¬ (i : Int) < (s.P.length : Int) := by omega
              have hie : i = s.P.length := by omega
              subst hie
              have HOUT := Lib.hid (out_far hKn)
              have HTS : (termP s K).2 = true := by rw [term_some]; exact decide_eq_true (.inr (by omega))
              have HSL : SlS wr (.slice (some ⟨ws2.heap.size, 0, none⟩) 0 0) (.slice pa s.P.length pc) (.slice ga s.P.length gc) (outF s K) := by rw [HOUT.out]; exact ⟨HVO.out.sl, HPO.out.sl, HGO.out.sl⟩
              have hXD : w.heap.size ≠ ws2.heap.size + 1 := by omega
              cases hok : okSrc (outF s K) with
              | false =>
                have HR := Lib.hid (skip_5 E1.out E2.out HTS hok)
                have EO := Lib.hid hok
                clear hok HTS
                go_wp2_with fail
                have HH := svalid_eqKu EO.out wr HSL xD
                refine HH.mono ?_
                clear HH
                rintro e w5 ⟨rfl, hb5⟩
                have B5 := bl_call Br hb5
                have yR5 := yR.below hb5
                clear c1 f1 z1 d1 g1 u1 k1 l1 m1
                obtain ⟨k5, l5, m5⟩ := yR5.out
                go_wp2
                refine bodyPost_ret (v := .tuple #[.agg #[.slice none 0 0, .slice none 0 0, .slice none 0 0], .int .i64 5]) (by simp only [results, Tryz.results14]; go_simp) rfl ?_
                refine skp_no HR.out ?_
                repeat first | (with_reducible assumption) | (with_reducible exact bl_refl _) | (with_reducible refine bl_alloc ?_ _) | (with_reducible refine bl_dN ?_ _) | (with_reducible refine bl_set ?_ (by first | exact Nat.le_refl _ | omega | (simp; done) | (simp; omega)) _)
              | true =>
                have HR := Lib.hid (skip_0 E1.out E2.out HTS hok)
                have EO := Lib.hid hok
                clear hok HTS
                go_wp2_with fail
                have HH := svalid_eqKu EO.out wr HSL xD
                refine HH.mono ?_
                clear HH
                rintro e w5 ⟨rfl, hb5⟩
                have B5 := bl_call Br hb5
                have yR5 := yR.below hb5
                have xD5 := xD.below hb5
                have HV5 := Lib.hid (HVO.out.below hb5)
                have HP5 := Lib.hid (HPO.out.below hb5)
                have HG5 := Lib.hid (HGO.out.below hb5)
                clear c1 f1 z1 d1 g1 u1 k1 l1 m1
                obtain ⟨k5, l5, m5⟩ := yR5.out
                obtain ⟨c5, f5, z5⟩ := xD5.out
                have uR := upd_set (upd_set (upd_set (upd_refl w5 (w.heap.size + 1)) 0 (.slice (some ⟨ws2.heap.size, 0, none⟩) 0 0)) 1 (.slice pa s.P.length pc)) 2 (.slice ga s.P.length gc)
                have hVR : (.slice (some ⟨ws2.heap.size, 0, none⟩) 0 0 : Value).ownBlock ≠ some (w.heap.size + 1) := by simp [Value.ownBlock]; omega
                have HOS := Lib.hid (show OwnS _ w.heap.size (.slice (some ⟨ws2.heap.size, 0, none⟩) 0 0) (.slice pa s.P.length pc) (.slice ga s.P.length gc) (outF s K) by
                  rw [HOUT.out]
                  exact ⟨HV5.out.upd uR hVR, HP5.out.upd uR (fun e => (HNE.out _ (.inl e)).2.2 rfl), HG5.out.upd uR (fun e => (HNE.out _ (.inr e)).2.2 rfl), HAP.out.1, HAP.out.2.1, HAP.out.2.2⟩)
                have BR := bl_upd B5 uR (by omega)
                go_wp2
                refine bodyPost_ret (v := .tuple #[.agg #[.slice (some ⟨ws2.heap.size, 0, none⟩) 0 0, .slice pa s.P.length pc, .slice ga s.P.length gc], .int .i64 0]) (by simp only [results, Tryz.results14]; go_simp) rfl ?_
                exact skp_yes HR.out HOS.out BR

end Go.Proofs.YtndblondleclpaaGreatDoor
