/- SkipTerms: the program. Each theorem names its conditions. -/
import Derived.Test.YtndblondleclpaaGreatDoorSkipIa
import Derived.Test.YtndblondleclpaaGreatDoorSkipIb
namespace Go.Proofs.YtndblondleclpaaGreatDoor
open Go.RowKit
set_option linter.unusedVariables false
set_option linter.unusedSimpArgs false


set_option maxRecDepth 100000 in
set_option maxHeartbeats 12800000 in
theorem impl_SkipTerms (h p g : Value) (s : Src) (c : Int) (w : World) (hs : SlS w h p g s) (hl : s.H.length ≤ 1048576 ∧ s.P.length ≤ 1048576 ∧ s.G.length ≤ 1048576) :
    Calls Tryz.prog 13 #[.agg #[h, p, g], .int .i64 c] w (SkP (skipF s c) w) := by
  have HS := Lib.hid hs
  obtain ⟨ah, ch, rfl, hch⟩ := hs.1.form
  obtain ⟨ap, cp, rfl, _⟩ := hs.2.1.form
  obtain ⟨ag, cg, rfl, _⟩ := hs.2.2.form
  clear hs
  cases e1 : okSrc s with
  | false =>
    have E1 := Lib.hid e1
    have HR := Lib.hid (skip_1 (c := c) e1)
    clear e1
    go_enter Tryz.func13, Tryz.ntmps13
    go_wp2_with fail
    have Bs1 : Bl w ((w.alloc (.cells #[.slice ah s.H.length ch, .slice ap s.P.length cp, .slice ag s.G.length cg] 26)).alloc (.cells #[.slice none 0 0, .slice none 0 0, .slice none 0 0] 26)) := (bl_alloc (bl_alloc (bl_refl _) _) _)
    have xX_s1 : Bx ((w.alloc (.cells #[.slice ah s.H.length ch, .slice ap s.P.length cp, .slice ag s.G.length cg] 26)).alloc (.cells #[.slice none 0 0, .slice none 0 0, .slice none 0 0] 26)) (w.heap.size) #[.slice ah s.H.length ch, .slice ap s.P.length cp, .slice ag s.G.length cg] := ((Bx.new (b := w.heap.size) _ #[.slice ah s.H.length ch, .slice ap s.P.length cp, .slice ag s.G.length cg] 26 (by first | rfl | simp)).alloc _)
    have xR_s1 : Bx ((w.alloc (.cells #[.slice ah s.H.length ch, .slice ap s.P.length cp, .slice ag s.G.length cg] 26)).alloc (.cells #[.slice none 0 0, .slice none 0 0, .slice none 0 0] 26)) (w.heap.size + 1) #[.slice none 0 0, .slice none 0 0, .slice none 0 0] := (Bx.new (b := w.heap.size + 1) _ #[.slice none 0 0, .slice none 0 0, .slice none 0 0] 26 (by first | rfl | simp))
    have zzs1 : w.heap.size + 2 ≤ ((w.alloc (.cells #[.slice ah s.H.length ch, .slice ap s.P.length cp, .slice ag s.G.length cg] 26)).alloc (.cells #[.slice none 0 0, .slice none 0 0, .slice none 0 0] 26)).heap.size := (by simp)
    generalize ((w.alloc (.cells #[.slice ah s.H.length ch, .slice ap s.P.length cp, .slice ag s.G.length cg] 26)).alloc (.cells #[.slice none 0 0, .slice none 0 0, .slice none 0 0] 26)) = ws1 at *
    obtain ⟨cX_s1, fX_s1, zX_s1⟩ := xX_s1.out
    obtain ⟨cR_s1, fR_s1, zR_s1⟩ := xR_s1.out
    refine (ivalid_eqKu E1.out _ (HS.out.below Bs1)).mono ?_
    rintro e ws2 ⟨rfl, hbs2⟩
    have Bs2 : Bl w ws2 := bl_call Bs1 hbs2
    have xX_s2 : Bx ws2 (w.heap.size) #[.slice ah s.H.length ch, .slice ap s.P.length cp, .slice ag s.G.length cg] := xX_s1.below hbs2
    have xR_s2 : Bx ws2 (w.heap.size + 1) #[.slice none 0 0, .slice none 0 0, .slice none 0 0] := xR_s1.below hbs2
    clear cX_s1 fX_s1 zX_s1 cR_s1 fR_s1 zR_s1
    obtain ⟨cX_s2, fX_s2, zX_s2⟩ := xX_s2.out
    obtain ⟨cR_s2, fR_s2, zR_s2⟩ := xR_s2.out
    go_wp2
    refine bodyPost_ret (v := .tuple #[.agg #[.slice none 0 0, .slice none 0 0, .slice none 0 0], .int .i64 1]) (by simp only [results, Tryz.results13]; go_simp) rfl ?_
    refine skp_no HR.out ?_
    repeat first | (with_reducible assumption) | (with_reducible exact bl_refl _) | (with_reducible refine bl_alloc ?_ _) | (with_reducible refine bl_dN ?_ _) | (with_reducible refine bl_set ?_ (by first | exact Nat.le_refl _ | omega | (simp; done) | (simp; omega)) _)
  | true =>
    have E1 := Lib.hid e1
    have HOK := Lib.hid (okSrc_iff.1 e1)
    clear e1
    cases e2 : inB c 0 1000 with
    | false =>
      have E2 := Lib.hid e2
      have HR := Lib.hid (skip_2 E1.out e2)
      clear e2
      go_enter Tryz.func13, Tryz.ntmps13
      go_wp2_with fail
      have Bs1 : Bl w ((w.alloc (.cells #[.slice ah s.H.length ch, .slice ap s.P.length cp, .slice ag s.G.length cg] 26)).alloc (.cells #[.slice none 0 0, .slice none 0 0, .slice none 0 0] 26)) := (bl_alloc (bl_alloc (bl_refl _) _) _)
      have xX_s1 : Bx ((w.alloc (.cells #[.slice ah s.H.length ch, .slice ap s.P.length cp, .slice ag s.G.length cg] 26)).alloc (.cells #[.slice none 0 0, .slice none 0 0, .slice none 0 0] 26)) (w.heap.size) #[.slice ah s.H.length ch, .slice ap s.P.length cp, .slice ag s.G.length cg] := ((Bx.new (b := w.heap.size) _ #[.slice ah s.H.length ch, .slice ap s.P.length cp, .slice ag s.G.length cg] 26 (by first | rfl | simp)).alloc _)
      have xR_s1 : Bx ((w.alloc (.cells #[.slice ah s.H.length ch, .slice ap s.P.length cp, .slice ag s.G.length cg] 26)).alloc (.cells #[.slice none 0 0, .slice none 0 0, .slice none 0 0] 26)) (w.heap.size + 1) #[.slice none 0 0, .slice none 0 0, .slice none 0 0] := (Bx.new (b := w.heap.size + 1) _ #[.slice none 0 0, .slice none 0 0, .slice none 0 0] 26 (by first | rfl | simp))
      have zzs1 : w.heap.size + 2 ≤ ((w.alloc (.cells #[.slice ah s.H.length ch, .slice ap s.P.length cp, .slice ag s.G.length cg] 26)).alloc (.cells #[.slice none 0 0, .slice none 0 0, .slice none 0 0] 26)).heap.size := (by simp)
      generalize ((w.alloc (.cells #[.slice ah s.H.length ch, .slice ap s.P.length cp, .slice ag s.G.length cg] 26)).alloc (.cells #[.slice none 0 0, .slice none 0 0, .slice none 0 0] 26)) = ws1 at *
      obtain ⟨cX_s1, fX_s1, zX_s1⟩ := xX_s1.out
      obtain ⟨cR_s1, fR_s1, zR_s1⟩ := xR_s1.out
      refine (ivalid_eqKu E1.out _ (HS.out.below Bs1)).mono ?_
      rintro e ws2 ⟨rfl, hbs2⟩
      have Bs2 : Bl w ws2 := bl_call Bs1 hbs2
      have xX_s2 : Bx ws2 (w.heap.size) #[.slice ah s.H.length ch, .slice ap s.P.length cp, .slice ag s.G.length cg] := xX_s1.below hbs2
      have xR_s2 : Bx ws2 (w.heap.size + 1) #[.slice none 0 0, .slice none 0 0, .slice none 0 0] := xR_s1.below hbs2
      clear cX_s1 fX_s1 zX_s1 cR_s1 fR_s1 zR_s1
      obtain ⟨cX_s2, fX_s2, zX_s2⟩ := xX_s2.out
      obtain ⟨cR_s2, fR_s2, zR_s2⟩ := xR_s2.out
      go_wp2_with fail
      refine (inB_eqSKu E2.out _).mono ?_
      rintro e w9 ⟨rfl, rfl⟩
      go_wp2
      refine bodyPost_ret (v := .tuple #[.agg #[.slice none 0 0, .slice none 0 0, .slice none 0 0], .int .i64 2]) (by simp only [results, Tryz.results13]; go_simp) rfl ?_
      refine skp_no HR.out ?_
      repeat first | (with_reducible assumption) | (with_reducible exact bl_refl _) | (with_reducible refine bl_alloc ?_ _) | (with_reducible refine bl_dN ?_ _) | (with_reducible refine bl_set ?_ (by first | exact Nat.le_refl _ | omega | (simp; done) | (simp; omega)) _)
    | true =>
      have hc := inB_iff.1 e2
      obtain ⟨K, rfl⟩ := Int.eq_ofNat_of_zero_le hc.1
      have E2 := Lib.hid e2
      have h30 := HOK.out.h30
      have p30 := HOK.out.p30
      have GP := Lib.hid HOK.out.gp
      clear e2
      obtain ⟨t, bt, hT⟩ : ∃ t b, termP s K = (t, b) := ⟨_, _, rfl⟩
      have HT := Lib.hid hT
      cases bt with
      | false =>
        have HR := Lib.hid (skip_3 E1.out E2.out (by rw [hT]))
        clear hT
        go_enter Tryz.func13, Tryz.ntmps13
        go_wp2_with fail
        have Bs1 : Bl w ((w.alloc (.cells #[.slice ah s.H.length ch, .slice ap s.P.length cp, .slice ag s.G.length cg] 26)).alloc (.cells #[.slice none 0 0, .slice none 0 0, .slice none 0 0] 26)) := (bl_alloc (bl_alloc (bl_refl _) _) _)
        have xX_s1 : Bx ((w.alloc (.cells #[.slice ah s.H.length ch, .slice ap s.P.length cp, .slice ag s.G.length cg] 26)).alloc (.cells #[.slice none 0 0, .slice none 0 0, .slice none 0 0] 26)) (w.heap.size) #[.slice ah s.H.length ch, .slice ap s.P.length cp, .slice ag s.G.length cg] := ((Bx.new (b := w.heap.size) _ #[.slice ah s.H.length ch, .slice ap s.P.length cp, .slice ag s.G.length cg] 26 (by first | rfl | simp)).alloc _)
        have xR_s1 : Bx ((w.alloc (.cells #[.slice ah s.H.length ch, .slice ap s.P.length cp, .slice ag s.G.length cg] 26)).alloc (.cells #[.slice none 0 0, .slice none 0 0, .slice none 0 0] 26)) (w.heap.size + 1) #[.slice none 0 0, .slice none 0 0, .slice none 0 0] := (Bx.new (b := w.heap.size + 1) _ #[.slice none 0 0, .slice none 0 0, .slice none 0 0] 26 (by first | rfl | simp))
        have zzs1 : w.heap.size + 2 ≤ ((w.alloc (.cells #[.slice ah s.H.length ch, .slice ap s.P.length cp, .slice ag s.G.length cg] 26)).alloc (.cells #[.slice none 0 0, .slice none 0 0, .slice none 0 0] 26)).heap.size := (by simp)
        generalize ((w.alloc (.cells #[.slice ah s.H.length ch, .slice ap s.P.length cp, .slice ag s.G.length cg] 26)).alloc (.cells #[.slice none 0 0, .slice none 0 0, .slice none 0 0] 26)) = ws1 at *
        obtain ⟨cX_s1, fX_s1, zX_s1⟩ := xX_s1.out
        obtain ⟨cR_s1, fR_s1, zR_s1⟩ := xR_s1.out
        refine (ivalid_eqKu E1.out _ (HS.out.below Bs1)).mono ?_
        rintro e ws2 ⟨rfl, hbs2⟩
        have Bs2 : Bl w ws2 := bl_call Bs1 hbs2
        have xX_s2 : Bx ws2 (w.heap.size) #[.slice ah s.H.length ch, .slice ap s.P.length cp, .slice ag s.G.length cg] := xX_s1.below hbs2
        have xR_s2 : Bx ws2 (w.heap.size + 1) #[.slice none 0 0, .slice none 0 0, .slice none 0 0] := xR_s1.below hbs2
        clear cX_s1 fX_s1 zX_s1 cR_s1 fR_s1 zR_s1
        obtain ⟨cX_s2, fX_s2, zX_s2⟩ := xX_s2.out
        obtain ⟨cR_s2, fR_s2, zR_s2⟩ := xR_s2.out
        go_wp2_with fail
        refine (inB_eqSKu E2.out _).mono ?_
        rintro e w9 ⟨rfl, rfl⟩
        go_wp2_with fail
        refine (iterm_eqKu HT.out _ (HS.out.below Bs2) HOK.out.okPer (by omega)).mono ?_
        rintro e ws3 ⟨rfl, hbs3⟩
        have Bs3 : Bl w ws3 := bl_call Bs2 hbs3
        have xX_s3 : Bx ws3 (w.heap.size) #[.slice ah s.H.length ch, .slice ap s.P.length cp, .slice ag s.G.length cg] := xX_s2.below hbs3
        have xR_s3 : Bx ws3 (w.heap.size + 1) #[.slice none 0 0, .slice none 0 0, .slice none 0 0] := xR_s2.below hbs3
        clear cX_s2 fX_s2 zX_s2 cR_s2 fR_s2 zR_s2
        obtain ⟨cX_s3, fX_s3, zX_s3⟩ := xX_s3.out
        obtain ⟨cR_s3, fR_s3, zR_s3⟩ := xR_s3.out
        go_wp2
        refine bodyPost_ret (v := .tuple #[.agg #[.slice none 0 0, .slice none 0 0, .slice none 0 0], .int .i64 3]) (by simp only [results, Tryz.results13]; go_simp) rfl ?_
        refine skp_no HR.out ?_
        repeat first | (with_reducible assumption) | (with_reducible exact bl_refl _) | (with_reducible refine bl_alloc ?_ _) | (with_reducible refine bl_dN ?_ _) | (with_reducible refine bl_set ?_ (by first | exact Nat.le_refl _ | omega | (simp; done) | (simp; omega)) _)
      | true =>
        have HTS := Lib.hid (show (termP s K).2 = true by rw [hT])
        clear hT
        rcases Nat.lt_or_ge s.H.length K with hk | hk
        · exact impl_Skgt (M := s.H.length) w HS.out ⟨rfl, hk⟩ (Nat.le_refl _) E1.out E2.out HTS.out
        · exact impl_Sklt (M := K) w HS.out ⟨rfl, hk⟩ hk E1.out E2.out HTS.out

end Go.Proofs.YtndblondleclpaaGreatDoor
