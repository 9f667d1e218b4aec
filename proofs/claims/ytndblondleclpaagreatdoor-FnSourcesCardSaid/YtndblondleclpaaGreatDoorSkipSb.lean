/- SkipTerms: the reference. Each theorem names its conditions. -/
import Derived.Test.YtndblondleclpaaGreatDoorSkipR
namespace Go.Proofs.YtndblondleclpaaGreatDoor
open Go.RowKit
set_option linter.unusedVariables false
set_option linter.unusedSimpArgs false


set_option maxRecDepth 100000 in
set_option maxHeartbeats 12800000 in
theorem spec_SkB {ah : Option Addr} {ch K : Nat} {p g : Value} {s : Src} (w : World) (hs : SlS w (.slice ah s.H.length ch) p g s) (hKle : K ≤ s.H.length) (hlt : s.H.length ≤ K) (hmp : 0 < s.P.length) (e1 : okSrc s = true) (e2 : inB (K : Int) 0 1000 = true) (hR2 : skipF s (K : Int) = (⟨s.H.drop K, s.P, s.G⟩, 0)) :
    Calls Tryz.prog 14 #[.agg #[.slice ah s.H.length ch, p, g], .int .i64 (K : Int)] w (SkP (skipF s (K : Int)) w) := by
  have HS := Lib.hid hs
  obtain ⟨ap, cp, rfl, _⟩ := hs.2.1.form
  obtain ⟨ag, cg, rfl, _⟩ := hs.2.2.form
  have HOK := Lib.hid (okSrc_iff.1 e1)
  have E1 := Lib.hid e1
  have E2 := Lib.hid e2
  have HR2 := Lib.hid hR2
  have h30 := HOK.out.h30
  have p30 := HOK.out.p30
  have hgl : s.G.length ≤ 30 := by rw [HOK.out.gp]; exact p30
  clear e1 e2 hR2 hs
  obtain ⟨a9, c9, hsl1, hsl2, hsl3⟩ := slice_from HS.out.1 K hKle
  have HSH := Lib.hid (show Sl w (.slice a9 0 c9) (s.H.drop K) by have hz := hsl3; rw [show s.H.length - K = 0 by omega] at hz; exact hz)
  clear hsl3
  have hK1 : (K : Int) ≤ (s.H.length : Int) := by omega
  have hK0 : (0 : Int) ≤ (K : Int) := by omega
  have hltI : ¬ (K : Int) < (s.H.length : Int) := by omega
  have cK : ((K : Int) == (s.H.length : Int)) = true := beq_iff_eq.2 (by omega)
  have cm2 : (0 : Int) < (s.P.length : Int) := by omega
  clear hKle hlt hmp
  go_enter Tryz.func14, Tryz.ntmps14
  go_wp2_with fail
  have Bs1 : Bl w ((w.alloc (.cells #[.slice ah s.H.length ch, .slice ap s.P.length cp, .slice ag s.G.length cg] 26)).alloc (.cells #[.slice none 0 0, .slice none 0 0, .slice none 0 0] 26)) := (bl_alloc (bl_alloc (bl_refl _) _) _)
  have xX_s1 : Bx ((w.alloc (.cells #[.slice ah s.H.length ch, .slice ap s.P.length cp, .slice ag s.G.length cg] 26)).alloc (.cells #[.slice none 0 0, .slice none 0 0, .slice none 0 0] 26)) (w.heap.size) #[.slice ah s.H.length ch, .slice ap s.P.length cp, .slice ag s.G.length cg] := ((Bx.new (b := w.heap.size) _ #[.slice ah s.H.length ch, .slice ap s.P.length cp, .slice ag s.G.length cg] 26 (by first | rfl | simp)).alloc _)
  have xR_s1 : Bx ((w.alloc (.cells #[.slice ah s.H.length ch, .slice ap s.P.length cp, .slice ag s.G.length cg] 26)).alloc (.cells #[.slice none 0 0, .slice none 0 0, .slice none 0 0] 26)) (w.heap.size + 1) #[.slice none 0 0, .slice none 0 0, .slice none 0 0] := (Bx.new (b := w.heap.size + 1) _ #[.slice none 0 0, .slice none 0 0, .slice none 0 0] 26 (by first | rfl | simp))
  have zzs1 : w.heap.size + 2 ≤ ((w.alloc (.cells #[.slice ah s.H.length ch, .slice ap s.P.length cp, .slice ag s.G.length cg] 26)).alloc (.cells #[.slice none 0 0, .slice none 0 0, .slice none 0 0] 26)).heap.size := (by simp)
  generalize ((w.alloc (.cells #[.slice ah s.H.length ch, .slice ap s.P.length cp, .slice ag s.G.length cg] 26)).alloc (.cells #[.slice none 0 0, .slice none 0 0, .slice none 0 0] 26)) = ws1 at *
  obtain ⟨cX_s1, fX_s1, zX_s1⟩ := xX_s1.out
  obtain ⟨cR_s1, fR_s1, zR_s1⟩ := xR_s1.out
  refine (svalid_eqKu E1.out _ (HS.out.below Bs1) xX_s1).mono ?_
  rintro e ws2 ⟨rfl, hbs2⟩
  have Bs2 : Bl w ws2 := bl_call Bs1 hbs2
  have xX_s2 : Bx ws2 (w.heap.size) #[.slice ah s.H.length ch, .slice ap s.P.length cp, .slice ag s.G.length cg] := xX_s1.below hbs2
  have xR_s2 : Bx ws2 (w.heap.size + 1) #[.slice none 0 0, .slice none 0 0, .slice none 0 0] := xR_s1.below hbs2
  clear cX_s1 fX_s1 zX_s1 cR_s1 fR_s1 zR_s1
  obtain ⟨cX_s2, fX_s2, zX_s2⟩ := xX_s2.out
  obtain ⟨cR_s2, fR_s2, zR_s2⟩ := xR_s2.out
  go_wp2_with fail
  refine (sin_eqMKu E2.out _).mono ?_
  rintro e w9 ⟨rfl, rfl⟩
  go_wp2_with fail
  have BB := bl_drew Bs2
  have xx := xX_s2.drew
  have rr := xR_s2.drew
  clear cX_s2 fX_s2 zX_s2 cR_s2 fR_s2 zR_s2
  obtain ⟨cx, fx, zx⟩ := xx.out
  obtain ⟨cr, fr, zr⟩ := rr.out
  go_region_law ((first | (go_simp; go_at_call 55; refine (own_any _ (s.P) _ (HS.out.2.1.below BB) (by (first | omega | (rw [List.length_drop]; omega)))).mono ?_; rintro e wv ⟨a2, c2, rfl, O2, hbv⟩; have hszB := BB.size; have zrB := rr.out.2.2; have N2 : (Value.slice a2 (s.P).length c2).ownBlock ≠ some (w.heap.size + 1) := (fun e => (by have := (O2.lt _ e).1; omega)); (try have Q12 := blk_ne O1 O2 (Nat.le_refl _)); (try have Q32 := blk_ne O3 O2 (Nat.le_refl _)); have O2 := O2.mono hszB; (try have O1 := O1.below hbv); (try have O3 := O3.below hbv); have xx := xx.below hbv; have rr := rr.below hbv; have BB := bl_call BB hbv; clear cx fx zx cr fr zr hszB zrB; obtain ⟨cx, fx, zx⟩ := xx.out; obtain ⟨cr, fr, zr⟩ := rr.out; go_wp2_with fail) | (go_simp; go_at_call 55; refine (own_any _ (s.G) _ (HS.out.2.2.below BB) (by (first | omega | (rw [List.length_drop]; omega)))).mono ?_; rintro e wv ⟨a3, c3, rfl, O3, hbv⟩; have hszB := BB.size; have zrB := rr.out.2.2; have N3 : (Value.slice a3 (s.G).length c3).ownBlock ≠ some (w.heap.size + 1) := (fun e => (by have := (O3.lt _ e).1; omega)); (try have Q13 := blk_ne O1 O3 (Nat.le_refl _)); (try have Q23 := blk_ne O2 O3 (Nat.le_refl _)); have O3 := O3.mono hszB; (try have O1 := O1.below hbv); (try have O2 := O2.below hbv); have xx := xx.below hbv; have rr := rr.below hbv; have BB := bl_call BB hbv; clear cx fx zx cr fr zr hszB zrB; obtain ⟨cx, fx, zx⟩ := xx.out; obtain ⟨cr, fr, zr⟩ := rr.out; go_wp2_with fail) | (go_simp; go_at_call 55; refine (own_any _ (s.H.drop K) _ (HSH.out.below BB) (by (first | omega | (rw [List.length_drop]; omega)))).mono ?_; rintro e wv ⟨a1, c1, rfl, O1, hbv⟩; have hszB := BB.size; have zrB := rr.out.2.2; have N1 : (Value.slice a1 (s.H.drop K).length c1).ownBlock ≠ some (w.heap.size + 1) := (fun e => (by have := (O1.lt _ e).1; omega)); (try have Q21 := blk_ne O2 O1 (Nat.le_refl _)); (try have Q31 := blk_ne O3 O1 (Nat.le_refl _)); have O1 := O1.mono hszB; (try have O2 := O2.below hbv); (try have O3 := O3.below hbv); have xx := xx.below hbv; have rr := rr.below hbv; have BB := bl_call BB hbv; clear cx fx zx cr fr zr hszB zrB; obtain ⟨cx, fx, zx⟩ := xx.out; obtain ⟨cr, fr, zr⟩ := rr.out; go_wp2_with fail)))
  all_goals go_wp2
  all_goals refine bodyPost_ret (v := .tuple #[.agg #[.slice a1 (s.H.drop K).length c1, .slice a2 s.P.length c2, .slice a3 s.G.length c3], .int .i64 0]) (by simp only [results, Tryz.results14]; go_simp) rfl ?_
  all_goals refine skp_yes HR2.out (s := ⟨s.H.drop K, s.P, s.G⟩) ⟨O1.upd (upd_set (upd_set (upd_set (upd_refl _ (w.heap.size + 1)) 0 _) 1 _) 2 _) N1, O2.upd (upd_set (upd_set (upd_set (upd_refl _ (w.heap.size + 1)) 0 _) 1 _) 2 _) N2, O3.upd (upd_set (upd_set (upd_set (upd_refl _ (w.heap.size + 1)) 0 _) 1 _) 2 _) N3, (by first | exact Q12 | exact apart_symm Q21), (by first | exact Q13 | exact apart_symm Q31), (by first | exact Q23 | exact apart_symm Q32)⟩ (bl_upd BB (upd_set (upd_set (upd_set (upd_refl _ (w.heap.size + 1)) 0 _) 1 _) 2 _) (by omega))

end Go.Proofs.YtndblondleclpaaGreatDoor
