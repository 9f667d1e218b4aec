/- SkipTerms: the program. Each theorem names its conditions. -/
import Derived.Test.YtndblondleclpaaGreatDoorSkipP
namespace Go.Proofs.YtndblondleclpaaGreatDoor
open Go.RowKit
set_option linter.unusedVariables false
set_option linter.unusedSimpArgs false


set_option maxRecDepth 100000 in
set_option maxHeartbeats 12800000 in
theorem impl_Sklt {ah : Option Addr} {ch K M : Nat} {p g : Value} {s : Src} (w : World) (hs : SlS w (.slice ah s.H.length ch) p g s) (hM : M = K ∧ K ≤ s.H.length) (hML : M ≤ s.H.length) (e1 : okSrc s = true) (e2 : inB (K : Int) 0 1000 = true) (hT2 : (termP s K).2 = true) :
    Calls Tryz.prog 13 #[.agg #[.slice ah s.H.length ch, p, g], .int .i64 (K : Int)] w (SkP (skipF s (K : Int)) w) := by
  have HS := Lib.hid hs
  obtain ⟨ap, cp, rfl, _⟩ := hs.2.1.form
  obtain ⟨ag, cg, rfl, _⟩ := hs.2.2.form
  have HOK := Lib.hid (okSrc_iff.1 e1)
  have E1 := Lib.hid e1
  have E2 := Lib.hid e2
  have hc := inB_iff.1 e2
  have h30 := HOK.out.h30
  have p30 := HOK.out.p30
  have hgl : s.G.length ≤ 30 := by rw [HOK.out.gp]; exact p30
  obtain ⟨a9, c9, hsl1, hsl2, hsl3⟩ := slice_from hs.1 M hML
  have HSH := Lib.hid hsl3
  obtain ⟨t, bt, hT⟩ : ∃ t b, termP s K = (t, b) := ⟨_, _, rfl⟩
  obtain rfl : bt = true := by rw [hT] at hT2; exact hT2
  have HT := Lib.hid hT
  have HT2 := Lib.hid hT2
  clear hsl3 hs e1 e2 hT hT2
  obtain ⟨rfl, hKl⟩ := hM
  have hmin : min (M : Int) (s.H.length : Int) = (M : Int) := by omega
  have hov : ¬ (0 : Int) < (M : Int) - (s.H.length : Int) := by omega
  have hmn : ¬ s.H.length < M := by omega
  have hm0 : (0 : Int) ≤ (M : Int) := by omega
  have hm1 : (M : Int) ≤ (s.H.length : Int) := by omega
  go_enter Tryz.func13, Tryz.ntmps13
  go_wp2_with fail
  have Bs1 : Bl w ((w.alloc (.cells #[.slice ah s.H.length ch, .slice ap s.P.length cp, .slice ag s.G.length cg] 26)).alloc (.cells #[.slice none 0 0, .slice none 0 0, .slice none 0 0] 26)) := (bl_alloc (bl_alloc (bl_refl _) _) _)
  have xX_s1 : Bx ((w.alloc (.cells #[.slice ah s.H.length ch, .slice ap s.P.length cp, .slice ag s.G.length cg] 26)).alloc (.cells #[.slice none 0 0, .slice none 0 0, .slice none 0 0] 26)) (w.heap.size) #[.slice ah s.H.length ch, .slice ap s.P.length cp, .slice ag s.G.length cg] := ((Bx.new (b := w.heap.size) _ #[.slice ah s.H.length ch, .slice ap s.P.length cp, .slice ag s.G.length cg] 26 (by first | rfl | simp)).alloc _)
  have xR_s1 : Bx ((w.alloc (.cells #[.slice ah s.H.length ch, .slice ap s.P.length cp, .slice ag s.G.length cg] 26)).alloc (.cells #[.slice none 0 0, .slice none 0 0, .slice none 0 0] 26)) (w.heap.size + 1) #[.slice none 0 0, .slice none 0 0, .slice none 0 0] := (Bx.new (b := w.heap.size + 1) _ #[.slice none 0 0, .slice none 0 0, .slice none 0 0] 26 (by first | rfl | simp))
  have zzs1 : w.heap.size + 2 ≤ ((w.alloc (.cells #[.slice ah s.H.length ch, .slice ap s.P.length cp, .slice ag s.G.length cg] 26)).alloc (.cells #[.slice none 0 0, .slice none 0 0, .slice none 0 0] 26)).heap.size := (by simp)
  generalize ((w.alloc (.cells #[.slice ah s.H.length ch, .slice ap s.P.length cp, .slice ag s.G.length cg] 26)).alloc (.cells #[.slice none 0 0, .slice none 0 0, .slice none 0 0] 26)) = ws1 at *
  obtain ⟨cX_s1, fX_s1, zX_s1⟩ := xX_s1.out
  obtain ⟨cR_s1, fR_s1, zR_s1⟩ := xR_s1.out
  refine (ivalid_eqKu E1.out _ (HS.out.below Bs1)).mono ?_
  rintro e ws2 ⟨rfl, hbs2⟩
  have Bs2 : Bl w ws2 := bl_call Bs1 hbs2
  have xX_s2 : Bx ws2 (w.heap.size) #[.slice ah s.H.length ch, .slice ap s.P.length cp, .slice ag s.G.length cg] := xX_s1.below hbs2
  have xR_s2 : Bx ws2 (w.heap.size + 1) #[.slice none 0 0, .slice none 0 0, .slice none 0 0] := xR_s1.below hbs2
  clear cX_s1 fX_s1 zX_s1 cR_s1 fR_s1 zR_s1
  obtain ⟨cX_s2, fX_s2, zX_s2⟩ := xX_s2.out
  obtain ⟨cR_s2, fR_s2, zR_s2⟩ := xR_s2.out
  go_wp2_with fail
  refine (inB_eqSKu E2.out _).mono ?_
  rintro e w9 ⟨rfl, rfl⟩
  go_wp2_with fail
  refine (iterm_eqKu HT.out _ (HS.out.below Bs2) HOK.out.okPer (by omega)).mono ?_
  rintro e ws3 ⟨rfl, hbs3⟩
  have Bs3 : Bl w ws3 := bl_call Bs2 hbs3
  have xX_s3 : Bx ws3 (w.heap.size) #[.slice ah s.H.length ch, .slice ap s.P.length cp, .slice ag s.G.length cg] := xX_s2.below hbs3
  have xR_s3 : Bx ws3 (w.heap.size + 1) #[.slice none 0 0, .slice none 0 0, .slice none 0 0] := xR_s2.below hbs3
  clear cX_s2 fX_s2 zX_s2 cR_s2 fR_s2 zR_s2
  obtain ⟨cX_s3, fX_s3, zX_s3⟩ := xX_s3.out
  obtain ⟨cR_s3, fR_s3, zR_s3⟩ := xR_s3.out
  go_wp2_with fail
  have hw3 := Bs3.size
  have RG := Reg.start (show Bl w ws3.drew from bl_drew Bs3)
  have xx := xX_s3.drew
  have rr := xR_s3.drew
  obtain ⟨B0, hB0⟩ : ∃ B, B = ws3.drew.heap.size := ⟨_, rfl⟩
  have HB0 := Lib.hid hB0
  have hB1 : w.heap.size + 2 ≤ B0 := by rw [hB0]; show _ ≤ ws3.heap.size; have := zzs1; have := hbs2.size; have := hbs3.size; omega
  rw [← hB0] at RG
  clear hB0
  have hB2 : w.heap.size < B0 := by omega
  have hs3a : ws3.heap.size ≠ w.heap.size := by have h1 := HB0.out; have h2 : ws3.drew.heap.size = ws3.heap.size := rfl; omega
  have hs3b := hs3a.symm
  go_cut [8] (fun s8 wx => Hid (SkO w B0 ⟨s.H.drop M, s.P, s.G⟩ s8 wx) ∧ Bx wx (w.heap.size) #[.slice ah s.H.length ch, .slice ap s.P.length cp, .slice ag s.G.length cg] ∧ Bx wx (w.heap.size + 1) #[.slice none 0 0, .slice none 0 0, .slice none 0 0])
  case first =>
    clear cX_s3 fX_s3 zX_s3 cR_s3 fR_s3 zR_s3
    obtain ⟨cx, fx, zx⟩ := xx.out
    obtain ⟨cr, fr, zr⟩ := rr.out
    have hk1 : ∀ c o, (ws3.alloc c).cell? ⟨w.heap.size, o, none⟩ = (#[.slice ah s.H.length ch, .slice ap s.P.length cp, .slice ag s.G.length cg] : Array Value)[o]? := fun c o => (xx.alloc c).out.1 o
    have hk2 : ∀ c o, (ws3.alloc c).drew.cell? ⟨w.heap.size, o, none⟩ = (#[.slice ah s.H.length ch, .slice ap s.P.length cp, .slice ag s.G.length cg] : Array Value)[o]? := fun c o => (xx.alloc c).out.1 o
    go_region_held3 (fun w' => w'.cell? ⟨w.heap.size, 0, none⟩ = some (.slice ah s.H.length ch) ∧ w'.cell? ⟨w.heap.size, 1, none⟩ = some (.slice ap s.P.length cp) ∧ w'.cell? ⟨w.heap.size, 2, none⟩ = some (.slice ag s.G.length cg)) (first | (simp [*]; done) | (go_simp; done) | go_keep)
      ((first | (go_at_call 54; refine (sizeI_anyKu _ _ _ _ (by omega)).mono ?_; rintro e wv ⟨rfl, rfl⟩) | (go_at_call 53; refine (clone_any _ (s.P) _ (HS.out.2.1.below (by first | exact RG.bl | exact (RG.alloc _).bl)) (by (first | omega | (rw [List.length_drop]; omega) | (simp; done)))).mono ?_; rintro e wv ⟨a2, c2, rfl, OO, hbv⟩; (try simp only [List.length_drop, List.length_nil] at OO); have RG := (by first | exact RG.set 2 OO hbv | exact (RG.alloc _).set 2 OO hbv); have xx := (by first | exact xx.below hbv | exact (xx.alloc _).below hbv); have rr := (by first | exact rr.below hbv | exact (rr.alloc _).below hbv); clear OO hbv cx fx zx cr fr zr; obtain ⟨cx, fx, zx⟩ := xx.out; obtain ⟨cr, fr, zr⟩ := rr.out; (try (obtain ⟨co, fo, zo⟩ := (RG.bx _ rfl).1.out)); (try (have hb8 := (RG.bx _ rfl).2.1; have hb9 := Nat.ne_of_gt (Nat.lt_of_lt_of_le hB2 hb8); have hb10 := hb9.symm)); (try (have co2 : ∀ o, wv.cell? ⟨ws3.heap.size, o, none⟩ = (#[Value.slice none 0 0, .slice none 0 0, .slice none 0 0] : Array Value)[o]? := (RG.bx _ rfl).1.out.1; have fo2 : ∀ o, wv.frozen? ⟨ws3.heap.size, o, none⟩ = false := (RG.bx _ rfl).1.out.2.1))) | (go_at_call 53; refine (clone_any _ (s.G) _ (HS.out.2.2.below (by first | exact RG.bl | exact (RG.alloc _).bl)) (by (first | omega | (rw [List.length_drop]; omega) | (simp; done)))).mono ?_; rintro e wv ⟨a3, c3, rfl, OO, hbv⟩; (try simp only [List.length_drop, List.length_nil] at OO); have RG := (by first | exact RG.set 3 OO hbv | exact (RG.alloc _).set 3 OO hbv); have xx := (by first | exact xx.below hbv | exact (xx.alloc _).below hbv); have rr := (by first | exact rr.below hbv | exact (rr.alloc _).below hbv); clear OO hbv cx fx zx cr fr zr; obtain ⟨cx, fx, zx⟩ := xx.out; obtain ⟨cr, fr, zr⟩ := rr.out; (try (obtain ⟨co, fo, zo⟩ := (RG.bx _ rfl).1.out)); (try (have hb8 := (RG.bx _ rfl).2.1; have hb9 := Nat.ne_of_gt (Nat.lt_of_lt_of_le hB2 hb8); have hb10 := hb9.symm)); (try (have co2 : ∀ o, wv.cell? ⟨ws3.heap.size, o, none⟩ = (#[Value.slice none 0 0, .slice none 0 0, .slice none 0 0] : Array Value)[o]? := (RG.bx _ rfl).1.out.1; have fo2 : ∀ o, wv.frozen? ⟨ws3.heap.size, o, none⟩ = false := (RG.bx _ rfl).1.out.2.1))) | (go_at_call 53; refine (clone_any _ (s.H.drop M) _ (HSH.out.below (by first | exact RG.bl | exact (RG.alloc _).bl)) (by (first | omega | (rw [List.length_drop]; omega) | (simp; done)))).mono ?_; rintro e wv ⟨a1, c1, rfl, OO, hbv⟩; (try simp only [List.length_drop, List.length_nil] at OO); have RG := (by first | exact RG.set 1 OO hbv | exact (RG.alloc _).set 1 OO hbv); have xx := (by first | exact xx.below hbv | exact (xx.alloc _).below hbv); have rr := (by first | exact rr.below hbv | exact (rr.alloc _).below hbv); clear OO hbv cx fx zx cr fr zr; obtain ⟨cx, fx, zx⟩ := xx.out; obtain ⟨cr, fr, zr⟩ := rr.out; (try (obtain ⟨co, fo, zo⟩ := (RG.bx _ rfl).1.out)); (try (have hb8 := (RG.bx _ rfl).2.1; have hb9 := Nat.ne_of_gt (Nat.lt_of_lt_of_le hB2 hb8); have hb10 := hb9.symm)); (try (have co2 : ∀ o, wv.cell? ⟨ws3.heap.size, o, none⟩ = (#[Value.slice none 0 0, .slice none 0 0, .slice none 0 0] : Array Value)[o]? := (RG.bx _ rfl).1.out.1; have fo2 : ∀ o, wv.frozen? ⟨ws3.heap.size, o, none⟩ = false := (RG.bx _ rfl).1.out.2.1)))))
    all_goals (go_wp2_with fail; go_meet)
    all_goals first | exact ⟨Lib.hid (sko_new RG rfl rfl rfl), xx.alloc _, rr.alloc _⟩ | exact sko_done hB1 RG rfl rfl rfl xx rr | skip
  case rest =>
    obtain ⟨HSO, xX, rr⟩ := hcut
    obtain ⟨bo, v1, v2, v3, rfl, xO, hO, hNE, hbo, B4⟩ := HSO.out
    obtain ⟨w4, hw4⟩ : ∃ x : World, x = wc := ⟨_, rfl⟩
    rw [← hw4] at xX rr xO hO B4
    rw [← hw4]
    clear hw4 HSO
    obtain ⟨a1, c1, rfl, _⟩ := hO.1.form
    obtain ⟨a2, c2, rfl, _⟩ := hO.2.1.form
    obtain ⟨a3, c3, rfl, _⟩ := hO.2.2.1.form
    simp only [List.length_drop] at xO hO hNE
    have HO := Lib.hid hO
    have HNE := Lib.hid hNE
    clear hO hNE cX_s3 fX_s3 zX_s3 cR_s3 fR_s3 zR_s3
    obtain ⟨cx, fx, zx⟩ := xX.out
    obtain ⟨co, fo, zo⟩ := xO.out
    obtain ⟨cr, fr, zr⟩ := rr.out
    go_wp2_with fail
    refine (sizeI_anyKu _ _ _ _ (by omega)).mono ?_
    rintro e w9 ⟨rfl, rfl⟩
    have HOUT := Lib.hid (out_le hKl)
    have hok : okSrc (outF s M) = true := by
      refine out_ok HOK.out ?_
      have h2 := HT2.out
      rw [term_some] at h2
      have h3 := of_decide_eq_true h2
      omega
    have HR := Lib.hid (skip_0 E1.out E2.out HT2.out hok)
    have EO := Lib.hid (show okSrc ⟨s.H.drop M, s.P, s.G⟩ = true by rw [← HOUT.out]; exact hok)
    clear hok
    go_wp2_with fail
    refine (ivalid_eqKu EO.out _ ⟨HO.out.1.sl, HO.out.2.1.sl, HO.out.2.2.1.sl⟩).mono ?_
    rintro e w5 ⟨rfl, hb5⟩
    have xO5 := xO.below hb5
    have rr5 := rr.below hb5
    have B5 := bl_call B4 hb5
    clear cx fx zx co fo zo cr fr zr
    obtain ⟨co, fo, zo⟩ := xO5.out
    obtain ⟨cr, fr, zr⟩ := rr5.out
    have u := upd_set (upd_set (upd_set (upd_refl w5 (w.heap.size + 1)) 0 (.slice a1 (s.H.length - M) c1)) 1 (.slice a2 s.P.length c2)) 2 (.slice a3 s.G.length c3)
    have HF := Lib.hid (show OwnS _ w.heap.size (.slice a1 (s.H.length - M) c1) (.slice a2 s.P.length c2) (.slice a3 s.G.length c3) ⟨s.H.drop M, s.P, s.G⟩ from
      ⟨(HO.out.1.below hb5).upd u (fun q => by have := (HNE.out _ (.inl q)).2; omega), (HO.out.2.1.below hb5).upd u (fun q => by have := (HNE.out _ (.inr (.inl q))).2; omega), (HO.out.2.2.1.below hb5).upd u (fun q => by have := (HNE.out _ (.inr (.inr q))).2; omega), HO.out.2.2.2.1, HO.out.2.2.2.2.1, HO.out.2.2.2.2.2⟩)
    have BF := bl_upd B5 u (by omega)
    go_wp2
    refine bodyPost_ret (v := .tuple #[.agg #[.slice a1 (s.H.length - M) c1, .slice a2 s.P.length c2, .slice a3 s.G.length c3], .int .i64 0]) (by simp only [results, Tryz.results13]; go_simp) rfl ?_
    exact skp_yes (by rw [HR.out, HOUT.out]) HF.out BF

end Go.Proofs.YtndblondleclpaaGreatDoor
