/- SkipTerms: the program. Each theorem names its conditions. -/
import Derived.Test.YtndblondleclpaaGreatDoorSkipP
namespace Go.Proofs.YtndblondleclpaaGreatDoor
open Go.RowKit
set_option linter.unusedVariables false
set_option linter.unusedSimpArgs false


set_option maxRecDepth 100000 in
set_option maxHeartbeats 12800000 in
theorem impl_Skgt {ah : Option Addr} {ch K M : Nat} {p g : Value} {s : Src} (w : World) (hs : SlS w (.slice ah s.H.length ch) p g s) (hM : M = s.H.length ∧ s.H.length < K) (hML : M ≤ s.H.length) (e1 : okSrc s = true) (e2 : inB (K : Int) 0 1000 = true) (hT2 : (termP s K).2 = true) :
    Calls Tryz.prog 13 #[.agg #[.slice ah s.H.length ch, p, g], .int .i64 (K : Int)] w (SkP (skipF s (K : Int)) w) := by
  have HS := Lib.hid hs
  obtain ⟨ap, cp, rfl, _⟩ := hs.2.1.form
  obtain ⟨ag, cg, rfl, _⟩ := hs.2.2.form
  have HOK := Lib.hid (okSrc_iff.1 e1)
  have E1 := Lib.hid e1
  have E2 := Lib.hid e2
  have hc := inB_iff.1 e2
  have h30 := HOK.out.h30
  have p30 := HOK.out.p30
  have hgl : s.G.length ≤ 30 := by rw [HOK.out.gp]; exact p30
  obtain ⟨a9, c9, hsl1, hsl2, hsl3⟩ := slice_from hs.1 M hML
  have HSH := Lib.hid hsl3
  obtain ⟨t, bt, hT⟩ : ∃ t b, termP s K = (t, b) := ⟨_, _, rfl⟩
  obtain rfl : bt = true := by rw [hT] at hT2; exact hT2
  have HT := Lib.hid hT
  have HT2 := Lib.hid hT2
  clear hsl3 hs e1 e2 hT hT2
  obtain ⟨rfl, hKg⟩ := hM
  have HSH := Lib.hid (show Sl w (.slice a9 0 c9) [] by have hz := HSH.out; rw [Nat.sub_self, drop_end (Nat.le_refl _)] at hz; exact hz)
  obtain ⟨D0, hD0⟩ : ∃ D : Nat, D = K - s.H.length := ⟨_, rfl⟩
  have hd1 : (K : Int) - (s.H.length : Int) = (D0 : Int) := by omega
  have hov : (0 : Int) < (D0 : Int) := by omega
  have HD0 := Lib.hid hD0
  have hmin : min (K : Int) (s.H.length : Int) = (s.H.length : Int) := by omega
  have hmn : s.H.length < K := hKg
  have hm0 : (0 : Int) ≤ (s.H.length : Int) := by omega
  have hm1 : (s.H.length : Int) ≤ (s.H.length : Int) := by omega
  have hPp : 0 < s.P.length := by
    have h2 := HT2.out
    rw [term_some] at h2
    have h3 := of_decide_eq_true h2
    omega
  have GP := Lib.hid HOK.out.gp
  have hgp1 : s.G.length ≤ s.P.length := by rw [GP.out]; exact Nat.le_refl _
  have hgp2 : s.P.length ≤ s.G.length := by rw [GP.out]; exact Nat.le_refl _
  clear hD0
  go_enter Tryz.func13, Tryz.ntmps13
  go_wp2_with fail
  have Bs1 : Bl w ((w.alloc (.cells #[.slice ah s.H.length ch, .slice ap s.P.length cp, .slice ag s.G.length cg] 26)).alloc (.cells #[.slice none 0 0, .slice none 0 0, .slice none 0 0] 26)) := (bl_alloc (bl_alloc (bl_refl _) _) _)
  have xX_s1 : Bx ((w.alloc (.cells #[.slice ah s.H.length ch, .slice ap s.P.length cp, .slice ag s.G.length cg] 26)).alloc (.cells #[.slice none 0 0, .slice none 0 0, .slice none 0 0] 26)) (w.heap.size) #[.slice ah s.H.length ch, .slice ap s.P.length cp, .slice ag s.G.length cg] := ((Bx.new (b := w.heap.size) _ #[.slice ah s.H.length ch, .slice ap s.P.length cp, .slice ag s.G.length cg] 26 (by first | rfl | simp)).alloc _)
  have xR_s1 : Bx ((w.alloc (.cells #[.slice ah s.H.length ch, .slice ap s.P.length cp, .slice ag s.G.length cg] 26)).alloc (.cells #[.slice none 0 0, .slice none 0 0, .slice none 0 0] 26)) (w.heap.size + 1) #[.slice none 0 0, .slice none 0 0, .slice none 0 0] := (Bx.new (b := w.heap.size + 1) _ #[.slice none 0 0, .slice none 0 0, .slice none 0 0] 26 (by first | rfl | simp))
  have zzs1 : w.heap.size + 2 ≤ ((w.alloc (.cells #[.slice ah s.H.length ch, .slice ap s.P.length cp, .slice ag s.G.length cg] 26)).alloc (.cells #[.slice none 0 0, .slice none 0 0, .slice none 0 0] 26)).heap.size := (by simp)
  generalize ((w.alloc (.cells #[.slice ah s.H.length ch, .slice ap s.P.length cp, .slice ag s.G.length cg] 26)).alloc (.cells #[.slice none 0 0, .slice none 0 0, .slice none 0 0] 26)) = ws1 at *
  obtain ⟨cX_s1, fX_s1, zX_s1⟩ := xX_s1.out
  obtain ⟨cR_s1, fR_s1, zR_s1⟩ := xR_s1.out
  refine (ivalid_eqKu E1.out _ (HS.out.below Bs1)).mono ?_
  rintro e ws2 ⟨rfl, hbs2⟩
  have Bs2 : Bl w ws2 := bl_call Bs1 hbs2
  have xX_s2 : Bx ws2 (w.heap.size) #[.slice ah s.H.length ch, .slice ap s.P.length cp, .slice ag s.G.length cg] := xX_s1.below hbs2
  have xR_s2 : Bx ws2 (w.heap.size + 1) #[.slice none 0 0, .slice none 0 0, .slice none 0 0] := xR_s1.below hbs2
  clear cX_s1 fX_s1 zX_s1 cR_s1 fR_s1 zR_s1
  obtain ⟨cX_s2, fX_s2, zX_s2⟩ := xX_s2.out
  obtain ⟨cR_s2, fR_s2, zR_s2⟩ := xR_s2.out
  go_wp2_with fail
  refine (inB_eqSKu E2.out _).mono ?_
  rintro e w9 ⟨rfl, rfl⟩
  go_wp2_with fail
  refine (iterm_eqKu HT.out _ (HS.out.below Bs2) HOK.out.okPer (by omega)).mono ?_
  rintro e ws3 ⟨rfl, hbs3⟩
  have Bs3 : Bl w ws3 := bl_call Bs2 hbs3
  have xX_s3 : Bx ws3 (w.heap.size) #[.slice ah s.H.length ch, .slice ap s.P.length cp, .slice ag s.G.length cg] := xX_s2.below hbs3
  have xR_s3 : Bx ws3 (w.heap.size + 1) #[.slice none 0 0, .slice none 0 0, .slice none 0 0] := xR_s2.below hbs3
  clear cX_s2 fX_s2 zX_s2 cR_s2 fR_s2 zR_s2
  obtain ⟨cX_s3, fX_s3, zX_s3⟩ := xX_s3.out
  obtain ⟨cR_s3, fR_s3, zR_s3⟩ := xR_s3.out
  go_wp2_with fail
  have hw3 := Bs3.size
  have RG := Reg.start (show Bl w ws3.drew from bl_drew Bs3)
  have xx := xX_s3.drew
  have rr := xR_s3.drew
  obtain ⟨B0, hB0⟩ : ∃ B, B = ws3.drew.heap.size := ⟨_, rfl⟩
  have HB0 := Lib.hid hB0
  have hB1 : w.heap.size + 2 ≤ B0 := by rw [hB0]; show _ ≤ ws3.heap.size; have := zzs1; have := hbs2.size; have := hbs3.size; omega
  rw [← hB0] at RG
  clear hB0
  have hB2 : w.heap.size < B0 := by omega
  have hs3a : ws3.heap.size ≠ w.heap.size := by have h1 := HB0.out; have h2 : ws3.drew.heap.size = ws3.heap.size := rfl; omega
  have hs3b := hs3a.symm
  go_cut [8] (fun s8 wx => Hid (SkO w B0 ⟨([] : List Int), s.P, s.G⟩ s8 wx) ∧ Bx wx (w.heap.size) #[.slice ah s.H.length ch, .slice ap s.P.length cp, .slice ag s.G.length cg] ∧ Bx wx (w.heap.size + 1) #[.slice none 0 0, .slice none 0 0, .slice none 0 0])
  case first =>
    clear cX_s3 fX_s3 zX_s3 cR_s3 fR_s3 zR_s3
    obtain ⟨cx, fx, zx⟩ := xx.out
    obtain ⟨cr, fr, zr⟩ := rr.out
    have hk1 : ∀ c o, (ws3.alloc c).cell? ⟨w.heap.size, o, none⟩ = (#[.slice ah s.H.length ch, .slice ap s.P.length cp, .slice ag s.G.length cg] : Array Value)[o]? := fun c o => (xx.alloc c).out.1 o
    have hk2 : ∀ c o, (ws3.alloc c).drew.cell? ⟨w.heap.size, o, none⟩ = (#[.slice ah s.H.length ch, .slice ap s.P.length cp, .slice ag s.G.length cg] : Array Value)[o]? := fun c o => (xx.alloc c).out.1 o
    go_region_held3 (fun w' => w'.cell? ⟨w.heap.size, 0, none⟩ = some (.slice ah s.H.length ch) ∧ w'.cell? ⟨w.heap.size, 1, none⟩ = some (.slice ap s.P.length cp) ∧ w'.cell? ⟨w.heap.size, 2, none⟩ = some (.slice ag s.G.length cg)) (first | (simp [*]; done) | (go_simp; done) | go_keep)
      ((first | (go_at_call 54; refine (sizeI_anyKu _ _ _ _ (by omega)).mono ?_; rintro e wv ⟨rfl, rfl⟩) | (go_at_call 53; refine (clone_any _ (s.P) _ (HS.out.2.1.below (by first | exact RG.bl | exact (RG.alloc _).bl)) (by (first | omega | (rw [List.length_drop]; omega) | (simp; done)))).mono ?_; rintro e wv ⟨a2, c2, rfl, OO, hbv⟩; (try simp only [List.length_drop, List.length_nil] at OO); have RG := (by first | exact RG.set 2 OO hbv | exact (RG.alloc _).set 2 OO hbv); have xx := (by first | exact xx.below hbv | exact (xx.alloc _).below hbv); have rr := (by first | exact rr.below hbv | exact (rr.alloc _).below hbv); clear OO hbv cx fx zx cr fr zr; obtain ⟨cx, fx, zx⟩ := xx.out; obtain ⟨cr, fr, zr⟩ := rr.out; (try (obtain ⟨co, fo, zo⟩ := (RG.bx _ rfl).1.out)); (try (have hb8 := (RG.bx _ rfl).2.1; have hb9 := Nat.ne_of_gt (Nat.lt_of_lt_of_le hB2 hb8); have hb10 := hb9.symm)); (try (have co2 : ∀ o, wv.cell? ⟨ws3.heap.size, o, none⟩ = (#[Value.slice none 0 0, .slice none 0 0, .slice none 0 0] : Array Value)[o]? := (RG.bx _ rfl).1.out.1; have fo2 : ∀ o, wv.frozen? ⟨ws3.heap.size, o, none⟩ = false := (RG.bx _ rfl).1.out.2.1))) | (go_at_call 53; refine (clone_any _ (s.G) _ (HS.out.2.2.below (by first | exact RG.bl | exact (RG.alloc _).bl)) (by (first | omega | (rw [List.length_drop]; omega) | (simp; done)))).mono ?_; rintro e wv ⟨a3, c3, rfl, OO, hbv⟩; (try simp only [List.length_drop, List.length_nil] at OO); have RG := (by first | exact RG.set 3 OO hbv | exact (RG.alloc _).set 3 OO hbv); have xx := (by first | exact xx.below hbv | exact (xx.alloc _).below hbv); have rr := (by first | exact rr.below hbv | exact (rr.alloc _).below hbv); clear OO hbv cx fx zx cr fr zr; obtain ⟨cx, fx, zx⟩ := xx.out; obtain ⟨cr, fr, zr⟩ := rr.out; (try (obtain ⟨co, fo, zo⟩ := (RG.bx _ rfl).1.out)); (try (have hb8 := (RG.bx _ rfl).2.1; have hb9 := Nat.ne_of_gt (Nat.lt_of_lt_of_le hB2 hb8); have hb10 := hb9.symm)); (try (have co2 : ∀ o, wv.cell? ⟨ws3.heap.size, o, none⟩ = (#[Value.slice none 0 0, .slice none 0 0, .slice none 0 0] : Array Value)[o]? := (RG.bx _ rfl).1.out.1; have fo2 : ∀ o, wv.frozen? ⟨ws3.heap.size, o, none⟩ = false := (RG.bx _ rfl).1.out.2.1))) | (go_at_call 53; refine (clone_any _ (([] : List Int)) _ (HSH.out.below (by first | exact RG.bl | exact (RG.alloc _).bl)) (by (first | omega | (rw [List.length_drop]; omega) | (simp; done)))).mono ?_; rintro e wv ⟨a1, c1, rfl, OO, hbv⟩; (try simp only [List.length_drop, List.length_nil] at OO); have RG := (by first | exact RG.set 1 OO hbv | exact (RG.alloc _).set 1 OO hbv); have xx := (by first | exact xx.below hbv | exact (xx.alloc _).below hbv); have rr := (by first | exact rr.below hbv | exact (rr.alloc _).below hbv); clear OO hbv cx fx zx cr fr zr; obtain ⟨cx, fx, zx⟩ := xx.out; obtain ⟨cr, fr, zr⟩ := rr.out; (try (obtain ⟨co, fo, zo⟩ := (RG.bx _ rfl).1.out)); (try (have hb8 := (RG.bx _ rfl).2.1; have hb9 := Nat.ne_of_gt (Nat.lt_of_lt_of_le hB2 hb8); have hb10 := hb9.symm)); (try (have co2 : ∀ o, wv.cell? ⟨ws3.heap.size, o, none⟩ = (#[Value.slice none 0 0, .slice none 0 0, .slice none 0 0] : Array Value)[o]? := (RG.bx _ rfl).1.out.1; have fo2 : ∀ o, wv.frozen? ⟨ws3.heap.size, o, none⟩ = false := (RG.bx _ rfl).1.out.2.1)))))
    all_goals (go_wp2_with fail; go_meet)
    all_goals first | exact ⟨Lib.hid (sko_new RG rfl rfl rfl), xx.alloc _, rr.alloc _⟩ | exact sko_done hB1 RG rfl rfl rfl xx rr | skip
  case rest =>
    obtain ⟨HSO, xX, rr⟩ := hcut
    obtain ⟨bo, v1, v2, v3, rfl, xO, hO, hNE, hbo, B4⟩ := HSO.out
    obtain ⟨w4, hw4⟩ : ∃ x : World, x = wc := ⟨_, rfl⟩
    rw [← hw4] at xX rr xO hO B4
    rw [← hw4]
    clear hw4 HSO
    obtain ⟨a1, c1, rfl, _⟩ := hO.1.form
    obtain ⟨a2, c2, rfl, _⟩ := hO.2.1.form
    obtain ⟨a3, c3, rfl, _⟩ := hO.2.2.1.form
    simp only [List.length_nil] at xO hO hNE
    have HO := Lib.hid hO
    have HNE := Lib.hid hNE
    clear hO hNE cX_s3 fX_s3 zX_s3 cR_s3 fR_s3 zR_s3
    obtain ⟨cx, fx, zx⟩ := xX.out
    obtain ⟨co, fo, zo⟩ := xO.out
    obtain ⟨cr, fr, zr⟩ := rr.out
    go_wp2_with fail
    refine (sizeI_anyKu _ _ _ _ (by omega)).mono ?_
    rintro e w9 ⟨rfl, rfl⟩
    go_wp2_with fail
    refine (sizeI_anyKu _ _ _ _ (by omega)).mono ?_
    rintro e w9 ⟨rfl, rfl⟩
    have hO := HO.out
    have hNE := HNE.out
    obtain ⟨g2, rfl, hg21, hg22⟩ := hO.2.1.addr hPp
    obtain ⟨g3, rfl, hg31, hg32⟩ := hO.2.2.1.addr (by show 0 < s.G.length; rw [HOK.out.gp]; exact hPp)
    have HNE := Lib.hid hNE
    have HAP := Lib.hid hO.2.2.2
    have HO1 := Lib.hid hO.1
    have HO2 := Lib.hid (show Own w4 w.heap.size (.slice (some ⟨g2, 0, none⟩) s.P.length c2) (mixF (fun i => (termP s (K + i)).1) s.P 0) by rw [mixF_zero]; exact hO.2.1)
    have HO3 := Lib.hid (show Own w4 w.heap.size (.slice (some ⟨g3, 0, none⟩) s.G.length c3) (mixF (grwF s K) s.G 0) by rw [mixF_zero]; exact hO.2.2.1)
    have n2 := hNE g2 (.inr (.inl rfl))
    have n3 := hNE g3 (.inr (.inr rfl))
    have n23 : g2 ≠ g3 := fun e => hO.2.2.2.2.2 g2 rfl (by rw [e]; rfl)
    clear hO hNE HO cx fx zx co fo zo cr fr zr
    obtain ⟨cx, fx, zx⟩ := xX.out
    obtain ⟨co, fo, zo⟩ := xO.out
    obtain ⟨cr, fr, zr⟩ := rr.out
    go_wp2_with fail
    clear cx fx zx co fo zo cr fr zr
    go_loopw [11, 58] (fun s11 s58 wr => ∃ i : Nat, s58 = .int .i64 i ∧ i ≤ s.P.length ∧ Bx wr bo #[.slice a1 0 c1, .slice (some ⟨g2, 0, none⟩) s.P.length c2, .slice (some ⟨g3, 0, none⟩) s.G.length c3] ∧ Bx wr (w.heap.size) #[.slice ah s.H.length ch, .slice ap s.P.length cp, .slice ag s.G.length cg] ∧ Bx wr (w.heap.size + 1) #[.slice none 0 0, .slice none 0 0, .slice none 0 0] ∧ Own wr w.heap.size (.slice a1 0 c1) [] ∧ Own wr w.heap.size (.slice (some ⟨g2, 0, none⟩) s.P.length c2) (mixF (fun i => (termP s (K + i)).1) s.P i) ∧ Own wr w.heap.size (.slice (some ⟨g3, 0, none⟩) s.G.length c3) (mixF (grwF s K) s.G i) ∧ Bl w wr) (fun _ s58 _ => s.P.length - (intOf s58).toNat)
    case atStart => exact ⟨0, rfl, by omega, xO, xX, rr, HO1.out, HO2.out, HO3.out, B4⟩
    case round =>
      obtain ⟨i, rfl, hi, yO, yX, yR, h1, h2, h3, Br⟩ := hrel
      have H1 := Lib.hid h1
      have H2 := Lib.hid h2
      have H3 := Lib.hid h3
      clear h1 h2 h3
      obtain ⟨cx, fx, zx⟩ := yX.out
      obtain ⟨co, fo, zo⟩ := yO.out
      obtain ⟨cr, fr, zr⟩ := yR.out
      by_cases hlt : i < s.P.length
      ·
        have hltI : (i : Int) < (s.P.length : Int) := by omega
        have hltG : i < s.G.length := by omega
        have hltG2 : (i : Int) < (s.G.length : Int) := by omega
        have hi0 : (0 : Int) ≤ (i : Int) := by omega
        obtain ⟨t2, bt2, hT2⟩ : ∃ t b, termP s (K + i) = (t, b) := ⟨_, _, rfl⟩
        have HTI := Lib.hid hT2
        have hrt : R64 t2 := by have := term_bdK HOK.out (k := K + i) (by omega); rw [hT2] at this; exact this
        clear hT2
        have hwK : IntKind.i64.wrap ((K : Int) + (i : Int)) = (K : Int) + (i : Int) := by rw [IntKind.wrap_i64]; omega
        obtain ⟨y2, _, cc2, ff2, _⟩ := H2.out.cellAt (j := i) (by rw [mixF_len (by omega)]; exact hlt)
        go_upto_region 15 with fail
        go_cut [] (fun wx => Bx wx bo #[.slice a1 0 c1, .slice (some ⟨g2, 0, none⟩) s.P.length c2, .slice (some ⟨g3, 0, none⟩) s.G.length c3] ∧ Bx wx (w.heap.size) #[.slice ah s.H.length ch, .slice ap s.P.length cp, .slice ag s.G.length cg] ∧ Bx wx (w.heap.size + 1) #[.slice none 0 0, .slice none 0 0, .slice none 0 0] ∧ Hid (Own wx w.heap.size (.slice a1 0 c1) [] ∧ Own wx w.heap.size (.slice (some ⟨g2, 0, none⟩) s.P.length c2) (mixF (fun i => (termP s (K + i)).1) s.P (i + 1)) ∧ Own wx w.heap.size (.slice (some ⟨g3, 0, none⟩) s.G.length c3) (mixF (grwF s K) s.G i)) ∧ Bl w wx)
        case first =>
          go_region_held3 (fun w' => w'.cell? ⟨bo, 0, none⟩ = some (.slice a1 0 c1) ∧ w'.cell? ⟨bo, 1, none⟩ = some (.slice (some ⟨g2, 0, none⟩) s.P.length c2) ∧ w'.cell? ⟨bo, 2, none⟩ = some (.slice (some ⟨g3, 0, none⟩) s.G.length c3) ∧ w'.cell? ⟨w.heap.size, 0, none⟩ = some (.slice ah s.H.length ch) ∧ w'.cell? ⟨w.heap.size, 1, none⟩ = some (.slice ap s.P.length cp) ∧ w'.cell? ⟨w.heap.size, 2, none⟩ = some (.slice ag s.G.length cg)) (first | (simp [*]; done) | (go_simp; done) | go_keep)
            ((go_at_call 47; refine (iterm_eqK HTI.out _ (HS.out.below (bl_drew Br)) HOK.out.okPer (by omega)).mono ?_; rintro e wv ⟨rfl, hbv⟩; have yO := yO.drew.below hbv; have yX := yX.drew.below hbv; have yR := yR.drew.below hbv; have H1 := Lib.hid (H1.out.drew.below hbv); have H2 := Lib.hid (H2.out.drew.below hbv); have H3 := Lib.hid (H3.out.drew.below hbv); have Br := bl_call (bl_drew Br) hbv; clear cx fx zx co fo zo cr fr zr cc2 ff2; obtain ⟨cx, fx, zx⟩ := yX.out; obtain ⟨co, fo, zo⟩ := yO.out; obtain ⟨cr, fr, zr⟩ := yR.out; obtain ⟨y2', _, cc2, ff2, _⟩ := H2.out.cellAt (j := i) (by rw [mixF_len (by omega)]; exact hlt)))
          all_goals (go_wp2_with fail; go_meet)
          all_goals
            have hSet := H2.out.stored i t2 hrt
            have hms : (mixF (fun i => (termP s (K + i)).1) s.P i).set i t2 = mixF (fun i => (termP s (K + i)).1) s.P (i + 1) := by rw [← mixF_set hlt, HTI.out]
            rw [hms] at hSet
            have u := upd_set (upd_refl wv g2) i (.int .i64 t2)
            exact ⟨yO.upd u (by omega), yX.upd u (by omega), yR.upd u (by omega), Lib.hid ⟨H1.out.upd u (fun q => HAP.out.1 g2 q rfl), hSet.1, H3.out.upd u (fun q => by injection q with q; exact n23 q.symm)⟩, bl_upd Br u (by omega)⟩
        case rest =>
          obtain ⟨yO, yX, yR, HH, Br⟩ := hcut
          obtain ⟨w5, hw5⟩ : ∃ x : World, x = wc := ⟨_, rfl⟩
          rw [← hw5] at yO yX yR HH Br
          rw [← hw5]
          clear hw5 cx fx zx co fo zo cr fr zr cc2 ff2
          obtain ⟨cx, fx, zx⟩ := yX.out
          obtain ⟨co, fo, zo⟩ := yO.out
          obtain ⟨cr, fr, zr⟩ := yR.out
          obtain ⟨j, hj⟩ : ∃ j : Nat, j = (D0 + i) % s.P.length := ⟨_, rfl⟩
          have hjm : j < s.P.length := by rw [hj]; exact Nat.mod_lt _ (by omega)
          have hjg : j < s.G.length := by omega
          obtain ⟨tb, tof, rfl, y, hy, hcy, hry⟩ := HS.out.2.2.cellAtU Br (k := j) hjg
          have HGY := Lib.hid (show grwF s K i = y by rw [grwF, ← HD0.out, ← hj, List.getD_eq_getElem?_getD, hy]; rfl)
          have hd2 : ((D0 : Int) + (i : Int)).tmod (s.P.length : Int) = (j : Int) := by rw [Int.tmod_eq_emod_of_nonneg (by omega), hj, Int.natCast_emod, Int.natCast_add]
          have hd3 : ((D0 : Int) + (i : Int)) % (s.P.length : Int) = (j : Int) := by rw [hj, Int.natCast_emod, Int.natCast_add]
          have hj1 : (j : Int) < (s.G.length : Int) := by omega
          have hD1 : (D0 : Int) ≤ 1000 := by omega
          have hPne : ¬ s.P = [] := fun e => by rw [e] at hlt; simp at hlt
          have hPn0 : ((s.P.length : Int) == 0) = false := by rw [beq_eq_false_iff_ne]; omega
          have hw2 : IntKind.i64.wrap ((D0 : Int) + (i : Int)) = (D0 : Int) + (i : Int) := by rw [IntKind.wrap_i64]; omega
          obtain ⟨y3, _, cc3, ff3, _⟩ := HH.out.2.2.cellAt (j := i) (by rw [mixF_len (by omega)]; exact hltG)
          clear hy hj
          have hSet := HH.out.2.2.stored i y hry
          have hms : (mixF (grwF s K) s.G i).set i y = mixF (grwF s K) s.G (i + 1) := by rw [← mixF_set hltG, HGY.out]
          rw [hms] at hSet
          have HSET := Lib.hid hSet
          have u := upd_set (upd_refl w5 g3) i (.int .i64 y)
          have zO := Lib.hid (yO.upd u (by omega)).drew
          have zX := Lib.hid (yX.upd u (by omega)).drew
          have zR := Lib.hid (yR.upd u (by omega)).drew
          have z1 := Lib.hid (HH.out.1.upd u (fun q => HAP.out.2.1 g3 q rfl)).drew
          have z2 := Lib.hid (HH.out.2.1.upd u (fun q => by injection q with q; exact n23 q)).drew
          have z3 := Lib.hid HSET.out.1.drew
          have zB := Lib.hid (bl_drew (bl_upd Br u (by omega)))
          clear hSet hms u
          go_upto_region 16 with fail
          go_region
          all_goals
            go_wp2
            go_roundw
            case rel => exact ⟨i + 1, by go_num, by omega, zO.out, zX.out, zR.out, z1.out, z2.out, z3.out, zB.out⟩
            case measure => simp only [intOf, Int.toNat_natCast]; omega
      ·
        have hltI : ¬ (i : Int) < (s.P.length : Int) := by omega
        obtain rfl : i = s.P.length := by omega
        have HOUT := Lib.hid (out_far hKg)
        have HTS := HT2.out
        have e2 : mixF (fun i => (termP s (K + i)).1) s.P s.P.length = preF (fun i => (termP s (K + i)).1) s.P.length := mixF_all _ _
        have e3 : mixF (grwF s K) s.G s.P.length = preF (grwF s K) s.P.length := by rw [← GP.out]; exact mixF_all _ _
        have H2 := Lib.hid (show Own wr w.heap.size (.slice (some ⟨g2, 0, none⟩) s.P.length c2) (outF s K).P by rw [HOUT.out]; show Own _ _ _ (preF _ _); rw [← e2]; exact H2.out)
        have H3 := Lib.hid (show Own wr w.heap.size (.slice (some ⟨g3, 0, none⟩) s.G.length c3) (outF s K).G by rw [HOUT.out]; show Own _ _ _ (preF _ _); rw [← e3]; exact H3.out)
        have H1 := Lib.hid (show Own wr w.heap.size (.slice a1 0 c1) (outF s K).H by rw [HOUT.out]; exact H1.out)
        have HSL : SlS wr (.slice a1 0 c1) (.slice (some ⟨g2, 0, none⟩) s.P.length c2) (.slice (some ⟨g3, 0, none⟩) s.G.length c3) (outF s K) := ⟨H1.out.sl, H2.out.sl, H3.out.sl⟩
        clear e2 e3
        cases hok : okSrc (outF s K) with
        | false =>
          have HR := Lib.hid (skip_5 E1.out E2.out HTS hok)
          have EO := Lib.hid hok
          clear hok HTS
          go_wp2_with fail
          refine (ivalid_eqKu EO.out _ HSL).mono ?_
          rintro e w5 ⟨rfl, hb5⟩
          have rr5 := yR.below hb5
          have B5 := bl_call Br hb5
          clear cx fx zx co fo zo cr fr zr
          obtain ⟨cr, fr, zr⟩ := rr5.out
          have u := upd_set (upd_set (upd_set (upd_refl w5 (w.heap.size + 1)) 0 (.slice none 0 0)) 1 (.slice none 0 0)) 2 (.slice none 0 0)
          have BF := bl_upd B5 u (by omega)
          go_wp2
          refine bodyPost_ret (v := .tuple #[.agg #[.slice none 0 0, .slice none 0 0, .slice none 0 0], .int .i64 5]) (by simp only [results, Tryz.results13]; go_simp) rfl ?_
          refine skp_no HR.out ?_
          repeat first | (with_reducible assumption) | (with_reducible exact bl_refl _) | (with_reducible refine bl_alloc ?_ _) | (with_reducible refine bl_dN ?_ _) | (with_reducible refine bl_set ?_ (by first | exact Nat.le_refl _ | omega | (simp; done) | (simp; omega)) _)
        | true =>
          have HR := Lib.hid (skip_0 E1.out E2.out HTS hok)
          have EO := Lib.hid hok
          clear hok HTS
          go_wp2_with fail
          refine (ivalid_eqKu EO.out _ HSL).mono ?_
          rintro e w5 ⟨rfl, hb5⟩
          have xO5 := yO.below hb5
          have rr5 := yR.below hb5
          have B5 := bl_call Br hb5
          clear cx fx zx co fo zo cr fr zr
          obtain ⟨co, fo, zo⟩ := xO5.out
          obtain ⟨cr, fr, zr⟩ := rr5.out
          have u := upd_set (upd_set (upd_set (upd_refl w5 (w.heap.size + 1)) 0 (.slice a1 0 c1)) 1 (.slice (some ⟨g2, 0, none⟩) s.P.length c2)) 2 (.slice (some ⟨g3, 0, none⟩) s.G.length c3)
          have HF := Lib.hid (show OwnS _ w.heap.size (.slice a1 0 c1) (.slice (some ⟨g2, 0, none⟩) s.P.length c2) (.slice (some ⟨g3, 0, none⟩) s.G.length c3) (outF s K) from
            ⟨(H1.out.below hb5).upd u (fun q => by have := (HNE.out _ (.inl q)).2; omega), (H2.out.below hb5).upd u (fun q => by have := (HNE.out _ (.inr (.inl q))).2; omega), (H3.out.below hb5).upd u (fun q => by have := (HNE.out _ (.inr (.inr q))).2; omega), HAP.out.1, HAP.out.2.1, HAP.out.2.2⟩)
          have BF := bl_upd B5 u (by omega)
          go_wp2
          refine bodyPost_ret (v := .tuple #[.agg #[.slice a1 0 c1, .slice (some ⟨g2, 0, none⟩) s.P.length c2, .slice (some ⟨g3, 0, none⟩) s.G.length c3], .int .i64 0]) (by simp only [results, Tryz.results13]; go_simp) rfl ?_
          exact skp_yes HR.out HF.out BF

end Go.Proofs.YtndblondleclpaaGreatDoor
