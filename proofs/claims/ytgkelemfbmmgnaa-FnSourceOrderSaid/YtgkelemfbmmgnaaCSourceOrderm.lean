/- FnSourceOrder holds: comparisons are opposite in the other direction, the sorted order ascends, and the least source is its first one. Conditions: none. -/
import Derived.Test.YtgkelemfbmmgnaaOpenB
import Derived.Test.YtgkelemfbmmgnaaSdVm
import Derived.Test.YtgkelemfbmmgnaaMO9
import Derived.Test.YtgkelemfbmmgnaaMO8
import Derived.Test.YtgkelemfbmmgnaaMO6
import Derived.Test.YtgkelemfbmmgnaaMO7
import Derived.BigQuiet
import Derived.StillTailTactics
import Derived.Deep.DeepCutAuto
namespace Go.Proofs.Ytgkelemfbmmgnaa
open Go.RowKit Go.ChangeShapes Go.WideShapes Go.ChangeAt
set_option linter.unusedVariables false
set_option linter.unusedSimpArgs false

theorem f6_selfO {va vb : Value} {xs : List Int} (w : World) (ha : Sl w va xs) (hb : Sl w vb xs) : Calls Try.prog 20 #[va, vb] w fun e w' => e = .returned (.bool true) ∧ Bl w w' :=
  (f6ints_any va vb xs xs w ha hb).mono fun _ _ q => ⟨by rw [q.1]; simp, by obtain ⟨n, e⟩ := q.2; rw [e]; exact Drawn.below ⟨n, rfl⟩ _⟩
theorem sl_twoO {w w' : World} {a : Option Addr} {n c : Nat} {xs : List Int} (h : Sl w (.slice a n c) xs) (hb : Bl w w') {i : Nat} (hi : i < xs.length) :
    ∃ b o, a = some ⟨b, o, none⟩ ∧ ∀ (j : Nat) (y : Int), xs[j]? = some y → w'.cell? ⟨b, o + j, none⟩ = some (.int .i64 y) := by
  obtain ⟨a', cap, e, h1, h2, h3, h4, h5⟩ := h
  injection e with e1 e2 e3
  subst e1 e2 e3
  rcases h5 with h5 | ⟨b, off, rfl, hc⟩
  · rw [h5] at hi; simp at hi
  · exact ⟨b, off, rfl, fun j y hy => (hb.cell (p := ⟨b, off + j, none⟩) (cell_lt (hc j y hy))).trans (hc j y hy)⟩
theorem icsO {h p g h' p' g' : Value} {s t : Src} {m a c : Int} (e : cmpSrcF s t m = (a, c)) (w : World) (hs : SlS w h p g s) (ht : SlS w h' p' g' t) : Calls Try.prog 7 #[.agg #[h, p, g], .agg #[h', p', g'], .int .i64 m] w fun r w' => r = .returned (.tuple #[.int .i64 a, .int .i64 c]) ∧ Bl w w' :=
  (impl_CompareSources h p g s h' p' g' t m w hs ht).mono fun _ _ q => by rw [e] at q; exact q
theorem scsO {h p g h' p' g' : Value} {s t : Src} {m a c : Int} (e : cmpSrcF s t m = (a, c)) (w : World) (hs : SlS w h p g s) (ht : SlS w h' p' g' t) : Calls Try.prog 8 #[.agg #[h, p, g], .agg #[h', p', g'], .int .i64 m] w fun r w' => r = .returned (.tuple #[.int .i64 a, .int .i64 c]) ∧ Bl w w' :=
  (spec_CompareSources h p g s h' p' g' t m w hs ht).mono fun _ _ q => by rw [e] at q; exact q
theorem ieqO {h p g h' p' g' : Value} {s t : Src} {b : Bool} {c : Int} (e : eqSrcF s t = (b, c)) (w : World) (hs : SlS w h p g s) (ht : SlS w h' p' g' t) : Calls Try.prog 15 #[.agg #[h, p, g], .agg #[h', p', g']] w fun r w' => r = .returned (.tuple #[.bool b, .int .i64 c]) ∧ Bl w w' :=
  (impl_EqualSources h p g s h' p' g' t w hs ht).mono fun _ _ q => by rw [e] at q; exact q
theorem seqO {h p g h' p' g' : Value} {s t : Src} {b : Bool} {c : Int} (e : eqSrcF s t = (b, c)) (w : World) (hs : SlS w h p g s) (ht : SlS w h' p' g' t) : Calls Try.prog 16 #[.agg #[h, p, g], .agg #[h', p', g']] w fun r w' => r = .returned (.tuple #[.bool b, .int .i64 c]) ∧ Bl w w' :=
  (spec_EqualSources h p g s h' p' g' t w hs ht).mono fun _ _ q => by rw [e] at q; exact q
theorem istO {h p g h' p' g' : Value} {s t : Src} {m a c : Int} (e : sameF s t m = (a, c)) (w : World) (hs : SlS w h p g s) (ht : SlS w h' p' g' t) : Calls Try.prog 18 #[.agg #[h, p, g], .agg #[h', p', g'], .int .i64 m] w fun r w' => r = .returned (.tuple #[.int .i64 a, .int .i64 c]) ∧ Bl w w' :=
  (impl_SameTerms h p g s h' p' g' t m w hs ht).mono fun _ _ q => by rw [e] at q; exact q
theorem sstO {h p g h' p' g' : Value} {s t : Src} {m a c : Int} (e : sameF s t m = (a, c)) (w : World) (hs : SlS w h p g s) (ht : SlS w h' p' g' t) : Calls Try.prog 19 #[.agg #[h, p, g], .agg #[h', p', g'], .int .i64 m] w fun r w' => r = .returned (.tuple #[.int .i64 a, .int .i64 c]) ∧ Bl w w' :=
  (spec_SameTerms h p g s h' p' g' t m w hs ht).mono fun _ _ q => by rw [e] at q; exact q
theorem ilsO {va : Value} {ss : List Src} {m a c : Int} (e : leastF ss m = (a, c)) (w : World) (ha : SlL w va ss) : Calls Try.prog 12 #[va, .int .i64 m] w fun r w' => r = .returned (.tuple #[.int .i64 a, .int .i64 c]) ∧ Bl w w' :=
  (impl_LeastSource va ss m w ha).mono fun _ _ q => by rw [e] at q; exact q
theorem slsO {va : Value} {ss : List Src} {m a c : Int} (e : leastF ss m = (a, c)) (w : World) (ha : SlL w va ss) : Calls Try.prog 13 #[va, .int .i64 m] w fun r w' => r = .returned (.tuple #[.int .i64 a, .int .i64 c]) ∧ Bl w w' :=
  (spec_LeastSource va ss m w ha).mono fun _ _ q => by rw [e] at q; exact q
theorem isoO {va : Value} {ss : List Src} {m c : Int} {L : List Int} (e : sortF ss m = (L, c)) (w : World) (ha : SlL w va ss) : Calls Try.prog 10 #[va, .int .i64 m] w fun r w' => ∃ av cv, r = .returned (.tuple #[.slice av L.length cv, .int .i64 c]) ∧ Own w' w.heap.size (.slice av L.length cv) L ∧ Bl w w' :=
  (impl_SortSources va ss m w ha).mono fun _ _ ⟨a1, n1, c1, q1, q2, q3⟩ => by
    rw [e] at q1 q2
    obtain ⟨a2, c2, e2, _⟩ := q2.form
    injection e2 with h1 h2 h3
    subst h1; subst h2; subst h3
    exact ⟨_, _, q1, q2, q3⟩
theorem ssoO {va : Value} {ss : List Src} {m c : Int} {L : List Int} (e : sortF ss m = (L, c)) (w : World) (ha : SlL w va ss) : Calls Try.prog 11 #[va, .int .i64 m] w fun r w' => ∃ av cv, r = .returned (.tuple #[.slice av L.length cv, .int .i64 c]) ∧ Own w' w.heap.size (.slice av L.length cv) L ∧ Bl w w' :=
  (spec_SortSources va ss m w ha).mono fun _ _ ⟨a1, n1, c1, q1, q2, q3⟩ => by
    rw [e] at q1 q2
    obtain ⟨a2, c2, e2, _⟩ := q2.form
    injection e2 with h1 h2 h3
    subst h1; subst h2; subst h3
    exact ⟨_, _, q1, q2, q3⟩
set_option maxRecDepth 100000 in
set_option maxHeartbeats 51200000 in
theorem lawSourceOrder (v0 : Value) (x0 : List Int) (w : World) (S0 : SlB w v0 x0) :
    Calls Try.prog 3 #[v0] w fun e w' => e = .returned (.bool true) ∧ Bl w w' := by
  have H0 := Lib.hid S0
  obtain ⟨a0, c0, rfl, _⟩ := S0.form
  clear S0
  by_cases hl : 4096 < x0.length
  · have hL := Lib.hid (decide_eq_true hl)
    clear hl
    go_enter Try.func3, Try.ntmps3
    go_wp2_with fail
    refine (f6big_any H0.out).mono ?_
    rintro e w9 ⟨rfl, rfl⟩
    rw [hL.out]
    go_wp2
    go_ret
    exact ⟨rfl, bl_refl _⟩
  · have hL := Lib.hid (decide_eq_false hl)
    have hl0 : x0.length ≤ 4096 := by omega
    clear hl
    go_enter Try.func3, Try.ntmps3
    go_wp2_with fail
    refine (f6big_any H0.out).mono ?_
    rintro e w9 ⟨rfl, rfl⟩
    rw [hL.out]
    go_wp2_with fail
    refine (dcomp_any H0.out hl0).mono ?_
    rintro e w1 ⟨h1, p1, g1, s1, h2, p2, g2, s2, mm1, rfl, O1, O2, hb1⟩
    have B1 : Bl w w1 := bl_call (bl_refl _) hb1
    obtain ⟨⟨a1, m1, k1, rfl⟩, ⟨b1, n1, l1, rfl⟩, ⟨c1, o1, q1, rfl⟩⟩ := slS_shape O1
    have O1 := Lib.hid O1
    obtain ⟨⟨a2, m2, k2, rfl⟩, ⟨b2, n2, l2, rfl⟩, ⟨c2, o2, q2, rfl⟩⟩ := slS_shape O2
    have O2 := Lib.hid O2
    go_wp2_with fail
    have B2 : Bl w ((w1.alloc (.cells #[.slice a1 m1 k1, .slice b1 n1 l1, .slice c1 o1 q1] 26)).alloc (.cells #[.slice a2 m2 k2, .slice b2 n2 l2, .slice c2 o2 q2] 26)) := (bl_alloc (bl_alloc B1 _) _)
    have xA_2 : Bx ((w1.alloc (.cells #[.slice a1 m1 k1, .slice b1 n1 l1, .slice c1 o1 q1] 26)).alloc (.cells #[.slice a2 m2 k2, .slice b2 n2 l2, .slice c2 o2 q2] 26)) (w1.heap.size) #[.slice a1 m1 k1, .slice b1 n1 l1, .slice c1 o1 q1] := ((Bx.new (b := w1.heap.size) _ #[.slice a1 m1 k1, .slice b1 n1 l1, .slice c1 o1 q1] 26 (by first | rfl | simp)).alloc _)
    have xB_2 : Bx ((w1.alloc (.cells #[.slice a1 m1 k1, .slice b1 n1 l1, .slice c1 o1 q1] 26)).alloc (.cells #[.slice a2 m2 k2, .slice b2 n2 l2, .slice c2 o2 q2] 26)) (w1.heap.size + 1) #[.slice a2 m2 k2, .slice b2 n2 l2, .slice c2 o2 q2] := (Bx.new (b := w1.heap.size + 1) _ #[.slice a2 m2 k2, .slice b2 n2 l2, .slice c2 o2 q2] 26 (by first | rfl | simp))
    have zz2 : w1.heap.size + 2 ≤ ((w1.alloc (.cells #[.slice a1 m1 k1, .slice b1 n1 l1, .slice c1 o1 q1] 26)).alloc (.cells #[.slice a2 m2 k2, .slice b2 n2 l2, .slice c2 o2 q2] 26)).heap.size := (by simp)
    have O1 : Hid (SlS ((w1.alloc (.cells #[.slice a1 m1 k1, .slice b1 n1 l1, .slice c1 o1 q1] 26)).alloc (.cells #[.slice a2 m2 k2, .slice b2 n2 l2, .slice c2 o2 q2] 26)) (.slice a1 m1 k1) (.slice b1 n1 l1) (.slice c1 o1 q1) s1) := Lib.hid (O1.out.below (bl_alloc (bl_alloc (bl_refl w1) _) _))
    have O2 : Hid (SlS ((w1.alloc (.cells #[.slice a1 m1 k1, .slice b1 n1 l1, .slice c1 o1 q1] 26)).alloc (.cells #[.slice a2 m2 k2, .slice b2 n2 l2, .slice c2 o2 q2] 26)) (.slice a2 m2 k2) (.slice b2 n2 l2) (.slice c2 o2 q2) s2) := Lib.hid (O2.out.below (bl_alloc (bl_alloc (bl_refl w1) _) _))
    generalize ((w1.alloc (.cells #[.slice a1 m1 k1, .slice b1 n1 l1, .slice c1 o1 q1] 26)).alloc (.cells #[.slice a2 m2 k2, .slice b2 n2 l2, .slice c2 o2 q2] 26)) = w2 at *
    obtain ⟨cA_2, fA_2, zA_2⟩ := xA_2.out
    obtain ⟨cB_2, fB_2, zB_2⟩ := xB_2.out
    obtain ⟨⟨x1, y1⟩, hx1⟩ : ∃ X, cmpSrcF s1 s2 mm1 = X := ⟨_, rfl⟩
    have HX1 := Lib.hid hx1
    clear hx1
    have hneg : IntKind.i64.wrap (-x1) = -x1 := by have := cmpSrc_or HX1.out; rw [IntKind.wrap_i64]; omega
    go_wp2_with fail
    refine (icsO HX1.out _ O1.out O2.out).mono ?_
    rintro e w3 ⟨rfl, hb3⟩
    have B3 : Bl w w3 := bl_call B2 hb3
    have xA_3 : Bx w3 (w1.heap.size) #[.slice a1 m1 k1, .slice b1 n1 l1, .slice c1 o1 q1] := xA_2.below hb3
    have xB_3 : Bx w3 (w1.heap.size + 1) #[.slice a2 m2 k2, .slice b2 n2 l2, .slice c2 o2 q2] := xB_2.below hb3
    clear cA_2 fA_2 zA_2 cB_2 fB_2 zB_2
    obtain ⟨cA_3, fA_3, zA_3⟩ := xA_3.out
    obtain ⟨cB_3, fB_3, zB_3⟩ := xB_3.out
    have O1 : Hid (SlS w3 (.slice a1 m1 k1) (.slice b1 n1 l1) (.slice c1 o1 q1) s1) := Lib.hid ((O1.out.below (bl_refl w2)).below hb3)
    have O2 : Hid (SlS w3 (.slice a2 m2 k2) (.slice b2 n2 l2) (.slice c2 o2 q2) s2) := Lib.hid ((O2.out.below (bl_refl w2)).below hb3)
    go_wp2_with fail
    refine (scsO HX1.out _ O1.out O2.out).mono ?_
    rintro e w4 ⟨rfl, hb4⟩
    have B4 : Bl w w4 := bl_call B3 hb4
    have xA_4 : Bx w4 (w1.heap.size) #[.slice a1 m1 k1, .slice b1 n1 l1, .slice c1 o1 q1] := xA_3.below hb4
    have xB_4 : Bx w4 (w1.heap.size + 1) #[.slice a2 m2 k2, .slice b2 n2 l2, .slice c2 o2 q2] := xB_3.below hb4
    clear cA_3 fA_3 zA_3 cB_3 fB_3 zB_3
    obtain ⟨cA_4, fA_4, zA_4⟩ := xA_4.out
    obtain ⟨cB_4, fB_4, zB_4⟩ := xB_4.out
    have O1 : Hid (SlS w4 (.slice a1 m1 k1) (.slice b1 n1 l1) (.slice c1 o1 q1) s1) := Lib.hid ((O1.out.below (bl_refl w3)).below hb4)
    have O2 : Hid (SlS w4 (.slice a2 m2 k2) (.slice b2 n2 l2) (.slice c2 o2 q2) s2) := Lib.hid ((O2.out.below (bl_refl w3)).below hb4)
    go_wp2_with fail
    refine (icsO (cmpSrc_back HX1.out) _ O2.out O1.out).mono ?_
    rintro e w5 ⟨rfl, hb5⟩
    have B5 : Bl w w5 := bl_call B4 hb5
    have xA_5 : Bx w5 (w1.heap.size) #[.slice a1 m1 k1, .slice b1 n1 l1, .slice c1 o1 q1] := xA_4.below hb5
    have xB_5 : Bx w5 (w1.heap.size + 1) #[.slice a2 m2 k2, .slice b2 n2 l2, .slice c2 o2 q2] := xB_4.below hb5
    clear cA_4 fA_4 zA_4 cB_4 fB_4 zB_4
    obtain ⟨cA_5, fA_5, zA_5⟩ := xA_5.out
    obtain ⟨cB_5, fB_5, zB_5⟩ := xB_5.out
    have O1 : Hid (SlS w5 (.slice a1 m1 k1) (.slice b1 n1 l1) (.slice c1 o1 q1) s1) := Lib.hid ((O1.out.below (bl_refl w4)).below hb5)
    have O2 : Hid (SlS w5 (.slice a2 m2 k2) (.slice b2 n2 l2) (.slice c2 o2 q2) s2) := Lib.hid ((O2.out.below (bl_refl w4)).below hb5)
    clear O1 O2
    have H2 := Lib.hid (H0.out.below B5)
    go_wp2_with fail
    refine (dsort_any H2.out hl0).mono ?_
    rintro e w6 ⟨vL, ss, by_, rfl, SL, hb6⟩
    have B6 : Bl w w6 := bl_call B5 hb6
    have xA_6 : Bx w6 (w1.heap.size) #[.slice a1 m1 k1, .slice b1 n1 l1, .slice c1 o1 q1] := xA_5.below hb6
    have xB_6 : Bx w6 (w1.heap.size + 1) #[.slice a2 m2 k2, .slice b2 n2 l2, .slice c2 o2 q2] := xB_5.below hb6
    clear cA_5 fA_5 zA_5 cB_5 fB_5 zB_5
    obtain ⟨cA_6, fA_6, zA_6⟩ := xA_6.out
    obtain ⟨cB_6, fB_6, zB_6⟩ := xB_6.out
    obtain ⟨aL, cL, rfl, _⟩ := SL.form
    have SL := Lib.hid SL
    obtain ⟨⟨L, y2⟩, hx2⟩ : ∃ X, sortF ss by_ = X := ⟨_, rfl⟩
    have HX2 := Lib.hid hx2
    clear hx2
    obtain ⟨⟨x3, y3⟩, hx3⟩ : ∃ X, leastF ss by_ = X := ⟨_, rfl⟩
    have HX3 := Lib.hid hx3
    clear hx3
    go_wp2_with fail
    refine (isoO HX2.out _ SL.out).mono ?_
    rintro e w7 ⟨av1, cv1, rfl, L1, hb7⟩
    have B7 : Bl w w7 := bl_call B6 hb7
    have xA_7 : Bx w7 (w1.heap.size) #[.slice a1 m1 k1, .slice b1 n1 l1, .slice c1 o1 q1] := xA_6.below hb7
    have xB_7 : Bx w7 (w1.heap.size + 1) #[.slice a2 m2 k2, .slice b2 n2 l2, .slice c2 o2 q2] := xB_6.below hb7
    clear cA_6 fA_6 zA_6 cB_6 fB_6 zB_6
    obtain ⟨cA_7, fA_7, zA_7⟩ := xA_7.out
    obtain ⟨cB_7, fB_7, zB_7⟩ := xB_7.out
    have SL : Hid (SlL w7 (.slice aL ss.length cL) ss) := Lib.hid ((SL.out.below (bl_refl w6)).below hb7)
    have L1 := Lib.hid L1.sl
    go_wp2_with fail
    refine (ssoO HX2.out _ SL.out).mono ?_
    rintro e w8 ⟨av2, cv2, rfl, L2, hb8⟩
    have B8 : Bl w w8 := bl_call B7 hb8
    have xA_8 : Bx w8 (w1.heap.size) #[.slice a1 m1 k1, .slice b1 n1 l1, .slice c1 o1 q1] := xA_7.below hb8
    have xB_8 : Bx w8 (w1.heap.size + 1) #[.slice a2 m2 k2, .slice b2 n2 l2, .slice c2 o2 q2] := xB_7.below hb8
    clear cA_7 fA_7 zA_7 cB_7 fB_7 zB_7
    obtain ⟨cA_8, fA_8, zA_8⟩ := xA_8.out
    obtain ⟨cB_8, fB_8, zB_8⟩ := xB_8.out
    have SL : Hid (SlL w8 (.slice aL ss.length cL) ss) := Lib.hid ((SL.out.below (bl_refl w7)).below hb8)
    have L1 : Hid (Sl w8 (.slice av1 L.length cv1) L) := Lib.hid ((L1.out.below (bl_refl w7)).below hb8)
    have L2 := Lib.hid L2.sl
    go_wp2_with fail
    refine (ilsO HX3.out _ SL.out).mono ?_
    rintro e w9 ⟨rfl, hb9⟩
    have B9 : Bl w w9 := bl_call B8 hb9
    have xA_9 : Bx w9 (w1.heap.size) #[.slice a1 m1 k1, .slice b1 n1 l1, .slice c1 o1 q1] := xA_8.below hb9
    have xB_9 : Bx w9 (w1.heap.size + 1) #[.slice a2 m2 k2, .slice b2 n2 l2, .slice c2 o2 q2] := xB_8.below hb9
    clear cA_8 fA_8 zA_8 cB_8 fB_8 zB_8
    obtain ⟨cA_9, fA_9, zA_9⟩ := xA_9.out
    obtain ⟨cB_9, fB_9, zB_9⟩ := xB_9.out
    have SL : Hid (SlL w9 (.slice aL ss.length cL) ss) := Lib.hid ((SL.out.below (bl_refl w8)).below hb9)
    have L1 : Hid (Sl w9 (.slice av1 L.length cv1) L) := Lib.hid ((L1.out.below (bl_refl w8)).below hb9)
    have L2 : Hid (Sl w9 (.slice av2 L.length cv2) L) := Lib.hid ((L2.out.below (bl_refl w8)).below hb9)
    go_wp2_with fail
    refine (slsO HX3.out _ SL.out).mono ?_
    rintro e w10 ⟨rfl, hb10⟩
    have B10 : Bl w w10 := bl_call B9 hb10
    have xA_10 : Bx w10 (w1.heap.size) #[.slice a1 m1 k1, .slice b1 n1 l1, .slice c1 o1 q1] := xA_9.below hb10
    have xB_10 : Bx w10 (w1.heap.size + 1) #[.slice a2 m2 k2, .slice b2 n2 l2, .slice c2 o2 q2] := xB_9.below hb10
    clear cA_9 fA_9 zA_9 cB_9 fB_9 zB_9
    obtain ⟨cA_10, fA_10, zA_10⟩ := xA_10.out
    obtain ⟨cB_10, fB_10, zB_10⟩ := xB_10.out
    have SL : Hid (SlL w10 (.slice aL ss.length cL) ss) := Lib.hid ((SL.out.below (bl_refl w9)).below hb10)
    have L1 : Hid (Sl w10 (.slice av1 L.length cv1) L) := Lib.hid ((L1.out.below (bl_refl w9)).below hb10)
    have L2 : Hid (Sl w10 (.slice av2 L.length cv2) L) := Lib.hid ((L2.out.below (bl_refl w9)).below hb10)
    have HH3 := Lib.hid (H0.out.below B10)
    go_wp2_with fail
    refine (dequ_any HH3.out hl0).mono ?_
    rintro e w11 ⟨h3, p3, g3, s3, h4, p4, g4, s4, rfl, O3, O4, hb11⟩
    have B11 : Bl w w11 := bl_call B10 hb11
    have xA_11 : Bx w11 (w1.heap.size) #[.slice a1 m1 k1, .slice b1 n1 l1, .slice c1 o1 q1] := xA_10.below hb11
    have xB_11 : Bx w11 (w1.heap.size + 1) #[.slice a2 m2 k2, .slice b2 n2 l2, .slice c2 o2 q2] := xB_10.below hb11
    clear cA_10 fA_10 zA_10 cB_10 fB_10 zB_10
    obtain ⟨cA_11, fA_11, zA_11⟩ := xA_11.out
    obtain ⟨cB_11, fB_11, zB_11⟩ := xB_11.out
    have SL : Hid (SlL w11 (.slice aL ss.length cL) ss) := Lib.hid ((SL.out.below (bl_refl w10)).below hb11)
    have L1 : Hid (Sl w11 (.slice av1 L.length cv1) L) := Lib.hid ((L1.out.below (bl_refl w10)).below hb11)
    have L2 : Hid (Sl w11 (.slice av2 L.length cv2) L) := Lib.hid ((L2.out.below (bl_refl w10)).below hb11)
    obtain ⟨⟨a3, m3, k3, rfl⟩, ⟨b3, n3, l3, rfl⟩, ⟨c3, o3, q3, rfl⟩⟩ := slS_shape O3
    have O3 := Lib.hid O3
    obtain ⟨⟨a4, m4, k4, rfl⟩, ⟨b4, n4, l4, rfl⟩, ⟨c4, o4, q4, rfl⟩⟩ := slS_shape O4
    have O4 := Lib.hid O4
    go_wp2_with fail
    have B12 : Bl w ((w11.alloc (.cells #[.slice a3 m3 k3, .slice b3 n3 l3, .slice c3 o3 q3] 26)).alloc (.cells #[.slice a4 m4 k4, .slice b4 n4 l4, .slice c4 o4 q4] 26)) := (bl_alloc (bl_alloc B11 _) _)
    have xA_12 : Bx ((w11.alloc (.cells #[.slice a3 m3 k3, .slice b3 n3 l3, .slice c3 o3 q3] 26)).alloc (.cells #[.slice a4 m4 k4, .slice b4 n4 l4, .slice c4 o4 q4] 26)) (w1.heap.size) #[.slice a1 m1 k1, .slice b1 n1 l1, .slice c1 o1 q1] := ((xA_11.alloc _).alloc _)
    have xB_12 : Bx ((w11.alloc (.cells #[.slice a3 m3 k3, .slice b3 n3 l3, .slice c3 o3 q3] 26)).alloc (.cells #[.slice a4 m4 k4, .slice b4 n4 l4, .slice c4 o4 q4] 26)) (w1.heap.size + 1) #[.slice a2 m2 k2, .slice b2 n2 l2, .slice c2 o2 q2] := ((xB_11.alloc _).alloc _)
    have xC_12 : Bx ((w11.alloc (.cells #[.slice a3 m3 k3, .slice b3 n3 l3, .slice c3 o3 q3] 26)).alloc (.cells #[.slice a4 m4 k4, .slice b4 n4 l4, .slice c4 o4 q4] 26)) (w11.heap.size) #[.slice a3 m3 k3, .slice b3 n3 l3, .slice c3 o3 q3] := ((Bx.new (b := w11.heap.size) _ #[.slice a3 m3 k3, .slice b3 n3 l3, .slice c3 o3 q3] 26 (by first | rfl | simp)).alloc _)
    have xD_12 : Bx ((w11.alloc (.cells #[.slice a3 m3 k3, .slice b3 n3 l3, .slice c3 o3 q3] 26)).alloc (.cells #[.slice a4 m4 k4, .slice b4 n4 l4, .slice c4 o4 q4] 26)) (w11.heap.size + 1) #[.slice a4 m4 k4, .slice b4 n4 l4, .slice c4 o4 q4] := (Bx.new (b := w11.heap.size + 1) _ #[.slice a4 m4 k4, .slice b4 n4 l4, .slice c4 o4 q4] 26 (by first | rfl | simp))
    have zz12 : w11.heap.size + 2 ≤ ((w11.alloc (.cells #[.slice a3 m3 k3, .slice b3 n3 l3, .slice c3 o3 q3] 26)).alloc (.cells #[.slice a4 m4 k4, .slice b4 n4 l4, .slice c4 o4 q4] 26)).heap.size := (by simp)
    clear cA_11 fA_11 zA_11 cB_11 fB_11 zB_11
    have SL : Hid (SlL ((w11.alloc (.cells #[.slice a3 m3 k3, .slice b3 n3 l3, .slice c3 o3 q3] 26)).alloc (.cells #[.slice a4 m4 k4, .slice b4 n4 l4, .slice c4 o4 q4] 26)) (.slice aL ss.length cL) ss) := Lib.hid (SL.out.below (bl_alloc (bl_alloc (bl_refl w11) _) _))
    have L1 : Hid (Sl ((w11.alloc (.cells #[.slice a3 m3 k3, .slice b3 n3 l3, .slice c3 o3 q3] 26)).alloc (.cells #[.slice a4 m4 k4, .slice b4 n4 l4, .slice c4 o4 q4] 26)) (.slice av1 L.length cv1) L) := Lib.hid (L1.out.below (bl_alloc (bl_alloc (bl_refl w11) _) _))
    have L2 : Hid (Sl ((w11.alloc (.cells #[.slice a3 m3 k3, .slice b3 n3 l3, .slice c3 o3 q3] 26)).alloc (.cells #[.slice a4 m4 k4, .slice b4 n4 l4, .slice c4 o4 q4] 26)) (.slice av2 L.length cv2) L) := Lib.hid (L2.out.below (bl_alloc (bl_alloc (bl_refl w11) _) _))
    have O3 : Hid (SlS ((w11.alloc (.cells #[.slice a3 m3 k3, .slice b3 n3 l3, .slice c3 o3 q3] 26)).alloc (.cells #[.slice a4 m4 k4, .slice b4 n4 l4, .slice c4 o4 q4] 26)) (.slice a3 m3 k3) (.slice b3 n3 l3) (.slice c3 o3 q3) s3) := Lib.hid (O3.out.below (bl_alloc (bl_alloc (bl_refl w11) _) _))
    have O4 : Hid (SlS ((w11.alloc (.cells #[.slice a3 m3 k3, .slice b3 n3 l3, .slice c3 o3 q3] 26)).alloc (.cells #[.slice a4 m4 k4, .slice b4 n4 l4, .slice c4 o4 q4] 26)) (.slice a4 m4 k4) (.slice b4 n4 l4) (.slice c4 o4 q4) s4) := Lib.hid (O4.out.below (bl_alloc (bl_alloc (bl_refl w11) _) _))
    generalize ((w11.alloc (.cells #[.slice a3 m3 k3, .slice b3 n3 l3, .slice c3 o3 q3] 26)).alloc (.cells #[.slice a4 m4 k4, .slice b4 n4 l4, .slice c4 o4 q4] 26)) = w12 at *
    obtain ⟨cA_12, fA_12, zA_12⟩ := xA_12.out
    obtain ⟨cB_12, fB_12, zB_12⟩ := xB_12.out
    obtain ⟨cC_12, fC_12, zC_12⟩ := xC_12.out
    obtain ⟨cD_12, fD_12, zD_12⟩ := xD_12.out
    obtain ⟨⟨u4, y4⟩, hx4⟩ : ∃ X, eqSrcF s3 s4 = X := ⟨_, rfl⟩
    have HX4 := Lib.hid hx4
    clear hx4
    go_wp2_with fail
    refine (ieqO HX4.out _ O3.out O4.out).mono ?_
    rintro e w13 ⟨rfl, hb13⟩
    have B13 : Bl w w13 := bl_call B12 hb13
    have xA_13 : Bx w13 (w1.heap.size) #[.slice a1 m1 k1, .slice b1 n1 l1, .slice c1 o1 q1] := xA_12.below hb13
    have xB_13 : Bx w13 (w1.heap.size + 1) #[.slice a2 m2 k2, .slice b2 n2 l2, .slice c2 o2 q2] := xB_12.below hb13
    have xC_13 : Bx w13 (w11.heap.size) #[.slice a3 m3 k3, .slice b3 n3 l3, .slice c3 o3 q3] := xC_12.below hb13
    have xD_13 : Bx w13 (w11.heap.size + 1) #[.slice a4 m4 k4, .slice b4 n4 l4, .slice c4 o4 q4] := xD_12.below hb13
    clear cA_12 fA_12 zA_12 cB_12 fB_12 zB_12 cC_12 fC_12 zC_12 cD_12 fD_12 zD_12
    obtain ⟨cA_13, fA_13, zA_13⟩ := xA_13.out
    obtain ⟨cB_13, fB_13, zB_13⟩ := xB_13.out
    obtain ⟨cC_13, fC_13, zC_13⟩ := xC_13.out
    obtain ⟨cD_13, fD_13, zD_13⟩ := xD_13.out
    have SL : Hid (SlL w13 (.slice aL ss.length cL) ss) := Lib.hid ((SL.out.below (bl_refl w12)).below hb13)
    have L1 : Hid (Sl w13 (.slice av1 L.length cv1) L) := Lib.hid ((L1.out.below (bl_refl w12)).below hb13)
    have L2 : Hid (Sl w13 (.slice av2 L.length cv2) L) := Lib.hid ((L2.out.below (bl_refl w12)).below hb13)
    have O3 : Hid (SlS w13 (.slice a3 m3 k3) (.slice b3 n3 l3) (.slice c3 o3 q3) s3) := Lib.hid ((O3.out.below (bl_refl w12)).below hb13)
    have O4 : Hid (SlS w13 (.slice a4 m4 k4) (.slice b4 n4 l4) (.slice c4 o4 q4) s4) := Lib.hid ((O4.out.below (bl_refl w12)).below hb13)
    go_wp2_with fail
    refine (seqO HX4.out _ O3.out O4.out).mono ?_
    rintro e w14 ⟨rfl, hb14⟩
    have B14 : Bl w w14 := bl_call B13 hb14
    have xA_14 : Bx w14 (w1.heap.size) #[.slice a1 m1 k1, .slice b1 n1 l1, .slice c1 o1 q1] := xA_13.below hb14
    have xB_14 : Bx w14 (w1.heap.size + 1) #[.slice a2 m2 k2, .slice b2 n2 l2, .slice c2 o2 q2] := xB_13.below hb14
    have xC_14 : Bx w14 (w11.heap.size) #[.slice a3 m3 k3, .slice b3 n3 l3, .slice c3 o3 q3] := xC_13.below hb14
    have xD_14 : Bx w14 (w11.heap.size + 1) #[.slice a4 m4 k4, .slice b4 n4 l4, .slice c4 o4 q4] := xD_13.below hb14
    clear cA_13 fA_13 zA_13 cB_13 fB_13 zB_13 cC_13 fC_13 zC_13 cD_13 fD_13 zD_13
    obtain ⟨cA_14, fA_14, zA_14⟩ := xA_14.out
    obtain ⟨cB_14, fB_14, zB_14⟩ := xB_14.out
    obtain ⟨cC_14, fC_14, zC_14⟩ := xC_14.out
    obtain ⟨cD_14, fD_14, zD_14⟩ := xD_14.out
    have SL : Hid (SlL w14 (.slice aL ss.length cL) ss) := Lib.hid ((SL.out.below (bl_refl w13)).below hb14)
    have L1 : Hid (Sl w14 (.slice av1 L.length cv1) L) := Lib.hid ((L1.out.below (bl_refl w13)).below hb14)
    have L2 : Hid (Sl w14 (.slice av2 L.length cv2) L) := Lib.hid ((L2.out.below (bl_refl w13)).below hb14)
    have O3 : Hid (SlS w14 (.slice a3 m3 k3) (.slice b3 n3 l3) (.slice c3 o3 q3) s3) := Lib.hid ((O3.out.below (bl_refl w13)).below hb14)
    have O4 : Hid (SlS w14 (.slice a4 m4 k4) (.slice b4 n4 l4) (.slice c4 o4 q4) s4) := Lib.hid ((O4.out.below (bl_refl w13)).below hb14)
    have HH5 := Lib.hid (H0.out.below B14)
    go_wp2_with fail
    refine (dsame_any HH5.out hl0).mono ?_
    rintro e w15 ⟨h5, p5, g5, s5, h6, p6, g6, s6, mm5, rfl, O5, O6, hb15⟩
    have B15 : Bl w w15 := bl_call B14 hb15
    have xA_15 : Bx w15 (w1.heap.size) #[.slice a1 m1 k1, .slice b1 n1 l1, .slice c1 o1 q1] := xA_14.below hb15
    have xB_15 : Bx w15 (w1.heap.size + 1) #[.slice a2 m2 k2, .slice b2 n2 l2, .slice c2 o2 q2] := xB_14.below hb15
    have xC_15 : Bx w15 (w11.heap.size) #[.slice a3 m3 k3, .slice b3 n3 l3, .slice c3 o3 q3] := xC_14.below hb15
    have xD_15 : Bx w15 (w11.heap.size + 1) #[.slice a4 m4 k4, .slice b4 n4 l4, .slice c4 o4 q4] := xD_14.below hb15
    clear cA_14 fA_14 zA_14 cB_14 fB_14 zB_14 cC_14 fC_14 zC_14 cD_14 fD_14 zD_14
    obtain ⟨cA_15, fA_15, zA_15⟩ := xA_15.out
    obtain ⟨cB_15, fB_15, zB_15⟩ := xB_15.out
    obtain ⟨cC_15, fC_15, zC_15⟩ := xC_15.out
    obtain ⟨cD_15, fD_15, zD_15⟩ := xD_15.out
    have SL : Hid (SlL w15 (.slice aL ss.length cL) ss) := Lib.hid ((SL.out.below (bl_refl w14)).below hb15)
    have L1 : Hid (Sl w15 (.slice av1 L.length cv1) L) := Lib.hid ((L1.out.below (bl_refl w14)).below hb15)
    have L2 : Hid (Sl w15 (.slice av2 L.length cv2) L) := Lib.hid ((L2.out.below (bl_refl w14)).below hb15)
    have O3 : Hid (SlS w15 (.slice a3 m3 k3) (.slice b3 n3 l3) (.slice c3 o3 q3) s3) := Lib.hid ((O3.out.below (bl_refl w14)).below hb15)
    have O4 : Hid (SlS w15 (.slice a4 m4 k4) (.slice b4 n4 l4) (.slice c4 o4 q4) s4) := Lib.hid ((O4.out.below (bl_refl w14)).below hb15)
    obtain ⟨⟨a5, m5, k5, rfl⟩, ⟨b5, n5, l5, rfl⟩, ⟨c5, o5, q5, rfl⟩⟩ := slS_shape O5
    have O5 := Lib.hid O5
    obtain ⟨⟨a6, m6, k6, rfl⟩, ⟨b6, n6, l6, rfl⟩, ⟨c6, o6, q6, rfl⟩⟩ := slS_shape O6
    have O6 := Lib.hid O6
    go_wp2_with fail
    have B16 : Bl w ((w15.alloc (.cells #[.slice a5 m5 k5, .slice b5 n5 l5, .slice c5 o5 q5] 26)).alloc (.cells #[.slice a6 m6 k6, .slice b6 n6 l6, .slice c6 o6 q6] 26)) := (bl_alloc (bl_alloc B15 _) _)
    have xA_16 : Bx ((w15.alloc (.cells #[.slice a5 m5 k5, .slice b5 n5 l5, .slice c5 o5 q5] 26)).alloc (.cells #[.slice a6 m6 k6, .slice b6 n6 l6, .slice c6 o6 q6] 26)) (w1.heap.size) #[.slice a1 m1 k1, .slice b1 n1 l1, .slice c1 o1 q1] := ((xA_15.alloc _).alloc _)
    have xB_16 : Bx ((w15.alloc (.cells #[.slice a5 m5 k5, .slice b5 n5 l5, .slice c5 o5 q5] 26)).alloc (.cells #[.slice a6 m6 k6, .slice b6 n6 l6, .slice c6 o6 q6] 26)) (w1.heap.size + 1) #[.slice a2 m2 k2, .slice b2 n2 l2, .slice c2 o2 q2] := ((xB_15.alloc _).alloc _)
    have xC_16 : Bx ((w15.alloc (.cells #[.slice a5 m5 k5, .slice b5 n5 l5, .slice c5 o5 q5] 26)).alloc (.cells #[.slice a6 m6 k6, .slice b6 n6 l6, .slice c6 o6 q6] 26)) (w11.heap.size) #[.slice a3 m3 k3, .slice b3 n3 l3, .slice c3 o3 q3] := ((xC_15.alloc _).alloc _)
    have xD_16 : Bx ((w15.alloc (.cells #[.slice a5 m5 k5, .slice b5 n5 l5, .slice c5 o5 q5] 26)).alloc (.cells #[.slice a6 m6 k6, .slice b6 n6 l6, .slice c6 o6 q6] 26)) (w11.heap.size + 1) #[.slice a4 m4 k4, .slice b4 n4 l4, .slice c4 o4 q4] := ((xD_15.alloc _).alloc _)
    have xE_16 : Bx ((w15.alloc (.cells #[.slice a5 m5 k5, .slice b5 n5 l5, .slice c5 o5 q5] 26)).alloc (.cells #[.slice a6 m6 k6, .slice b6 n6 l6, .slice c6 o6 q6] 26)) (w15.heap.size) #[.slice a5 m5 k5, .slice b5 n5 l5, .slice c5 o5 q5] := ((Bx.new (b := w15.heap.size) _ #[.slice a5 m5 k5, .slice b5 n5 l5, .slice c5 o5 q5] 26 (by first | rfl | simp)).alloc _)
    have xF_16 : Bx ((w15.alloc (.cells #[.slice a5 m5 k5, .slice b5 n5 l5, .slice c5 o5 q5] 26)).alloc (.cells #[.slice a6 m6 k6, .slice b6 n6 l6, .slice c6 o6 q6] 26)) (w15.heap.size + 1) #[.slice a6 m6 k6, .slice b6 n6 l6, .slice c6 o6 q6] := (Bx.new (b := w15.heap.size + 1) _ #[.slice a6 m6 k6, .slice b6 n6 l6, .slice c6 o6 q6] 26 (by first | rfl | simp))
    have zz16 : w15.heap.size + 2 ≤ ((w15.alloc (.cells #[.slice a5 m5 k5, .slice b5 n5 l5, .slice c5 o5 q5] 26)).alloc (.cells #[.slice a6 m6 k6, .slice b6 n6 l6, .slice c6 o6 q6] 26)).heap.size := (by simp)
    clear cA_15 fA_15 zA_15 cB_15 fB_15 zB_15 cC_15 fC_15 zC_15 cD_15 fD_15 zD_15
    have SL : Hid (SlL ((w15.alloc (.cells #[.slice a5 m5 k5, .slice b5 n5 l5, .slice c5 o5 q5] 26)).alloc (.cells #[.slice a6 m6 k6, .slice b6 n6 l6, .slice c6 o6 q6] 26)) (.slice aL ss.length cL) ss) := Lib.hid (SL.out.below (bl_alloc (bl_alloc (bl_refl w15) _) _))
    have L1 : Hid (Sl ((w15.alloc (.cells #[.slice a5 m5 k5, .slice b5 n5 l5, .slice c5 o5 q5] 26)).alloc (.cells #[.slice a6 m6 k6, .slice b6 n6 l6, .slice c6 o6 q6] 26)) (.slice av1 L.length cv1) L) := Lib.hid (L1.out.below (bl_alloc (bl_alloc (bl_refl w15) _) _))
    have L2 : Hid (Sl ((w15.alloc (.cells #[.slice a5 m5 k5, .slice b5 n5 l5, .slice c5 o5 q5] 26)).alloc (.cells #[.slice a6 m6 k6, .slice b6 n6 l6, .slice c6 o6 q6] 26)) (.slice av2 L.length cv2) L) := Lib.hid (L2.out.below (bl_alloc (bl_alloc (bl_refl w15) _) _))
    have O3 : Hid (SlS ((w15.alloc (.cells #[.slice a5 m5 k5, .slice b5 n5 l5, .slice c5 o5 q5] 26)).alloc (.cells #[.slice a6 m6 k6, .slice b6 n6 l6, .slice c6 o6 q6] 26)) (.slice a3 m3 k3) (.slice b3 n3 l3) (.slice c3 o3 q3) s3) := Lib.hid (O3.out.below (bl_alloc (bl_alloc (bl_refl w15) _) _))
    have O4 : Hid (SlS ((w15.alloc (.cells #[.slice a5 m5 k5, .slice b5 n5 l5, .slice c5 o5 q5] 26)).alloc (.cells #[.slice a6 m6 k6, .slice b6 n6 l6, .slice c6 o6 q6] 26)) (.slice a4 m4 k4) (.slice b4 n4 l4) (.slice c4 o4 q4) s4) := Lib.hid (O4.out.below (bl_alloc (bl_alloc (bl_refl w15) _) _))
    have O5 : Hid (SlS ((w15.alloc (.cells #[.slice a5 m5 k5, .slice b5 n5 l5, .slice c5 o5 q5] 26)).alloc (.cells #[.slice a6 m6 k6, .slice b6 n6 l6, .slice c6 o6 q6] 26)) (.slice a5 m5 k5) (.slice b5 n5 l5) (.slice c5 o5 q5) s5) := Lib.hid (O5.out.below (bl_alloc (bl_alloc (bl_refl w15) _) _))
    have O6 : Hid (SlS ((w15.alloc (.cells #[.slice a5 m5 k5, .slice b5 n5 l5, .slice c5 o5 q5] 26)).alloc (.cells #[.slice a6 m6 k6, .slice b6 n6 l6, .slice c6 o6 q6] 26)) (.slice a6 m6 k6) (.slice b6 n6 l6) (.slice c6 o6 q6) s6) := Lib.hid (O6.out.below (bl_alloc (bl_alloc (bl_refl w15) _) _))
    generalize ((w15.alloc (.cells #[.slice a5 m5 k5, .slice b5 n5 l5, .slice c5 o5 q5] 26)).alloc (.cells #[.slice a6 m6 k6, .slice b6 n6 l6, .slice c6 o6 q6] 26)) = w16 at *
    obtain ⟨cA_16, fA_16, zA_16⟩ := xA_16.out
    obtain ⟨cB_16, fB_16, zB_16⟩ := xB_16.out
    obtain ⟨cC_16, fC_16, zC_16⟩ := xC_16.out
    obtain ⟨cD_16, fD_16, zD_16⟩ := xD_16.out
    obtain ⟨cE_16, fE_16, zE_16⟩ := xE_16.out
    obtain ⟨cF_16, fF_16, zF_16⟩ := xF_16.out
    obtain ⟨⟨x5, y5⟩, hx5⟩ : ∃ X, sameF s5 s6 mm5 = X := ⟨_, rfl⟩
    have HX5 := Lib.hid hx5
    clear hx5
    go_wp2_with fail
    refine (istO HX5.out _ O5.out O6.out).mono ?_
    rintro e w17 ⟨rfl, hb17⟩
    have B17 : Bl w w17 := bl_call B16 hb17
    have xA_17 : Bx w17 (w1.heap.size) #[.slice a1 m1 k1, .slice b1 n1 l1, .slice c1 o1 q1] := xA_16.below hb17
    have xB_17 : Bx w17 (w1.heap.size + 1) #[.slice a2 m2 k2, .slice b2 n2 l2, .slice c2 o2 q2] := xB_16.below hb17
    have xC_17 : Bx w17 (w11.heap.size) #[.slice a3 m3 k3, .slice b3 n3 l3, .slice c3 o3 q3] := xC_16.below hb17
    have xD_17 : Bx w17 (w11.heap.size + 1) #[.slice a4 m4 k4, .slice b4 n4 l4, .slice c4 o4 q4] := xD_16.below hb17
    have xE_17 : Bx w17 (w15.heap.size) #[.slice a5 m5 k5, .slice b5 n5 l5, .slice c5 o5 q5] := xE_16.below hb17
    have xF_17 : Bx w17 (w15.heap.size + 1) #[.slice a6 m6 k6, .slice b6 n6 l6, .slice c6 o6 q6] := xF_16.below hb17
    clear cA_16 fA_16 zA_16 cB_16 fB_16 zB_16 cC_16 fC_16 zC_16 cD_16 fD_16 zD_16 cE_16 fE_16 zE_16 cF_16 fF_16 zF_16
    obtain ⟨cA_17, fA_17, zA_17⟩ := xA_17.out
    obtain ⟨cB_17, fB_17, zB_17⟩ := xB_17.out
    obtain ⟨cC_17, fC_17, zC_17⟩ := xC_17.out
    obtain ⟨cD_17, fD_17, zD_17⟩ := xD_17.out
    obtain ⟨cE_17, fE_17, zE_17⟩ := xE_17.out
    obtain ⟨cF_17, fF_17, zF_17⟩ := xF_17.out
    have SL : Hid (SlL w17 (.slice aL ss.length cL) ss) := Lib.hid ((SL.out.below (bl_refl w16)).below hb17)
    have L1 : Hid (Sl w17 (.slice av1 L.length cv1) L) := Lib.hid ((L1.out.below (bl_refl w16)).below hb17)
    have L2 : Hid (Sl w17 (.slice av2 L.length cv2) L) := Lib.hid ((L2.out.below (bl_refl w16)).below hb17)
    have O3 : Hid (SlS w17 (.slice a3 m3 k3) (.slice b3 n3 l3) (.slice c3 o3 q3) s3) := Lib.hid ((O3.out.below (bl_refl w16)).below hb17)
    have O4 : Hid (SlS w17 (.slice a4 m4 k4) (.slice b4 n4 l4) (.slice c4 o4 q4) s4) := Lib.hid ((O4.out.below (bl_refl w16)).below hb17)
    have O5 : Hid (SlS w17 (.slice a5 m5 k5) (.slice b5 n5 l5) (.slice c5 o5 q5) s5) := Lib.hid ((O5.out.below (bl_refl w16)).below hb17)
    have O6 : Hid (SlS w17 (.slice a6 m6 k6) (.slice b6 n6 l6) (.slice c6 o6 q6) s6) := Lib.hid ((O6.out.below (bl_refl w16)).below hb17)
    go_wp2_with fail
    refine (sstO HX5.out _ O5.out O6.out).mono ?_
    rintro e w18 ⟨rfl, hb18⟩
    have B18 : Bl w w18 := bl_call B17 hb18
    have xA_18 : Bx w18 (w1.heap.size) #[.slice a1 m1 k1, .slice b1 n1 l1, .slice c1 o1 q1] := xA_17.below hb18
    have xB_18 : Bx w18 (w1.heap.size + 1) #[.slice a2 m2 k2, .slice b2 n2 l2, .slice c2 o2 q2] := xB_17.below hb18
    have xC_18 : Bx w18 (w11.heap.size) #[.slice a3 m3 k3, .slice b3 n3 l3, .slice c3 o3 q3] := xC_17.below hb18
    have xD_18 : Bx w18 (w11.heap.size + 1) #[.slice a4 m4 k4, .slice b4 n4 l4, .slice c4 o4 q4] := xD_17.below hb18
    have xE_18 : Bx w18 (w15.heap.size) #[.slice a5 m5 k5, .slice b5 n5 l5, .slice c5 o5 q5] := xE_17.below hb18
    have xF_18 : Bx w18 (w15.heap.size + 1) #[.slice a6 m6 k6, .slice b6 n6 l6, .slice c6 o6 q6] := xF_17.below hb18
    clear cA_17 fA_17 zA_17 cB_17 fB_17 zB_17 cC_17 fC_17 zC_17 cD_17 fD_17 zD_17 cE_17 fE_17 zE_17 cF_17 fF_17 zF_17
    obtain ⟨cA_18, fA_18, zA_18⟩ := xA_18.out
    obtain ⟨cB_18, fB_18, zB_18⟩ := xB_18.out
    obtain ⟨cC_18, fC_18, zC_18⟩ := xC_18.out
    obtain ⟨cD_18, fD_18, zD_18⟩ := xD_18.out
    obtain ⟨cE_18, fE_18, zE_18⟩ := xE_18.out
    obtain ⟨cF_18, fF_18, zF_18⟩ := xF_18.out
    have SL : Hid (SlL w18 (.slice aL ss.length cL) ss) := Lib.hid ((SL.out.below (bl_refl w17)).below hb18)
    have L1 : Hid (Sl w18 (.slice av1 L.length cv1) L) := Lib.hid ((L1.out.below (bl_refl w17)).below hb18)
    have L2 : Hid (Sl w18 (.slice av2 L.length cv2) L) := Lib.hid ((L2.out.below (bl_refl w17)).below hb18)
    have O3 : Hid (SlS w18 (.slice a3 m3 k3) (.slice b3 n3 l3) (.slice c3 o3 q3) s3) := Lib.hid ((O3.out.below (bl_refl w17)).below hb18)
    have O4 : Hid (SlS w18 (.slice a4 m4 k4) (.slice b4 n4 l4) (.slice c4 o4 q4) s4) := Lib.hid ((O4.out.below (bl_refl w17)).below hb18)
    have O5 : Hid (SlS w18 (.slice a5 m5 k5) (.slice b5 n5 l5) (.slice c5 o5 q5) s5) := Lib.hid ((O5.out.below (bl_refl w17)).below hb18)
    have O6 : Hid (SlS w18 (.slice a6 m6 k6) (.slice b6 n6 l6) (.slice c6 o6 q6) s6) := Lib.hid ((O6.out.below (bl_refl w17)).below hb18)
    clear O5 O6
    go_wp2_with fail
    refine (f6_selfO _ L1.out L2.out).mono ?_
    rintro e w19 ⟨rfl, hb19⟩
    have B19 : Bl w w19 := bl_call B18 hb19
    have xA_19 : Bx w19 (w1.heap.size) #[.slice a1 m1 k1, .slice b1 n1 l1, .slice c1 o1 q1] := xA_18.below hb19
    have xB_19 : Bx w19 (w1.heap.size + 1) #[.slice a2 m2 k2, .slice b2 n2 l2, .slice c2 o2 q2] := xB_18.below hb19
    have xC_19 : Bx w19 (w11.heap.size) #[.slice a3 m3 k3, .slice b3 n3 l3, .slice c3 o3 q3] := xC_18.below hb19
    have xD_19 : Bx w19 (w11.heap.size + 1) #[.slice a4 m4 k4, .slice b4 n4 l4, .slice c4 o4 q4] := xD_18.below hb19
    have xE_19 : Bx w19 (w15.heap.size) #[.slice a5 m5 k5, .slice b5 n5 l5, .slice c5 o5 q5] := xE_18.below hb19
    have xF_19 : Bx w19 (w15.heap.size + 1) #[.slice a6 m6 k6, .slice b6 n6 l6, .slice c6 o6 q6] := xF_18.below hb19
    clear cA_18 fA_18 zA_18 cB_18 fB_18 zB_18 cC_18 fC_18 zC_18 cD_18 fD_18 zD_18 cE_18 fE_18 zE_18 cF_18 fF_18 zF_18
    obtain ⟨cA_19, fA_19, zA_19⟩ := xA_19.out
    obtain ⟨cB_19, fB_19, zB_19⟩ := xB_19.out
    obtain ⟨cC_19, fC_19, zC_19⟩ := xC_19.out
    obtain ⟨cD_19, fD_19, zD_19⟩ := xD_19.out
    obtain ⟨cE_19, fE_19, zE_19⟩ := xE_19.out
    obtain ⟨cF_19, fF_19, zF_19⟩ := xF_19.out
    have SL : Hid (SlL w19 (.slice aL ss.length cL) ss) := Lib.hid ((SL.out.below (bl_refl w18)).below hb19)
    have L1 : Hid (Sl w19 (.slice av1 L.length cv1) L) := Lib.hid ((L1.out.below (bl_refl w18)).below hb19)
    have L2 : Hid (Sl w19 (.slice av2 L.length cv2) L) := Lib.hid ((L2.out.below (bl_refl w18)).below hb19)
    have O3 : Hid (SlS w19 (.slice a3 m3 k3) (.slice b3 n3 l3) (.slice c3 o3 q3) s3) := Lib.hid ((O3.out.below (bl_refl w18)).below hb19)
    have O4 : Hid (SlS w19 (.slice a4 m4 k4) (.slice b4 n4 l4) (.slice c4 o4 q4) s4) := Lib.hid ((O4.out.below (bl_refl w18)).below hb19)
    clear L1
    go_upto_if 196 with fail
    go_cut [] (fun wx => Bl w19 wx)
    case first =>
      by_cases hy4 : y4 = 0
      · subst hy4
        obtain ⟨⟨x6, y6⟩, hx6⟩ : ∃ X, cmpSrcF s3 s4 1000 = X := ⟨_, rfl⟩
        have HX6 := Lib.hid hx6
        clear hx6
        go_wp2_with fail
        refine (icsO HX6.out _ O3.out O4.out).mono ?_
        rintro e w20 ⟨rfl, hb20⟩
        have B20 : Bl w w20 := bl_call B19 hb20
        have xA_20 : Bx w20 (w1.heap.size) #[.slice a1 m1 k1, .slice b1 n1 l1, .slice c1 o1 q1] := xA_19.below hb20
        have xB_20 : Bx w20 (w1.heap.size + 1) #[.slice a2 m2 k2, .slice b2 n2 l2, .slice c2 o2 q2] := xB_19.below hb20
        have xC_20 : Bx w20 (w11.heap.size) #[.slice a3 m3 k3, .slice b3 n3 l3, .slice c3 o3 q3] := xC_19.below hb20
        have xD_20 : Bx w20 (w11.heap.size + 1) #[.slice a4 m4 k4, .slice b4 n4 l4, .slice c4 o4 q4] := xD_19.below hb20
        have xE_20 : Bx w20 (w15.heap.size) #[.slice a5 m5 k5, .slice b5 n5 l5, .slice c5 o5 q5] := xE_19.below hb20
        have xF_20 : Bx w20 (w15.heap.size + 1) #[.slice a6 m6 k6, .slice b6 n6 l6, .slice c6 o6 q6] := xF_19.below hb20
        clear cA_19 fA_19 zA_19 cB_19 fB_19 zB_19 cC_19 fC_19 zC_19 cD_19 fD_19 zD_19 cE_19 fE_19 zE_19 cF_19 fF_19 zF_19
        obtain ⟨cA_20, fA_20, zA_20⟩ := xA_20.out
        obtain ⟨cB_20, fB_20, zB_20⟩ := xB_20.out
        obtain ⟨cC_20, fC_20, zC_20⟩ := xC_20.out
        obtain ⟨cD_20, fD_20, zD_20⟩ := xD_20.out
        obtain ⟨cE_20, fE_20, zE_20⟩ := xE_20.out
        obtain ⟨cF_20, fF_20, zF_20⟩ := xF_20.out
        have SL : Hid (SlL w20 (.slice aL ss.length cL) ss) := Lib.hid ((SL.out.below (bl_refl w19)).below hb20)
        have L2 : Hid (Sl w20 (.slice av2 L.length cv2) L) := Lib.hid ((L2.out.below (bl_refl w19)).below hb20)
        have O3 : Hid (SlS w20 (.slice a3 m3 k3) (.slice b3 n3 l3) (.slice c3 o3 q3) s3) := Lib.hid ((O3.out.below (bl_refl w19)).below hb20)
        have O4 : Hid (SlS w20 (.slice a4 m4 k4) (.slice b4 n4 l4) (.slice c4 o4 q4) s4) := Lib.hid ((O4.out.below (bl_refl w19)).below hb20)
        cases u4 with
        | true =>
          have h6 := eq_cmp_true HX4.out HX6.out
          subst h6
          by_cases hy6 : y6 = 0
          · subst hy6
            go_wp2_with fail
            go_meet
            exact hb20
          · have e6 : (y6 == 0) = false := by simp [hy6]
            clear hy6
            go_wp2_with fail
            go_meet
            exact hb20
        | false =>
          by_cases hy6 : y6 = 0
          · subst hy6
            have h6 := eq_cmp_false HX4.out HX6.out
            have e6 : (x6 == 0) = false := by simp [h6]
            clear h6
            go_wp2_with fail
            go_meet
            exact hb20
          · have e6 : (y6 == 0) = false := by simp [hy6]
            clear hy6
            go_wp2_with fail
            go_meet
            exact hb20
      · have e4 : (y4 == 0) = false := by simp [hy4]
        clear hy4
        go_wp2_with fail
        go_meet
        exact bl_refl _
    case rest =>
      clear O3 O4
      obtain ⟨WW, rfl⟩ : ∃ x : World, x = wc := ⟨_, rfl⟩
      have BW : Bl w WW := bl_call B19 hcut
      have SL : Hid (SlL WW (.slice aL ss.length cL) ss) := Lib.hid (SL.out.below hcut)
      have L2 : Hid (Sl WW (.slice av2 L.length cv2) L) := Lib.hid (L2.out.below hcut)
      clear hcut
      clear cA_19 fA_19 zA_19 cB_19 fB_19 zB_19 cC_19 fC_19 zC_19 cD_19 fD_19 zD_19 cE_19 fE_19 zE_19 cF_19 fF_19 zF_19
      clear xA_19
      clear xB_19
      clear xC_19
      clear xD_19
      clear xE_19
      clear xF_19
      as_aux_lemma =>
        by_cases hy2 : y2 = 0
        · subst hy2
          have hLl : (L.length : Int) ≤ 9223372036854775807 := by have := L2.out.len; omega
          go_wp2_with fail
          go_loopw [37] (fun i wr => ∃ k : Nat, i = .int .i64 ((k : Int) + 1) ∧ k ≤ L.length ∧ Bl WW wr) (fun i _ => L.length + 1 - (intOf i).toNat)
          case atStart => exact ⟨0, by simp, by omega, bl_refl _⟩
          case round =>
            obtain ⟨k, rfl, hkl, hB⟩ := hrel
            by_cases hlt : k + 1 < L.length
            · obtain ⟨a, b, s, t, x, hLa, hLb, hsa, htb, hcm, hx⟩ := sort_step HX2.out hlt
              obtain ⟨bR, oR, rfl, hcell⟩ := sl_twoO L2.out hB (show k < L.length by omega)
              have r1 := hcell k _ hLa
              have r2 := hcell (k + 1) _ hLb
              have z1 := cell_lt r1
              have ha := (List.getElem?_eq_some_iff.1 hsa).1
              have hb := (List.getElem?_eq_some_iff.1 htb).1
              obtain ⟨bL, oL, rfl, hh, hp, hg, s', hs', px, sx⟩ := SL.out.at hB ha
              have es : s' = s := Option.some.inj (hs'.symm.trans hsa)
              subst es
              obtain ⟨ih, ip, ig, py, sy⟩ := SL.out.atR hB htb
              obtain ⟨⟨a8, m8, k8, rfl⟩, ⟨b8, n8, l8, rfl⟩, ⟨c8, o8, q8, rfl⟩⟩ := slS_shape sx
              obtain ⟨⟨a9, m9, k9, rfl⟩, ⟨b9, n9, l9, rfl⟩, ⟨c9, o9, q9, rfl⟩⟩ := slS_shape sy
              obtain ⟨px0, px1, px2⟩ := px
              obtain ⟨py0, py1, py2⟩ := py
              have HCM := Lib.hid hcm
              have hw0 : IntKind.i64.wrap (k : Int) = (k : Int) := by rw [IntKind.wrap_i64]; omega
              have hw1 : IntKind.i64.wrap ((k : Int) + 1 - 1) = (k : Int) := by rw [IntKind.wrap_i64]; omega
              have hw2 : ((k : Int) + 1 - 1) = (k : Int) := by omega
              have hi1 : (k : Int) + 1 < (L.length : Int) := by omega
              have hi2 : (k : Int) < (L.length : Int) := by omega
              have hi0 : (0 : Int) ≤ (k : Int) + 1 := by omega
              have hai : (a : Int) < (ss.length : Int) := by omega
              have hbi : (b : Int) < (ss.length : Int) := by omega
              clear hcell hLa hLb hsa htb hs' hcm
              go_wp2_with fail
              go_cut [38, 39] (fun s38 s39 wx => s38 = .int .i64 x ∧ s39 = .int .i64 0 ∧ Bl wr wx)
              case first =>
                as_aux_lemma =>
                  go_region_held3 (fun w' => w'.cell? ⟨bR, oR + k, none⟩ = some (.int .i64 (a : Int)) ∧ w'.cell? ⟨bR, oR + (k + 1), none⟩ = some (.int .i64 (b : Int)) ∧ w'.cell? ⟨bL, oL + a * 3, none⟩ = some (.slice a8 m8 k8) ∧ w'.cell? ⟨bL, oL + a * 3 + 1, none⟩ = some (.slice b8 n8 l8) ∧ w'.cell? ⟨bL, oL + a * 3 + 2, none⟩ = some (.slice c8 o8 q8) ∧ w'.cell? ⟨bL, oL + b * 3, none⟩ = some (.slice a9 m9 k9) ∧ w'.cell? ⟨bL, oL + b * 3 + 1, none⟩ = some (.slice b9 n9 l9) ∧ w'.cell? ⟨bL, oL + b * 3 + 2, none⟩ = some (.slice c9 o9 q9)) (first | (simp [*]; done) | (go_simp; done) | go_keep)
                    (first | (go_at_call 7; go_must (refine (icsO HCM.out _ (sx.below (bl_drew (bl_refl _))) (sy.below (bl_drew (bl_refl _)))).mono ?_; rintro e w8 ⟨rfl, hb8⟩; have qr1 : w8.cell? ⟨bR, oR + k, none⟩ = some (.int .i64 (a : Int)) := (hb8.cell (p := ⟨bR, oR + k, none⟩) (cell_lt r1)).trans r1; have qr2 : w8.cell? ⟨bR, oR + (k + 1), none⟩ = some (.int .i64 (b : Int)) := (hb8.cell (p := ⟨bR, oR + (k + 1), none⟩) (cell_lt r2)).trans r2; have qpx0 : w8.cell? ⟨bL, oL + a * 3, none⟩ = some (.slice a8 m8 k8) := (hb8.cell (p := ⟨bL, oL + a * 3, none⟩) (cell_lt px0)).trans px0; have qpx1 : w8.cell? ⟨bL, oL + a * 3 + 1, none⟩ = some (.slice b8 n8 l8) := (hb8.cell (p := ⟨bL, oL + a * 3 + 1, none⟩) (cell_lt px1)).trans px1; have qpx2 : w8.cell? ⟨bL, oL + a * 3 + 2, none⟩ = some (.slice c8 o8 q8) := (hb8.cell (p := ⟨bL, oL + a * 3 + 2, none⟩) (cell_lt px2)).trans px2; have qpy0 : w8.cell? ⟨bL, oL + b * 3, none⟩ = some (.slice a9 m9 k9) := (hb8.cell (p := ⟨bL, oL + b * 3, none⟩) (cell_lt py0)).trans py0; have qpy1 : w8.cell? ⟨bL, oL + b * 3 + 1, none⟩ = some (.slice b9 n9 l9) := (hb8.cell (p := ⟨bL, oL + b * 3 + 1, none⟩) (cell_lt py1)).trans py1; have qpy2 : w8.cell? ⟨bL, oL + b * 3 + 2, none⟩ = some (.slice c9 o9 q9) := (hb8.cell (p := ⟨bL, oL + b * 3 + 2, none⟩) (cell_lt py2)).trans py2)))
                  all_goals
                    go_wp2_with fail
                    go_meet
                    exact ⟨rfl, rfl, bl_call (bl_drew (bl_refl _)) hb8⟩
              case rest =>
                obtain ⟨rfl, rfl, hb9⟩ := hcut
                obtain ⟨w9, rfl⟩ : ∃ x : World, x = wc := ⟨_, rfl⟩
                have r1 : w9.cell? ⟨bR, oR + k, none⟩ = some (.int .i64 (a : Int)) := (hb9.cell (p := ⟨bR, oR + k, none⟩) (cell_lt r1)).trans r1
                have r2 : w9.cell? ⟨bR, oR + (k + 1), none⟩ = some (.int .i64 (b : Int)) := (hb9.cell (p := ⟨bR, oR + (k + 1), none⟩) (cell_lt r2)).trans r2
                have B9 : Bl WW w9 := bl_call hB hb9
                have z1 := cell_lt r1
                clear px0 px1 px2 py0 py1 py2 sx sy hb9 HCM
                rcases hx with hx | ⟨rfl, hab⟩
                · have e7 : decide (0 < x) = false := by simp; omega
                  have e8 : (x == 0) = false := by simp; omega
                  clear hx
                  go_wp2_with fail
                  go_quiet (fail)
                  go_wp2
                  go_roundw
                  case rel => exact ⟨k + 1, by go_num, by omega, B9.trans (Drawn.below ⟨_, rfl⟩ _)⟩
                  case measure => simp only [intOf]; omega
                · have e9 : decide ((b : Int) < (a : Int)) = false := by simp; omega
                  go_wp2_with fail
                  go_quiet (fail)
                  go_wp2
                  go_roundw
                  case rel => exact ⟨k + 1, by go_num, by omega, B9.trans (Drawn.below ⟨_, rfl⟩ _)⟩
                  case measure => simp only [intOf]; omega
            · have hi1 : ¬ (k : Int) + 1 < (L.length : Int) := by omega
              rcases sort_least HX2.out HX3.out with hL0 | ⟨rfl, r, hLr⟩
              · have e0 : ((L.length : Int) == 0) = true := by simp [hL0]
                clear hL0
                go_wp2
                go_ret
                exact ⟨by first | rfl | simp, bl_call BW hB⟩
              · have hl1 : 0 < L.length := by rw [hLr]; simp
                obtain ⟨bR, oR, rfl, hcell⟩ := sl_twoO L2.out hB hl1
                have r1 := hcell 0 x3 (by rw [hLr]; rfl)
                rw [Nat.add_zero] at r1
                have z1 := cell_lt r1
                have e0 : ((L.length : Int) == 0) = false := by rw [beq_eq_false_iff_ne]; omega
                have hi2 : (0 : Int) < (L.length : Int) := by omega
                clear hcell hLr
                go_wp2
                go_ret
                exact ⟨by first | rfl | simp, bl_call BW hB⟩
        · have e2 : (y2 != 0) = true := by simp [hy2]
          clear hy2
          go_wp2
          go_ret
          exact ⟨rfl, BW⟩

set_option maxRecDepth 100000 in
theorem fnSourceOrder_lifted (os : Os) (started : os.Started) (H : Type) (enc : TypeId × Value → H) :
    ReturnsInHanded {} Try.checked os 3 .any (Rows.fnSourceOrderSpec.pre6 enc Try.prog Try.f3 Rows.fnSourceOrderRow.domain false) (Rows.fnSourceOrderSpec.post enc Try.prog Try.f3 false true false false) := by
  refine returnsInHanded_of_change (C := Try.checked) own started (by kernel_rfl) Try.func3
    (ChangeSpec.witness6 (enc := enc) (C := Try.checked) false ⟨#[], #[.slice none 0 0], []⟩ 8 (by kernel_rfl) (by kernel_rfl) (by kernel_rfl) (by kernel_rfl)) ?_
  intro W base args ds gs before hval0 hW hcnd _
  have hval : ∀ (j : Nat) t v, Try.f3.params[j]? = some t → args[j]? = some v → Value.okWide Try.prog W .any base t v := hval0
  have hW' := hW
  obtain ⟨p, q, hA0, hV, rfl, hfz, hnd⟩ := hW
  have hA : DataW.TrodAll enc Try.prog W 0 (fun _ => true) true Try.f3.params.toList args.toList ds p := hA0
  rw [Try.params3] at hA hval
  obtain ⟨v0, vs0, d0, ds0, p0, q0, hargs, rfl, rfl, h0, r0⟩ := trodAll_cons hA
  obtain ⟨rfl, rfl, rfl⟩ := trodAll_nil r0
  obtain rfl : args = #[v0] := by cases args; simp_all
  obtain ⟨rfl, rfl⟩ := trodVars_none hV
  have k0 := h0
  have lt0 : ∀ x ∈ p0, x.block < W.heap.size := by obtain ⟨m, hm⟩ := k0; exact DataW.trod_lt m _ _ _ hm
  obtain ⟨x0, S0⟩ := bytes_of_trod (hval 0 22 v0 rfl rfl) h0
  clear hA0 hval0
  refine (lawSourceOrder v0 x0 W S0).mono fun e W' ⟨he, bel⟩ => ?_
  subst he
  exact ⟨_, rfl, _, _, _, [], _, [], hW', trodAll_mk1 (shut_bool Try.underlying4 _), (trodAll_cons_mk (Below.trod laidOut (by kernel_rfl) (of_decide_eq_true (by kernel_rfl)) k0 bel lt0) trodAll_mk0), rfl, bel.frame _, fun h => by cases h⟩

/-- THE STATEMENT. -/
theorem fnSourceOrder_holds : Rows.FnSourceOrderSaid :=
  OpenClaim.holds_of_wide 3 Try.f3 rfl rfl rfl rfl rfl rfl rfl ⟨rfl, rfl, rfl, rfl, rfl⟩ rfl rfl rfl rfl rfl (by kernel_rfl) Try.func3 (by kernel_rfl)
    (of_decide_eq_true (by kernel_rfl)) (by unfold Func.isWrapper; first | (rw [if_pos (by decide +kernel)]; kernel_rfl) | (rw [if_neg (by decide +kernel)]; exact ⟨rfl, rfl⟩))
    (fun os started H enc _ => fnSourceOrder_lifted os started H enc)
#print axioms fnSourceOrder_holds

end Go.Proofs.Ytgkelemfbmmgnaa
