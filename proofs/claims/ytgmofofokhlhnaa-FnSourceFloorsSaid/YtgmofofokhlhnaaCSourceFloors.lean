/- FnSourceFloors holds: a comparison with a fraction is that with its source, and the nearest integer is the floor or the next one. Conditions: none. -/
import Derived.Test.YtgmofofokhlhnaaOpenB
import Derived.Test.YtgmofofokhlhnaaDraw
import Derived.Test.YtgmofofokhlhnaaSdF
import Derived.Test.YtgmofofokhlhnaaCmpFr
import Derived.Test.YtgmofofokhlhnaaNearInt
import Derived.Test.YtgmofofokhlhnaaFloorSrc
import Derived.Test.YtgmofofokhlhnaaSrcFr
import Derived.Test.YtgmofofokhlhnaaCmpSrc
namespace Go.Proofs.Ytgmofofokhlhnaa
open Go.RowKit Go.ChangeShapes Go.WideShapes Go.ChangeAt
set_option linter.unusedVariables false
set_option linter.unusedSimpArgs false

theorem near_law {s : Src} {m n : Int} (h : nearIntF s m = (n, 0)) : ∃ fl, floorSrcF s = (fl, 0) ∧ (n = fl ∨ n = fl + 1) := by
  unfold nearIntF at h
  split at h
  · rename_i hc
    have hok : okSrc s = true := by
      cases e : okSrc s with
      | true => rfl
      | false => unfold code17 at hc; rw [e] at hc; simp at hc
    refine ⟨_, by rw [floorSrcF, if_pos hok], ?_⟩
    split at h
    · split at h
      · injection h with h1 h2; exact .inl h1.symm
      · injection h with h1 h2; exact .inr h1.symm
    · rename_i hz
      injection h with h1 h2
      exact absurd h2 hz
  · rename_i hz
    injection h with h1 h2
    exact absurd h2 hz
theorem fl_bd {s : Src} {fl : Int} (h : floorSrcF s = (fl, 0)) : -2000000000 ≤ fl ∧ fl ≤ 2000000000 := by
  unfold floorSrcF at h
  split at h
  · rename_i hok
    injection h with h1 _
    rw [← h1]
    have := term0_bd (okSrc_iff.1 hok); omega
  · injection h with _ h2; simp at h2
theorem cmp_law {s : Src} {n d m c : Int} (h : cmpFrF s n d m = (c, 0)) : srcFrF n d = (⟨[], [], []⟩, 5) ∨ (srcFrF n d = (⟨termsF n d, [], []⟩, 0) ∧ cmpSrcF s ⟨termsF n d, [], []⟩ m = (c, 0)) := by
  unfold cmpFrF at h
  split at h
  · rename_i hb
    simp only [Bool.and_eq_true] at hb
    split at h
    · rename_i hm
      unfold srcFrF
      rw [if_pos hb.2]
      by_cases hl : (termsF n d).length ≤ 30
      · right
        rw [if_pos hl]
        refine ⟨rfl, ?_⟩
        have hd : 0 < d := by have := okF_iff.1 hb.2; omega
        have hc : code17 s ⟨termsF n d, [], []⟩ m = 0 := by
          unfold code17
          rw [hb.1, terms_okS hb.2 hl, if_pos (by rfl), if_pos hm]
        unfold cmpSrcF
        rw [if_pos hc, plain_terms hd]
        exact h
      · left
        rw [if_neg hl]
    · injection h with _ h2; simp at h2
  · injection h with _ h2; simp at h2
theorem icf_eq {h p g : Value} {s : Src} {n d m a b : Int} (e : cmpFrF s n d m = (a, b)) (w : World) (hs : SlS w h p g s) : Calls Try.prog 66 #[.agg #[h, p, g], .agg #[.int .i64 n, .int .i64 d], .int .i64 m] w fun r w' => r = .returned (.tuple #[.int .i64 a, .int .i64 b]) ∧ Bl w w' :=
  (impl_CompareWithFraction h p g s n d m w hs).mono fun _ _ q => by rw [e] at q; exact q
theorem scf_eq {h p g : Value} {s : Src} {n d m a b : Int} (e : cmpFrF s n d m = (a, b)) (w : World) (hs : SlS w h p g s) : Calls Try.prog 67 #[.agg #[h, p, g], .agg #[.int .i64 n, .int .i64 d], .int .i64 m] w fun r w' => r = .returned (.tuple #[.int .i64 a, .int .i64 b]) ∧ Bl w w' :=
  (spec_CompareWithFraction h p g s n d m w hs).mono fun _ _ q => by rw [e] at q; exact q
theorem ifl_eq {h p g : Value} {s : Src} {a b : Int} (e : floorSrcF s = (a, b)) (w : World) (hs : SlS w h p g s) : Calls Try.prog 69 #[.agg #[h, p, g]] w fun r w' => r = .returned (.tuple #[.int .i64 a, .int .i64 b]) ∧ Bl w w' :=
  (impl_FloorOfSource h p g s w hs).mono fun _ _ q => by rw [e] at q; exact q
theorem sfl_eq {h p g : Value} {s : Src} {a b : Int} (e : floorSrcF s = (a, b)) (w : World) (hs : SlS w h p g s) : Calls Try.prog 70 #[.agg #[h, p, g]] w fun r w' => r = .returned (.tuple #[.int .i64 a, .int .i64 b]) ∧ Bl w w' :=
  (spec_FloorOfSource h p g s w hs).mono fun _ _ q => by rw [e] at q; exact q
theorem ine_eq {h p g : Value} {s : Src} {m a b : Int} (e : nearIntF s m = (a, b)) (w : World) (hs : SlS w h p g s) : Calls Try.prog 72 #[.agg #[h, p, g], .int .i64 m] w fun r w' => r = .returned (.tuple #[.int .i64 a, .int .i64 b]) ∧ Bl w w' :=
  (impl_NearestInteger h p g s m w hs).mono fun _ _ q => by rw [e] at q; exact q
theorem sne_eq {h p g : Value} {s : Src} {m a b : Int} (e : nearIntF s m = (a, b)) (w : World) (hs : SlS w h p g s) : Calls Try.prog 73 #[.agg #[h, p, g], .int .i64 m] w fun r w' => r = .returned (.tuple #[.int .i64 a, .int .i64 b]) ∧ Bl w w' :=
  (spec_NearestInteger h p g s m w hs).mono fun _ _ q => by rw [e] at q; exact q
theorem isf_eq {n d c : Int} {s : Src} (e : srcFrF n d = (s, c)) (w : World) : Calls Try.prog 74 #[.agg #[.int .i64 n, .int .i64 d]] w fun r w' => ∃ h p g, r = .returned (.tuple #[.agg #[h, p, g], .int .i64 c]) ∧ OwnS w' w.heap.size h p g s ∧ Bl w w' :=
  (impl_SourceOfFraction n d w).mono fun _ _ ⟨h, p, g, a, b, c⟩ => by rw [e] at a b; exact ⟨h, p, g, a, b, c⟩
theorem ics_eq {h p g h' p' g' : Value} {s t : Src} {m a b : Int} (e : cmpSrcF s t m = (a, b)) (w : World) (hs : SlS w h p g s) (ht : SlS w h' p' g' t) : Calls Try.prog 14 #[.agg #[h, p, g], .agg #[h', p', g'], .int .i64 m] w fun r w' => r = .returned (.tuple #[.int .i64 a, .int .i64 b]) ∧ Bl w w' :=
  (impl_CompareSources h p g s h' p' g' t m w hs ht).mono fun _ _ q => by rw [e] at q; exact q
set_option maxRecDepth 100000 in
set_option maxHeartbeats 25600000 in
theorem lawSourceFloors (v0 : Value) (x0 : List Int) (w : World) (S0 : SlB w v0 x0) :
    Calls Try.prog 11 #[v0] w fun e w' => e = .returned (.bool true) ∧ Bl w w' := by
  have H0 := Lib.hid S0
  obtain ⟨a0, c0, rfl, _⟩ := S0.form
  clear S0
  by_cases hl : 4096 < x0.length
  · have hL := Lib.hid (decide_eq_true hl)
    clear hl
    go_enter Try.func11, Try.ntmps11
    go_wp2_with fail
    refine (f6big_any H0.out).mono ?_
    rintro e w9 ⟨rfl, rfl⟩
    rw [hL.out]
    go_wp2
    go_ret
    exact ⟨rfl, bl_refl _⟩
  · have hL := Lib.hid (decide_eq_false hl)
    have hl0 : x0.length ≤ 4096 := by omega
    clear hl
    go_enter Try.func11, Try.ntmps11
    go_wp2_with fail
    refine (f6big_any H0.out).mono ?_
    rintro e w9 ⟨rfl, rfl⟩
    rw [hL.out]
    go_wp2_with fail
    refine (dcmpf_any H0.out hl0).mono ?_
    rintro e w1 ⟨h1, p1, g1, s1, n, d, m, rfl, O1, hb1⟩
    have B1 : Bl w w1 := bl_call (bl_refl _) hb1
    obtain ⟨⟨a1, m1, k1, rfl⟩, ⟨b1, n1, l1, rfl⟩, ⟨c1, o1, q1, rfl⟩⟩ := O1.shape
    have O1 := Lib.hid O1.sl
    obtain ⟨⟨x1, y1⟩, hx1⟩ : ∃ X, cmpFrF s1 n d m = X := ⟨_, rfl⟩
    have HX1 := Lib.hid hx1
    clear hx1
    go_wp2_with fail
    have B2 : Bl w ((w1.alloc (.cells #[.slice a1 m1 k1, .slice b1 n1 l1, .slice c1 o1 q1] 26)).alloc (.cells #[.int .i64 n, .int .i64 d] 55)) := (bl_alloc (bl_alloc B1 _) _)
    have xS_2 : Bx ((w1.alloc (.cells #[.slice a1 m1 k1, .slice b1 n1 l1, .slice c1 o1 q1] 26)).alloc (.cells #[.int .i64 n, .int .i64 d] 55)) (w1.heap.size) #[.slice a1 m1 k1, .slice b1 n1 l1, .slice c1 o1 q1] := ((Bx.new (b := w1.heap.size) _ #[.slice a1 m1 k1, .slice b1 n1 l1, .slice c1 o1 q1] 26 (by first | rfl | simp)).alloc _)
    have xF_2 : Bx ((w1.alloc (.cells #[.slice a1 m1 k1, .slice b1 n1 l1, .slice c1 o1 q1] 26)).alloc (.cells #[.int .i64 n, .int .i64 d] 55)) (w1.heap.size + 1) #[.int .i64 n, .int .i64 d] := (Bx.new (b := w1.heap.size + 1) _ #[.int .i64 n, .int .i64 d] 55 (by first | rfl | simp))
    have zz2 : w1.heap.size + 2 ≤ ((w1.alloc (.cells #[.slice a1 m1 k1, .slice b1 n1 l1, .slice c1 o1 q1] 26)).alloc (.cells #[.int .i64 n, .int .i64 d] 55)).heap.size := (by simp)
    have O1 : Hid (SlS ((w1.alloc (.cells #[.slice a1 m1 k1, .slice b1 n1 l1, .slice c1 o1 q1] 26)).alloc (.cells #[.int .i64 n, .int .i64 d] 55)) (.slice a1 m1 k1) (.slice b1 n1 l1) (.slice c1 o1 q1) s1) := Lib.hid (O1.out.below (bl_alloc (bl_alloc (bl_refl w1) _) _))
    generalize ((w1.alloc (.cells #[.slice a1 m1 k1, .slice b1 n1 l1, .slice c1 o1 q1] 26)).alloc (.cells #[.int .i64 n, .int .i64 d] 55)) = w2 at *
    obtain ⟨cS_2, fS_2, zS_2⟩ := xS_2.out
    obtain ⟨cF_2, fF_2, zF_2⟩ := xF_2.out
    refine (icf_eq HX1.out _ O1.out).mono ?_
    rintro e w3 ⟨rfl, hb3⟩
    have B3 : Bl w w3 := bl_call B2 hb3
    have xS_3 : Bx w3 (w1.heap.size) #[.slice a1 m1 k1, .slice b1 n1 l1, .slice c1 o1 q1] := xS_2.below hb3
    have xF_3 : Bx w3 (w1.heap.size + 1) #[.int .i64 n, .int .i64 d] := xF_2.below hb3
    clear cS_2 fS_2 zS_2 cF_2 fF_2 zF_2
    obtain ⟨cS_3, fS_3, zS_3⟩ := xS_3.out
    obtain ⟨cF_3, fF_3, zF_3⟩ := xF_3.out
    have O1 : Hid (SlS w3 (.slice a1 m1 k1) (.slice b1 n1 l1) (.slice c1 o1 q1) s1) := Lib.hid ((O1.out.below (bl_refl w2)).below hb3)
    go_wp2_with fail
    refine (scf_eq HX1.out _ O1.out).mono ?_
    rintro e w4 ⟨rfl, hb4⟩
    have B4 : Bl w w4 := bl_call B3 hb4
    have xS_4 : Bx w4 (w1.heap.size) #[.slice a1 m1 k1, .slice b1 n1 l1, .slice c1 o1 q1] := xS_3.below hb4
    have xF_4 : Bx w4 (w1.heap.size + 1) #[.int .i64 n, .int .i64 d] := xF_3.below hb4
    clear cS_3 fS_3 zS_3 cF_3 fF_3 zF_3
    obtain ⟨cS_4, fS_4, zS_4⟩ := xS_4.out
    obtain ⟨cF_4, fF_4, zF_4⟩ := xF_4.out
    have O1 : Hid (SlS w4 (.slice a1 m1 k1) (.slice b1 n1 l1) (.slice c1 o1 q1) s1) := Lib.hid ((O1.out.below (bl_refl w3)).below hb4)
    have H2 := Lib.hid (H0.out.below B4)
    go_wp2_with fail
    refine (dfloor_any H2.out hl0).mono ?_
    rintro e w5 ⟨h2, p2, g2, s2, rfl, O2, hb5⟩
    have B5 : Bl w w5 := bl_call B4 hb5
    have xS_5 : Bx w5 (w1.heap.size) #[.slice a1 m1 k1, .slice b1 n1 l1, .slice c1 o1 q1] := xS_4.below hb5
    have xF_5 : Bx w5 (w1.heap.size + 1) #[.int .i64 n, .int .i64 d] := xF_4.below hb5
    clear cS_4 fS_4 zS_4 cF_4 fF_4 zF_4
    obtain ⟨cS_5, fS_5, zS_5⟩ := xS_5.out
    obtain ⟨cF_5, fF_5, zF_5⟩ := xF_5.out
    have O1 : Hid (SlS w5 (.slice a1 m1 k1) (.slice b1 n1 l1) (.slice c1 o1 q1) s1) := Lib.hid ((O1.out.below (bl_refl w4)).below hb5)
    obtain ⟨⟨a2, m2, k2, rfl⟩, ⟨b2, n2, l2, rfl⟩, ⟨c2, o2, q2, rfl⟩⟩ := O2.shape
    have O2 := Lib.hid O2.sl
    obtain ⟨⟨x2, y2⟩, hx2⟩ : ∃ X, floorSrcF s2 = X := ⟨_, rfl⟩
    have HX2 := Lib.hid hx2
    clear hx2
    go_wp2_with fail
    have B6 : Bl w (w5.alloc (.cells #[.slice a2 m2 k2, .slice b2 n2 l2, .slice c2 o2 q2] 26)) := (bl_alloc B5 _)
    have xS_6 : Bx (w5.alloc (.cells #[.slice a2 m2 k2, .slice b2 n2 l2, .slice c2 o2 q2] 26)) (w1.heap.size) #[.slice a1 m1 k1, .slice b1 n1 l1, .slice c1 o1 q1] := (xS_5.alloc _)
    have xF_6 : Bx (w5.alloc (.cells #[.slice a2 m2 k2, .slice b2 n2 l2, .slice c2 o2 q2] 26)) (w1.heap.size + 1) #[.int .i64 n, .int .i64 d] := (xF_5.alloc _)
    have xA_6 : Bx (w5.alloc (.cells #[.slice a2 m2 k2, .slice b2 n2 l2, .slice c2 o2 q2] 26)) (w5.heap.size) #[.slice a2 m2 k2, .slice b2 n2 l2, .slice c2 o2 q2] := (Bx.new (b := w5.heap.size) _ #[.slice a2 m2 k2, .slice b2 n2 l2, .slice c2 o2 q2] 26 (by first | rfl | simp))
    have zz6 : w5.heap.size + 1 ≤ (w5.alloc (.cells #[.slice a2 m2 k2, .slice b2 n2 l2, .slice c2 o2 q2] 26)).heap.size := (by simp)
    clear cS_5 fS_5 zS_5 cF_5 fF_5 zF_5
    have O1 : Hid (SlS (w5.alloc (.cells #[.slice a2 m2 k2, .slice b2 n2 l2, .slice c2 o2 q2] 26)) (.slice a1 m1 k1) (.slice b1 n1 l1) (.slice c1 o1 q1) s1) := Lib.hid (O1.out.below (bl_alloc (bl_refl w5) _))
    have O2 : Hid (SlS (w5.alloc (.cells #[.slice a2 m2 k2, .slice b2 n2 l2, .slice c2 o2 q2] 26)) (.slice a2 m2 k2) (.slice b2 n2 l2) (.slice c2 o2 q2) s2) := Lib.hid (O2.out.below (bl_alloc (bl_refl w5) _))
    generalize (w5.alloc (.cells #[.slice a2 m2 k2, .slice b2 n2 l2, .slice c2 o2 q2] 26)) = w6 at *
    obtain ⟨cS_6, fS_6, zS_6⟩ := xS_6.out
    obtain ⟨cF_6, fF_6, zF_6⟩ := xF_6.out
    obtain ⟨cA_6, fA_6, zA_6⟩ := xA_6.out
    refine (ifl_eq HX2.out _ O2.out).mono ?_
    rintro e w7 ⟨rfl, hb7⟩
    have B7 : Bl w w7 := bl_call B6 hb7
    have xS_7 : Bx w7 (w1.heap.size) #[.slice a1 m1 k1, .slice b1 n1 l1, .slice c1 o1 q1] := xS_6.below hb7
    have xF_7 : Bx w7 (w1.heap.size + 1) #[.int .i64 n, .int .i64 d] := xF_6.below hb7
    have xA_7 : Bx w7 (w5.heap.size) #[.slice a2 m2 k2, .slice b2 n2 l2, .slice c2 o2 q2] := xA_6.below hb7
    clear cS_6 fS_6 zS_6 cF_6 fF_6 zF_6 cA_6 fA_6 zA_6
    obtain ⟨cS_7, fS_7, zS_7⟩ := xS_7.out
    obtain ⟨cF_7, fF_7, zF_7⟩ := xF_7.out
    obtain ⟨cA_7, fA_7, zA_7⟩ := xA_7.out
    have O1 : Hid (SlS w7 (.slice a1 m1 k1) (.slice b1 n1 l1) (.slice c1 o1 q1) s1) := Lib.hid ((O1.out.below (bl_refl w6)).below hb7)
    have O2 : Hid (SlS w7 (.slice a2 m2 k2) (.slice b2 n2 l2) (.slice c2 o2 q2) s2) := Lib.hid ((O2.out.below (bl_refl w6)).below hb7)
    go_wp2_with fail
    refine (sfl_eq HX2.out _ O2.out).mono ?_
    rintro e w8 ⟨rfl, hb8⟩
    have B8 : Bl w w8 := bl_call B7 hb8
    have xS_8 : Bx w8 (w1.heap.size) #[.slice a1 m1 k1, .slice b1 n1 l1, .slice c1 o1 q1] := xS_7.below hb8
    have xF_8 : Bx w8 (w1.heap.size + 1) #[.int .i64 n, .int .i64 d] := xF_7.below hb8
    have xA_8 : Bx w8 (w5.heap.size) #[.slice a2 m2 k2, .slice b2 n2 l2, .slice c2 o2 q2] := xA_7.below hb8
    clear cS_7 fS_7 zS_7 cF_7 fF_7 zF_7 cA_7 fA_7 zA_7
    obtain ⟨cS_8, fS_8, zS_8⟩ := xS_8.out
    obtain ⟨cF_8, fF_8, zF_8⟩ := xF_8.out
    obtain ⟨cA_8, fA_8, zA_8⟩ := xA_8.out
    have O1 : Hid (SlS w8 (.slice a1 m1 k1) (.slice b1 n1 l1) (.slice c1 o1 q1) s1) := Lib.hid ((O1.out.below (bl_refl w7)).below hb8)
    have O2 : Hid (SlS w8 (.slice a2 m2 k2) (.slice b2 n2 l2) (.slice c2 o2 q2) s2) := Lib.hid ((O2.out.below (bl_refl w7)).below hb8)
    clear O2
    have H3 := Lib.hid (H0.out.below B8)
    go_wp2_with fail
    refine (dnear_any H3.out hl0).mono ?_
    rintro e w9 ⟨h3, p3, g3, s3, by3, rfl, O3, hb9⟩
    have B9 : Bl w w9 := bl_call B8 hb9
    have xS_9 : Bx w9 (w1.heap.size) #[.slice a1 m1 k1, .slice b1 n1 l1, .slice c1 o1 q1] := xS_8.below hb9
    have xF_9 : Bx w9 (w1.heap.size + 1) #[.int .i64 n, .int .i64 d] := xF_8.below hb9
    have xA_9 : Bx w9 (w5.heap.size) #[.slice a2 m2 k2, .slice b2 n2 l2, .slice c2 o2 q2] := xA_8.below hb9
    clear cS_8 fS_8 zS_8 cF_8 fF_8 zF_8 cA_8 fA_8 zA_8
    obtain ⟨cS_9, fS_9, zS_9⟩ := xS_9.out
    obtain ⟨cF_9, fF_9, zF_9⟩ := xF_9.out
    obtain ⟨cA_9, fA_9, zA_9⟩ := xA_9.out
    have O1 : Hid (SlS w9 (.slice a1 m1 k1) (.slice b1 n1 l1) (.slice c1 o1 q1) s1) := Lib.hid ((O1.out.below (bl_refl w8)).below hb9)
    obtain ⟨⟨a3, m3, k3, rfl⟩, ⟨b3, n3, l3, rfl⟩, ⟨c3, o3, q3, rfl⟩⟩ := O3.shape
    have O3 := Lib.hid O3.sl
    obtain ⟨⟨x3, y3⟩, hx3⟩ : ∃ X, nearIntF s3 by3 = X := ⟨_, rfl⟩
    have HX3 := Lib.hid hx3
    clear hx3
    go_wp2_with fail
    have B10 : Bl w (w9.alloc (.cells #[.slice a3 m3 k3, .slice b3 n3 l3, .slice c3 o3 q3] 26)) := (bl_alloc B9 _)
    have xS_10 : Bx (w9.alloc (.cells #[.slice a3 m3 k3, .slice b3 n3 l3, .slice c3 o3 q3] 26)) (w1.heap.size) #[.slice a1 m1 k1, .slice b1 n1 l1, .slice c1 o1 q1] := (xS_9.alloc _)
    have xF_10 : Bx (w9.alloc (.cells #[.slice a3 m3 k3, .slice b3 n3 l3, .slice c3 o3 q3] 26)) (w1.heap.size + 1) #[.int .i64 n, .int .i64 d] := (xF_9.alloc _)
    have xA_10 : Bx (w9.alloc (.cells #[.slice a3 m3 k3, .slice b3 n3 l3, .slice c3 o3 q3] 26)) (w5.heap.size) #[.slice a2 m2 k2, .slice b2 n2 l2, .slice c2 o2 q2] := (xA_9.alloc _)
    have xN_10 : Bx (w9.alloc (.cells #[.slice a3 m3 k3, .slice b3 n3 l3, .slice c3 o3 q3] 26)) (w9.heap.size) #[.slice a3 m3 k3, .slice b3 n3 l3, .slice c3 o3 q3] := (Bx.new (b := w9.heap.size) _ #[.slice a3 m3 k3, .slice b3 n3 l3, .slice c3 o3 q3] 26 (by first | rfl | simp))
    have zz10 : w9.heap.size + 1 ≤ (w9.alloc (.cells #[.slice a3 m3 k3, .slice b3 n3 l3, .slice c3 o3 q3] 26)).heap.size := (by simp)
    clear cS_9 fS_9 zS_9 cF_9 fF_9 zF_9 cA_9 fA_9 zA_9
    have O1 : Hid (SlS (w9.alloc (.cells #[.slice a3 m3 k3, .slice b3 n3 l3, .slice c3 o3 q3] 26)) (.slice a1 m1 k1) (.slice b1 n1 l1) (.slice c1 o1 q1) s1) := Lib.hid (O1.out.below (bl_alloc (bl_refl w9) _))
    have O3 : Hid (SlS (w9.alloc (.cells #[.slice a3 m3 k3, .slice b3 n3 l3, .slice c3 o3 q3] 26)) (.slice a3 m3 k3) (.slice b3 n3 l3) (.slice c3 o3 q3) s3) := Lib.hid (O3.out.below (bl_alloc (bl_refl w9) _))
    generalize (w9.alloc (.cells #[.slice a3 m3 k3, .slice b3 n3 l3, .slice c3 o3 q3] 26)) = w10 at *
    obtain ⟨cS_10, fS_10, zS_10⟩ := xS_10.out
    obtain ⟨cF_10, fF_10, zF_10⟩ := xF_10.out
    obtain ⟨cA_10, fA_10, zA_10⟩ := xA_10.out
    obtain ⟨cN_10, fN_10, zN_10⟩ := xN_10.out
    refine (ine_eq HX3.out _ O3.out).mono ?_
    rintro e w11 ⟨rfl, hb11⟩
    have B11 : Bl w w11 := bl_call B10 hb11
    have xS_11 : Bx w11 (w1.heap.size) #[.slice a1 m1 k1, .slice b1 n1 l1, .slice c1 o1 q1] := xS_10.below hb11
    have xF_11 : Bx w11 (w1.heap.size + 1) #[.int .i64 n, .int .i64 d] := xF_10.below hb11
    have xA_11 : Bx w11 (w5.heap.size) #[.slice a2 m2 k2, .slice b2 n2 l2, .slice c2 o2 q2] := xA_10.below hb11
    have xN_11 : Bx w11 (w9.heap.size) #[.slice a3 m3 k3, .slice b3 n3 l3, .slice c3 o3 q3] := xN_10.below hb11
    clear cS_10 fS_10 zS_10 cF_10 fF_10 zF_10 cA_10 fA_10 zA_10 cN_10 fN_10 zN_10
    obtain ⟨cS_11, fS_11, zS_11⟩ := xS_11.out
    obtain ⟨cF_11, fF_11, zF_11⟩ := xF_11.out
    obtain ⟨cA_11, fA_11, zA_11⟩ := xA_11.out
    obtain ⟨cN_11, fN_11, zN_11⟩ := xN_11.out
    have O1 : Hid (SlS w11 (.slice a1 m1 k1) (.slice b1 n1 l1) (.slice c1 o1 q1) s1) := Lib.hid ((O1.out.below (bl_refl w10)).below hb11)
    have O3 : Hid (SlS w11 (.slice a3 m3 k3) (.slice b3 n3 l3) (.slice c3 o3 q3) s3) := Lib.hid ((O3.out.below (bl_refl w10)).below hb11)
    go_wp2_with fail
    refine (sne_eq HX3.out _ O3.out).mono ?_
    rintro e w12 ⟨rfl, hb12⟩
    have B12 : Bl w w12 := bl_call B11 hb12
    have xS_12 : Bx w12 (w1.heap.size) #[.slice a1 m1 k1, .slice b1 n1 l1, .slice c1 o1 q1] := xS_11.below hb12
    have xF_12 : Bx w12 (w1.heap.size + 1) #[.int .i64 n, .int .i64 d] := xF_11.below hb12
    have xA_12 : Bx w12 (w5.heap.size) #[.slice a2 m2 k2, .slice b2 n2 l2, .slice c2 o2 q2] := xA_11.below hb12
    have xN_12 : Bx w12 (w9.heap.size) #[.slice a3 m3 k3, .slice b3 n3 l3, .slice c3 o3 q3] := xN_11.below hb12
    clear cS_11 fS_11 zS_11 cF_11 fF_11 zF_11 cA_11 fA_11 zA_11 cN_11 fN_11 zN_11
    obtain ⟨cS_12, fS_12, zS_12⟩ := xS_12.out
    obtain ⟨cF_12, fF_12, zF_12⟩ := xF_12.out
    obtain ⟨cA_12, fA_12, zA_12⟩ := xA_12.out
    obtain ⟨cN_12, fN_12, zN_12⟩ := xN_12.out
    have O1 : Hid (SlS w12 (.slice a1 m1 k1) (.slice b1 n1 l1) (.slice c1 o1 q1) s1) := Lib.hid ((O1.out.below (bl_refl w11)).below hb12)
    have O3 : Hid (SlS w12 (.slice a3 m3 k3) (.slice b3 n3 l3) (.slice c3 o3 q3) s3) := Lib.hid ((O3.out.below (bl_refl w11)).below hb12)
    by_cases hy3 : y3 = 0
    · subst hy3
      obtain ⟨fl, hfl, hnr⟩ := near_law HX3.out
      have hb := fl_bd hfl
      have HFL := Lib.hid hfl
      clear hfl
      rcases hnr with rfl | rfl
      · skip
        go_wp2_with fail
        refine (ifl_eq HFL.out _ O3.out).mono ?_
        rintro e w13 ⟨rfl, hb13⟩
        have B13 : Bl w w13 := bl_call B12 hb13
        have xS_13 : Bx w13 (w1.heap.size) #[.slice a1 m1 k1, .slice b1 n1 l1, .slice c1 o1 q1] := xS_12.below hb13
        have xF_13 : Bx w13 (w1.heap.size + 1) #[.int .i64 n, .int .i64 d] := xF_12.below hb13
        have xA_13 : Bx w13 (w5.heap.size) #[.slice a2 m2 k2, .slice b2 n2 l2, .slice c2 o2 q2] := xA_12.below hb13
        have xN_13 : Bx w13 (w9.heap.size) #[.slice a3 m3 k3, .slice b3 n3 l3, .slice c3 o3 q3] := xN_12.below hb13
        clear cS_12 fS_12 zS_12 cF_12 fF_12 zF_12 cA_12 fA_12 zA_12 cN_12 fN_12 zN_12
        obtain ⟨cS_13, fS_13, zS_13⟩ := xS_13.out
        obtain ⟨cF_13, fF_13, zF_13⟩ := xF_13.out
        obtain ⟨cA_13, fA_13, zA_13⟩ := xA_13.out
        obtain ⟨cN_13, fN_13, zN_13⟩ := xN_13.out
        have O1 : Hid (SlS w13 (.slice a1 m1 k1) (.slice b1 n1 l1) (.slice c1 o1 q1) s1) := Lib.hid ((O1.out.below (bl_refl w12)).below hb13)
        have O3 : Hid (SlS w13 (.slice a3 m3 k3) (.slice b3 n3 l3) (.slice c3 o3 q3) s3) := Lib.hid ((O3.out.below (bl_refl w12)).below hb13)
        by_cases hy1 : y1 = 0
        · have e1 : (y1 != 0) = false := by simp [hy1]
          subst hy1
          rcases cmp_law HX1.out with hf | ⟨hf, hc⟩
          · skip
            have HF := Lib.hid hf
            clear hf
            go_wp2_with fail
            refine (isf_eq HF.out _).mono ?_
            rintro e w14 ⟨h5, p5, g5, rfl, O5, hb14⟩
            have B14 : Bl w w14 := bl_call B13 hb14
            have xS_14 : Bx w14 (w1.heap.size) #[.slice a1 m1 k1, .slice b1 n1 l1, .slice c1 o1 q1] := xS_13.below hb14
            have xF_14 : Bx w14 (w1.heap.size + 1) #[.int .i64 n, .int .i64 d] := xF_13.below hb14
            have xA_14 : Bx w14 (w5.heap.size) #[.slice a2 m2 k2, .slice b2 n2 l2, .slice c2 o2 q2] := xA_13.below hb14
            have xN_14 : Bx w14 (w9.heap.size) #[.slice a3 m3 k3, .slice b3 n3 l3, .slice c3 o3 q3] := xN_13.below hb14
            clear cS_13 fS_13 zS_13 cF_13 fF_13 zF_13 cA_13 fA_13 zA_13 cN_13 fN_13 zN_13
            obtain ⟨cS_14, fS_14, zS_14⟩ := xS_14.out
            obtain ⟨cF_14, fF_14, zF_14⟩ := xF_14.out
            obtain ⟨cA_14, fA_14, zA_14⟩ := xA_14.out
            obtain ⟨cN_14, fN_14, zN_14⟩ := xN_14.out
            have O1 : Hid (SlS w14 (.slice a1 m1 k1) (.slice b1 n1 l1) (.slice c1 o1 q1) s1) := Lib.hid ((O1.out.below (bl_refl w13)).below hb14)
            have O3 : Hid (SlS w14 (.slice a3 m3 k3) (.slice b3 n3 l3) (.slice c3 o3 q3) s3) := Lib.hid ((O3.out.below (bl_refl w13)).below hb14)
            obtain ⟨⟨a5, m5, k5, rfl⟩, ⟨b5, n5, l5, rfl⟩, ⟨c5, o5, q5, rfl⟩⟩ := O5.shape
            go_wp2
            go_ret
            exact ⟨rfl, bl_alloc B14 _⟩
          · skip
            have HF := Lib.hid hf
            have HC := Lib.hid hc
            clear hf hc
            go_wp2_with fail
            refine (isf_eq HF.out _).mono ?_
            rintro e w14 ⟨h5, p5, g5, rfl, O5, hb14⟩
            have B14 : Bl w w14 := bl_call B13 hb14
            have xS_14 : Bx w14 (w1.heap.size) #[.slice a1 m1 k1, .slice b1 n1 l1, .slice c1 o1 q1] := xS_13.below hb14
            have xF_14 : Bx w14 (w1.heap.size + 1) #[.int .i64 n, .int .i64 d] := xF_13.below hb14
            have xA_14 : Bx w14 (w5.heap.size) #[.slice a2 m2 k2, .slice b2 n2 l2, .slice c2 o2 q2] := xA_13.below hb14
            have xN_14 : Bx w14 (w9.heap.size) #[.slice a3 m3 k3, .slice b3 n3 l3, .slice c3 o3 q3] := xN_13.below hb14
            clear cS_13 fS_13 zS_13 cF_13 fF_13 zF_13 cA_13 fA_13 zA_13 cN_13 fN_13 zN_13
            obtain ⟨cS_14, fS_14, zS_14⟩ := xS_14.out
            obtain ⟨cF_14, fF_14, zF_14⟩ := xF_14.out
            obtain ⟨cA_14, fA_14, zA_14⟩ := xA_14.out
            obtain ⟨cN_14, fN_14, zN_14⟩ := xN_14.out
            have O1 : Hid (SlS w14 (.slice a1 m1 k1) (.slice b1 n1 l1) (.slice c1 o1 q1) s1) := Lib.hid ((O1.out.below (bl_refl w13)).below hb14)
            have O3 : Hid (SlS w14 (.slice a3 m3 k3) (.slice b3 n3 l3) (.slice c3 o3 q3) s3) := Lib.hid ((O3.out.below (bl_refl w13)).below hb14)
            obtain ⟨⟨a5, m5, k5, rfl⟩, ⟨b5, n5, l5, rfl⟩, ⟨c5, o5, q5, rfl⟩⟩ := O5.shape
            have O5 := Lib.hid O5.sl
            go_wp2_with fail
            have B15 : Bl w (w14.alloc (.cells #[.slice a5 m5 k5, .slice b5 n5 l5, .slice c5 o5 q5] 26)) := (bl_alloc B14 _)
            have xS_15 : Bx (w14.alloc (.cells #[.slice a5 m5 k5, .slice b5 n5 l5, .slice c5 o5 q5] 26)) (w1.heap.size) #[.slice a1 m1 k1, .slice b1 n1 l1, .slice c1 o1 q1] := (xS_14.alloc _)
            have xF_15 : Bx (w14.alloc (.cells #[.slice a5 m5 k5, .slice b5 n5 l5, .slice c5 o5 q5] 26)) (w1.heap.size + 1) #[.int .i64 n, .int .i64 d] := (xF_14.alloc _)
            have xA_15 : Bx (w14.alloc (.cells #[.slice a5 m5 k5, .slice b5 n5 l5, .slice c5 o5 q5] 26)) (w5.heap.size) #[.slice a2 m2 k2, .slice b2 n2 l2, .slice c2 o2 q2] := (xA_14.alloc _)
            have xN_15 : Bx (w14.alloc (.cells #[.slice a5 m5 k5, .slice b5 n5 l5, .slice c5 o5 q5] 26)) (w9.heap.size) #[.slice a3 m3 k3, .slice b3 n3 l3, .slice c3 o3 q3] := (xN_14.alloc _)
            have xT_15 : Bx (w14.alloc (.cells #[.slice a5 m5 k5, .slice b5 n5 l5, .slice c5 o5 q5] 26)) (w14.heap.size) #[.slice a5 m5 k5, .slice b5 n5 l5, .slice c5 o5 q5] := (Bx.new (b := w14.heap.size) _ #[.slice a5 m5 k5, .slice b5 n5 l5, .slice c5 o5 q5] 26 (by first | rfl | simp))
            have zz15 : w14.heap.size + 1 ≤ (w14.alloc (.cells #[.slice a5 m5 k5, .slice b5 n5 l5, .slice c5 o5 q5] 26)).heap.size := (by simp)
            clear cS_14 fS_14 zS_14 cF_14 fF_14 zF_14 cA_14 fA_14 zA_14 cN_14 fN_14 zN_14
            have O1 : Hid (SlS (w14.alloc (.cells #[.slice a5 m5 k5, .slice b5 n5 l5, .slice c5 o5 q5] 26)) (.slice a1 m1 k1) (.slice b1 n1 l1) (.slice c1 o1 q1) s1) := Lib.hid (O1.out.below (bl_alloc (bl_refl w14) _))
            have O3 : Hid (SlS (w14.alloc (.cells #[.slice a5 m5 k5, .slice b5 n5 l5, .slice c5 o5 q5] 26)) (.slice a3 m3 k3) (.slice b3 n3 l3) (.slice c3 o3 q3) s3) := Lib.hid (O3.out.below (bl_alloc (bl_refl w14) _))
            have O5 : Hid (SlS (w14.alloc (.cells #[.slice a5 m5 k5, .slice b5 n5 l5, .slice c5 o5 q5] 26)) (.slice a5 m5 k5) (.slice b5 n5 l5) (.slice c5 o5 q5) ⟨termsF n d, [], []⟩) := Lib.hid (O5.out.below (bl_alloc (bl_refl w14) _))
            generalize (w14.alloc (.cells #[.slice a5 m5 k5, .slice b5 n5 l5, .slice c5 o5 q5] 26)) = w15 at *
            obtain ⟨cS_15, fS_15, zS_15⟩ := xS_15.out
            obtain ⟨cF_15, fF_15, zF_15⟩ := xF_15.out
            obtain ⟨cA_15, fA_15, zA_15⟩ := xA_15.out
            obtain ⟨cN_15, fN_15, zN_15⟩ := xN_15.out
            obtain ⟨cT_15, fT_15, zT_15⟩ := xT_15.out
            refine (ics_eq HC.out _ O1.out O5.out).mono ?_
            rintro e w16 ⟨rfl, hb16⟩
            have B16 : Bl w w16 := bl_call B15 hb16
            have xS_16 : Bx w16 (w1.heap.size) #[.slice a1 m1 k1, .slice b1 n1 l1, .slice c1 o1 q1] := xS_15.below hb16
            have xF_16 : Bx w16 (w1.heap.size + 1) #[.int .i64 n, .int .i64 d] := xF_15.below hb16
            have xA_16 : Bx w16 (w5.heap.size) #[.slice a2 m2 k2, .slice b2 n2 l2, .slice c2 o2 q2] := xA_15.below hb16
            have xN_16 : Bx w16 (w9.heap.size) #[.slice a3 m3 k3, .slice b3 n3 l3, .slice c3 o3 q3] := xN_15.below hb16
            have xT_16 : Bx w16 (w14.heap.size) #[.slice a5 m5 k5, .slice b5 n5 l5, .slice c5 o5 q5] := xT_15.below hb16
            clear cS_15 fS_15 zS_15 cF_15 fF_15 zF_15 cA_15 fA_15 zA_15 cN_15 fN_15 zN_15 cT_15 fT_15 zT_15
            obtain ⟨cS_16, fS_16, zS_16⟩ := xS_16.out
            obtain ⟨cF_16, fF_16, zF_16⟩ := xF_16.out
            obtain ⟨cA_16, fA_16, zA_16⟩ := xA_16.out
            obtain ⟨cN_16, fN_16, zN_16⟩ := xN_16.out
            obtain ⟨cT_16, fT_16, zT_16⟩ := xT_16.out
            have O1 : Hid (SlS w16 (.slice a1 m1 k1) (.slice b1 n1 l1) (.slice c1 o1 q1) s1) := Lib.hid ((O1.out.below (bl_refl w15)).below hb16)
            have O3 : Hid (SlS w16 (.slice a3 m3 k3) (.slice b3 n3 l3) (.slice c3 o3 q3) s3) := Lib.hid ((O3.out.below (bl_refl w15)).below hb16)
            have O5 : Hid (SlS w16 (.slice a5 m5 k5) (.slice b5 n5 l5) (.slice c5 o5 q5) ⟨termsF n d, [], []⟩) := Lib.hid ((O5.out.below (bl_refl w15)).below hb16)
            go_wp2
            go_ret
            exact ⟨by first | rfl | simp, B16⟩
        · have e1 : (y1 != 0) = true := by simp [hy1]
          clear hy1
          go_wp2
          go_ret
          exact ⟨rfl, B13⟩
      · skip
        go_wp2_with fail
        refine (ifl_eq HFL.out _ O3.out).mono ?_
        rintro e w13 ⟨rfl, hb13⟩
        have B13 : Bl w w13 := bl_call B12 hb13
        have xS_13 : Bx w13 (w1.heap.size) #[.slice a1 m1 k1, .slice b1 n1 l1, .slice c1 o1 q1] := xS_12.below hb13
        have xF_13 : Bx w13 (w1.heap.size + 1) #[.int .i64 n, .int .i64 d] := xF_12.below hb13
        have xA_13 : Bx w13 (w5.heap.size) #[.slice a2 m2 k2, .slice b2 n2 l2, .slice c2 o2 q2] := xA_12.below hb13
        have xN_13 : Bx w13 (w9.heap.size) #[.slice a3 m3 k3, .slice b3 n3 l3, .slice c3 o3 q3] := xN_12.below hb13
        clear cS_12 fS_12 zS_12 cF_12 fF_12 zF_12 cA_12 fA_12 zA_12 cN_12 fN_12 zN_12
        obtain ⟨cS_13, fS_13, zS_13⟩ := xS_13.out
        obtain ⟨cF_13, fF_13, zF_13⟩ := xF_13.out
        obtain ⟨cA_13, fA_13, zA_13⟩ := xA_13.out
        obtain ⟨cN_13, fN_13, zN_13⟩ := xN_13.out
        have O1 : Hid (SlS w13 (.slice a1 m1 k1) (.slice b1 n1 l1) (.slice c1 o1 q1) s1) := Lib.hid ((O1.out.below (bl_refl w12)).below hb13)
        have O3 : Hid (SlS w13 (.slice a3 m3 k3) (.slice b3 n3 l3) (.slice c3 o3 q3) s3) := Lib.hid ((O3.out.below (bl_refl w12)).below hb13)
        have hw1 : IntKind.i64.wrap (fl + 1) = fl + 1 := by rw [IntKind.wrap_i64]; omega
        have hne : ((fl + 1 : Int) != fl) = true := by simp; omega
        by_cases hy1 : y1 = 0
        · have e1 : (y1 != 0) = false := by simp [hy1]
          subst hy1
          rcases cmp_law HX1.out with hf | ⟨hf, hc⟩
          · skip
            have HF := Lib.hid hf
            clear hf
            go_wp2_with fail
            refine (isf_eq HF.out _).mono ?_
            rintro e w14 ⟨h5, p5, g5, rfl, O5, hb14⟩
            have B14 : Bl w w14 := bl_call B13 hb14
            have xS_14 : Bx w14 (w1.heap.size) #[.slice a1 m1 k1, .slice b1 n1 l1, .slice c1 o1 q1] := xS_13.below hb14
            have xF_14 : Bx w14 (w1.heap.size + 1) #[.int .i64 n, .int .i64 d] := xF_13.below hb14
            have xA_14 : Bx w14 (w5.heap.size) #[.slice a2 m2 k2, .slice b2 n2 l2, .slice c2 o2 q2] := xA_13.below hb14
            have xN_14 : Bx w14 (w9.heap.size) #[.slice a3 m3 k3, .slice b3 n3 l3, .slice c3 o3 q3] := xN_13.below hb14
            clear cS_13 fS_13 zS_13 cF_13 fF_13 zF_13 cA_13 fA_13 zA_13 cN_13 fN_13 zN_13
            obtain ⟨cS_14, fS_14, zS_14⟩ := xS_14.out
            obtain ⟨cF_14, fF_14, zF_14⟩ := xF_14.out
            obtain ⟨cA_14, fA_14, zA_14⟩ := xA_14.out
            obtain ⟨cN_14, fN_14, zN_14⟩ := xN_14.out
            have O1 : Hid (SlS w14 (.slice a1 m1 k1) (.slice b1 n1 l1) (.slice c1 o1 q1) s1) := Lib.hid ((O1.out.below (bl_refl w13)).below hb14)
            have O3 : Hid (SlS w14 (.slice a3 m3 k3) (.slice b3 n3 l3) (.slice c3 o3 q3) s3) := Lib.hid ((O3.out.below (bl_refl w13)).below hb14)
            obtain ⟨⟨a5, m5, k5, rfl⟩, ⟨b5, n5, l5, rfl⟩, ⟨c5, o5, q5, rfl⟩⟩ := O5.shape
            go_wp2
            go_ret
            exact ⟨rfl, bl_alloc B14 _⟩
          · skip
            have HF := Lib.hid hf
            have HC := Lib.hid hc
            clear hf hc
            go_wp2_with fail
            refine (isf_eq HF.out _).mono ?_
            rintro e w14 ⟨h5, p5, g5, rfl, O5, hb14⟩
            have B14 : Bl w w14 := bl_call B13 hb14
            have xS_14 : Bx w14 (w1.heap.size) #[.slice a1 m1 k1, .slice b1 n1 l1, .slice c1 o1 q1] := xS_13.below hb14
            have xF_14 : Bx w14 (w1.heap.size + 1) #[.int .i64 n, .int .i64 d] := xF_13.below hb14
            have xA_14 : Bx w14 (w5.heap.size) #[.slice a2 m2 k2, .slice b2 n2 l2, .slice c2 o2 q2] := xA_13.below hb14
            have xN_14 : Bx w14 (w9.heap.size) #[.slice a3 m3 k3, .slice b3 n3 l3, .slice c3 o3 q3] := xN_13.below hb14
            clear cS_13 fS_13 zS_13 cF_13 fF_13 zF_13 cA_13 fA_13 zA_13 cN_13 fN_13 zN_13
            obtain ⟨cS_14, fS_14, zS_14⟩ := xS_14.out
            obtain ⟨cF_14, fF_14, zF_14⟩ := xF_14.out
            obtain ⟨cA_14, fA_14, zA_14⟩ := xA_14.out
            obtain ⟨cN_14, fN_14, zN_14⟩ := xN_14.out
            have O1 : Hid (SlS w14 (.slice a1 m1 k1) (.slice b1 n1 l1) (.slice c1 o1 q1) s1) := Lib.hid ((O1.out.below (bl_refl w13)).below hb14)
            have O3 : Hid (SlS w14 (.slice a3 m3 k3) (.slice b3 n3 l3) (.slice c3 o3 q3) s3) := Lib.hid ((O3.out.below (bl_refl w13)).below hb14)
            obtain ⟨⟨a5, m5, k5, rfl⟩, ⟨b5, n5, l5, rfl⟩, ⟨c5, o5, q5, rfl⟩⟩ := O5.shape
            have O5 := Lib.hid O5.sl
            go_wp2_with fail
            have B15 : Bl w (w14.alloc (.cells #[.slice a5 m5 k5, .slice b5 n5 l5, .slice c5 o5 q5] 26)) := (bl_alloc B14 _)
            have xS_15 : Bx (w14.alloc (.cells #[.slice a5 m5 k5, .slice b5 n5 l5, .slice c5 o5 q5] 26)) (w1.heap.size) #[.slice a1 m1 k1, .slice b1 n1 l1, .slice c1 o1 q1] := (xS_14.alloc _)
            have xF_15 : Bx (w14.alloc (.cells #[.slice a5 m5 k5, .slice b5 n5 l5, .slice c5 o5 q5] 26)) (w1.heap.size + 1) #[.int .i64 n, .int .i64 d] := (xF_14.alloc _)
            have xA_15 : Bx (w14.alloc (.cells #[.slice a5 m5 k5, .slice b5 n5 l5, .slice c5 o5 q5] 26)) (w5.heap.size) #[.slice a2 m2 k2, .slice b2 n2 l2, .slice c2 o2 q2] := (xA_14.alloc _)
            have xN_15 : Bx (w14.alloc (.cells #[.slice a5 m5 k5, .slice b5 n5 l5, .slice c5 o5 q5] 26)) (w9.heap.size) #[.slice a3 m3 k3, .slice b3 n3 l3, .slice c3 o3 q3] := (xN_14.alloc _)
            have xT_15 : Bx (w14.alloc (.cells #[.slice a5 m5 k5, .slice b5 n5 l5, .slice c5 o5 q5] 26)) (w14.heap.size) #[.slice a5 m5 k5, .slice b5 n5 l5, .slice c5 o5 q5] := (Bx.new (b := w14.heap.size) _ #[.slice a5 m5 k5, .slice b5 n5 l5, .slice c5 o5 q5] 26 (by first | rfl | simp))
            have zz15 : w14.heap.size + 1 ≤ (w14.alloc (.cells #[.slice a5 m5 k5, .slice b5 n5 l5, .slice c5 o5 q5] 26)).heap.size := (by simp)
            clear cS_14 fS_14 zS_14 cF_14 fF_14 zF_14 cA_14 fA_14 zA_14 cN_14 fN_14 zN_14
            have O1 : Hid (SlS (w14.alloc (.cells #[.slice a5 m5 k5, .slice b5 n5 l5, .slice c5 o5 q5] 26)) (.slice a1 m1 k1) (.slice b1 n1 l1) (.slice c1 o1 q1) s1) := Lib.hid (O1.out.below (bl_alloc (bl_refl w14) _))
            have O3 : Hid (SlS (w14.alloc (.cells #[.slice a5 m5 k5, .slice b5 n5 l5, .slice c5 o5 q5] 26)) (.slice a3 m3 k3) (.slice b3 n3 l3) (.slice c3 o3 q3) s3) := Lib.hid (O3.out.below (bl_alloc (bl_refl w14) _))
            have O5 : Hid (SlS (w14.alloc (.cells #[.slice a5 m5 k5, .slice b5 n5 l5, .slice c5 o5 q5] 26)) (.slice a5 m5 k5) (.slice b5 n5 l5) (.slice c5 o5 q5) ⟨termsF n d, [], []⟩) := Lib.hid (O5.out.below (bl_alloc (bl_refl w14) _))
            generalize (w14.alloc (.cells #[.slice a5 m5 k5, .slice b5 n5 l5, .slice c5 o5 q5] 26)) = w15 at *
            obtain ⟨cS_15, fS_15, zS_15⟩ := xS_15.out
            obtain ⟨cF_15, fF_15, zF_15⟩ := xF_15.out
            obtain ⟨cA_15, fA_15, zA_15⟩ := xA_15.out
            obtain ⟨cN_15, fN_15, zN_15⟩ := xN_15.out
            obtain ⟨cT_15, fT_15, zT_15⟩ := xT_15.out
            refine (ics_eq HC.out _ O1.out O5.out).mono ?_
            rintro e w16 ⟨rfl, hb16⟩
            have B16 : Bl w w16 := bl_call B15 hb16
            have xS_16 : Bx w16 (w1.heap.size) #[.slice a1 m1 k1, .slice b1 n1 l1, .slice c1 o1 q1] := xS_15.below hb16
            have xF_16 : Bx w16 (w1.heap.size + 1) #[.int .i64 n, .int .i64 d] := xF_15.below hb16
            have xA_16 : Bx w16 (w5.heap.size) #[.slice a2 m2 k2, .slice b2 n2 l2, .slice c2 o2 q2] := xA_15.below hb16
            have xN_16 : Bx w16 (w9.heap.size) #[.slice a3 m3 k3, .slice b3 n3 l3, .slice c3 o3 q3] := xN_15.below hb16
            have xT_16 : Bx w16 (w14.heap.size) #[.slice a5 m5 k5, .slice b5 n5 l5, .slice c5 o5 q5] := xT_15.below hb16
            clear cS_15 fS_15 zS_15 cF_15 fF_15 zF_15 cA_15 fA_15 zA_15 cN_15 fN_15 zN_15 cT_15 fT_15 zT_15
            obtain ⟨cS_16, fS_16, zS_16⟩ := xS_16.out
            obtain ⟨cF_16, fF_16, zF_16⟩ := xF_16.out
            obtain ⟨cA_16, fA_16, zA_16⟩ := xA_16.out
            obtain ⟨cN_16, fN_16, zN_16⟩ := xN_16.out
            obtain ⟨cT_16, fT_16, zT_16⟩ := xT_16.out
            have O1 : Hid (SlS w16 (.slice a1 m1 k1) (.slice b1 n1 l1) (.slice c1 o1 q1) s1) := Lib.hid ((O1.out.below (bl_refl w15)).below hb16)
            have O3 : Hid (SlS w16 (.slice a3 m3 k3) (.slice b3 n3 l3) (.slice c3 o3 q3) s3) := Lib.hid ((O3.out.below (bl_refl w15)).below hb16)
            have O5 : Hid (SlS w16 (.slice a5 m5 k5) (.slice b5 n5 l5) (.slice c5 o5 q5) ⟨termsF n d, [], []⟩) := Lib.hid ((O5.out.below (bl_refl w15)).below hb16)
            go_wp2
            go_ret
            exact ⟨by first | rfl | simp, B16⟩
        · have e1 : (y1 != 0) = true := by simp [hy1]
          clear hy1
          go_wp2
          go_ret
          exact ⟨rfl, B13⟩
    · have e3 : (y3 == 0) = false := by simp [hy3]
      clear hy3
      by_cases hy1 : y1 = 0
      · have e1 : (y1 != 0) = false := by simp [hy1]
        subst hy1
        rcases cmp_law HX1.out with hf | ⟨hf, hc⟩
        · skip
          have HF := Lib.hid hf
          clear hf
          go_wp2_with fail
          refine (isf_eq HF.out _).mono ?_
          rintro e w13 ⟨h5, p5, g5, rfl, O5, hb13⟩
          have B13 : Bl w w13 := bl_call B12 hb13
          have xS_13 : Bx w13 (w1.heap.size) #[.slice a1 m1 k1, .slice b1 n1 l1, .slice c1 o1 q1] := xS_12.below hb13
          have xF_13 : Bx w13 (w1.heap.size + 1) #[.int .i64 n, .int .i64 d] := xF_12.below hb13
          have xA_13 : Bx w13 (w5.heap.size) #[.slice a2 m2 k2, .slice b2 n2 l2, .slice c2 o2 q2] := xA_12.below hb13
          have xN_13 : Bx w13 (w9.heap.size) #[.slice a3 m3 k3, .slice b3 n3 l3, .slice c3 o3 q3] := xN_12.below hb13
          clear cS_12 fS_12 zS_12 cF_12 fF_12 zF_12 cA_12 fA_12 zA_12 cN_12 fN_12 zN_12
          obtain ⟨cS_13, fS_13, zS_13⟩ := xS_13.out
          obtain ⟨cF_13, fF_13, zF_13⟩ := xF_13.out
          obtain ⟨cA_13, fA_13, zA_13⟩ := xA_13.out
          obtain ⟨cN_13, fN_13, zN_13⟩ := xN_13.out
          have O1 : Hid (SlS w13 (.slice a1 m1 k1) (.slice b1 n1 l1) (.slice c1 o1 q1) s1) := Lib.hid ((O1.out.below (bl_refl w12)).below hb13)
          have O3 : Hid (SlS w13 (.slice a3 m3 k3) (.slice b3 n3 l3) (.slice c3 o3 q3) s3) := Lib.hid ((O3.out.below (bl_refl w12)).below hb13)
          obtain ⟨⟨a5, m5, k5, rfl⟩, ⟨b5, n5, l5, rfl⟩, ⟨c5, o5, q5, rfl⟩⟩ := O5.shape
          go_wp2
          go_ret
          exact ⟨rfl, bl_alloc B13 _⟩
        · skip
          have HF := Lib.hid hf
          have HC := Lib.hid hc
          clear hf hc
          go_wp2_with fail
          refine (isf_eq HF.out _).mono ?_
          rintro e w13 ⟨h5, p5, g5, rfl, O5, hb13⟩
          have B13 : Bl w w13 := bl_call B12 hb13
          have xS_13 : Bx w13 (w1.heap.size) #[.slice a1 m1 k1, .slice b1 n1 l1, .slice c1 o1 q1] := xS_12.below hb13
          have xF_13 : Bx w13 (w1.heap.size + 1) #[.int .i64 n, .int .i64 d] := xF_12.below hb13
          have xA_13 : Bx w13 (w5.heap.size) #[.slice a2 m2 k2, .slice b2 n2 l2, .slice c2 o2 q2] := xA_12.below hb13
          have xN_13 : Bx w13 (w9.heap.size) #[.slice a3 m3 k3, .slice b3 n3 l3, .slice c3 o3 q3] := xN_12.below hb13
          clear cS_12 fS_12 zS_12 cF_12 fF_12 zF_12 cA_12 fA_12 zA_12 cN_12 fN_12 zN_12
          obtain ⟨cS_13, fS_13, zS_13⟩ := xS_13.out
          obtain ⟨cF_13, fF_13, zF_13⟩ := xF_13.out
          obtain ⟨cA_13, fA_13, zA_13⟩ := xA_13.out
          obtain ⟨cN_13, fN_13, zN_13⟩ := xN_13.out
          have O1 : Hid (SlS w13 (.slice a1 m1 k1) (.slice b1 n1 l1) (.slice c1 o1 q1) s1) := Lib.hid ((O1.out.below (bl_refl w12)).below hb13)
          have O3 : Hid (SlS w13 (.slice a3 m3 k3) (.slice b3 n3 l3) (.slice c3 o3 q3) s3) := Lib.hid ((O3.out.below (bl_refl w12)).below hb13)
          obtain ⟨⟨a5, m5, k5, rfl⟩, ⟨b5, n5, l5, rfl⟩, ⟨c5, o5, q5, rfl⟩⟩ := O5.shape
          have O5 := Lib.hid O5.sl
          go_wp2_with fail
          have B14 : Bl w (w13.alloc (.cells #[.slice a5 m5 k5, .slice b5 n5 l5, .slice c5 o5 q5] 26)) := (bl_alloc B13 _)
          have xS_14 : Bx (w13.alloc (.cells #[.slice a5 m5 k5, .slice b5 n5 l5, .slice c5 o5 q5] 26)) (w1.heap.size) #[.slice a1 m1 k1, .slice b1 n1 l1, .slice c1 o1 q1] := (xS_13.alloc _)
          have xF_14 : Bx (w13.alloc (.cells #[.slice a5 m5 k5, .slice b5 n5 l5, .slice c5 o5 q5] 26)) (w1.heap.size + 1) #[.int .i64 n, .int .i64 d] := (xF_13.alloc _)
          have xA_14 : Bx (w13.alloc (.cells #[.slice a5 m5 k5, .slice b5 n5 l5, .slice c5 o5 q5] 26)) (w5.heap.size) #[.slice a2 m2 k2, .slice b2 n2 l2, .slice c2 o2 q2] := (xA_13.alloc _)
          have xN_14 : Bx (w13.alloc (.cells #[.slice a5 m5 k5, .slice b5 n5 l5, .slice c5 o5 q5] 26)) (w9.heap.size) #[.slice a3 m3 k3, .slice b3 n3 l3, .slice c3 o3 q3] := (xN_13.alloc _)
          have xT_14 : Bx (w13.alloc (.cells #[.slice a5 m5 k5, .slice b5 n5 l5, .slice c5 o5 q5] 26)) (w13.heap.size) #[.slice a5 m5 k5, .slice b5 n5 l5, .slice c5 o5 q5] := (Bx.new (b := w13.heap.size) _ #[.slice a5 m5 k5, .slice b5 n5 l5, .slice c5 o5 q5] 26 (by first | rfl | simp))
          have zz14 : w13.heap.size + 1 ≤ (w13.alloc (.cells #[.slice a5 m5 k5, .slice b5 n5 l5, .slice c5 o5 q5] 26)).heap.size := (by simp)
          clear cS_13 fS_13 zS_13 cF_13 fF_13 zF_13 cA_13 fA_13 zA_13 cN_13 fN_13 zN_13
          have O1 : Hid (SlS (w13.alloc (.cells #[.slice a5 m5 k5, .slice b5 n5 l5, .slice c5 o5 q5] 26)) (.slice a1 m1 k1) (.slice b1 n1 l1) (.slice c1 o1 q1) s1) := Lib.hid (O1.out.below (bl_alloc (bl_refl w13) _))
          have O3 : Hid (SlS (w13.alloc (.cells #[.slice a5 m5 k5, .slice b5 n5 l5, .slice c5 o5 q5] 26)) (.slice a3 m3 k3) (.slice b3 n3 l3) (.slice c3 o3 q3) s3) := Lib.hid (O3.out.below (bl_alloc (bl_refl w13) _))
          have O5 : Hid (SlS (w13.alloc (.cells #[.slice a5 m5 k5, .slice b5 n5 l5, .slice c5 o5 q5] 26)) (.slice a5 m5 k5) (.slice b5 n5 l5) (.slice c5 o5 q5) ⟨termsF n d, [], []⟩) := Lib.hid (O5.out.below (bl_alloc (bl_refl w13) _))
          generalize (w13.alloc (.cells #[.slice a5 m5 k5, .slice b5 n5 l5, .slice c5 o5 q5] 26)) = w14 at *
          obtain ⟨cS_14, fS_14, zS_14⟩ := xS_14.out
          obtain ⟨cF_14, fF_14, zF_14⟩ := xF_14.out
          obtain ⟨cA_14, fA_14, zA_14⟩ := xA_14.out
          obtain ⟨cN_14, fN_14, zN_14⟩ := xN_14.out
          obtain ⟨cT_14, fT_14, zT_14⟩ := xT_14.out
          refine (ics_eq HC.out _ O1.out O5.out).mono ?_
          rintro e w15 ⟨rfl, hb15⟩
          have B15 : Bl w w15 := bl_call B14 hb15
          have xS_15 : Bx w15 (w1.heap.size) #[.slice a1 m1 k1, .slice b1 n1 l1, .slice c1 o1 q1] := xS_14.below hb15
          have xF_15 : Bx w15 (w1.heap.size + 1) #[.int .i64 n, .int .i64 d] := xF_14.below hb15
          have xA_15 : Bx w15 (w5.heap.size) #[.slice a2 m2 k2, .slice b2 n2 l2, .slice c2 o2 q2] := xA_14.below hb15
          have xN_15 : Bx w15 (w9.heap.size) #[.slice a3 m3 k3, .slice b3 n3 l3, .slice c3 o3 q3] := xN_14.below hb15
          have xT_15 : Bx w15 (w13.heap.size) #[.slice a5 m5 k5, .slice b5 n5 l5, .slice c5 o5 q5] := xT_14.below hb15
          clear cS_14 fS_14 zS_14 cF_14 fF_14 zF_14 cA_14 fA_14 zA_14 cN_14 fN_14 zN_14 cT_14 fT_14 zT_14
          obtain ⟨cS_15, fS_15, zS_15⟩ := xS_15.out
          obtain ⟨cF_15, fF_15, zF_15⟩ := xF_15.out
          obtain ⟨cA_15, fA_15, zA_15⟩ := xA_15.out
          obtain ⟨cN_15, fN_15, zN_15⟩ := xN_15.out
          obtain ⟨cT_15, fT_15, zT_15⟩ := xT_15.out
          have O1 : Hid (SlS w15 (.slice a1 m1 k1) (.slice b1 n1 l1) (.slice c1 o1 q1) s1) := Lib.hid ((O1.out.below (bl_refl w14)).below hb15)
          have O3 : Hid (SlS w15 (.slice a3 m3 k3) (.slice b3 n3 l3) (.slice c3 o3 q3) s3) := Lib.hid ((O3.out.below (bl_refl w14)).below hb15)
          have O5 : Hid (SlS w15 (.slice a5 m5 k5) (.slice b5 n5 l5) (.slice c5 o5 q5) ⟨termsF n d, [], []⟩) := Lib.hid ((O5.out.below (bl_refl w14)).below hb15)
          go_wp2
          go_ret
          exact ⟨by first | rfl | simp, B15⟩
      · have e1 : (y1 != 0) = true := by simp [hy1]
        clear hy1
        go_wp2
        go_ret
        exact ⟨rfl, B12⟩

set_option maxRecDepth 100000 in
theorem fnSourceFloors_lifted (os : Os) (started : os.Started) (H : Type) (enc : TypeId × Value → H) :
    ReturnsInHanded {} Try.checked os 11 .any (Rows.fnSourceFloorsSpec.pre6 enc Try.prog Try.f11 Rows.fnSourceFloorsRow.domain false) (Rows.fnSourceFloorsSpec.post enc Try.prog Try.f11 false true false false) := by
  refine returnsInHanded_of_change (C := Try.checked) own started (by kernel_rfl) Try.func11
    (ChangeSpec.witness6 (enc := enc) (C := Try.checked) false ⟨#[], #[.slice none 0 0], []⟩ 8 (by kernel_rfl) (by kernel_rfl) (by kernel_rfl) (by kernel_rfl)) ?_
  intro W base args ds gs before hval0 hW hcnd _
  have hval : ∀ (j : Nat) t v, Try.f11.params[j]? = some t → args[j]? = some v → Value.okWide Try.prog W .any base t v := hval0
  have hW' := hW
  obtain ⟨p, q, hA0, hV, rfl, hfz, hnd⟩ := hW
  have hA : DataW.TrodAll enc Try.prog W 0 (fun _ => true) true Try.f11.params.toList args.toList ds p := hA0
  rw [Try.params11] at hA hval
  obtain ⟨v0, vs0, d0, ds0, p0, q0, hargs, rfl, rfl, h0, r0⟩ := trodAll_cons hA
  obtain ⟨rfl, rfl, rfl⟩ := trodAll_nil r0
  obtain rfl : args = #[v0] := by cases args; simp_all
  obtain ⟨rfl, rfl⟩ := trodVars_none hV
  have k0 := h0
  have lt0 : ∀ x ∈ p0, x.block < W.heap.size := by obtain ⟨m, hm⟩ := k0; exact DataW.trod_lt m _ _ _ hm
  obtain ⟨x0, S0⟩ := bytes_of_trod (hval 0 22 v0 rfl rfl) h0
  clear hA0 hval0
  refine (lawSourceFloors v0 x0 W S0).mono fun e W' ⟨he, bel⟩ => ?_
  subst he
  exact ⟨_, rfl, _, _, _, [], _, [], hW', trodAll_mk1 (shut_bool Try.underlying4 _), (trodAll_cons_mk (Below.trod laidOut (by kernel_rfl) (of_decide_eq_true (by kernel_rfl)) k0 bel lt0) trodAll_mk0), rfl, bel.frame _, fun h => by cases h⟩

/-- THE STATEMENT. -/
theorem fnSourceFloors_holds : Rows.FnSourceFloorsSaid :=
  OpenClaim.holds_of_wide 11 Try.f11 rfl rfl rfl rfl rfl rfl rfl ⟨rfl, rfl, rfl, rfl, rfl⟩ rfl rfl rfl rfl rfl (by kernel_rfl) Try.func11 (by kernel_rfl)
    (of_decide_eq_true (by kernel_rfl)) (by unfold Func.isWrapper; first | (rw [if_pos (by decide +kernel)]; kernel_rfl) | (rw [if_neg (by decide +kernel)]; exact ⟨rfl, rfl⟩))
    (fun os started H enc _ => fnSourceFloors_lifted os started H enc)
#print axioms fnSourceFloors_holds

end Go.Proofs.Ytgmofofokhlhnaa
