/- FnSourceValues holds: sources of fractions and surds give their terms, and a state of a finite source gives the terms of the value. Conditions: none. -/
import Derived.Test.YtgkelemfbmmgnaaGreatMSv5
import Derived.Test.YtgkelemfbmmgnaaGreatMSv30
import Derived.Test.YtgkelemfbmmgnaaGreatMSv31
import Derived.Test.YtgkelemfbmmgnaaGreatMSv35
import Derived.Test.YtgkelemfbmmgnaaGreatMSv36
import Derived.Test.YtgkelemfbmmgnaaGreatMSv39
import Derived.Test.YtgkelemfbmmgnaaGreatMSv40
import Derived.Test.YtgkelemfbmmgnaaGreatMSv18
namespace Go.Proofs.YtgkelemfbmmgnaaGreat
open Go.RowKit Go.ChangeShapes Go.WideShapes Go.ChangeAt
set_option linter.unusedVariables false
set_option linter.unusedSimpArgs false

theorem sameSrc_self (s : Src) : true = sameSrc s s := by simp [sameSrc]
theorem isf_eq {n d c : Int} {s : Src} (e : srcFrF n d = (s, c)) (w : World) : Calls Tryz.prog 6 #[.agg #[.int .i64 n, .int .i64 d]] w fun r w' => ∃ h p g, r = .returned (.tuple #[.agg #[h, p, g], .int .i64 c]) ∧ OwnS w' w.heap.size h p g s ∧ Bl w w' :=
  (impl_SourceOfFraction n d w).mono fun _ _ ⟨h, p, g, a, b, c⟩ => by rw [e] at a b; exact ⟨h, p, g, a, b, c⟩
theorem ssf_eq {n d c : Int} {s : Src} (e : srcFrF n d = (s, c)) (w : World) : Calls Tryz.prog 7 #[.agg #[.int .i64 n, .int .i64 d]] w fun r w' => ∃ h p g, r = .returned (.tuple #[.agg #[h, p, g], .int .i64 c]) ∧ OwnS w' w.heap.size h p g s ∧ Bl w w' :=
  (spec_SourceOfFraction n d w).mono fun _ _ ⟨h, p, g, a, b, c⟩ => by rw [e] at a b; exact ⟨h, p, g, a, b, c⟩
theorem isu_eq {x y z c : Int} {s : Src} (e : surdF x y z = (s, c)) (w : World) : Calls Tryz.prog 9 #[.agg #[.int .i64 x, .int .i64 y, .int .i64 z]] w fun r w' => ∃ h p g, r = .returned (.tuple #[.agg #[h, p, g], .int .i64 c]) ∧ OwnS w' w.heap.size h p g s ∧ Bl w w' :=
  (impl_SourceOfSurd x y z w).mono fun _ _ ⟨h, p, g, a, b, c⟩ => by rw [e] at a b; exact ⟨h, p, g, a, b, c⟩
theorem ssu_eq {x y z c : Int} {s : Src} (e : surdF x y z = (s, c)) (w : World) : Calls Tryz.prog 10 #[.agg #[.int .i64 x, .int .i64 y, .int .i64 z]] w fun r w' => ∃ h p g, r = .returned (.tuple #[.agg #[h, p, g], .int .i64 c]) ∧ OwnS w' w.heap.size h p g s ∧ Bl w w' :=
  (spec_SourceOfSurd x y z w).mono fun _ _ ⟨h, p, g, a, b, c⟩ => by rw [e] at a b; exact ⟨h, p, g, a, b, c⟩
theorem ica_eq {h p g : Value} {s : Src} {k a b c : Int} (e : convAtF s k = ((a, b), c)) (w : World) (hs : SlS w h p g s) : Calls Tryz.prog 12 #[.agg #[h, p, g], .int .i64 k] w fun r w' => r = .returned (.tuple #[.agg #[.int .i64 a, .int .i64 b], .int .i64 c]) ∧ Bl w w' :=
  (impl_ConvergentAt h p g s k w hs).mono fun _ _ q => by rw [e] at q; exact q
theorem sca_eq {h p g : Value} {s : Src} {k a b c : Int} (e : convAtF s k = ((a, b), c)) (w : World) (hs : SlS w h p g s) : Calls Tryz.prog 13 #[.agg #[h, p, g], .int .i64 k] w fun r w' => r = .returned (.tuple #[.agg #[.int .i64 a, .int .i64 b], .int .i64 c]) ∧ Bl w w' :=
  (spec_ConvergentAt h p g s k w hs).mono fun _ _ q => by rw [e] at q; exact q
theorem ima_eq {a b c d n y : Int} {h p g : Value} {s : Src} {L : List Int} (e : mapF a b c d s n = (L, y)) (w : World) (hs : SlS w h p g s) : Calls Tryz.prog 15 #[.agg #[.int .i64 a, .int .i64 b, .int .i64 c, .int .i64 d], .agg #[h, p, g], .int .i64 n] w fun r w' => ∃ av cv, r = .returned (.tuple #[.slice av L.length cv, .int .i64 y]) ∧ Own w' w.heap.size (.slice av L.length cv) L ∧ Bl w w' :=
  (impl_MapSource a b c d h p g s n w hs).mono fun _ _ ⟨a1, n1, c1, q1, q2, q3⟩ => by
    rw [e] at q1 q2
    obtain ⟨a2, c2, e2, _⟩ := q2.form
    injection e2 with h1 h2 h3
    subst h1; subst h2; subst h3
    exact ⟨_, _, q1, q2, q3⟩
theorem sma_eq {a b c d n y : Int} {h p g : Value} {s : Src} {L : List Int} (e : mapF a b c d s n = (L, y)) (w : World) (hs : SlS w h p g s) : Calls Tryz.prog 16 #[.agg #[.int .i64 a, .int .i64 b, .int .i64 c, .int .i64 d], .agg #[h, p, g], .int .i64 n] w fun r w' => ∃ av cv, r = .returned (.tuple #[.slice av L.length cv, .int .i64 y]) ∧ Own w' w.heap.size (.slice av L.length cv) L ∧ Bl w w' :=
  (spec_MapSource a b c d h p g s n w hs).mono fun _ _ ⟨a1, n1, c1, q1, q2, q3⟩ => by
    rw [e] at q1 q2
    obtain ⟨a2, c2, e2, _⟩ := q2.form
    injection e2 with h1 h2 h3
    subst h1; subst h2; subst h3
    exact ⟨_, _, q1, q2, q3⟩
theorem ssame_self {h p g h' p' g' : Value} {s : Src} (w : World) (ha : SlS w h p g s) (hb : SlS w h' p' g' s) : Calls Tryz.prog 17 #[.agg #[h, p, g], .agg #[h', p', g']] w fun e w' => e = .returned (.bool true) ∧ Bl w w' :=
  (spec_SameSource h p g s h' p' g' s w ha hb).mono fun _ _ q => by rw [← sameSrc_self] at q; exact q
theorem f6_self {va vb : Value} {xs : List Int} (w : World) (ha : Sl w va xs) (hb : Sl w vb xs) : Calls Tryz.prog 18 #[va, vb] w fun e w' => e = .returned (.bool true) ∧ Bl w w' :=
  (f6ints_any va vb xs xs w ha hb).mono fun _ _ q => ⟨by rw [q.1]; simp, by obtain ⟨n, e⟩ := q.2; rw [e]; exact Drawn.below ⟨n, rfl⟩ _⟩
theorem ift_eq {h p g : Value} {s : Src} {m : Int} {L : List Int} (e : firstF s m = (L, 0)) (w : World) (hs : SlS w h p g s) : Calls Tryz.prog 21 #[.agg #[h, p, g], .int .i64 m] w fun r w' => ∃ av cv, r = .returned (.tuple #[.slice av L.length cv, .int .i64 0]) ∧ Own w' w.heap.size (.slice av L.length cv) L ∧ Bl w w' :=
  (impl_FirstTerms h p g s m w hs).mono fun _ _ ⟨a1, n1, c1, q1, q2, q3⟩ => by
    rw [e] at q1 q2
    obtain ⟨a2, c2, e2, _⟩ := q2.form
    injection e2 with h1 h2 h3
    subst h1; subst h2; subst h3
    exact ⟨_, _, q1, q2, q3⟩
theorem surd_law {x y z : Int} {s : Src} (h : surdF x y z = (s, 0)) : okU x y z = true ∧ ∃ T k, wkF [] [] (x, y, z) = some (T, k) ∧ firstF s 30 = (tsL T k 30, 0) := by
  cases hok : okU x y z with
  | false => rw [surdF_bad hok] at h; injection h with _ h; cases h
  | true =>
    refine ⟨rfl, ?_⟩
    cases hw : wkF [] [] (x, y, z) with
    | none => rw [surdF_full hok hw] at h; injection h with _ h; cases h
    | some r =>
      obtain ⟨T, k⟩ := r
      cases ho : okSrc (srcU (T, k)) with
      | false => rw [surdF_no hok hw ho] at h; injection h with _ h; cases h
      | true =>
        rw [surdF_yes hok hw ho] at h
        injection h with h _
        subst h
        refine ⟨T, k, rfl, ?_⟩
        obtain ⟨L, hT, hk, _⟩ := wkF_cyc hw
        unfold firstF
        rw [ho, if_pos rfl, if_pos (by rfl)]
        rw [show (30 : Int).toNat = 30 from rfl, first_srcU (by rw [hT]; simpa using hk)]
theorem first_fin {H : List Int} (n : Nat) : ∀ j, j + n ≥ H.length → firstG ⟨H, [], []⟩ n j = H.drop j := by
  induction n with
  | zero => intro j h; rw [List.drop_of_length_le (by omega)]; rfl
  | succ n ih =>
    intro j h
    rw [firstG]
    by_cases hj : j < H.length
    · have e : termP ⟨H, [], []⟩ j = (H.getD j 0, true) := by simp [termP, hj]
      rw [e, if_pos rfl, ih (j + 1) (by omega), List.drop_eq_getElem_cons hj]
      simp [hj]
    · have e : termP ⟨H, [], []⟩ j = (0, false) := by simp [termP, hj]
      rw [e, if_neg (by simp), List.drop_of_length_le (by omega)]
theorem frac_law {n d : Int} {s : Src} (h : srcFrF n d = (s, 0)) : okF n d = true ∧ firstF s 1000 = (termsF n d, 0) := by
  unfold srcFrF at h
  split at h
  · rename_i hok
    refine ⟨hok, ?_⟩
    split at h
    · rename_i hl
      injection h with h _
      subst h
      unfold firstF
      rw [terms_okS hok hl, if_pos rfl, if_pos (by rfl)]
      rw [show (1000 : Int).toNat = 1000 from rfl]
      unfold firstL
      rw [first_fin 1000 0 (by omega), List.drop_zero]
    · injection h with _ h; cases h
  · injection h with _ h; cases h
set_option maxRecDepth 100000 in
set_option maxHeartbeats 51200000 in
theorem lawSourceValues (v0 : Value) (x0 : List Int) (w : World) (S0 : SlB w v0 x0) :
    Calls Tryz.prog 3 #[v0] w fun e w' => e = .returned (.bool true) ∧ Bl w w' := by
  have H0 := Lib.hid S0
  obtain ⟨a0, c0, rfl, _⟩ := S0.form
  clear S0
  by_cases hl : 4096 < x0.length
  · have hL := Lib.hid (decide_eq_true hl)
    clear hl
    go_enter Tryz.func3, Tryz.ntmps3
    go_wp2_with fail
    refine (f6big_any H0.out).mono ?_
    rintro e w9 ⟨rfl, rfl⟩
    rw [hL.out]
    go_wp2
    go_ret
    exact ⟨rfl, bl_refl _⟩
  · have hL := Lib.hid (decide_eq_false hl)
    have hl0 : x0.length ≤ 4096 := by omega
    clear hl
    go_enter Tryz.func3, Tryz.ntmps3
    go_wp2_with fail
    refine (f6big_any H0.out).mono ?_
    rintro e w9 ⟨rfl, rfl⟩
    rw [hL.out]
    go_wp2_with fail
    refine (dsfrac_any H0.out hl0).mono ?_
    rintro e w1 ⟨n, d, rfl, hb1⟩
    have B1 : Bl w w1 := bl_call (bl_refl _) hb1
    obtain ⟨⟨s1, y1⟩, hx1⟩ : ∃ X, srcFrF n d = X := ⟨_, rfl⟩
    have HX1 := Lib.hid hx1
    clear hx1
    go_wp2_with fail
    have B2 : Bl w (w1.alloc (.cells #[.int .i64 n, .int .i64 d] 25)) := (bl_alloc B1 _)
    have xF_2 : Bx (w1.alloc (.cells #[.int .i64 n, .int .i64 d] 25)) (w1.heap.size) #[.int .i64 n, .int .i64 d] := (Bx.new (b := w1.heap.size) _ #[.int .i64 n, .int .i64 d] 25 (by first | rfl | simp))
    have zz2 : w1.heap.size + 1 ≤ (w1.alloc (.cells #[.int .i64 n, .int .i64 d] 25)).heap.size := (by simp)
    generalize (w1.alloc (.cells #[.int .i64 n, .int .i64 d] 25)) = w2 at *
    obtain ⟨cF_2, fF_2, zF_2⟩ := xF_2.out
    refine (isf_eq HX1.out _).mono ?_
    rintro e w3 ⟨h1, p1, g1, rfl, O1, hb3⟩
    have B3 : Bl w w3 := bl_call B2 hb3
    have xF_3 : Bx w3 (w1.heap.size) #[.int .i64 n, .int .i64 d] := xF_2.below hb3
    clear cF_2 fF_2 zF_2
    obtain ⟨cF_3, fF_3, zF_3⟩ := xF_3.out
    obtain ⟨⟨a1, m1, k1, rfl⟩, ⟨b1, n1, l1, rfl⟩, ⟨c1, o1, q1, rfl⟩⟩ := O1.shape
    have O1 := Lib.hid O1.sl
    go_wp2_with fail
    have B4 : Bl w (w3.alloc (.cells #[.slice a1 m1 k1, .slice b1 n1 l1, .slice c1 o1 q1] 29)) := (bl_alloc B3 _)
    have xF_4 : Bx (w3.alloc (.cells #[.slice a1 m1 k1, .slice b1 n1 l1, .slice c1 o1 q1] 29)) (w1.heap.size) #[.int .i64 n, .int .i64 d] := (xF_3.alloc _)
    have xA_4 : Bx (w3.alloc (.cells #[.slice a1 m1 k1, .slice b1 n1 l1, .slice c1 o1 q1] 29)) (w3.heap.size) #[.slice a1 m1 k1, .slice b1 n1 l1, .slice c1 o1 q1] := (Bx.new (b := w3.heap.size) _ #[.slice a1 m1 k1, .slice b1 n1 l1, .slice c1 o1 q1] 29 (by first | rfl | simp))
    have zz4 : w3.heap.size + 1 ≤ (w3.alloc (.cells #[.slice a1 m1 k1, .slice b1 n1 l1, .slice c1 o1 q1] 29)).heap.size := (by simp)
    clear cF_3 fF_3 zF_3
    have O1 : Hid (SlS (w3.alloc (.cells #[.slice a1 m1 k1, .slice b1 n1 l1, .slice c1 o1 q1] 29)) (.slice a1 m1 k1) (.slice b1 n1 l1) (.slice c1 o1 q1) s1) := Lib.hid (O1.out.below (bl_alloc (bl_refl w3) _))
    generalize (w3.alloc (.cells #[.slice a1 m1 k1, .slice b1 n1 l1, .slice c1 o1 q1] 29)) = w4 at *
    obtain ⟨cF_4, fF_4, zF_4⟩ := xF_4.out
    obtain ⟨cA_4, fA_4, zA_4⟩ := xA_4.out
    refine (ssf_eq HX1.out _).mono ?_
    rintro e w5 ⟨h2, p2, g2, rfl, O2, hb5⟩
    have B5 : Bl w w5 := bl_call B4 hb5
    have xF_5 : Bx w5 (w1.heap.size) #[.int .i64 n, .int .i64 d] := xF_4.below hb5
    have xA_5 : Bx w5 (w3.heap.size) #[.slice a1 m1 k1, .slice b1 n1 l1, .slice c1 o1 q1] := xA_4.below hb5
    clear cF_4 fF_4 zF_4 cA_4 fA_4 zA_4
    obtain ⟨cF_5, fF_5, zF_5⟩ := xF_5.out
    obtain ⟨cA_5, fA_5, zA_5⟩ := xA_5.out
    have O1 : Hid (SlS w5 (.slice a1 m1 k1) (.slice b1 n1 l1) (.slice c1 o1 q1) s1) := Lib.hid ((O1.out.below (bl_refl w4)).below hb5)
    obtain ⟨⟨a2, m2, k2, rfl⟩, ⟨b2, n2, l2, rfl⟩, ⟨c2, o2, q2, rfl⟩⟩ := O2.shape
    have O2 := Lib.hid O2.sl
    go_wp2_with fail
    have B6 : Bl w (w5.alloc (.cells #[.slice a2 m2 k2, .slice b2 n2 l2, .slice c2 o2 q2] 29)) := (bl_alloc B5 _)
    have xF_6 : Bx (w5.alloc (.cells #[.slice a2 m2 k2, .slice b2 n2 l2, .slice c2 o2 q2] 29)) (w1.heap.size) #[.int .i64 n, .int .i64 d] := (xF_5.alloc _)
    have xA_6 : Bx (w5.alloc (.cells #[.slice a2 m2 k2, .slice b2 n2 l2, .slice c2 o2 q2] 29)) (w3.heap.size) #[.slice a1 m1 k1, .slice b1 n1 l1, .slice c1 o1 q1] := (xA_5.alloc _)
    have xM_6 : Bx (w5.alloc (.cells #[.slice a2 m2 k2, .slice b2 n2 l2, .slice c2 o2 q2] 29)) (w5.heap.size) #[.slice a2 m2 k2, .slice b2 n2 l2, .slice c2 o2 q2] := (Bx.new (b := w5.heap.size) _ #[.slice a2 m2 k2, .slice b2 n2 l2, .slice c2 o2 q2] 29 (by first | rfl | simp))
    have zz6 : w5.heap.size + 1 ≤ (w5.alloc (.cells #[.slice a2 m2 k2, .slice b2 n2 l2, .slice c2 o2 q2] 29)).heap.size := (by simp)
    clear cF_5 fF_5 zF_5 cA_5 fA_5 zA_5
    have O1 : Hid (SlS (w5.alloc (.cells #[.slice a2 m2 k2, .slice b2 n2 l2, .slice c2 o2 q2] 29)) (.slice a1 m1 k1) (.slice b1 n1 l1) (.slice c1 o1 q1) s1) := Lib.hid (O1.out.below (bl_alloc (bl_refl w5) _))
    have O2 : Hid (SlS (w5.alloc (.cells #[.slice a2 m2 k2, .slice b2 n2 l2, .slice c2 o2 q2] 29)) (.slice a2 m2 k2) (.slice b2 n2 l2) (.slice c2 o2 q2) s1) := Lib.hid (O2.out.below (bl_alloc (bl_refl w5) _))
    generalize (w5.alloc (.cells #[.slice a2 m2 k2, .slice b2 n2 l2, .slice c2 o2 q2] 29)) = w6 at *
    obtain ⟨cF_6, fF_6, zF_6⟩ := xF_6.out
    obtain ⟨cA_6, fA_6, zA_6⟩ := xA_6.out
    obtain ⟨cM_6, fM_6, zM_6⟩ := xM_6.out
    have H2 := Lib.hid (H0.out.below B6)
    refine (dsurd_any H2.out hl0).mono ?_
    rintro e w7 ⟨x, y, z, rfl, hb7⟩
    have B7 : Bl w w7 := bl_call B6 hb7
    have xF_7 : Bx w7 (w1.heap.size) #[.int .i64 n, .int .i64 d] := xF_6.below hb7
    have xA_7 : Bx w7 (w3.heap.size) #[.slice a1 m1 k1, .slice b1 n1 l1, .slice c1 o1 q1] := xA_6.below hb7
    have xM_7 : Bx w7 (w5.heap.size) #[.slice a2 m2 k2, .slice b2 n2 l2, .slice c2 o2 q2] := xM_6.below hb7
    clear cF_6 fF_6 zF_6 cA_6 fA_6 zA_6 cM_6 fM_6 zM_6
    obtain ⟨cF_7, fF_7, zF_7⟩ := xF_7.out
    obtain ⟨cA_7, fA_7, zA_7⟩ := xA_7.out
    obtain ⟨cM_7, fM_7, zM_7⟩ := xM_7.out
    have O1 : Hid (SlS w7 (.slice a1 m1 k1) (.slice b1 n1 l1) (.slice c1 o1 q1) s1) := Lib.hid ((O1.out.below (bl_refl w6)).below hb7)
    have O2 : Hid (SlS w7 (.slice a2 m2 k2) (.slice b2 n2 l2) (.slice c2 o2 q2) s1) := Lib.hid ((O2.out.below (bl_refl w6)).below hb7)
    obtain ⟨⟨s2, y2⟩, hx2⟩ : ∃ X, surdF x y z = X := ⟨_, rfl⟩
    have HX2 := Lib.hid hx2
    clear hx2
    go_wp2_with fail
    have B8 : Bl w (w7.alloc (.cells #[.int .i64 x, .int .i64 y, .int .i64 z] 33)) := (bl_alloc B7 _)
    have xF_8 : Bx (w7.alloc (.cells #[.int .i64 x, .int .i64 y, .int .i64 z] 33)) (w1.heap.size) #[.int .i64 n, .int .i64 d] := (xF_7.alloc _)
    have xA_8 : Bx (w7.alloc (.cells #[.int .i64 x, .int .i64 y, .int .i64 z] 33)) (w3.heap.size) #[.slice a1 m1 k1, .slice b1 n1 l1, .slice c1 o1 q1] := (xA_7.alloc _)
    have xM_8 : Bx (w7.alloc (.cells #[.int .i64 x, .int .i64 y, .int .i64 z] 33)) (w5.heap.size) #[.slice a2 m2 k2, .slice b2 n2 l2, .slice c2 o2 q2] := (xM_7.alloc _)
    have xS_8 : Bx (w7.alloc (.cells #[.int .i64 x, .int .i64 y, .int .i64 z] 33)) (w7.heap.size) #[.int .i64 x, .int .i64 y, .int .i64 z] := (Bx.new (b := w7.heap.size) _ #[.int .i64 x, .int .i64 y, .int .i64 z] 33 (by first | rfl | simp))
    have zz8 : w7.heap.size + 1 ≤ (w7.alloc (.cells #[.int .i64 x, .int .i64 y, .int .i64 z] 33)).heap.size := (by simp)
    clear cF_7 fF_7 zF_7 cA_7 fA_7 zA_7 cM_7 fM_7 zM_7
    have O1 : Hid (SlS (w7.alloc (.cells #[.int .i64 x, .int .i64 y, .int .i64 z] 33)) (.slice a1 m1 k1) (.slice b1 n1 l1) (.slice c1 o1 q1) s1) := Lib.hid (O1.out.below (bl_alloc (bl_refl w7) _))
    have O2 : Hid (SlS (w7.alloc (.cells #[.int .i64 x, .int .i64 y, .int .i64 z] 33)) (.slice a2 m2 k2) (.slice b2 n2 l2) (.slice c2 o2 q2) s1) := Lib.hid (O2.out.below (bl_alloc (bl_refl w7) _))
    generalize (w7.alloc (.cells #[.int .i64 x, .int .i64 y, .int .i64 z] 33)) = w8 at *
    obtain ⟨cF_8, fF_8, zF_8⟩ := xF_8.out
    obtain ⟨cA_8, fA_8, zA_8⟩ := xA_8.out
    obtain ⟨cM_8, fM_8, zM_8⟩ := xM_8.out
    obtain ⟨cS_8, fS_8, zS_8⟩ := xS_8.out
    refine (isu_eq HX2.out _).mono ?_
    rintro e w9 ⟨h3, p3, g3, rfl, O3, hb9⟩
    have B9 : Bl w w9 := bl_call B8 hb9
    have xF_9 : Bx w9 (w1.heap.size) #[.int .i64 n, .int .i64 d] := xF_8.below hb9
    have xA_9 : Bx w9 (w3.heap.size) #[.slice a1 m1 k1, .slice b1 n1 l1, .slice c1 o1 q1] := xA_8.below hb9
    have xM_9 : Bx w9 (w5.heap.size) #[.slice a2 m2 k2, .slice b2 n2 l2, .slice c2 o2 q2] := xM_8.below hb9
    have xS_9 : Bx w9 (w7.heap.size) #[.int .i64 x, .int .i64 y, .int .i64 z] := xS_8.below hb9
    clear cF_8 fF_8 zF_8 cA_8 fA_8 zA_8 cM_8 fM_8 zM_8 cS_8 fS_8 zS_8
    obtain ⟨cF_9, fF_9, zF_9⟩ := xF_9.out
    obtain ⟨cA_9, fA_9, zA_9⟩ := xA_9.out
    obtain ⟨cM_9, fM_9, zM_9⟩ := xM_9.out
    obtain ⟨cS_9, fS_9, zS_9⟩ := xS_9.out
    have O1 : Hid (SlS w9 (.slice a1 m1 k1) (.slice b1 n1 l1) (.slice c1 o1 q1) s1) := Lib.hid ((O1.out.below (bl_refl w8)).below hb9)
    have O2 : Hid (SlS w9 (.slice a2 m2 k2) (.slice b2 n2 l2) (.slice c2 o2 q2) s1) := Lib.hid ((O2.out.below (bl_refl w8)).below hb9)
    obtain ⟨⟨a3, m3, k3, rfl⟩, ⟨b3, n3, l3, rfl⟩, ⟨c3, o3, q3, rfl⟩⟩ := O3.shape
    have O3 := Lib.hid O3.sl
    go_wp2_with fail
    have B10 : Bl w (w9.alloc (.cells #[.slice a3 m3 k3, .slice b3 n3 l3, .slice c3 o3 q3] 29)) := (bl_alloc B9 _)
    have xF_10 : Bx (w9.alloc (.cells #[.slice a3 m3 k3, .slice b3 n3 l3, .slice c3 o3 q3] 29)) (w1.heap.size) #[.int .i64 n, .int .i64 d] := (xF_9.alloc _)
    have xA_10 : Bx (w9.alloc (.cells #[.slice a3 m3 k3, .slice b3 n3 l3, .slice c3 o3 q3] 29)) (w3.heap.size) #[.slice a1 m1 k1, .slice b1 n1 l1, .slice c1 o1 q1] := (xA_9.alloc _)
    have xM_10 : Bx (w9.alloc (.cells #[.slice a3 m3 k3, .slice b3 n3 l3, .slice c3 o3 q3] 29)) (w5.heap.size) #[.slice a2 m2 k2, .slice b2 n2 l2, .slice c2 o2 q2] := (xM_9.alloc _)
    have xS_10 : Bx (w9.alloc (.cells #[.slice a3 m3 k3, .slice b3 n3 l3, .slice c3 o3 q3] 29)) (w7.heap.size) #[.int .i64 x, .int .i64 y, .int .i64 z] := (xS_9.alloc _)
    have xB_10 : Bx (w9.alloc (.cells #[.slice a3 m3 k3, .slice b3 n3 l3, .slice c3 o3 q3] 29)) (w9.heap.size) #[.slice a3 m3 k3, .slice b3 n3 l3, .slice c3 o3 q3] := (Bx.new (b := w9.heap.size) _ #[.slice a3 m3 k3, .slice b3 n3 l3, .slice c3 o3 q3] 29 (by first | rfl | simp))
    have zz10 : w9.heap.size + 1 ≤ (w9.alloc (.cells #[.slice a3 m3 k3, .slice b3 n3 l3, .slice c3 o3 q3] 29)).heap.size := (by simp)
    clear cF_9 fF_9 zF_9 cA_9 fA_9 zA_9 cM_9 fM_9 zM_9 cS_9 fS_9 zS_9
    have O1 : Hid (SlS (w9.alloc (.cells #[.slice a3 m3 k3, .slice b3 n3 l3, .slice c3 o3 q3] 29)) (.slice a1 m1 k1) (.slice b1 n1 l1) (.slice c1 o1 q1) s1) := Lib.hid (O1.out.below (bl_alloc (bl_refl w9) _))
    have O2 : Hid (SlS (w9.alloc (.cells #[.slice a3 m3 k3, .slice b3 n3 l3, .slice c3 o3 q3] 29)) (.slice a2 m2 k2) (.slice b2 n2 l2) (.slice c2 o2 q2) s1) := Lib.hid (O2.out.below (bl_alloc (bl_refl w9) _))
    have O3 : Hid (SlS (w9.alloc (.cells #[.slice a3 m3 k3, .slice b3 n3 l3, .slice c3 o3 q3] 29)) (.slice a3 m3 k3) (.slice b3 n3 l3) (.slice c3 o3 q3) s2) := Lib.hid (O3.out.below (bl_alloc (bl_refl w9) _))
    generalize (w9.alloc (.cells #[.slice a3 m3 k3, .slice b3 n3 l3, .slice c3 o3 q3] 29)) = w10 at *
    obtain ⟨cF_10, fF_10, zF_10⟩ := xF_10.out
    obtain ⟨cA_10, fA_10, zA_10⟩ := xA_10.out
    obtain ⟨cM_10, fM_10, zM_10⟩ := xM_10.out
    obtain ⟨cS_10, fS_10, zS_10⟩ := xS_10.out
    obtain ⟨cB_10, fB_10, zB_10⟩ := xB_10.out
    refine (ssu_eq HX2.out _).mono ?_
    rintro e w11 ⟨h4, p4, g4, rfl, O4, hb11⟩
    have B11 : Bl w w11 := bl_call B10 hb11
    have xF_11 : Bx w11 (w1.heap.size) #[.int .i64 n, .int .i64 d] := xF_10.below hb11
    have xA_11 : Bx w11 (w3.heap.size) #[.slice a1 m1 k1, .slice b1 n1 l1, .slice c1 o1 q1] := xA_10.below hb11
    have xM_11 : Bx w11 (w5.heap.size) #[.slice a2 m2 k2, .slice b2 n2 l2, .slice c2 o2 q2] := xM_10.below hb11
    have xS_11 : Bx w11 (w7.heap.size) #[.int .i64 x, .int .i64 y, .int .i64 z] := xS_10.below hb11
    have xB_11 : Bx w11 (w9.heap.size) #[.slice a3 m3 k3, .slice b3 n3 l3, .slice c3 o3 q3] := xB_10.below hb11
    clear cF_10 fF_10 zF_10 cA_10 fA_10 zA_10 cM_10 fM_10 zM_10 cS_10 fS_10 zS_10 cB_10 fB_10 zB_10
    obtain ⟨cF_11, fF_11, zF_11⟩ := xF_11.out
    obtain ⟨cA_11, fA_11, zA_11⟩ := xA_11.out
    obtain ⟨cM_11, fM_11, zM_11⟩ := xM_11.out
    obtain ⟨cS_11, fS_11, zS_11⟩ := xS_11.out
    obtain ⟨cB_11, fB_11, zB_11⟩ := xB_11.out
    have O1 : Hid (SlS w11 (.slice a1 m1 k1) (.slice b1 n1 l1) (.slice c1 o1 q1) s1) := Lib.hid ((O1.out.below (bl_refl w10)).below hb11)
    have O2 : Hid (SlS w11 (.slice a2 m2 k2) (.slice b2 n2 l2) (.slice c2 o2 q2) s1) := Lib.hid ((O2.out.below (bl_refl w10)).below hb11)
    have O3 : Hid (SlS w11 (.slice a3 m3 k3) (.slice b3 n3 l3) (.slice c3 o3 q3) s2) := Lib.hid ((O3.out.below (bl_refl w10)).below hb11)
    obtain ⟨⟨a4, m4, k4, rfl⟩, ⟨b4, n4, l4, rfl⟩, ⟨c4, o4, q4, rfl⟩⟩ := O4.shape
    have O4 := Lib.hid O4.sl
    go_wp2_with fail
    have B12 : Bl w (w11.alloc (.cells #[.slice a4 m4 k4, .slice b4 n4 l4, .slice c4 o4 q4] 29)) := (bl_alloc B11 _)
    have xF_12 : Bx (w11.alloc (.cells #[.slice a4 m4 k4, .slice b4 n4 l4, .slice c4 o4 q4] 29)) (w1.heap.size) #[.int .i64 n, .int .i64 d] := (xF_11.alloc _)
    have xA_12 : Bx (w11.alloc (.cells #[.slice a4 m4 k4, .slice b4 n4 l4, .slice c4 o4 q4] 29)) (w3.heap.size) #[.slice a1 m1 k1, .slice b1 n1 l1, .slice c1 o1 q1] := (xA_11.alloc _)
    have xM_12 : Bx (w11.alloc (.cells #[.slice a4 m4 k4, .slice b4 n4 l4, .slice c4 o4 q4] 29)) (w5.heap.size) #[.slice a2 m2 k2, .slice b2 n2 l2, .slice c2 o2 q2] := (xM_11.alloc _)
    have xS_12 : Bx (w11.alloc (.cells #[.slice a4 m4 k4, .slice b4 n4 l4, .slice c4 o4 q4] 29)) (w7.heap.size) #[.int .i64 x, .int .i64 y, .int .i64 z] := (xS_11.alloc _)
    have xB_12 : Bx (w11.alloc (.cells #[.slice a4 m4 k4, .slice b4 n4 l4, .slice c4 o4 q4] 29)) (w9.heap.size) #[.slice a3 m3 k3, .slice b3 n3 l3, .slice c3 o3 q3] := (xB_11.alloc _)
    have xR_12 : Bx (w11.alloc (.cells #[.slice a4 m4 k4, .slice b4 n4 l4, .slice c4 o4 q4] 29)) (w11.heap.size) #[.slice a4 m4 k4, .slice b4 n4 l4, .slice c4 o4 q4] := (Bx.new (b := w11.heap.size) _ #[.slice a4 m4 k4, .slice b4 n4 l4, .slice c4 o4 q4] 29 (by first | rfl | simp))
    have zz12 : w11.heap.size + 1 ≤ (w11.alloc (.cells #[.slice a4 m4 k4, .slice b4 n4 l4, .slice c4 o4 q4] 29)).heap.size := (by simp)
    clear cF_11 fF_11 zF_11 cA_11 fA_11 zA_11 cM_11 fM_11 zM_11 cS_11 fS_11 zS_11 cB_11 fB_11 zB_11
    have O1 : Hid (SlS (w11.alloc (.cells #[.slice a4 m4 k4, .slice b4 n4 l4, .slice c4 o4 q4] 29)) (.slice a1 m1 k1) (.slice b1 n1 l1) (.slice c1 o1 q1) s1) := Lib.hid (O1.out.below (bl_alloc (bl_refl w11) _))
    have O2 : Hid (SlS (w11.alloc (.cells #[.slice a4 m4 k4, .slice b4 n4 l4, .slice c4 o4 q4] 29)) (.slice a2 m2 k2) (.slice b2 n2 l2) (.slice c2 o2 q2) s1) := Lib.hid (O2.out.below (bl_alloc (bl_refl w11) _))
    have O3 : Hid (SlS (w11.alloc (.cells #[.slice a4 m4 k4, .slice b4 n4 l4, .slice c4 o4 q4] 29)) (.slice a3 m3 k3) (.slice b3 n3 l3) (.slice c3 o3 q3) s2) := Lib.hid (O3.out.below (bl_alloc (bl_refl w11) _))
    have O4 : Hid (SlS (w11.alloc (.cells #[.slice a4 m4 k4, .slice b4 n4 l4, .slice c4 o4 q4] 29)) (.slice a4 m4 k4) (.slice b4 n4 l4) (.slice c4 o4 q4) s2) := Lib.hid (O4.out.below (bl_alloc (bl_refl w11) _))
    generalize (w11.alloc (.cells #[.slice a4 m4 k4, .slice b4 n4 l4, .slice c4 o4 q4] 29)) = w12 at *
    obtain ⟨cF_12, fF_12, zF_12⟩ := xF_12.out
    obtain ⟨cA_12, fA_12, zA_12⟩ := xA_12.out
    obtain ⟨cM_12, fM_12, zM_12⟩ := xM_12.out
    obtain ⟨cS_12, fS_12, zS_12⟩ := xS_12.out
    obtain ⟨cB_12, fB_12, zB_12⟩ := xB_12.out
    obtain ⟨cR_12, fR_12, zR_12⟩ := xR_12.out
    have H3 := Lib.hid (H0.out.below B12)
    refine (dconv_any H3.out hl0).mono ?_
    rintro e w13 ⟨h5, p5, g5, s5, kk, rfl, O5, hb13⟩
    have B13 : Bl w w13 := bl_call B12 hb13
    have xF_13 : Bx w13 (w1.heap.size) #[.int .i64 n, .int .i64 d] := xF_12.below hb13
    have xA_13 : Bx w13 (w3.heap.size) #[.slice a1 m1 k1, .slice b1 n1 l1, .slice c1 o1 q1] := xA_12.below hb13
    have xM_13 : Bx w13 (w5.heap.size) #[.slice a2 m2 k2, .slice b2 n2 l2, .slice c2 o2 q2] := xM_12.below hb13
    have xS_13 : Bx w13 (w7.heap.size) #[.int .i64 x, .int .i64 y, .int .i64 z] := xS_12.below hb13
    have xB_13 : Bx w13 (w9.heap.size) #[.slice a3 m3 k3, .slice b3 n3 l3, .slice c3 o3 q3] := xB_12.below hb13
    have xR_13 : Bx w13 (w11.heap.size) #[.slice a4 m4 k4, .slice b4 n4 l4, .slice c4 o4 q4] := xR_12.below hb13
    clear cF_12 fF_12 zF_12 cA_12 fA_12 zA_12 cM_12 fM_12 zM_12 cS_12 fS_12 zS_12 cB_12 fB_12 zB_12 cR_12 fR_12 zR_12
    obtain ⟨cF_13, fF_13, zF_13⟩ := xF_13.out
    obtain ⟨cA_13, fA_13, zA_13⟩ := xA_13.out
    obtain ⟨cM_13, fM_13, zM_13⟩ := xM_13.out
    obtain ⟨cS_13, fS_13, zS_13⟩ := xS_13.out
    obtain ⟨cB_13, fB_13, zB_13⟩ := xB_13.out
    obtain ⟨cR_13, fR_13, zR_13⟩ := xR_13.out
    have O1 : Hid (SlS w13 (.slice a1 m1 k1) (.slice b1 n1 l1) (.slice c1 o1 q1) s1) := Lib.hid ((O1.out.below (bl_refl w12)).below hb13)
    have O2 : Hid (SlS w13 (.slice a2 m2 k2) (.slice b2 n2 l2) (.slice c2 o2 q2) s1) := Lib.hid ((O2.out.below (bl_refl w12)).below hb13)
    have O3 : Hid (SlS w13 (.slice a3 m3 k3) (.slice b3 n3 l3) (.slice c3 o3 q3) s2) := Lib.hid ((O3.out.below (bl_refl w12)).below hb13)
    have O4 : Hid (SlS w13 (.slice a4 m4 k4) (.slice b4 n4 l4) (.slice c4 o4 q4) s2) := Lib.hid ((O4.out.below (bl_refl w12)).below hb13)
    obtain ⟨⟨a5, m5, k5, rfl⟩, ⟨b5, n5, l5, rfl⟩, ⟨c5, o5, q5, rfl⟩⟩ := O5.shape
    have O5 := Lib.hid O5.sl
    obtain ⟨⟨⟨r1, r2⟩, y3⟩, hx3⟩ : ∃ X, convAtF s5 kk = X := ⟨_, rfl⟩
    have HX3 := Lib.hid hx3
    clear hx3
    go_wp2_with fail
    have B14 : Bl w (w13.alloc (.cells #[.slice a5 m5 k5, .slice b5 n5 l5, .slice c5 o5 q5] 29)) := (bl_alloc B13 _)
    have xF_14 : Bx (w13.alloc (.cells #[.slice a5 m5 k5, .slice b5 n5 l5, .slice c5 o5 q5] 29)) (w1.heap.size) #[.int .i64 n, .int .i64 d] := (xF_13.alloc _)
    have xA_14 : Bx (w13.alloc (.cells #[.slice a5 m5 k5, .slice b5 n5 l5, .slice c5 o5 q5] 29)) (w3.heap.size) #[.slice a1 m1 k1, .slice b1 n1 l1, .slice c1 o1 q1] := (xA_13.alloc _)
    have xM_14 : Bx (w13.alloc (.cells #[.slice a5 m5 k5, .slice b5 n5 l5, .slice c5 o5 q5] 29)) (w5.heap.size) #[.slice a2 m2 k2, .slice b2 n2 l2, .slice c2 o2 q2] := (xM_13.alloc _)
    have xS_14 : Bx (w13.alloc (.cells #[.slice a5 m5 k5, .slice b5 n5 l5, .slice c5 o5 q5] 29)) (w7.heap.size) #[.int .i64 x, .int .i64 y, .int .i64 z] := (xS_13.alloc _)
    have xB_14 : Bx (w13.alloc (.cells #[.slice a5 m5 k5, .slice b5 n5 l5, .slice c5 o5 q5] 29)) (w9.heap.size) #[.slice a3 m3 k3, .slice b3 n3 l3, .slice c3 o3 q3] := (xB_13.alloc _)
    have xR_14 : Bx (w13.alloc (.cells #[.slice a5 m5 k5, .slice b5 n5 l5, .slice c5 o5 q5] 29)) (w11.heap.size) #[.slice a4 m4 k4, .slice b4 n4 l4, .slice c4 o4 q4] := (xR_13.alloc _)
    have xC_14 : Bx (w13.alloc (.cells #[.slice a5 m5 k5, .slice b5 n5 l5, .slice c5 o5 q5] 29)) (w13.heap.size) #[.slice a5 m5 k5, .slice b5 n5 l5, .slice c5 o5 q5] := (Bx.new (b := w13.heap.size) _ #[.slice a5 m5 k5, .slice b5 n5 l5, .slice c5 o5 q5] 29 (by first | rfl | simp))
    have zz14 : w13.heap.size + 1 ≤ (w13.alloc (.cells #[.slice a5 m5 k5, .slice b5 n5 l5, .slice c5 o5 q5] 29)).heap.size := (by simp)
    clear cF_13 fF_13 zF_13 cA_13 fA_13 zA_13 cM_13 fM_13 zM_13 cS_13 fS_13 zS_13 cB_13 fB_13 zB_13 cR_13 fR_13 zR_13
    have O1 : Hid (SlS (w13.alloc (.cells #[.slice a5 m5 k5, .slice b5 n5 l5, .slice c5 o5 q5] 29)) (.slice a1 m1 k1) (.slice b1 n1 l1) (.slice c1 o1 q1) s1) := Lib.hid (O1.out.below (bl_alloc (bl_refl w13) _))
    have O2 : Hid (SlS (w13.alloc (.cells #[.slice a5 m5 k5, .slice b5 n5 l5, .slice c5 o5 q5] 29)) (.slice a2 m2 k2) (.slice b2 n2 l2) (.slice c2 o2 q2) s1) := Lib.hid (O2.out.below (bl_alloc (bl_refl w13) _))
    have O3 : Hid (SlS (w13.alloc (.cells #[.slice a5 m5 k5, .slice b5 n5 l5, .slice c5 o5 q5] 29)) (.slice a3 m3 k3) (.slice b3 n3 l3) (.slice c3 o3 q3) s2) := Lib.hid (O3.out.below (bl_alloc (bl_refl w13) _))
    have O4 : Hid (SlS (w13.alloc (.cells #[.slice a5 m5 k5, .slice b5 n5 l5, .slice c5 o5 q5] 29)) (.slice a4 m4 k4) (.slice b4 n4 l4) (.slice c4 o4 q4) s2) := Lib.hid (O4.out.below (bl_alloc (bl_refl w13) _))
    have O5 : Hid (SlS (w13.alloc (.cells #[.slice a5 m5 k5, .slice b5 n5 l5, .slice c5 o5 q5] 29)) (.slice a5 m5 k5) (.slice b5 n5 l5) (.slice c5 o5 q5) s5) := Lib.hid (O5.out.below (bl_alloc (bl_refl w13) _))
    generalize (w13.alloc (.cells #[.slice a5 m5 k5, .slice b5 n5 l5, .slice c5 o5 q5] 29)) = w14 at *
    obtain ⟨cF_14, fF_14, zF_14⟩ := xF_14.out
    obtain ⟨cA_14, fA_14, zA_14⟩ := xA_14.out
    obtain ⟨cM_14, fM_14, zM_14⟩ := xM_14.out
    obtain ⟨cS_14, fS_14, zS_14⟩ := xS_14.out
    obtain ⟨cB_14, fB_14, zB_14⟩ := xB_14.out
    obtain ⟨cR_14, fR_14, zR_14⟩ := xR_14.out
    obtain ⟨cC_14, fC_14, zC_14⟩ := xC_14.out
    refine (ica_eq HX3.out _ O5.out).mono ?_
    rintro e w15 ⟨rfl, hb15⟩
    have B15 : Bl w w15 := bl_call B14 hb15
    have xF_15 : Bx w15 (w1.heap.size) #[.int .i64 n, .int .i64 d] := xF_14.below hb15
    have xA_15 : Bx w15 (w3.heap.size) #[.slice a1 m1 k1, .slice b1 n1 l1, .slice c1 o1 q1] := xA_14.below hb15
    have xM_15 : Bx w15 (w5.heap.size) #[.slice a2 m2 k2, .slice b2 n2 l2, .slice c2 o2 q2] := xM_14.below hb15
    have xS_15 : Bx w15 (w7.heap.size) #[.int .i64 x, .int .i64 y, .int .i64 z] := xS_14.below hb15
    have xB_15 : Bx w15 (w9.heap.size) #[.slice a3 m3 k3, .slice b3 n3 l3, .slice c3 o3 q3] := xB_14.below hb15
    have xR_15 : Bx w15 (w11.heap.size) #[.slice a4 m4 k4, .slice b4 n4 l4, .slice c4 o4 q4] := xR_14.below hb15
    have xC_15 : Bx w15 (w13.heap.size) #[.slice a5 m5 k5, .slice b5 n5 l5, .slice c5 o5 q5] := xC_14.below hb15
    clear cF_14 fF_14 zF_14 cA_14 fA_14 zA_14 cM_14 fM_14 zM_14 cS_14 fS_14 zS_14 cB_14 fB_14 zB_14 cR_14 fR_14 zR_14 cC_14 fC_14 zC_14
    obtain ⟨cF_15, fF_15, zF_15⟩ := xF_15.out
    obtain ⟨cA_15, fA_15, zA_15⟩ := xA_15.out
    obtain ⟨cM_15, fM_15, zM_15⟩ := xM_15.out
    obtain ⟨cS_15, fS_15, zS_15⟩ := xS_15.out
    obtain ⟨cB_15, fB_15, zB_15⟩ := xB_15.out
    obtain ⟨cR_15, fR_15, zR_15⟩ := xR_15.out
    obtain ⟨cC_15, fC_15, zC_15⟩ := xC_15.out
    have O1 : Hid (SlS w15 (.slice a1 m1 k1) (.slice b1 n1 l1) (.slice c1 o1 q1) s1) := Lib.hid ((O1.out.below (bl_refl w14)).below hb15)
    have O2 : Hid (SlS w15 (.slice a2 m2 k2) (.slice b2 n2 l2) (.slice c2 o2 q2) s1) := Lib.hid ((O2.out.below (bl_refl w14)).below hb15)
    have O3 : Hid (SlS w15 (.slice a3 m3 k3) (.slice b3 n3 l3) (.slice c3 o3 q3) s2) := Lib.hid ((O3.out.below (bl_refl w14)).below hb15)
    have O4 : Hid (SlS w15 (.slice a4 m4 k4) (.slice b4 n4 l4) (.slice c4 o4 q4) s2) := Lib.hid ((O4.out.below (bl_refl w14)).below hb15)
    have O5 : Hid (SlS w15 (.slice a5 m5 k5) (.slice b5 n5 l5) (.slice c5 o5 q5) s5) := Lib.hid ((O5.out.below (bl_refl w14)).below hb15)
    go_wp2_with fail
    have B16 : Bl w (w15.alloc (.cells #[.int .i64 r1, .int .i64 r2] 25)) := (bl_alloc B15 _)
    have xF_16 : Bx (w15.alloc (.cells #[.int .i64 r1, .int .i64 r2] 25)) (w1.heap.size) #[.int .i64 n, .int .i64 d] := (xF_15.alloc _)
    have xA_16 : Bx (w15.alloc (.cells #[.int .i64 r1, .int .i64 r2] 25)) (w3.heap.size) #[.slice a1 m1 k1, .slice b1 n1 l1, .slice c1 o1 q1] := (xA_15.alloc _)
    have xM_16 : Bx (w15.alloc (.cells #[.int .i64 r1, .int .i64 r2] 25)) (w5.heap.size) #[.slice a2 m2 k2, .slice b2 n2 l2, .slice c2 o2 q2] := (xM_15.alloc _)
    have xS_16 : Bx (w15.alloc (.cells #[.int .i64 r1, .int .i64 r2] 25)) (w7.heap.size) #[.int .i64 x, .int .i64 y, .int .i64 z] := (xS_15.alloc _)
    have xB_16 : Bx (w15.alloc (.cells #[.int .i64 r1, .int .i64 r2] 25)) (w9.heap.size) #[.slice a3 m3 k3, .slice b3 n3 l3, .slice c3 o3 q3] := (xB_15.alloc _)
    have xR_16 : Bx (w15.alloc (.cells #[.int .i64 r1, .int .i64 r2] 25)) (w11.heap.size) #[.slice a4 m4 k4, .slice b4 n4 l4, .slice c4 o4 q4] := (xR_15.alloc _)
    have xC_16 : Bx (w15.alloc (.cells #[.int .i64 r1, .int .i64 r2] 25)) (w13.heap.size) #[.slice a5 m5 k5, .slice b5 n5 l5, .slice c5 o5 q5] := (xC_15.alloc _)
    have xG_16 : Bx (w15.alloc (.cells #[.int .i64 r1, .int .i64 r2] 25)) (w15.heap.size) #[.int .i64 r1, .int .i64 r2] := (Bx.new (b := w15.heap.size) _ #[.int .i64 r1, .int .i64 r2] 25 (by first | rfl | simp))
    have zz16 : w15.heap.size + 1 ≤ (w15.alloc (.cells #[.int .i64 r1, .int .i64 r2] 25)).heap.size := (by simp)
    clear cF_15 fF_15 zF_15 cA_15 fA_15 zA_15 cM_15 fM_15 zM_15 cS_15 fS_15 zS_15 cB_15 fB_15 zB_15 cR_15 fR_15 zR_15 cC_15 fC_15 zC_15
    have O1 : Hid (SlS (w15.alloc (.cells #[.int .i64 r1, .int .i64 r2] 25)) (.slice a1 m1 k1) (.slice b1 n1 l1) (.slice c1 o1 q1) s1) := Lib.hid (O1.out.below (bl_alloc (bl_refl w15) _))
    have O2 : Hid (SlS (w15.alloc (.cells #[.int .i64 r1, .int .i64 r2] 25)) (.slice a2 m2 k2) (.slice b2 n2 l2) (.slice c2 o2 q2) s1) := Lib.hid (O2.out.below (bl_alloc (bl_refl w15) _))
    have O3 : Hid (SlS (w15.alloc (.cells #[.int .i64 r1, .int .i64 r2] 25)) (.slice a3 m3 k3) (.slice b3 n3 l3) (.slice c3 o3 q3) s2) := Lib.hid (O3.out.below (bl_alloc (bl_refl w15) _))
    have O4 : Hid (SlS (w15.alloc (.cells #[.int .i64 r1, .int .i64 r2] 25)) (.slice a4 m4 k4) (.slice b4 n4 l4) (.slice c4 o4 q4) s2) := Lib.hid (O4.out.below (bl_alloc (bl_refl w15) _))
    have O5 : Hid (SlS (w15.alloc (.cells #[.int .i64 r1, .int .i64 r2] 25)) (.slice a5 m5 k5) (.slice b5 n5 l5) (.slice c5 o5 q5) s5) := Lib.hid (O5.out.below (bl_alloc (bl_refl w15) _))
    generalize (w15.alloc (.cells #[.int .i64 r1, .int .i64 r2] 25)) = w16 at *
    obtain ⟨cF_16, fF_16, zF_16⟩ := xF_16.out
    obtain ⟨cA_16, fA_16, zA_16⟩ := xA_16.out
    obtain ⟨cM_16, fM_16, zM_16⟩ := xM_16.out
    obtain ⟨cS_16, fS_16, zS_16⟩ := xS_16.out
    obtain ⟨cB_16, fB_16, zB_16⟩ := xB_16.out
    obtain ⟨cR_16, fR_16, zR_16⟩ := xR_16.out
    obtain ⟨cC_16, fC_16, zC_16⟩ := xC_16.out
    obtain ⟨cG_16, fG_16, zG_16⟩ := xG_16.out
    refine (sca_eq HX3.out _ O5.out).mono ?_
    rintro e w17 ⟨rfl, hb17⟩
    have B17 : Bl w w17 := bl_call B16 hb17
    have xF_17 : Bx w17 (w1.heap.size) #[.int .i64 n, .int .i64 d] := xF_16.below hb17
    have xA_17 : Bx w17 (w3.heap.size) #[.slice a1 m1 k1, .slice b1 n1 l1, .slice c1 o1 q1] := xA_16.below hb17
    have xM_17 : Bx w17 (w5.heap.size) #[.slice a2 m2 k2, .slice b2 n2 l2, .slice c2 o2 q2] := xM_16.below hb17
    have xS_17 : Bx w17 (w7.heap.size) #[.int .i64 x, .int .i64 y, .int .i64 z] := xS_16.below hb17
    have xB_17 : Bx w17 (w9.heap.size) #[.slice a3 m3 k3, .slice b3 n3 l3, .slice c3 o3 q3] := xB_16.below hb17
    have xR_17 : Bx w17 (w11.heap.size) #[.slice a4 m4 k4, .slice b4 n4 l4, .slice c4 o4 q4] := xR_16.below hb17
    have xC_17 : Bx w17 (w13.heap.size) #[.slice a5 m5 k5, .slice b5 n5 l5, .slice c5 o5 q5] := xC_16.below hb17
    have xG_17 : Bx w17 (w15.heap.size) #[.int .i64 r1, .int .i64 r2] := xG_16.below hb17
    clear cF_16 fF_16 zF_16 cA_16 fA_16 zA_16 cM_16 fM_16 zM_16 cS_16 fS_16 zS_16 cB_16 fB_16 zB_16 cR_16 fR_16 zR_16 cC_16 fC_16 zC_16 cG_16 fG_16 zG_16
    obtain ⟨cF_17, fF_17, zF_17⟩ := xF_17.out
    obtain ⟨cA_17, fA_17, zA_17⟩ := xA_17.out
    obtain ⟨cM_17, fM_17, zM_17⟩ := xM_17.out
    obtain ⟨cS_17, fS_17, zS_17⟩ := xS_17.out
    obtain ⟨cB_17, fB_17, zB_17⟩ := xB_17.out
    obtain ⟨cR_17, fR_17, zR_17⟩ := xR_17.out
    obtain ⟨cC_17, fC_17, zC_17⟩ := xC_17.out
    obtain ⟨cG_17, fG_17, zG_17⟩ := xG_17.out
    have O1 : Hid (SlS w17 (.slice a1 m1 k1) (.slice b1 n1 l1) (.slice c1 o1 q1) s1) := Lib.hid ((O1.out.below (bl_refl w16)).below hb17)
    have O2 : Hid (SlS w17 (.slice a2 m2 k2) (.slice b2 n2 l2) (.slice c2 o2 q2) s1) := Lib.hid ((O2.out.below (bl_refl w16)).below hb17)
    have O3 : Hid (SlS w17 (.slice a3 m3 k3) (.slice b3 n3 l3) (.slice c3 o3 q3) s2) := Lib.hid ((O3.out.below (bl_refl w16)).below hb17)
    have O4 : Hid (SlS w17 (.slice a4 m4 k4) (.slice b4 n4 l4) (.slice c4 o4 q4) s2) := Lib.hid ((O4.out.below (bl_refl w16)).below hb17)
    have O5 : Hid (SlS w17 (.slice a5 m5 k5) (.slice b5 n5 l5) (.slice c5 o5 q5) s5) := Lib.hid ((O5.out.below (bl_refl w16)).below hb17)
    go_wp2_with fail
    have B18 : Bl w (w17.alloc (.cells #[.int .i64 r1, .int .i64 r2] 25)) := (bl_alloc B17 _)
    have xF_18 : Bx (w17.alloc (.cells #[.int .i64 r1, .int .i64 r2] 25)) (w1.heap.size) #[.int .i64 n, .int .i64 d] := (xF_17.alloc _)
    have xA_18 : Bx (w17.alloc (.cells #[.int .i64 r1, .int .i64 r2] 25)) (w3.heap.size) #[.slice a1 m1 k1, .slice b1 n1 l1, .slice c1 o1 q1] := (xA_17.alloc _)
    have xM_18 : Bx (w17.alloc (.cells #[.int .i64 r1, .int .i64 r2] 25)) (w5.heap.size) #[.slice a2 m2 k2, .slice b2 n2 l2, .slice c2 o2 q2] := (xM_17.alloc _)
    have xS_18 : Bx (w17.alloc (.cells #[.int .i64 r1, .int .i64 r2] 25)) (w7.heap.size) #[.int .i64 x, .int .i64 y, .int .i64 z] := (xS_17.alloc _)
    have xB_18 : Bx (w17.alloc (.cells #[.int .i64 r1, .int .i64 r2] 25)) (w9.heap.size) #[.slice a3 m3 k3, .slice b3 n3 l3, .slice c3 o3 q3] := (xB_17.alloc _)
    have xR_18 : Bx (w17.alloc (.cells #[.int .i64 r1, .int .i64 r2] 25)) (w11.heap.size) #[.slice a4 m4 k4, .slice b4 n4 l4, .slice c4 o4 q4] := (xR_17.alloc _)
    have xC_18 : Bx (w17.alloc (.cells #[.int .i64 r1, .int .i64 r2] 25)) (w13.heap.size) #[.slice a5 m5 k5, .slice b5 n5 l5, .slice c5 o5 q5] := (xC_17.alloc _)
    have xG_18 : Bx (w17.alloc (.cells #[.int .i64 r1, .int .i64 r2] 25)) (w15.heap.size) #[.int .i64 r1, .int .i64 r2] := (xG_17.alloc _)
    have xH_18 : Bx (w17.alloc (.cells #[.int .i64 r1, .int .i64 r2] 25)) (w17.heap.size) #[.int .i64 r1, .int .i64 r2] := (Bx.new (b := w17.heap.size) _ #[.int .i64 r1, .int .i64 r2] 25 (by first | rfl | simp))
    have zz18 : w17.heap.size + 1 ≤ (w17.alloc (.cells #[.int .i64 r1, .int .i64 r2] 25)).heap.size := (by simp)
    clear cF_17 fF_17 zF_17 cA_17 fA_17 zA_17 cM_17 fM_17 zM_17 cS_17 fS_17 zS_17 cB_17 fB_17 zB_17 cR_17 fR_17 zR_17 cC_17 fC_17 zC_17 cG_17 fG_17 zG_17
    have O1 : Hid (SlS (w17.alloc (.cells #[.int .i64 r1, .int .i64 r2] 25)) (.slice a1 m1 k1) (.slice b1 n1 l1) (.slice c1 o1 q1) s1) := Lib.hid (O1.out.below (bl_alloc (bl_refl w17) _))
    have O2 : Hid (SlS (w17.alloc (.cells #[.int .i64 r1, .int .i64 r2] 25)) (.slice a2 m2 k2) (.slice b2 n2 l2) (.slice c2 o2 q2) s1) := Lib.hid (O2.out.below (bl_alloc (bl_refl w17) _))
    have O3 : Hid (SlS (w17.alloc (.cells #[.int .i64 r1, .int .i64 r2] 25)) (.slice a3 m3 k3) (.slice b3 n3 l3) (.slice c3 o3 q3) s2) := Lib.hid (O3.out.below (bl_alloc (bl_refl w17) _))
    have O4 : Hid (SlS (w17.alloc (.cells #[.int .i64 r1, .int .i64 r2] 25)) (.slice a4 m4 k4) (.slice b4 n4 l4) (.slice c4 o4 q4) s2) := Lib.hid (O4.out.below (bl_alloc (bl_refl w17) _))
    have O5 : Hid (SlS (w17.alloc (.cells #[.int .i64 r1, .int .i64 r2] 25)) (.slice a5 m5 k5) (.slice b5 n5 l5) (.slice c5 o5 q5) s5) := Lib.hid (O5.out.below (bl_alloc (bl_refl w17) _))
    generalize (w17.alloc (.cells #[.int .i64 r1, .int .i64 r2] 25)) = w18 at *
    obtain ⟨cF_18, fF_18, zF_18⟩ := xF_18.out
    obtain ⟨cA_18, fA_18, zA_18⟩ := xA_18.out
    obtain ⟨cM_18, fM_18, zM_18⟩ := xM_18.out
    obtain ⟨cS_18, fS_18, zS_18⟩ := xS_18.out
    obtain ⟨cB_18, fB_18, zB_18⟩ := xB_18.out
    obtain ⟨cR_18, fR_18, zR_18⟩ := xR_18.out
    obtain ⟨cC_18, fC_18, zC_18⟩ := xC_18.out
    obtain ⟨cG_18, fG_18, zG_18⟩ := xG_18.out
    obtain ⟨cH_18, fH_18, zH_18⟩ := xH_18.out
    clear O5
    have H4 := Lib.hid (H0.out.below B18)
    refine (dmap_any H4.out hl0).mono ?_
    rintro e w19 ⟨h6, p6, g6, s6, ta, tb, tc, td, mm, rfl, O6, hb19⟩
    have B19 : Bl w w19 := bl_call B18 hb19
    have xF_19 : Bx w19 (w1.heap.size) #[.int .i64 n, .int .i64 d] := xF_18.below hb19
    have xA_19 : Bx w19 (w3.heap.size) #[.slice a1 m1 k1, .slice b1 n1 l1, .slice c1 o1 q1] := xA_18.below hb19
    have xM_19 : Bx w19 (w5.heap.size) #[.slice a2 m2 k2, .slice b2 n2 l2, .slice c2 o2 q2] := xM_18.below hb19
    have xS_19 : Bx w19 (w7.heap.size) #[.int .i64 x, .int .i64 y, .int .i64 z] := xS_18.below hb19
    have xB_19 : Bx w19 (w9.heap.size) #[.slice a3 m3 k3, .slice b3 n3 l3, .slice c3 o3 q3] := xB_18.below hb19
    have xR_19 : Bx w19 (w11.heap.size) #[.slice a4 m4 k4, .slice b4 n4 l4, .slice c4 o4 q4] := xR_18.below hb19
    have xC_19 : Bx w19 (w13.heap.size) #[.slice a5 m5 k5, .slice b5 n5 l5, .slice c5 o5 q5] := xC_18.below hb19
    have xG_19 : Bx w19 (w15.heap.size) #[.int .i64 r1, .int .i64 r2] := xG_18.below hb19
    have xH_19 : Bx w19 (w17.heap.size) #[.int .i64 r1, .int .i64 r2] := xH_18.below hb19
    clear cF_18 fF_18 zF_18 cA_18 fA_18 zA_18 cM_18 fM_18 zM_18 cS_18 fS_18 zS_18 cB_18 fB_18 zB_18 cR_18 fR_18 zR_18 cC_18 fC_18 zC_18 cG_18 fG_18 zG_18 cH_18 fH_18 zH_18
    obtain ⟨cF_19, fF_19, zF_19⟩ := xF_19.out
    obtain ⟨cA_19, fA_19, zA_19⟩ := xA_19.out
    obtain ⟨cM_19, fM_19, zM_19⟩ := xM_19.out
    obtain ⟨cS_19, fS_19, zS_19⟩ := xS_19.out
    obtain ⟨cB_19, fB_19, zB_19⟩ := xB_19.out
    obtain ⟨cR_19, fR_19, zR_19⟩ := xR_19.out
    obtain ⟨cC_19, fC_19, zC_19⟩ := xC_19.out
    obtain ⟨cG_19, fG_19, zG_19⟩ := xG_19.out
    obtain ⟨cH_19, fH_19, zH_19⟩ := xH_19.out
    have O1 : Hid (SlS w19 (.slice a1 m1 k1) (.slice b1 n1 l1) (.slice c1 o1 q1) s1) := Lib.hid ((O1.out.below (bl_refl w18)).below hb19)
    have O2 : Hid (SlS w19 (.slice a2 m2 k2) (.slice b2 n2 l2) (.slice c2 o2 q2) s1) := Lib.hid ((O2.out.below (bl_refl w18)).below hb19)
    have O3 : Hid (SlS w19 (.slice a3 m3 k3) (.slice b3 n3 l3) (.slice c3 o3 q3) s2) := Lib.hid ((O3.out.below (bl_refl w18)).below hb19)
    have O4 : Hid (SlS w19 (.slice a4 m4 k4) (.slice b4 n4 l4) (.slice c4 o4 q4) s2) := Lib.hid ((O4.out.below (bl_refl w18)).below hb19)
    obtain ⟨⟨a6, m6, k6, rfl⟩, ⟨b6, n6, l6, rfl⟩, ⟨c6, o6, q6, rfl⟩⟩ := O6.shape
    have O6 := Lib.hid O6.sl
    obtain ⟨⟨L, y4⟩, hx4⟩ : ∃ X, mapF ta tb tc td s6 mm = X := ⟨_, rfl⟩
    have HX4 := Lib.hid hx4
    clear hx4
    go_wp2_with fail
    have B20 : Bl w ((w19.alloc (.cells #[.int .i64 ta, .int .i64 tb, .int .i64 tc, .int .i64 td] 40)).alloc (.cells #[.slice a6 m6 k6, .slice b6 n6 l6, .slice c6 o6 q6] 29)) := (bl_alloc (bl_alloc B19 _) _)
    have xF_20 : Bx ((w19.alloc (.cells #[.int .i64 ta, .int .i64 tb, .int .i64 tc, .int .i64 td] 40)).alloc (.cells #[.slice a6 m6 k6, .slice b6 n6 l6, .slice c6 o6 q6] 29)) (w1.heap.size) #[.int .i64 n, .int .i64 d] := ((xF_19.alloc _).alloc _)
    have xA_20 : Bx ((w19.alloc (.cells #[.int .i64 ta, .int .i64 tb, .int .i64 tc, .int .i64 td] 40)).alloc (.cells #[.slice a6 m6 k6, .slice b6 n6 l6, .slice c6 o6 q6] 29)) (w3.heap.size) #[.slice a1 m1 k1, .slice b1 n1 l1, .slice c1 o1 q1] := ((xA_19.alloc _).alloc _)
    have xM_20 : Bx ((w19.alloc (.cells #[.int .i64 ta, .int .i64 tb, .int .i64 tc, .int .i64 td] 40)).alloc (.cells #[.slice a6 m6 k6, .slice b6 n6 l6, .slice c6 o6 q6] 29)) (w5.heap.size) #[.slice a2 m2 k2, .slice b2 n2 l2, .slice c2 o2 q2] := ((xM_19.alloc _).alloc _)
    have xS_20 : Bx ((w19.alloc (.cells #[.int .i64 ta, .int .i64 tb, .int .i64 tc, .int .i64 td] 40)).alloc (.cells #[.slice a6 m6 k6, .slice b6 n6 l6, .slice c6 o6 q6] 29)) (w7.heap.size) #[.int .i64 x, .int .i64 y, .int .i64 z] := ((xS_19.alloc _).alloc _)
    have xB_20 : Bx ((w19.alloc (.cells #[.int .i64 ta, .int .i64 tb, .int .i64 tc, .int .i64 td] 40)).alloc (.cells #[.slice a6 m6 k6, .slice b6 n6 l6, .slice c6 o6 q6] 29)) (w9.heap.size) #[.slice a3 m3 k3, .slice b3 n3 l3, .slice c3 o3 q3] := ((xB_19.alloc _).alloc _)
    have xR_20 : Bx ((w19.alloc (.cells #[.int .i64 ta, .int .i64 tb, .int .i64 tc, .int .i64 td] 40)).alloc (.cells #[.slice a6 m6 k6, .slice b6 n6 l6, .slice c6 o6 q6] 29)) (w11.heap.size) #[.slice a4 m4 k4, .slice b4 n4 l4, .slice c4 o4 q4] := ((xR_19.alloc _).alloc _)
    have xC_20 : Bx ((w19.alloc (.cells #[.int .i64 ta, .int .i64 tb, .int .i64 tc, .int .i64 td] 40)).alloc (.cells #[.slice a6 m6 k6, .slice b6 n6 l6, .slice c6 o6 q6] 29)) (w13.heap.size) #[.slice a5 m5 k5, .slice b5 n5 l5, .slice c5 o5 q5] := ((xC_19.alloc _).alloc _)
    have xG_20 : Bx ((w19.alloc (.cells #[.int .i64 ta, .int .i64 tb, .int .i64 tc, .int .i64 td] 40)).alloc (.cells #[.slice a6 m6 k6, .slice b6 n6 l6, .slice c6 o6 q6] 29)) (w15.heap.size) #[.int .i64 r1, .int .i64 r2] := ((xG_19.alloc _).alloc _)
    have xH_20 : Bx ((w19.alloc (.cells #[.int .i64 ta, .int .i64 tb, .int .i64 tc, .int .i64 td] 40)).alloc (.cells #[.slice a6 m6 k6, .slice b6 n6 l6, .slice c6 o6 q6] 29)) (w17.heap.size) #[.int .i64 r1, .int .i64 r2] := ((xH_19.alloc _).alloc _)
    have xX_20 : Bx ((w19.alloc (.cells #[.int .i64 ta, .int .i64 tb, .int .i64 tc, .int .i64 td] 40)).alloc (.cells #[.slice a6 m6 k6, .slice b6 n6 l6, .slice c6 o6 q6] 29)) (w19.heap.size) #[.int .i64 ta, .int .i64 tb, .int .i64 tc, .int .i64 td] := ((Bx.new (b := w19.heap.size) _ #[.int .i64 ta, .int .i64 tb, .int .i64 tc, .int .i64 td] 40 (by first | rfl | simp)).alloc _)
    have xZ_20 : Bx ((w19.alloc (.cells #[.int .i64 ta, .int .i64 tb, .int .i64 tc, .int .i64 td] 40)).alloc (.cells #[.slice a6 m6 k6, .slice b6 n6 l6, .slice c6 o6 q6] 29)) (w19.heap.size + 1) #[.slice a6 m6 k6, .slice b6 n6 l6, .slice c6 o6 q6] := (Bx.new (b := w19.heap.size + 1) _ #[.slice a6 m6 k6, .slice b6 n6 l6, .slice c6 o6 q6] 29 (by first | rfl | simp))
    have zz20 : w19.heap.size + 2 ≤ ((w19.alloc (.cells #[.int .i64 ta, .int .i64 tb, .int .i64 tc, .int .i64 td] 40)).alloc (.cells #[.slice a6 m6 k6, .slice b6 n6 l6, .slice c6 o6 q6] 29)).heap.size := (by simp)
    clear cF_19 fF_19 zF_19 cA_19 fA_19 zA_19 cM_19 fM_19 zM_19 cS_19 fS_19 zS_19 cB_19 fB_19 zB_19 cR_19 fR_19 zR_19 cC_19 fC_19 zC_19 cG_19 fG_19 zG_19 cH_19 fH_19 zH_19
    have O1 : Hid (SlS ((w19.alloc (.cells #[.int .i64 ta, .int .i64 tb, .int .i64 tc, .int .i64 td] 40)).alloc (.cells #[.slice a6 m6 k6, .slice b6 n6 l6, .slice c6 o6 q6] 29)) (.slice a1 m1 k1) (.slice b1 n1 l1) (.slice c1 o1 q1) s1) := Lib.hid (O1.out.below (bl_alloc (bl_alloc (bl_refl w19) _) _))
    have O2 : Hid (SlS ((w19.alloc (.cells #[.int .i64 ta, .int .i64 tb, .int .i64 tc, .int .i64 td] 40)).alloc (.cells #[.slice a6 m6 k6, .slice b6 n6 l6, .slice c6 o6 q6] 29)) (.slice a2 m2 k2) (.slice b2 n2 l2) (.slice c2 o2 q2) s1) := Lib.hid (O2.out.below (bl_alloc (bl_alloc (bl_refl w19) _) _))
    have O3 : Hid (SlS ((w19.alloc (.cells #[.int .i64 ta, .int .i64 tb, .int .i64 tc, .int .i64 td] 40)).alloc (.cells #[.slice a6 m6 k6, .slice b6 n6 l6, .slice c6 o6 q6] 29)) (.slice a3 m3 k3) (.slice b3 n3 l3) (.slice c3 o3 q3) s2) := Lib.hid (O3.out.below (bl_alloc (bl_alloc (bl_refl w19) _) _))
    have O4 : Hid (SlS ((w19.alloc (.cells #[.int .i64 ta, .int .i64 tb, .int .i64 tc, .int .i64 td] 40)).alloc (.cells #[.slice a6 m6 k6, .slice b6 n6 l6, .slice c6 o6 q6] 29)) (.slice a4 m4 k4) (.slice b4 n4 l4) (.slice c4 o4 q4) s2) := Lib.hid (O4.out.below (bl_alloc (bl_alloc (bl_refl w19) _) _))
    have O6 : Hid (SlS ((w19.alloc (.cells #[.int .i64 ta, .int .i64 tb, .int .i64 tc, .int .i64 td] 40)).alloc (.cells #[.slice a6 m6 k6, .slice b6 n6 l6, .slice c6 o6 q6] 29)) (.slice a6 m6 k6) (.slice b6 n6 l6) (.slice c6 o6 q6) s6) := Lib.hid (O6.out.below (bl_alloc (bl_alloc (bl_refl w19) _) _))
    generalize ((w19.alloc (.cells #[.int .i64 ta, .int .i64 tb, .int .i64 tc, .int .i64 td] 40)).alloc (.cells #[.slice a6 m6 k6, .slice b6 n6 l6, .slice c6 o6 q6] 29)) = w20 at *
    obtain ⟨cF_20, fF_20, zF_20⟩ := xF_20.out
    obtain ⟨cA_20, fA_20, zA_20⟩ := xA_20.out
    obtain ⟨cM_20, fM_20, zM_20⟩ := xM_20.out
    obtain ⟨cS_20, fS_20, zS_20⟩ := xS_20.out
    obtain ⟨cB_20, fB_20, zB_20⟩ := xB_20.out
    obtain ⟨cR_20, fR_20, zR_20⟩ := xR_20.out
    obtain ⟨cC_20, fC_20, zC_20⟩ := xC_20.out
    obtain ⟨cG_20, fG_20, zG_20⟩ := xG_20.out
    obtain ⟨cH_20, fH_20, zH_20⟩ := xH_20.out
    obtain ⟨cX_20, fX_20, zX_20⟩ := xX_20.out
    obtain ⟨cZ_20, fZ_20, zZ_20⟩ := xZ_20.out
    refine (ima_eq HX4.out _ O6.out).mono ?_
    rintro e w21 ⟨av1, cv1, rfl, L1, hb21⟩
    have B21 : Bl w w21 := bl_call B20 hb21
    have xF_21 : Bx w21 (w1.heap.size) #[.int .i64 n, .int .i64 d] := xF_20.below hb21
    have xA_21 : Bx w21 (w3.heap.size) #[.slice a1 m1 k1, .slice b1 n1 l1, .slice c1 o1 q1] := xA_20.below hb21
    have xM_21 : Bx w21 (w5.heap.size) #[.slice a2 m2 k2, .slice b2 n2 l2, .slice c2 o2 q2] := xM_20.below hb21
    have xS_21 : Bx w21 (w7.heap.size) #[.int .i64 x, .int .i64 y, .int .i64 z] := xS_20.below hb21
    have xB_21 : Bx w21 (w9.heap.size) #[.slice a3 m3 k3, .slice b3 n3 l3, .slice c3 o3 q3] := xB_20.below hb21
    have xR_21 : Bx w21 (w11.heap.size) #[.slice a4 m4 k4, .slice b4 n4 l4, .slice c4 o4 q4] := xR_20.below hb21
    have xC_21 : Bx w21 (w13.heap.size) #[.slice a5 m5 k5, .slice b5 n5 l5, .slice c5 o5 q5] := xC_20.below hb21
    have xG_21 : Bx w21 (w15.heap.size) #[.int .i64 r1, .int .i64 r2] := xG_20.below hb21
    have xH_21 : Bx w21 (w17.heap.size) #[.int .i64 r1, .int .i64 r2] := xH_20.below hb21
    have xX_21 : Bx w21 (w19.heap.size) #[.int .i64 ta, .int .i64 tb, .int .i64 tc, .int .i64 td] := xX_20.below hb21
    have xZ_21 : Bx w21 (w19.heap.size + 1) #[.slice a6 m6 k6, .slice b6 n6 l6, .slice c6 o6 q6] := xZ_20.below hb21
    clear cF_20 fF_20 zF_20 cA_20 fA_20 zA_20 cM_20 fM_20 zM_20 cS_20 fS_20 zS_20 cB_20 fB_20 zB_20 cR_20 fR_20 zR_20 cC_20 fC_20 zC_20 cG_20 fG_20 zG_20 cH_20 fH_20 zH_20 cX_20 fX_20 zX_20 cZ_20 fZ_20 zZ_20
    obtain ⟨cF_21, fF_21, zF_21⟩ := xF_21.out
    obtain ⟨cA_21, fA_21, zA_21⟩ := xA_21.out
    obtain ⟨cM_21, fM_21, zM_21⟩ := xM_21.out
    obtain ⟨cS_21, fS_21, zS_21⟩ := xS_21.out
    obtain ⟨cB_21, fB_21, zB_21⟩ := xB_21.out
    obtain ⟨cR_21, fR_21, zR_21⟩ := xR_21.out
    obtain ⟨cC_21, fC_21, zC_21⟩ := xC_21.out
    obtain ⟨cG_21, fG_21, zG_21⟩ := xG_21.out
    obtain ⟨cH_21, fH_21, zH_21⟩ := xH_21.out
    obtain ⟨cX_21, fX_21, zX_21⟩ := xX_21.out
    obtain ⟨cZ_21, fZ_21, zZ_21⟩ := xZ_21.out
    have O1 : Hid (SlS w21 (.slice a1 m1 k1) (.slice b1 n1 l1) (.slice c1 o1 q1) s1) := Lib.hid ((O1.out.below (bl_refl w20)).below hb21)
    have O2 : Hid (SlS w21 (.slice a2 m2 k2) (.slice b2 n2 l2) (.slice c2 o2 q2) s1) := Lib.hid ((O2.out.below (bl_refl w20)).below hb21)
    have O3 : Hid (SlS w21 (.slice a3 m3 k3) (.slice b3 n3 l3) (.slice c3 o3 q3) s2) := Lib.hid ((O3.out.below (bl_refl w20)).below hb21)
    have O4 : Hid (SlS w21 (.slice a4 m4 k4) (.slice b4 n4 l4) (.slice c4 o4 q4) s2) := Lib.hid ((O4.out.below (bl_refl w20)).below hb21)
    have O6 : Hid (SlS w21 (.slice a6 m6 k6) (.slice b6 n6 l6) (.slice c6 o6 q6) s6) := Lib.hid ((O6.out.below (bl_refl w20)).below hb21)
    have L1 := Lib.hid L1.sl
    go_wp2_with fail
    refine (sma_eq HX4.out _ O6.out).mono ?_
    rintro e w22 ⟨av2, cv2, rfl, L2, hb22⟩
    have B22 : Bl w w22 := bl_call B21 hb22
    have xF_22 : Bx w22 (w1.heap.size) #[.int .i64 n, .int .i64 d] := xF_21.below hb22
    have xA_22 : Bx w22 (w3.heap.size) #[.slice a1 m1 k1, .slice b1 n1 l1, .slice c1 o1 q1] := xA_21.below hb22
    have xM_22 : Bx w22 (w5.heap.size) #[.slice a2 m2 k2, .slice b2 n2 l2, .slice c2 o2 q2] := xM_21.below hb22
    have xS_22 : Bx w22 (w7.heap.size) #[.int .i64 x, .int .i64 y, .int .i64 z] := xS_21.below hb22
    have xB_22 : Bx w22 (w9.heap.size) #[.slice a3 m3 k3, .slice b3 n3 l3, .slice c3 o3 q3] := xB_21.below hb22
    have xR_22 : Bx w22 (w11.heap.size) #[.slice a4 m4 k4, .slice b4 n4 l4, .slice c4 o4 q4] := xR_21.below hb22
    have xC_22 : Bx w22 (w13.heap.size) #[.slice a5 m5 k5, .slice b5 n5 l5, .slice c5 o5 q5] := xC_21.below hb22
    have xG_22 : Bx w22 (w15.heap.size) #[.int .i64 r1, .int .i64 r2] := xG_21.below hb22
    have xH_22 : Bx w22 (w17.heap.size) #[.int .i64 r1, .int .i64 r2] := xH_21.below hb22
    have xX_22 : Bx w22 (w19.heap.size) #[.int .i64 ta, .int .i64 tb, .int .i64 tc, .int .i64 td] := xX_21.below hb22
    have xZ_22 : Bx w22 (w19.heap.size + 1) #[.slice a6 m6 k6, .slice b6 n6 l6, .slice c6 o6 q6] := xZ_21.below hb22
    clear cF_21 fF_21 zF_21 cA_21 fA_21 zA_21 cM_21 fM_21 zM_21 cS_21 fS_21 zS_21 cB_21 fB_21 zB_21 cR_21 fR_21 zR_21 cC_21 fC_21 zC_21 cG_21 fG_21 zG_21 cH_21 fH_21 zH_21 cX_21 fX_21 zX_21 cZ_21 fZ_21 zZ_21
    obtain ⟨cF_22, fF_22, zF_22⟩ := xF_22.out
    obtain ⟨cA_22, fA_22, zA_22⟩ := xA_22.out
    obtain ⟨cM_22, fM_22, zM_22⟩ := xM_22.out
    obtain ⟨cS_22, fS_22, zS_22⟩ := xS_22.out
    obtain ⟨cB_22, fB_22, zB_22⟩ := xB_22.out
    obtain ⟨cR_22, fR_22, zR_22⟩ := xR_22.out
    obtain ⟨cC_22, fC_22, zC_22⟩ := xC_22.out
    obtain ⟨cG_22, fG_22, zG_22⟩ := xG_22.out
    obtain ⟨cH_22, fH_22, zH_22⟩ := xH_22.out
    obtain ⟨cX_22, fX_22, zX_22⟩ := xX_22.out
    obtain ⟨cZ_22, fZ_22, zZ_22⟩ := xZ_22.out
    have O1 : Hid (SlS w22 (.slice a1 m1 k1) (.slice b1 n1 l1) (.slice c1 o1 q1) s1) := Lib.hid ((O1.out.below (bl_refl w21)).below hb22)
    have O2 : Hid (SlS w22 (.slice a2 m2 k2) (.slice b2 n2 l2) (.slice c2 o2 q2) s1) := Lib.hid ((O2.out.below (bl_refl w21)).below hb22)
    have O3 : Hid (SlS w22 (.slice a3 m3 k3) (.slice b3 n3 l3) (.slice c3 o3 q3) s2) := Lib.hid ((O3.out.below (bl_refl w21)).below hb22)
    have O4 : Hid (SlS w22 (.slice a4 m4 k4) (.slice b4 n4 l4) (.slice c4 o4 q4) s2) := Lib.hid ((O4.out.below (bl_refl w21)).below hb22)
    have O6 : Hid (SlS w22 (.slice a6 m6 k6) (.slice b6 n6 l6) (.slice c6 o6 q6) s6) := Lib.hid ((O6.out.below (bl_refl w21)).below hb22)
    have L1 : Hid (Sl w22 (.slice av1 L.length cv1) L) := Lib.hid ((L1.out.below (bl_refl w21)).below hb22)
    have L2 := Lib.hid L2.sl
    clear O6
    go_wp2_with fail
    refine (ssame_self _ O1.out O2.out).mono ?_
    rintro e w23 ⟨rfl, hb23⟩
    have B23 : Bl w w23 := bl_call B22 hb23
    have xF_23 : Bx w23 (w1.heap.size) #[.int .i64 n, .int .i64 d] := xF_22.below hb23
    have xA_23 : Bx w23 (w3.heap.size) #[.slice a1 m1 k1, .slice b1 n1 l1, .slice c1 o1 q1] := xA_22.below hb23
    have xM_23 : Bx w23 (w5.heap.size) #[.slice a2 m2 k2, .slice b2 n2 l2, .slice c2 o2 q2] := xM_22.below hb23
    have xS_23 : Bx w23 (w7.heap.size) #[.int .i64 x, .int .i64 y, .int .i64 z] := xS_22.below hb23
    have xB_23 : Bx w23 (w9.heap.size) #[.slice a3 m3 k3, .slice b3 n3 l3, .slice c3 o3 q3] := xB_22.below hb23
    have xR_23 : Bx w23 (w11.heap.size) #[.slice a4 m4 k4, .slice b4 n4 l4, .slice c4 o4 q4] := xR_22.below hb23
    have xC_23 : Bx w23 (w13.heap.size) #[.slice a5 m5 k5, .slice b5 n5 l5, .slice c5 o5 q5] := xC_22.below hb23
    have xG_23 : Bx w23 (w15.heap.size) #[.int .i64 r1, .int .i64 r2] := xG_22.below hb23
    have xH_23 : Bx w23 (w17.heap.size) #[.int .i64 r1, .int .i64 r2] := xH_22.below hb23
    have xX_23 : Bx w23 (w19.heap.size) #[.int .i64 ta, .int .i64 tb, .int .i64 tc, .int .i64 td] := xX_22.below hb23
    have xZ_23 : Bx w23 (w19.heap.size + 1) #[.slice a6 m6 k6, .slice b6 n6 l6, .slice c6 o6 q6] := xZ_22.below hb23
    clear cF_22 fF_22 zF_22 cA_22 fA_22 zA_22 cM_22 fM_22 zM_22 cS_22 fS_22 zS_22 cB_22 fB_22 zB_22 cR_22 fR_22 zR_22 cC_22 fC_22 zC_22 cG_22 fG_22 zG_22 cH_22 fH_22 zH_22 cX_22 fX_22 zX_22 cZ_22 fZ_22 zZ_22
    obtain ⟨cF_23, fF_23, zF_23⟩ := xF_23.out
    obtain ⟨cA_23, fA_23, zA_23⟩ := xA_23.out
    obtain ⟨cM_23, fM_23, zM_23⟩ := xM_23.out
    obtain ⟨cS_23, fS_23, zS_23⟩ := xS_23.out
    obtain ⟨cB_23, fB_23, zB_23⟩ := xB_23.out
    obtain ⟨cR_23, fR_23, zR_23⟩ := xR_23.out
    obtain ⟨cC_23, fC_23, zC_23⟩ := xC_23.out
    obtain ⟨cG_23, fG_23, zG_23⟩ := xG_23.out
    obtain ⟨cH_23, fH_23, zH_23⟩ := xH_23.out
    obtain ⟨cX_23, fX_23, zX_23⟩ := xX_23.out
    obtain ⟨cZ_23, fZ_23, zZ_23⟩ := xZ_23.out
    have O1 : Hid (SlS w23 (.slice a1 m1 k1) (.slice b1 n1 l1) (.slice c1 o1 q1) s1) := Lib.hid ((O1.out.below (bl_refl w22)).below hb23)
    have O2 : Hid (SlS w23 (.slice a2 m2 k2) (.slice b2 n2 l2) (.slice c2 o2 q2) s1) := Lib.hid ((O2.out.below (bl_refl w22)).below hb23)
    have O3 : Hid (SlS w23 (.slice a3 m3 k3) (.slice b3 n3 l3) (.slice c3 o3 q3) s2) := Lib.hid ((O3.out.below (bl_refl w22)).below hb23)
    have O4 : Hid (SlS w23 (.slice a4 m4 k4) (.slice b4 n4 l4) (.slice c4 o4 q4) s2) := Lib.hid ((O4.out.below (bl_refl w22)).below hb23)
    have L1 : Hid (Sl w23 (.slice av1 L.length cv1) L) := Lib.hid ((L1.out.below (bl_refl w22)).below hb23)
    have L2 : Hid (Sl w23 (.slice av2 L.length cv2) L) := Lib.hid ((L2.out.below (bl_refl w22)).below hb23)
    go_wp2_with fail
    refine (ssame_self _ O3.out O4.out).mono ?_
    rintro e w24 ⟨rfl, hb24⟩
    have B24 : Bl w w24 := bl_call B23 hb24
    have xF_24 : Bx w24 (w1.heap.size) #[.int .i64 n, .int .i64 d] := xF_23.below hb24
    have xA_24 : Bx w24 (w3.heap.size) #[.slice a1 m1 k1, .slice b1 n1 l1, .slice c1 o1 q1] := xA_23.below hb24
    have xM_24 : Bx w24 (w5.heap.size) #[.slice a2 m2 k2, .slice b2 n2 l2, .slice c2 o2 q2] := xM_23.below hb24
    have xS_24 : Bx w24 (w7.heap.size) #[.int .i64 x, .int .i64 y, .int .i64 z] := xS_23.below hb24
    have xB_24 : Bx w24 (w9.heap.size) #[.slice a3 m3 k3, .slice b3 n3 l3, .slice c3 o3 q3] := xB_23.below hb24
    have xR_24 : Bx w24 (w11.heap.size) #[.slice a4 m4 k4, .slice b4 n4 l4, .slice c4 o4 q4] := xR_23.below hb24
    have xC_24 : Bx w24 (w13.heap.size) #[.slice a5 m5 k5, .slice b5 n5 l5, .slice c5 o5 q5] := xC_23.below hb24
    have xG_24 : Bx w24 (w15.heap.size) #[.int .i64 r1, .int .i64 r2] := xG_23.below hb24
    have xH_24 : Bx w24 (w17.heap.size) #[.int .i64 r1, .int .i64 r2] := xH_23.below hb24
    have xX_24 : Bx w24 (w19.heap.size) #[.int .i64 ta, .int .i64 tb, .int .i64 tc, .int .i64 td] := xX_23.below hb24
    have xZ_24 : Bx w24 (w19.heap.size + 1) #[.slice a6 m6 k6, .slice b6 n6 l6, .slice c6 o6 q6] := xZ_23.below hb24
    clear cF_23 fF_23 zF_23 cA_23 fA_23 zA_23 cM_23 fM_23 zM_23 cS_23 fS_23 zS_23 cB_23 fB_23 zB_23 cR_23 fR_23 zR_23 cC_23 fC_23 zC_23 cG_23 fG_23 zG_23 cH_23 fH_23 zH_23 cX_23 fX_23 zX_23 cZ_23 fZ_23 zZ_23
    obtain ⟨cF_24, fF_24, zF_24⟩ := xF_24.out
    obtain ⟨cA_24, fA_24, zA_24⟩ := xA_24.out
    obtain ⟨cM_24, fM_24, zM_24⟩ := xM_24.out
    obtain ⟨cS_24, fS_24, zS_24⟩ := xS_24.out
    obtain ⟨cB_24, fB_24, zB_24⟩ := xB_24.out
    obtain ⟨cR_24, fR_24, zR_24⟩ := xR_24.out
    obtain ⟨cC_24, fC_24, zC_24⟩ := xC_24.out
    obtain ⟨cG_24, fG_24, zG_24⟩ := xG_24.out
    obtain ⟨cH_24, fH_24, zH_24⟩ := xH_24.out
    obtain ⟨cX_24, fX_24, zX_24⟩ := xX_24.out
    obtain ⟨cZ_24, fZ_24, zZ_24⟩ := xZ_24.out
    have O1 : Hid (SlS w24 (.slice a1 m1 k1) (.slice b1 n1 l1) (.slice c1 o1 q1) s1) := Lib.hid ((O1.out.below (bl_refl w23)).below hb24)
    have O2 : Hid (SlS w24 (.slice a2 m2 k2) (.slice b2 n2 l2) (.slice c2 o2 q2) s1) := Lib.hid ((O2.out.below (bl_refl w23)).below hb24)
    have O3 : Hid (SlS w24 (.slice a3 m3 k3) (.slice b3 n3 l3) (.slice c3 o3 q3) s2) := Lib.hid ((O3.out.below (bl_refl w23)).below hb24)
    have O4 : Hid (SlS w24 (.slice a4 m4 k4) (.slice b4 n4 l4) (.slice c4 o4 q4) s2) := Lib.hid ((O4.out.below (bl_refl w23)).below hb24)
    have L1 : Hid (Sl w24 (.slice av1 L.length cv1) L) := Lib.hid ((L1.out.below (bl_refl w23)).below hb24)
    have L2 : Hid (Sl w24 (.slice av2 L.length cv2) L) := Lib.hid ((L2.out.below (bl_refl w23)).below hb24)
    go_wp2_with fail
    refine (f6_self _ L1.out L2.out).mono ?_
    rintro e w25 ⟨rfl, hb25⟩
    have B25 : Bl w w25 := bl_call B24 hb25
    have xF_25 : Bx w25 (w1.heap.size) #[.int .i64 n, .int .i64 d] := xF_24.below hb25
    have xA_25 : Bx w25 (w3.heap.size) #[.slice a1 m1 k1, .slice b1 n1 l1, .slice c1 o1 q1] := xA_24.below hb25
    have xM_25 : Bx w25 (w5.heap.size) #[.slice a2 m2 k2, .slice b2 n2 l2, .slice c2 o2 q2] := xM_24.below hb25
    have xS_25 : Bx w25 (w7.heap.size) #[.int .i64 x, .int .i64 y, .int .i64 z] := xS_24.below hb25
    have xB_25 : Bx w25 (w9.heap.size) #[.slice a3 m3 k3, .slice b3 n3 l3, .slice c3 o3 q3] := xB_24.below hb25
    have xR_25 : Bx w25 (w11.heap.size) #[.slice a4 m4 k4, .slice b4 n4 l4, .slice c4 o4 q4] := xR_24.below hb25
    have xC_25 : Bx w25 (w13.heap.size) #[.slice a5 m5 k5, .slice b5 n5 l5, .slice c5 o5 q5] := xC_24.below hb25
    have xG_25 : Bx w25 (w15.heap.size) #[.int .i64 r1, .int .i64 r2] := xG_24.below hb25
    have xH_25 : Bx w25 (w17.heap.size) #[.int .i64 r1, .int .i64 r2] := xH_24.below hb25
    have xX_25 : Bx w25 (w19.heap.size) #[.int .i64 ta, .int .i64 tb, .int .i64 tc, .int .i64 td] := xX_24.below hb25
    have xZ_25 : Bx w25 (w19.heap.size + 1) #[.slice a6 m6 k6, .slice b6 n6 l6, .slice c6 o6 q6] := xZ_24.below hb25
    clear cF_24 fF_24 zF_24 cA_24 fA_24 zA_24 cM_24 fM_24 zM_24 cS_24 fS_24 zS_24 cB_24 fB_24 zB_24 cR_24 fR_24 zR_24 cC_24 fC_24 zC_24 cG_24 fG_24 zG_24 cH_24 fH_24 zH_24 cX_24 fX_24 zX_24 cZ_24 fZ_24 zZ_24
    obtain ⟨cF_25, fF_25, zF_25⟩ := xF_25.out
    obtain ⟨cA_25, fA_25, zA_25⟩ := xA_25.out
    obtain ⟨cM_25, fM_25, zM_25⟩ := xM_25.out
    obtain ⟨cS_25, fS_25, zS_25⟩ := xS_25.out
    obtain ⟨cB_25, fB_25, zB_25⟩ := xB_25.out
    obtain ⟨cR_25, fR_25, zR_25⟩ := xR_25.out
    obtain ⟨cC_25, fC_25, zC_25⟩ := xC_25.out
    obtain ⟨cG_25, fG_25, zG_25⟩ := xG_25.out
    obtain ⟨cH_25, fH_25, zH_25⟩ := xH_25.out
    obtain ⟨cX_25, fX_25, zX_25⟩ := xX_25.out
    obtain ⟨cZ_25, fZ_25, zZ_25⟩ := xZ_25.out
    have O1 : Hid (SlS w25 (.slice a1 m1 k1) (.slice b1 n1 l1) (.slice c1 o1 q1) s1) := Lib.hid ((O1.out.below (bl_refl w24)).below hb25)
    have O2 : Hid (SlS w25 (.slice a2 m2 k2) (.slice b2 n2 l2) (.slice c2 o2 q2) s1) := Lib.hid ((O2.out.below (bl_refl w24)).below hb25)
    have O3 : Hid (SlS w25 (.slice a3 m3 k3) (.slice b3 n3 l3) (.slice c3 o3 q3) s2) := Lib.hid ((O3.out.below (bl_refl w24)).below hb25)
    have O4 : Hid (SlS w25 (.slice a4 m4 k4) (.slice b4 n4 l4) (.slice c4 o4 q4) s2) := Lib.hid ((O4.out.below (bl_refl w24)).below hb25)
    have L1 : Hid (Sl w25 (.slice av1 L.length cv1) L) := Lib.hid ((L1.out.below (bl_refl w24)).below hb25)
    have L2 : Hid (Sl w25 (.slice av2 L.length cv2) L) := Lib.hid ((L2.out.below (bl_refl w24)).below hb25)
    clear L1 L2 O2 O4
    go_wp2_with fail
    refine ((implE_any _)).mono ?_
    rintro e w26 ⟨h7, p7, g7, rfl, O7, hb26⟩
    have B26 : Bl w w26 := bl_call B25 hb26
    have xF_26 : Bx w26 (w1.heap.size) #[.int .i64 n, .int .i64 d] := xF_25.below hb26
    have xA_26 : Bx w26 (w3.heap.size) #[.slice a1 m1 k1, .slice b1 n1 l1, .slice c1 o1 q1] := xA_25.below hb26
    have xM_26 : Bx w26 (w5.heap.size) #[.slice a2 m2 k2, .slice b2 n2 l2, .slice c2 o2 q2] := xM_25.below hb26
    have xS_26 : Bx w26 (w7.heap.size) #[.int .i64 x, .int .i64 y, .int .i64 z] := xS_25.below hb26
    have xB_26 : Bx w26 (w9.heap.size) #[.slice a3 m3 k3, .slice b3 n3 l3, .slice c3 o3 q3] := xB_25.below hb26
    have xR_26 : Bx w26 (w11.heap.size) #[.slice a4 m4 k4, .slice b4 n4 l4, .slice c4 o4 q4] := xR_25.below hb26
    have xC_26 : Bx w26 (w13.heap.size) #[.slice a5 m5 k5, .slice b5 n5 l5, .slice c5 o5 q5] := xC_25.below hb26
    have xG_26 : Bx w26 (w15.heap.size) #[.int .i64 r1, .int .i64 r2] := xG_25.below hb26
    have xH_26 : Bx w26 (w17.heap.size) #[.int .i64 r1, .int .i64 r2] := xH_25.below hb26
    have xX_26 : Bx w26 (w19.heap.size) #[.int .i64 ta, .int .i64 tb, .int .i64 tc, .int .i64 td] := xX_25.below hb26
    have xZ_26 : Bx w26 (w19.heap.size + 1) #[.slice a6 m6 k6, .slice b6 n6 l6, .slice c6 o6 q6] := xZ_25.below hb26
    clear cF_25 fF_25 zF_25 cA_25 fA_25 zA_25 cM_25 fM_25 zM_25 cS_25 fS_25 zS_25 cB_25 fB_25 zB_25 cR_25 fR_25 zR_25 cC_25 fC_25 zC_25 cG_25 fG_25 zG_25 cH_25 fH_25 zH_25 cX_25 fX_25 zX_25 cZ_25 fZ_25 zZ_25
    obtain ⟨cF_26, fF_26, zF_26⟩ := xF_26.out
    obtain ⟨cA_26, fA_26, zA_26⟩ := xA_26.out
    obtain ⟨cM_26, fM_26, zM_26⟩ := xM_26.out
    obtain ⟨cS_26, fS_26, zS_26⟩ := xS_26.out
    obtain ⟨cB_26, fB_26, zB_26⟩ := xB_26.out
    obtain ⟨cR_26, fR_26, zR_26⟩ := xR_26.out
    obtain ⟨cC_26, fC_26, zC_26⟩ := xC_26.out
    obtain ⟨cG_26, fG_26, zG_26⟩ := xG_26.out
    obtain ⟨cH_26, fH_26, zH_26⟩ := xH_26.out
    obtain ⟨cX_26, fX_26, zX_26⟩ := xX_26.out
    obtain ⟨cZ_26, fZ_26, zZ_26⟩ := xZ_26.out
    have O1 : Hid (SlS w26 (.slice a1 m1 k1) (.slice b1 n1 l1) (.slice c1 o1 q1) s1) := Lib.hid ((O1.out.below (bl_refl w25)).below hb26)
    have O3 : Hid (SlS w26 (.slice a3 m3 k3) (.slice b3 n3 l3) (.slice c3 o3 q3) s2) := Lib.hid ((O3.out.below (bl_refl w25)).below hb26)
    have O7 := Lib.hid O7.sl
    go_wp2_with fail
    refine ((specE_any _)).mono ?_
    rintro e w27 ⟨h8, p8, g8, rfl, O8, hb27⟩
    have B27 : Bl w w27 := bl_call B26 hb27
    have xF_27 : Bx w27 (w1.heap.size) #[.int .i64 n, .int .i64 d] := xF_26.below hb27
    have xA_27 : Bx w27 (w3.heap.size) #[.slice a1 m1 k1, .slice b1 n1 l1, .slice c1 o1 q1] := xA_26.below hb27
    have xM_27 : Bx w27 (w5.heap.size) #[.slice a2 m2 k2, .slice b2 n2 l2, .slice c2 o2 q2] := xM_26.below hb27
    have xS_27 : Bx w27 (w7.heap.size) #[.int .i64 x, .int .i64 y, .int .i64 z] := xS_26.below hb27
    have xB_27 : Bx w27 (w9.heap.size) #[.slice a3 m3 k3, .slice b3 n3 l3, .slice c3 o3 q3] := xB_26.below hb27
    have xR_27 : Bx w27 (w11.heap.size) #[.slice a4 m4 k4, .slice b4 n4 l4, .slice c4 o4 q4] := xR_26.below hb27
    have xC_27 : Bx w27 (w13.heap.size) #[.slice a5 m5 k5, .slice b5 n5 l5, .slice c5 o5 q5] := xC_26.below hb27
    have xG_27 : Bx w27 (w15.heap.size) #[.int .i64 r1, .int .i64 r2] := xG_26.below hb27
    have xH_27 : Bx w27 (w17.heap.size) #[.int .i64 r1, .int .i64 r2] := xH_26.below hb27
    have xX_27 : Bx w27 (w19.heap.size) #[.int .i64 ta, .int .i64 tb, .int .i64 tc, .int .i64 td] := xX_26.below hb27
    have xZ_27 : Bx w27 (w19.heap.size + 1) #[.slice a6 m6 k6, .slice b6 n6 l6, .slice c6 o6 q6] := xZ_26.below hb27
    clear cF_26 fF_26 zF_26 cA_26 fA_26 zA_26 cM_26 fM_26 zM_26 cS_26 fS_26 zS_26 cB_26 fB_26 zB_26 cR_26 fR_26 zR_26 cC_26 fC_26 zC_26 cG_26 fG_26 zG_26 cH_26 fH_26 zH_26 cX_26 fX_26 zX_26 cZ_26 fZ_26 zZ_26
    obtain ⟨cF_27, fF_27, zF_27⟩ := xF_27.out
    obtain ⟨cA_27, fA_27, zA_27⟩ := xA_27.out
    obtain ⟨cM_27, fM_27, zM_27⟩ := xM_27.out
    obtain ⟨cS_27, fS_27, zS_27⟩ := xS_27.out
    obtain ⟨cB_27, fB_27, zB_27⟩ := xB_27.out
    obtain ⟨cR_27, fR_27, zR_27⟩ := xR_27.out
    obtain ⟨cC_27, fC_27, zC_27⟩ := xC_27.out
    obtain ⟨cG_27, fG_27, zG_27⟩ := xG_27.out
    obtain ⟨cH_27, fH_27, zH_27⟩ := xH_27.out
    obtain ⟨cX_27, fX_27, zX_27⟩ := xX_27.out
    obtain ⟨cZ_27, fZ_27, zZ_27⟩ := xZ_27.out
    have O1 : Hid (SlS w27 (.slice a1 m1 k1) (.slice b1 n1 l1) (.slice c1 o1 q1) s1) := Lib.hid ((O1.out.below (bl_refl w26)).below hb27)
    have O3 : Hid (SlS w27 (.slice a3 m3 k3) (.slice b3 n3 l3) (.slice c3 o3 q3) s2) := Lib.hid ((O3.out.below (bl_refl w26)).below hb27)
    have O7 : Hid (SlS w27 h7 p7 g7 srcE) := Lib.hid ((O7.out.below (bl_refl w26)).below hb27)
    have O8 := Lib.hid O8.sl
    go_wp2_with fail
    refine (ssame_self _ O7.out O8.out).mono ?_
    rintro e w28 ⟨rfl, hb28⟩
    have B28 : Bl w w28 := bl_call B27 hb28
    have xF_28 : Bx w28 (w1.heap.size) #[.int .i64 n, .int .i64 d] := xF_27.below hb28
    have xA_28 : Bx w28 (w3.heap.size) #[.slice a1 m1 k1, .slice b1 n1 l1, .slice c1 o1 q1] := xA_27.below hb28
    have xM_28 : Bx w28 (w5.heap.size) #[.slice a2 m2 k2, .slice b2 n2 l2, .slice c2 o2 q2] := xM_27.below hb28
    have xS_28 : Bx w28 (w7.heap.size) #[.int .i64 x, .int .i64 y, .int .i64 z] := xS_27.below hb28
    have xB_28 : Bx w28 (w9.heap.size) #[.slice a3 m3 k3, .slice b3 n3 l3, .slice c3 o3 q3] := xB_27.below hb28
    have xR_28 : Bx w28 (w11.heap.size) #[.slice a4 m4 k4, .slice b4 n4 l4, .slice c4 o4 q4] := xR_27.below hb28
    have xC_28 : Bx w28 (w13.heap.size) #[.slice a5 m5 k5, .slice b5 n5 l5, .slice c5 o5 q5] := xC_27.below hb28
    have xG_28 : Bx w28 (w15.heap.size) #[.int .i64 r1, .int .i64 r2] := xG_27.below hb28
    have xH_28 : Bx w28 (w17.heap.size) #[.int .i64 r1, .int .i64 r2] := xH_27.below hb28
    have xX_28 : Bx w28 (w19.heap.size) #[.int .i64 ta, .int .i64 tb, .int .i64 tc, .int .i64 td] := xX_27.below hb28
    have xZ_28 : Bx w28 (w19.heap.size + 1) #[.slice a6 m6 k6, .slice b6 n6 l6, .slice c6 o6 q6] := xZ_27.below hb28
    clear cF_27 fF_27 zF_27 cA_27 fA_27 zA_27 cM_27 fM_27 zM_27 cS_27 fS_27 zS_27 cB_27 fB_27 zB_27 cR_27 fR_27 zR_27 cC_27 fC_27 zC_27 cG_27 fG_27 zG_27 cH_27 fH_27 zH_27 cX_27 fX_27 zX_27 cZ_27 fZ_27 zZ_27
    obtain ⟨cF_28, fF_28, zF_28⟩ := xF_28.out
    obtain ⟨cA_28, fA_28, zA_28⟩ := xA_28.out
    obtain ⟨cM_28, fM_28, zM_28⟩ := xM_28.out
    obtain ⟨cS_28, fS_28, zS_28⟩ := xS_28.out
    obtain ⟨cB_28, fB_28, zB_28⟩ := xB_28.out
    obtain ⟨cR_28, fR_28, zR_28⟩ := xR_28.out
    obtain ⟨cC_28, fC_28, zC_28⟩ := xC_28.out
    obtain ⟨cG_28, fG_28, zG_28⟩ := xG_28.out
    obtain ⟨cH_28, fH_28, zH_28⟩ := xH_28.out
    obtain ⟨cX_28, fX_28, zX_28⟩ := xX_28.out
    obtain ⟨cZ_28, fZ_28, zZ_28⟩ := xZ_28.out
    have O1 : Hid (SlS w28 (.slice a1 m1 k1) (.slice b1 n1 l1) (.slice c1 o1 q1) s1) := Lib.hid ((O1.out.below (bl_refl w27)).below hb28)
    have O3 : Hid (SlS w28 (.slice a3 m3 k3) (.slice b3 n3 l3) (.slice c3 o3 q3) s2) := Lib.hid ((O3.out.below (bl_refl w27)).below hb28)
    have O7 : Hid (SlS w28 h7 p7 g7 srcE) := Lib.hid ((O7.out.below (bl_refl w27)).below hb28)
    have O8 : Hid (SlS w28 h8 p8 g8 srcE) := Lib.hid ((O8.out.below (bl_refl w27)).below hb28)
    clear O7 O8
    by_cases hy2 : y2 = 0
    · subst hy2
      obtain ⟨hoku, T, k, hwk, hf30⟩ := surd_law HX2.out
      have HOU := Lib.hid hoku
      have HWK := Lib.hid hwk
      have HF30 := Lib.hid hf30
      have htl : (tsL T k 30).length = 30 := tsL_len _ _ _
      clear hoku hwk hf30
      go_wp2_with fail
      refine (ift_eq HF30.out _ O3.out).mono ?_
      rintro e w29 ⟨av3, cv3, rfl, L3, hb29⟩
      have B29 : Bl w w29 := bl_call B28 hb29
      have xF_29 : Bx w29 (w1.heap.size) #[.int .i64 n, .int .i64 d] := xF_28.below hb29
      have xA_29 : Bx w29 (w3.heap.size) #[.slice a1 m1 k1, .slice b1 n1 l1, .slice c1 o1 q1] := xA_28.below hb29
      have xM_29 : Bx w29 (w5.heap.size) #[.slice a2 m2 k2, .slice b2 n2 l2, .slice c2 o2 q2] := xM_28.below hb29
      have xS_29 : Bx w29 (w7.heap.size) #[.int .i64 x, .int .i64 y, .int .i64 z] := xS_28.below hb29
      have xB_29 : Bx w29 (w9.heap.size) #[.slice a3 m3 k3, .slice b3 n3 l3, .slice c3 o3 q3] := xB_28.below hb29
      have xR_29 : Bx w29 (w11.heap.size) #[.slice a4 m4 k4, .slice b4 n4 l4, .slice c4 o4 q4] := xR_28.below hb29
      have xC_29 : Bx w29 (w13.heap.size) #[.slice a5 m5 k5, .slice b5 n5 l5, .slice c5 o5 q5] := xC_28.below hb29
      have xG_29 : Bx w29 (w15.heap.size) #[.int .i64 r1, .int .i64 r2] := xG_28.below hb29
      have xH_29 : Bx w29 (w17.heap.size) #[.int .i64 r1, .int .i64 r2] := xH_28.below hb29
      have xX_29 : Bx w29 (w19.heap.size) #[.int .i64 ta, .int .i64 tb, .int .i64 tc, .int .i64 td] := xX_28.below hb29
      have xZ_29 : Bx w29 (w19.heap.size + 1) #[.slice a6 m6 k6, .slice b6 n6 l6, .slice c6 o6 q6] := xZ_28.below hb29
      clear cF_28 fF_28 zF_28 cA_28 fA_28 zA_28 cM_28 fM_28 zM_28 cS_28 fS_28 zS_28 cB_28 fB_28 zB_28 cR_28 fR_28 zR_28 cC_28 fC_28 zC_28 cG_28 fG_28 zG_28 cH_28 fH_28 zH_28 cX_28 fX_28 zX_28 cZ_28 fZ_28 zZ_28
      obtain ⟨cF_29, fF_29, zF_29⟩ := xF_29.out
      obtain ⟨cA_29, fA_29, zA_29⟩ := xA_29.out
      obtain ⟨cM_29, fM_29, zM_29⟩ := xM_29.out
      obtain ⟨cS_29, fS_29, zS_29⟩ := xS_29.out
      obtain ⟨cB_29, fB_29, zB_29⟩ := xB_29.out
      obtain ⟨cR_29, fR_29, zR_29⟩ := xR_29.out
      obtain ⟨cC_29, fC_29, zC_29⟩ := xC_29.out
      obtain ⟨cG_29, fG_29, zG_29⟩ := xG_29.out
      obtain ⟨cH_29, fH_29, zH_29⟩ := xH_29.out
      obtain ⟨cX_29, fX_29, zX_29⟩ := xX_29.out
      obtain ⟨cZ_29, fZ_29, zZ_29⟩ := xZ_29.out
      have O1 : Hid (SlS w29 (.slice a1 m1 k1) (.slice b1 n1 l1) (.slice c1 o1 q1) s1) := Lib.hid ((O1.out.below (bl_refl w28)).below hb29)
      have O3 : Hid (SlS w29 (.slice a3 m3 k3) (.slice b3 n3 l3) (.slice c3 o3 q3) s2) := Lib.hid ((O3.out.below (bl_refl w28)).below hb29)
      have L3 := Lib.hid L3.sl
      go_wp2_with fail
      refine (itos_ok (n := 30) _ HOU.out HWK.out (by omega)).mono ?_
      rintro e w30 ⟨av4, cv4, rfl, L4, hb30⟩
      have B30 : Bl w w30 := bl_call B29 hb30
      have xF_30 : Bx w30 (w1.heap.size) #[.int .i64 n, .int .i64 d] := xF_29.below hb30
      have xA_30 : Bx w30 (w3.heap.size) #[.slice a1 m1 k1, .slice b1 n1 l1, .slice c1 o1 q1] := xA_29.below hb30
      have xM_30 : Bx w30 (w5.heap.size) #[.slice a2 m2 k2, .slice b2 n2 l2, .slice c2 o2 q2] := xM_29.below hb30
      have xS_30 : Bx w30 (w7.heap.size) #[.int .i64 x, .int .i64 y, .int .i64 z] := xS_29.below hb30
      have xB_30 : Bx w30 (w9.heap.size) #[.slice a3 m3 k3, .slice b3 n3 l3, .slice c3 o3 q3] := xB_29.below hb30
      have xR_30 : Bx w30 (w11.heap.size) #[.slice a4 m4 k4, .slice b4 n4 l4, .slice c4 o4 q4] := xR_29.below hb30
      have xC_30 : Bx w30 (w13.heap.size) #[.slice a5 m5 k5, .slice b5 n5 l5, .slice c5 o5 q5] := xC_29.below hb30
      have xG_30 : Bx w30 (w15.heap.size) #[.int .i64 r1, .int .i64 r2] := xG_29.below hb30
      have xH_30 : Bx w30 (w17.heap.size) #[.int .i64 r1, .int .i64 r2] := xH_29.below hb30
      have xX_30 : Bx w30 (w19.heap.size) #[.int .i64 ta, .int .i64 tb, .int .i64 tc, .int .i64 td] := xX_29.below hb30
      have xZ_30 : Bx w30 (w19.heap.size + 1) #[.slice a6 m6 k6, .slice b6 n6 l6, .slice c6 o6 q6] := xZ_29.below hb30
      clear cF_29 fF_29 zF_29 cA_29 fA_29 zA_29 cM_29 fM_29 zM_29 cS_29 fS_29 zS_29 cB_29 fB_29 zB_29 cR_29 fR_29 zR_29 cC_29 fC_29 zC_29 cG_29 fG_29 zG_29 cH_29 fH_29 zH_29 cX_29 fX_29 zX_29 cZ_29 fZ_29 zZ_29
      obtain ⟨cF_30, fF_30, zF_30⟩ := xF_30.out
      obtain ⟨cA_30, fA_30, zA_30⟩ := xA_30.out
      obtain ⟨cM_30, fM_30, zM_30⟩ := xM_30.out
      obtain ⟨cS_30, fS_30, zS_30⟩ := xS_30.out
      obtain ⟨cB_30, fB_30, zB_30⟩ := xB_30.out
      obtain ⟨cR_30, fR_30, zR_30⟩ := xR_30.out
      obtain ⟨cC_30, fC_30, zC_30⟩ := xC_30.out
      obtain ⟨cG_30, fG_30, zG_30⟩ := xG_30.out
      obtain ⟨cH_30, fH_30, zH_30⟩ := xH_30.out
      obtain ⟨cX_30, fX_30, zX_30⟩ := xX_30.out
      obtain ⟨cZ_30, fZ_30, zZ_30⟩ := xZ_30.out
      have O1 : Hid (SlS w30 (.slice a1 m1 k1) (.slice b1 n1 l1) (.slice c1 o1 q1) s1) := Lib.hid ((O1.out.below (bl_refl w29)).below hb30)
      have O3 : Hid (SlS w30 (.slice a3 m3 k3) (.slice b3 n3 l3) (.slice c3 o3 q3) s2) := Lib.hid ((O3.out.below (bl_refl w29)).below hb30)
      have L3 : Hid (Sl w30 (.slice av3 (tsL T k 30).length cv3) (tsL T k 30)) := Lib.hid ((L3.out.below (bl_refl w29)).below hb30)
      have L4 := Lib.hid L4.sl
      go_wp2_with fail
      refine (f6_self _ L3.out L4.out).mono ?_
      rintro e w31 ⟨rfl, hb31⟩
      have B31 : Bl w w31 := bl_call B30 hb31
      have xF_31 : Bx w31 (w1.heap.size) #[.int .i64 n, .int .i64 d] := xF_30.below hb31
      have xA_31 : Bx w31 (w3.heap.size) #[.slice a1 m1 k1, .slice b1 n1 l1, .slice c1 o1 q1] := xA_30.below hb31
      have xM_31 : Bx w31 (w5.heap.size) #[.slice a2 m2 k2, .slice b2 n2 l2, .slice c2 o2 q2] := xM_30.below hb31
      have xS_31 : Bx w31 (w7.heap.size) #[.int .i64 x, .int .i64 y, .int .i64 z] := xS_30.below hb31
      have xB_31 : Bx w31 (w9.heap.size) #[.slice a3 m3 k3, .slice b3 n3 l3, .slice c3 o3 q3] := xB_30.below hb31
      have xR_31 : Bx w31 (w11.heap.size) #[.slice a4 m4 k4, .slice b4 n4 l4, .slice c4 o4 q4] := xR_30.below hb31
      have xC_31 : Bx w31 (w13.heap.size) #[.slice a5 m5 k5, .slice b5 n5 l5, .slice c5 o5 q5] := xC_30.below hb31
      have xG_31 : Bx w31 (w15.heap.size) #[.int .i64 r1, .int .i64 r2] := xG_30.below hb31
      have xH_31 : Bx w31 (w17.heap.size) #[.int .i64 r1, .int .i64 r2] := xH_30.below hb31
      have xX_31 : Bx w31 (w19.heap.size) #[.int .i64 ta, .int .i64 tb, .int .i64 tc, .int .i64 td] := xX_30.below hb31
      have xZ_31 : Bx w31 (w19.heap.size + 1) #[.slice a6 m6 k6, .slice b6 n6 l6, .slice c6 o6 q6] := xZ_30.below hb31
      clear cF_30 fF_30 zF_30 cA_30 fA_30 zA_30 cM_30 fM_30 zM_30 cS_30 fS_30 zS_30 cB_30 fB_30 zB_30 cR_30 fR_30 zR_30 cC_30 fC_30 zC_30 cG_30 fG_30 zG_30 cH_30 fH_30 zH_30 cX_30 fX_30 zX_30 cZ_30 fZ_30 zZ_30
      obtain ⟨cF_31, fF_31, zF_31⟩ := xF_31.out
      obtain ⟨cA_31, fA_31, zA_31⟩ := xA_31.out
      obtain ⟨cM_31, fM_31, zM_31⟩ := xM_31.out
      obtain ⟨cS_31, fS_31, zS_31⟩ := xS_31.out
      obtain ⟨cB_31, fB_31, zB_31⟩ := xB_31.out
      obtain ⟨cR_31, fR_31, zR_31⟩ := xR_31.out
      obtain ⟨cC_31, fC_31, zC_31⟩ := xC_31.out
      obtain ⟨cG_31, fG_31, zG_31⟩ := xG_31.out
      obtain ⟨cH_31, fH_31, zH_31⟩ := xH_31.out
      obtain ⟨cX_31, fX_31, zX_31⟩ := xX_31.out
      obtain ⟨cZ_31, fZ_31, zZ_31⟩ := xZ_31.out
      have O1 : Hid (SlS w31 (.slice a1 m1 k1) (.slice b1 n1 l1) (.slice c1 o1 q1) s1) := Lib.hid ((O1.out.below (bl_refl w30)).below hb31)
      have O3 : Hid (SlS w31 (.slice a3 m3 k3) (.slice b3 n3 l3) (.slice c3 o3 q3) s2) := Lib.hid ((O3.out.below (bl_refl w30)).below hb31)
      have L3 : Hid (Sl w31 (.slice av3 (tsL T k 30).length cv3) (tsL T k 30)) := Lib.hid ((L3.out.below (bl_refl w30)).below hb31)
      have L4 : Hid (Sl w31 (.slice av4 (tsL T k 30).length cv4) (tsL T k 30)) := Lib.hid ((L4.out.below (bl_refl w30)).below hb31)
      clear L3 L4
      by_cases hy1 : y1 = 0
      · subst hy1
        obtain ⟨hok, hft⟩ := frac_law HX1.out
        have HOK := Lib.hid hok
        have HFT := Lib.hid hft
        clear hok hft
        go_wp2_with fail
        refine (ift_eq HFT.out _ O1.out).mono ?_
        rintro e w32 ⟨av5, cv5, rfl, L5, hb32⟩
        have B32 : Bl w w32 := bl_call B31 hb32
        have xF_32 : Bx w32 (w1.heap.size) #[.int .i64 n, .int .i64 d] := xF_31.below hb32
        have xA_32 : Bx w32 (w3.heap.size) #[.slice a1 m1 k1, .slice b1 n1 l1, .slice c1 o1 q1] := xA_31.below hb32
        have xM_32 : Bx w32 (w5.heap.size) #[.slice a2 m2 k2, .slice b2 n2 l2, .slice c2 o2 q2] := xM_31.below hb32
        have xS_32 : Bx w32 (w7.heap.size) #[.int .i64 x, .int .i64 y, .int .i64 z] := xS_31.below hb32
        have xB_32 : Bx w32 (w9.heap.size) #[.slice a3 m3 k3, .slice b3 n3 l3, .slice c3 o3 q3] := xB_31.below hb32
        have xR_32 : Bx w32 (w11.heap.size) #[.slice a4 m4 k4, .slice b4 n4 l4, .slice c4 o4 q4] := xR_31.below hb32
        have xC_32 : Bx w32 (w13.heap.size) #[.slice a5 m5 k5, .slice b5 n5 l5, .slice c5 o5 q5] := xC_31.below hb32
        have xG_32 : Bx w32 (w15.heap.size) #[.int .i64 r1, .int .i64 r2] := xG_31.below hb32
        have xH_32 : Bx w32 (w17.heap.size) #[.int .i64 r1, .int .i64 r2] := xH_31.below hb32
        have xX_32 : Bx w32 (w19.heap.size) #[.int .i64 ta, .int .i64 tb, .int .i64 tc, .int .i64 td] := xX_31.below hb32
        have xZ_32 : Bx w32 (w19.heap.size + 1) #[.slice a6 m6 k6, .slice b6 n6 l6, .slice c6 o6 q6] := xZ_31.below hb32
        clear cF_31 fF_31 zF_31 cA_31 fA_31 zA_31 cM_31 fM_31 zM_31 cS_31 fS_31 zS_31 cB_31 fB_31 zB_31 cR_31 fR_31 zR_31 cC_31 fC_31 zC_31 cG_31 fG_31 zG_31 cH_31 fH_31 zH_31 cX_31 fX_31 zX_31 cZ_31 fZ_31 zZ_31
        obtain ⟨cF_32, fF_32, zF_32⟩ := xF_32.out
        obtain ⟨cA_32, fA_32, zA_32⟩ := xA_32.out
        obtain ⟨cM_32, fM_32, zM_32⟩ := xM_32.out
        obtain ⟨cS_32, fS_32, zS_32⟩ := xS_32.out
        obtain ⟨cB_32, fB_32, zB_32⟩ := xB_32.out
        obtain ⟨cR_32, fR_32, zR_32⟩ := xR_32.out
        obtain ⟨cC_32, fC_32, zC_32⟩ := xC_32.out
        obtain ⟨cG_32, fG_32, zG_32⟩ := xG_32.out
        obtain ⟨cH_32, fH_32, zH_32⟩ := xH_32.out
        obtain ⟨cX_32, fX_32, zX_32⟩ := xX_32.out
        obtain ⟨cZ_32, fZ_32, zZ_32⟩ := xZ_32.out
        have O1 : Hid (SlS w32 (.slice a1 m1 k1) (.slice b1 n1 l1) (.slice c1 o1 q1) s1) := Lib.hid ((O1.out.below (bl_refl w31)).below hb32)
        have O3 : Hid (SlS w32 (.slice a3 m3 k3) (.slice b3 n3 l3) (.slice c3 o3 q3) s2) := Lib.hid ((O3.out.below (bl_refl w31)).below hb32)
        have L5 := Lib.hid L5.sl
        go_wp2_with fail
        refine (ivalue_ok _ L5.out HOK.out).mono ?_
        rintro e w33 ⟨rfl, hb33⟩
        have B33 : Bl w w33 := bl_call B32 hb33
        have xF_33 : Bx w33 (w1.heap.size) #[.int .i64 n, .int .i64 d] := xF_32.below hb33
        have xA_33 : Bx w33 (w3.heap.size) #[.slice a1 m1 k1, .slice b1 n1 l1, .slice c1 o1 q1] := xA_32.below hb33
        have xM_33 : Bx w33 (w5.heap.size) #[.slice a2 m2 k2, .slice b2 n2 l2, .slice c2 o2 q2] := xM_32.below hb33
        have xS_33 : Bx w33 (w7.heap.size) #[.int .i64 x, .int .i64 y, .int .i64 z] := xS_32.below hb33
        have xB_33 : Bx w33 (w9.heap.size) #[.slice a3 m3 k3, .slice b3 n3 l3, .slice c3 o3 q3] := xB_32.below hb33
        have xR_33 : Bx w33 (w11.heap.size) #[.slice a4 m4 k4, .slice b4 n4 l4, .slice c4 o4 q4] := xR_32.below hb33
        have xC_33 : Bx w33 (w13.heap.size) #[.slice a5 m5 k5, .slice b5 n5 l5, .slice c5 o5 q5] := xC_32.below hb33
        have xG_33 : Bx w33 (w15.heap.size) #[.int .i64 r1, .int .i64 r2] := xG_32.below hb33
        have xH_33 : Bx w33 (w17.heap.size) #[.int .i64 r1, .int .i64 r2] := xH_32.below hb33
        have xX_33 : Bx w33 (w19.heap.size) #[.int .i64 ta, .int .i64 tb, .int .i64 tc, .int .i64 td] := xX_32.below hb33
        have xZ_33 : Bx w33 (w19.heap.size + 1) #[.slice a6 m6 k6, .slice b6 n6 l6, .slice c6 o6 q6] := xZ_32.below hb33
        clear cF_32 fF_32 zF_32 cA_32 fA_32 zA_32 cM_32 fM_32 zM_32 cS_32 fS_32 zS_32 cB_32 fB_32 zB_32 cR_32 fR_32 zR_32 cC_32 fC_32 zC_32 cG_32 fG_32 zG_32 cH_32 fH_32 zH_32 cX_32 fX_32 zX_32 cZ_32 fZ_32 zZ_32
        obtain ⟨cF_33, fF_33, zF_33⟩ := xF_33.out
        obtain ⟨cA_33, fA_33, zA_33⟩ := xA_33.out
        obtain ⟨cM_33, fM_33, zM_33⟩ := xM_33.out
        obtain ⟨cS_33, fS_33, zS_33⟩ := xS_33.out
        obtain ⟨cB_33, fB_33, zB_33⟩ := xB_33.out
        obtain ⟨cR_33, fR_33, zR_33⟩ := xR_33.out
        obtain ⟨cC_33, fC_33, zC_33⟩ := xC_33.out
        obtain ⟨cG_33, fG_33, zG_33⟩ := xG_33.out
        obtain ⟨cH_33, fH_33, zH_33⟩ := xH_33.out
        obtain ⟨cX_33, fX_33, zX_33⟩ := xX_33.out
        obtain ⟨cZ_33, fZ_33, zZ_33⟩ := xZ_33.out
        have O1 : Hid (SlS w33 (.slice a1 m1 k1) (.slice b1 n1 l1) (.slice c1 o1 q1) s1) := Lib.hid ((O1.out.below (bl_refl w32)).below hb33)
        have O3 : Hid (SlS w33 (.slice a3 m3 k3) (.slice b3 n3 l3) (.slice c3 o3 q3) s2) := Lib.hid ((O3.out.below (bl_refl w32)).below hb33)
        go_wp2_with fail
        have B34 : Bl w (w33.alloc (.cells #[.int .i64 n, .int .i64 d] 25)) := (bl_alloc B33 _)
        have xF_34 : Bx (w33.alloc (.cells #[.int .i64 n, .int .i64 d] 25)) (w1.heap.size) #[.int .i64 n, .int .i64 d] := (xF_33.alloc _)
        have xA_34 : Bx (w33.alloc (.cells #[.int .i64 n, .int .i64 d] 25)) (w3.heap.size) #[.slice a1 m1 k1, .slice b1 n1 l1, .slice c1 o1 q1] := (xA_33.alloc _)
        have xM_34 : Bx (w33.alloc (.cells #[.int .i64 n, .int .i64 d] 25)) (w5.heap.size) #[.slice a2 m2 k2, .slice b2 n2 l2, .slice c2 o2 q2] := (xM_33.alloc _)
        have xS_34 : Bx (w33.alloc (.cells #[.int .i64 n, .int .i64 d] 25)) (w7.heap.size) #[.int .i64 x, .int .i64 y, .int .i64 z] := (xS_33.alloc _)
        have xB_34 : Bx (w33.alloc (.cells #[.int .i64 n, .int .i64 d] 25)) (w9.heap.size) #[.slice a3 m3 k3, .slice b3 n3 l3, .slice c3 o3 q3] := (xB_33.alloc _)
        have xR_34 : Bx (w33.alloc (.cells #[.int .i64 n, .int .i64 d] 25)) (w11.heap.size) #[.slice a4 m4 k4, .slice b4 n4 l4, .slice c4 o4 q4] := (xR_33.alloc _)
        have xC_34 : Bx (w33.alloc (.cells #[.int .i64 n, .int .i64 d] 25)) (w13.heap.size) #[.slice a5 m5 k5, .slice b5 n5 l5, .slice c5 o5 q5] := (xC_33.alloc _)
        have xG_34 : Bx (w33.alloc (.cells #[.int .i64 n, .int .i64 d] 25)) (w15.heap.size) #[.int .i64 r1, .int .i64 r2] := (xG_33.alloc _)
        have xH_34 : Bx (w33.alloc (.cells #[.int .i64 n, .int .i64 d] 25)) (w17.heap.size) #[.int .i64 r1, .int .i64 r2] := (xH_33.alloc _)
        have xX_34 : Bx (w33.alloc (.cells #[.int .i64 n, .int .i64 d] 25)) (w19.heap.size) #[.int .i64 ta, .int .i64 tb, .int .i64 tc, .int .i64 td] := (xX_33.alloc _)
        have xZ_34 : Bx (w33.alloc (.cells #[.int .i64 n, .int .i64 d] 25)) (w19.heap.size + 1) #[.slice a6 m6 k6, .slice b6 n6 l6, .slice c6 o6 q6] := (xZ_33.alloc _)
        have xV_34 : Bx (w33.alloc (.cells #[.int .i64 n, .int .i64 d] 25)) (w33.heap.size) #[.int .i64 n, .int .i64 d] := (Bx.new (b := w33.heap.size) _ #[.int .i64 n, .int .i64 d] 25 (by first | rfl | simp))
        have zz34 : w33.heap.size + 1 ≤ (w33.alloc (.cells #[.int .i64 n, .int .i64 d] 25)).heap.size := (by simp)
        clear cF_33 fF_33 zF_33 cA_33 fA_33 zA_33 cM_33 fM_33 zM_33 cS_33 fS_33 zS_33 cB_33 fB_33 zB_33 cR_33 fR_33 zR_33 cC_33 fC_33 zC_33 cG_33 fG_33 zG_33 cH_33 fH_33 zH_33 cX_33 fX_33 zX_33 cZ_33 fZ_33 zZ_33
        have O1 : Hid (SlS (w33.alloc (.cells #[.int .i64 n, .int .i64 d] 25)) (.slice a1 m1 k1) (.slice b1 n1 l1) (.slice c1 o1 q1) s1) := Lib.hid (O1.out.below (bl_alloc (bl_refl w33) _))
        have O3 : Hid (SlS (w33.alloc (.cells #[.int .i64 n, .int .i64 d] 25)) (.slice a3 m3 k3) (.slice b3 n3 l3) (.slice c3 o3 q3) s2) := Lib.hid (O3.out.below (bl_alloc (bl_refl w33) _))
        generalize (w33.alloc (.cells #[.int .i64 n, .int .i64 d] 25)) = w34 at *
        obtain ⟨cF_34, fF_34, zF_34⟩ := xF_34.out
        obtain ⟨cA_34, fA_34, zA_34⟩ := xA_34.out
        obtain ⟨cM_34, fM_34, zM_34⟩ := xM_34.out
        obtain ⟨cS_34, fS_34, zS_34⟩ := xS_34.out
        obtain ⟨cB_34, fB_34, zB_34⟩ := xB_34.out
        obtain ⟨cR_34, fR_34, zR_34⟩ := xR_34.out
        obtain ⟨cC_34, fC_34, zC_34⟩ := xC_34.out
        obtain ⟨cG_34, fG_34, zG_34⟩ := xG_34.out
        obtain ⟨cH_34, fH_34, zH_34⟩ := xH_34.out
        obtain ⟨cX_34, fX_34, zX_34⟩ := xX_34.out
        obtain ⟨cZ_34, fZ_34, zZ_34⟩ := xZ_34.out
        obtain ⟨cV_34, fV_34, zV_34⟩ := xV_34.out
        go_wp2
        go_ret
        exact ⟨by first | rfl | simp, B34⟩
      · have e1 : (y1 != 0) = true := by simp [hy1]
        clear hy1
        go_wp2
        go_ret
        exact ⟨rfl, B31⟩
    · have e2 : (y2 == 0) = false := by simp [hy2]
      clear hy2
      by_cases hy1 : y1 = 0
      · subst hy1
        obtain ⟨hok, hft⟩ := frac_law HX1.out
        have HOK := Lib.hid hok
        have HFT := Lib.hid hft
        clear hok hft
        go_wp2_with fail
        refine (ift_eq HFT.out _ O1.out).mono ?_
        rintro e w29 ⟨av5, cv5, rfl, L5, hb29⟩
        have B29 : Bl w w29 := bl_call B28 hb29
        have xF_29 : Bx w29 (w1.heap.size) #[.int .i64 n, .int .i64 d] := xF_28.below hb29
        have xA_29 : Bx w29 (w3.heap.size) #[.slice a1 m1 k1, .slice b1 n1 l1, .slice c1 o1 q1] := xA_28.below hb29
        have xM_29 : Bx w29 (w5.heap.size) #[.slice a2 m2 k2, .slice b2 n2 l2, .slice c2 o2 q2] := xM_28.below hb29
        have xS_29 : Bx w29 (w7.heap.size) #[.int .i64 x, .int .i64 y, .int .i64 z] := xS_28.below hb29
        have xB_29 : Bx w29 (w9.heap.size) #[.slice a3 m3 k3, .slice b3 n3 l3, .slice c3 o3 q3] := xB_28.below hb29
        have xR_29 : Bx w29 (w11.heap.size) #[.slice a4 m4 k4, .slice b4 n4 l4, .slice c4 o4 q4] := xR_28.below hb29
        have xC_29 : Bx w29 (w13.heap.size) #[.slice a5 m5 k5, .slice b5 n5 l5, .slice c5 o5 q5] := xC_28.below hb29
        have xG_29 : Bx w29 (w15.heap.size) #[.int .i64 r1, .int .i64 r2] := xG_28.below hb29
        have xH_29 : Bx w29 (w17.heap.size) #[.int .i64 r1, .int .i64 r2] := xH_28.below hb29
        have xX_29 : Bx w29 (w19.heap.size) #[.int .i64 ta, .int .i64 tb, .int .i64 tc, .int .i64 td] := xX_28.below hb29
        have xZ_29 : Bx w29 (w19.heap.size + 1) #[.slice a6 m6 k6, .slice b6 n6 l6, .slice c6 o6 q6] := xZ_28.below hb29
        clear cF_28 fF_28 zF_28 cA_28 fA_28 zA_28 cM_28 fM_28 zM_28 cS_28 fS_28 zS_28 cB_28 fB_28 zB_28 cR_28 fR_28 zR_28 cC_28 fC_28 zC_28 cG_28 fG_28 zG_28 cH_28 fH_28 zH_28 cX_28 fX_28 zX_28 cZ_28 fZ_28 zZ_28
        obtain ⟨cF_29, fF_29, zF_29⟩ := xF_29.out
        obtain ⟨cA_29, fA_29, zA_29⟩ := xA_29.out
        obtain ⟨cM_29, fM_29, zM_29⟩ := xM_29.out
        obtain ⟨cS_29, fS_29, zS_29⟩ := xS_29.out
        obtain ⟨cB_29, fB_29, zB_29⟩ := xB_29.out
        obtain ⟨cR_29, fR_29, zR_29⟩ := xR_29.out
        obtain ⟨cC_29, fC_29, zC_29⟩ := xC_29.out
        obtain ⟨cG_29, fG_29, zG_29⟩ := xG_29.out
        obtain ⟨cH_29, fH_29, zH_29⟩ := xH_29.out
        obtain ⟨cX_29, fX_29, zX_29⟩ := xX_29.out
        obtain ⟨cZ_29, fZ_29, zZ_29⟩ := xZ_29.out
        have O1 : Hid (SlS w29 (.slice a1 m1 k1) (.slice b1 n1 l1) (.slice c1 o1 q1) s1) := Lib.hid ((O1.out.below (bl_refl w28)).below hb29)
        have O3 : Hid (SlS w29 (.slice a3 m3 k3) (.slice b3 n3 l3) (.slice c3 o3 q3) s2) := Lib.hid ((O3.out.below (bl_refl w28)).below hb29)
        have L5 := Lib.hid L5.sl
        go_wp2_with fail
        refine (ivalue_ok _ L5.out HOK.out).mono ?_
        rintro e w30 ⟨rfl, hb30⟩
        have B30 : Bl w w30 := bl_call B29 hb30
        have xF_30 : Bx w30 (w1.heap.size) #[.int .i64 n, .int .i64 d] := xF_29.below hb30
        have xA_30 : Bx w30 (w3.heap.size) #[.slice a1 m1 k1, .slice b1 n1 l1, .slice c1 o1 q1] := xA_29.below hb30
        have xM_30 : Bx w30 (w5.heap.size) #[.slice a2 m2 k2, .slice b2 n2 l2, .slice c2 o2 q2] := xM_29.below hb30
        have xS_30 : Bx w30 (w7.heap.size) #[.int .i64 x, .int .i64 y, .int .i64 z] := xS_29.below hb30
        have xB_30 : Bx w30 (w9.heap.size) #[.slice a3 m3 k3, .slice b3 n3 l3, .slice c3 o3 q3] := xB_29.below hb30
        have xR_30 : Bx w30 (w11.heap.size) #[.slice a4 m4 k4, .slice b4 n4 l4, .slice c4 o4 q4] := xR_29.below hb30
        have xC_30 : Bx w30 (w13.heap.size) #[.slice a5 m5 k5, .slice b5 n5 l5, .slice c5 o5 q5] := xC_29.below hb30
        have xG_30 : Bx w30 (w15.heap.size) #[.int .i64 r1, .int .i64 r2] := xG_29.below hb30
        have xH_30 : Bx w30 (w17.heap.size) #[.int .i64 r1, .int .i64 r2] := xH_29.below hb30
        have xX_30 : Bx w30 (w19.heap.size) #[.int .i64 ta, .int .i64 tb, .int .i64 tc, .int .i64 td] := xX_29.below hb30
        have xZ_30 : Bx w30 (w19.heap.size + 1) #[.slice a6 m6 k6, .slice b6 n6 l6, .slice c6 o6 q6] := xZ_29.below hb30
        clear cF_29 fF_29 zF_29 cA_29 fA_29 zA_29 cM_29 fM_29 zM_29 cS_29 fS_29 zS_29 cB_29 fB_29 zB_29 cR_29 fR_29 zR_29 cC_29 fC_29 zC_29 cG_29 fG_29 zG_29 cH_29 fH_29 zH_29 cX_29 fX_29 zX_29 cZ_29 fZ_29 zZ_29
        obtain ⟨cF_30, fF_30, zF_30⟩ := xF_30.out
        obtain ⟨cA_30, fA_30, zA_30⟩ := xA_30.out
        obtain ⟨cM_30, fM_30, zM_30⟩ := xM_30.out
        obtain ⟨cS_30, fS_30, zS_30⟩ := xS_30.out
        obtain ⟨cB_30, fB_30, zB_30⟩ := xB_30.out
        obtain ⟨cR_30, fR_30, zR_30⟩ := xR_30.out
        obtain ⟨cC_30, fC_30, zC_30⟩ := xC_30.out
        obtain ⟨cG_30, fG_30, zG_30⟩ := xG_30.out
        obtain ⟨cH_30, fH_30, zH_30⟩ := xH_30.out
        obtain ⟨cX_30, fX_30, zX_30⟩ := xX_30.out
        obtain ⟨cZ_30, fZ_30, zZ_30⟩ := xZ_30.out
        have O1 : Hid (SlS w30 (.slice a1 m1 k1) (.slice b1 n1 l1) (.slice c1 o1 q1) s1) := Lib.hid ((O1.out.below (bl_refl w29)).below hb30)
        have O3 : Hid (SlS w30 (.slice a3 m3 k3) (.slice b3 n3 l3) (.slice c3 o3 q3) s2) := Lib.hid ((O3.out.below (bl_refl w29)).below hb30)
        go_wp2_with fail
        have B31 : Bl w (w30.alloc (.cells #[.int .i64 n, .int .i64 d] 25)) := (bl_alloc B30 _)
        have xF_31 : Bx (w30.alloc (.cells #[.int .i64 n, .int .i64 d] 25)) (w1.heap.size) #[.int .i64 n, .int .i64 d] := (xF_30.alloc _)
        have xA_31 : Bx (w30.alloc (.cells #[.int .i64 n, .int .i64 d] 25)) (w3.heap.size) #[.slice a1 m1 k1, .slice b1 n1 l1, .slice c1 o1 q1] := (xA_30.alloc _)
        have xM_31 : Bx (w30.alloc (.cells #[.int .i64 n, .int .i64 d] 25)) (w5.heap.size) #[.slice a2 m2 k2, .slice b2 n2 l2, .slice c2 o2 q2] := (xM_30.alloc _)
        have xS_31 : Bx (w30.alloc (.cells #[.int .i64 n, .int .i64 d] 25)) (w7.heap.size) #[.int .i64 x, .int .i64 y, .int .i64 z] := (xS_30.alloc _)
        have xB_31 : Bx (w30.alloc (.cells #[.int .i64 n, .int .i64 d] 25)) (w9.heap.size) #[.slice a3 m3 k3, .slice b3 n3 l3, .slice c3 o3 q3] := (xB_30.alloc _)
        have xR_31 : Bx (w30.alloc (.cells #[.int .i64 n, .int .i64 d] 25)) (w11.heap.size) #[.slice a4 m4 k4, .slice b4 n4 l4, .slice c4 o4 q4] := (xR_30.alloc _)
        have xC_31 : Bx (w30.alloc (.cells #[.int .i64 n, .int .i64 d] 25)) (w13.heap.size) #[.slice a5 m5 k5, .slice b5 n5 l5, .slice c5 o5 q5] := (xC_30.alloc _)
        have xG_31 : Bx (w30.alloc (.cells #[.int .i64 n, .int .i64 d] 25)) (w15.heap.size) #[.int .i64 r1, .int .i64 r2] := (xG_30.alloc _)
        have xH_31 : Bx (w30.alloc (.cells #[.int .i64 n, .int .i64 d] 25)) (w17.heap.size) #[.int .i64 r1, .int .i64 r2] := (xH_30.alloc _)
        have xX_31 : Bx (w30.alloc (.cells #[.int .i64 n, .int .i64 d] 25)) (w19.heap.size) #[.int .i64 ta, .int .i64 tb, .int .i64 tc, .int .i64 td] := (xX_30.alloc _)
        have xZ_31 : Bx (w30.alloc (.cells #[.int .i64 n, .int .i64 d] 25)) (w19.heap.size + 1) #[.slice a6 m6 k6, .slice b6 n6 l6, .slice c6 o6 q6] := (xZ_30.alloc _)
        have xV_31 : Bx (w30.alloc (.cells #[.int .i64 n, .int .i64 d] 25)) (w30.heap.size) #[.int .i64 n, .int .i64 d] := (Bx.new (b := w30.heap.size) _ #[.int .i64 n, .int .i64 d] 25 (by first | rfl | simp))
        have zz31 : w30.heap.size + 1 ≤ (w30.alloc (.cells #[.int .i64 n, .int .i64 d] 25)).heap.size := (by simp)
        clear cF_30 fF_30 zF_30 cA_30 fA_30 zA_30 cM_30 fM_30 zM_30 cS_30 fS_30 zS_30 cB_30 fB_30 zB_30 cR_30 fR_30 zR_30 cC_30 fC_30 zC_30 cG_30 fG_30 zG_30 cH_30 fH_30 zH_30 cX_30 fX_30 zX_30 cZ_30 fZ_30 zZ_30
        have O1 : Hid (SlS (w30.alloc (.cells #[.int .i64 n, .int .i64 d] 25)) (.slice a1 m1 k1) (.slice b1 n1 l1) (.slice c1 o1 q1) s1) := Lib.hid (O1.out.below (bl_alloc (bl_refl w30) _))
        have O3 : Hid (SlS (w30.alloc (.cells #[.int .i64 n, .int .i64 d] 25)) (.slice a3 m3 k3) (.slice b3 n3 l3) (.slice c3 o3 q3) s2) := Lib.hid (O3.out.below (bl_alloc (bl_refl w30) _))
        generalize (w30.alloc (.cells #[.int .i64 n, .int .i64 d] 25)) = w31 at *
        obtain ⟨cF_31, fF_31, zF_31⟩ := xF_31.out
        obtain ⟨cA_31, fA_31, zA_31⟩ := xA_31.out
        obtain ⟨cM_31, fM_31, zM_31⟩ := xM_31.out
        obtain ⟨cS_31, fS_31, zS_31⟩ := xS_31.out
        obtain ⟨cB_31, fB_31, zB_31⟩ := xB_31.out
        obtain ⟨cR_31, fR_31, zR_31⟩ := xR_31.out
        obtain ⟨cC_31, fC_31, zC_31⟩ := xC_31.out
        obtain ⟨cG_31, fG_31, zG_31⟩ := xG_31.out
        obtain ⟨cH_31, fH_31, zH_31⟩ := xH_31.out
        obtain ⟨cX_31, fX_31, zX_31⟩ := xX_31.out
        obtain ⟨cZ_31, fZ_31, zZ_31⟩ := xZ_31.out
        obtain ⟨cV_31, fV_31, zV_31⟩ := xV_31.out
        go_wp2
        go_ret
        exact ⟨by first | rfl | simp, B31⟩
      · have e1 : (y1 != 0) = true := by simp [hy1]
        clear hy1
        go_wp2
        go_ret
        exact ⟨rfl, B28⟩

set_option maxRecDepth 100000 in
theorem fnSourceValues_lifted (os : Os) (started : os.Started) (H : Type) (enc : TypeId × Value → H) :
    ReturnsInHanded {} Tryz.checked os 3 .any (Rows.fnSourceValuesSpec.pre6 enc Tryz.prog Tryz.f3 Rows.fnSourceValuesRow.domain false) (Rows.fnSourceValuesSpec.post enc Tryz.prog Tryz.f3 false true false false) := by
  refine returnsInHanded_of_change (C := Tryz.checked) own started (by kernel_rfl) Tryz.func3
    (ChangeSpec.witness6 (enc := enc) (C := Tryz.checked) false ⟨#[], #[.slice none 0 0], []⟩ 8 (by kernel_rfl) (by kernel_rfl) (by kernel_rfl) (by kernel_rfl)) ?_
  intro W base args ds gs before hval0 hW hcnd _
  have hval : ∀ (j : Nat) t v, Tryz.f3.params[j]? = some t → args[j]? = some v → Value.okWide Tryz.prog W .any base t v := hval0
  have hW' := hW
  obtain ⟨p, q, hA0, hV, rfl, hfz, hnd⟩ := hW
  have hA : DataW.TrodAll enc Tryz.prog W 0 (fun _ => true) true Tryz.f3.params.toList args.toList ds p := hA0
  rw [Tryz.params3] at hA hval
  obtain ⟨v0, vs0, d0, ds0, p0, q0, hargs, rfl, rfl, h0, r0⟩ := trodAll_cons hA
  obtain ⟨rfl, rfl, rfl⟩ := trodAll_nil r0
  obtain rfl : args = #[v0] := by cases args; simp_all
  obtain ⟨rfl, rfl⟩ := trodVars_none hV
  have k0 := h0
  have lt0 : ∀ x ∈ p0, x.block < W.heap.size := by obtain ⟨m, hm⟩ := k0; exact DataW.trod_lt m _ _ _ hm
  obtain ⟨x0, S0⟩ := bytes_of_trod (hval 0 22 v0 rfl rfl) h0
  clear hA0 hval0
  refine (lawSourceValues v0 x0 W S0).mono fun e W' ⟨he, bel⟩ => ?_
  subst he
  exact ⟨_, rfl, _, _, _, [], _, [], hW', trodAll_mk1 (shut_bool Tryz.underlying4 _), (trodAll_cons_mk (Below.trod laidOut (by kernel_rfl) (of_decide_eq_true (by kernel_rfl)) k0 bel lt0) trodAll_mk0), rfl, bel.frame _, fun h => by cases h⟩

/-- THE STATEMENT. -/
theorem fnSourceValues_holds : Rows.FnSourceValuesSaid :=
  OpenClaim.holds_of_wide 3 Tryz.f3 rfl rfl rfl rfl rfl rfl rfl ⟨rfl, rfl, rfl, rfl, rfl⟩ rfl rfl rfl rfl rfl (by kernel_rfl) Tryz.func3 (by kernel_rfl)
    (of_decide_eq_true (by kernel_rfl)) (by unfold Func.isWrapper; first | (rw [if_pos (by decide +kernel)]; kernel_rfl) | (rw [if_neg (by decide +kernel)]; exact ⟨rfl, rfl⟩))
    (fun os started H enc _ => fnSourceValues_lifted os started H enc)
#print axioms fnSourceValues_holds

end Go.Proofs.YtgkelemfbmmgnaaGreat
