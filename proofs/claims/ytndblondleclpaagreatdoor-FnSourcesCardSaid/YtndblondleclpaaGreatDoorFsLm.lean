/- The walk of the law FnSources: for all bytes it returns true, where the tables and the errors of the library lie as its text lays them. Each theorem names its conditions. -/
import Derived.Test.YtndblondleclpaaGreatDoorMA6
import Derived.Test.YtndblondleclpaaGreatDoorSdN
import Derived.Test.YtndblondleclpaaGreatDoorSkipI
import Derived.Test.YtndblondleclpaaGreatDoorSkipS
import Derived.Test.YtndblondleclpaaGreatDoorMA4
import Derived.Test.YtndblondleclpaaGreatDoorMA5
import Derived.Test.YtndblondleclpaaGreatDoorMA3
namespace Go.Proofs.YtndblondleclpaaGreatDoor
open Go.RowKit Go.ChangeShapes Go.WideShapes Go.ChangeAt
set_option linter.unusedVariables false
set_option linter.unusedSimpArgs false

theorem sameSrc_selfS (s : Src) : true = sameSrc s s := by simp [sameSrc]
theorem ita_eq {h p g : Value} {s : Src} {k x c : Int} (e : termAtF s k = (x, c)) (w : World) (hs : SlS w h p g s) : Calls Tryz.prog 7 #[.agg #[h, p, g], .int .i64 k] w fun r w' => r = .returned (.tuple #[.int .i64 x, .int .i64 c]) ∧ Bl w w' :=
  (impl_TermAt h p g s k w hs).mono fun _ _ q => by rw [e] at q; exact q
theorem sta_eq {h p g : Value} {s : Src} {k x c : Int} (e : termAtF s k = (x, c)) (w : World) (hs : SlS w h p g s) : Calls Tryz.prog 8 #[.agg #[h, p, g], .int .i64 k] w fun r w' => r = .returned (.tuple #[.int .i64 x, .int .i64 c]) ∧ Bl w w' :=
  (spec_TermAt h p g s k w hs).mono fun _ _ q => by rw [e] at q; exact q
theorem ift_eqS {h p g : Value} {s : Src} {m c : Int} {L : List Int} (e : firstF s m = (L, c)) (w : World) (hs : SlS w h p g s) : Calls Tryz.prog 10 #[.agg #[h, p, g], .int .i64 m] w fun r w' => ∃ av cv, r = .returned (.tuple #[.slice av L.length cv, .int .i64 c]) ∧ Own w' w.heap.size (.slice av L.length cv) L ∧ Bl w w' :=
  (impl_FirstTerms h p g s m w hs).mono fun _ _ ⟨a1, n1, c1, q1, q2, q3⟩ => by
    rw [e] at q1 q2
    obtain ⟨a2, c2, e2, _⟩ := q2.form
    injection e2 with h1 h2 h3
    subst h1; subst h2; subst h3
    exact ⟨_, _, q1, q2, q3⟩
theorem sft_eqS {h p g : Value} {s : Src} {m c : Int} {L : List Int} (e : firstF s m = (L, c)) (w : World) (hs : SlS w h p g s) : Calls Tryz.prog 11 #[.agg #[h, p, g], .int .i64 m] w fun r w' => ∃ av cv, r = .returned (.tuple #[.slice av L.length cv, .int .i64 c]) ∧ Own w' w.heap.size (.slice av L.length cv) L ∧ Bl w w' :=
  (spec_FirstTerms h p g s m w hs).mono fun _ _ ⟨a1, n1, c1, q1, q2, q3⟩ => by
    rw [e] at q1 q2
    obtain ⟨a2, c2, e2, _⟩ := q2.form
    injection e2 with h1 h2 h3
    subst h1; subst h2; subst h3
    exact ⟨_, _, q1, q2, q3⟩
theorem isk_eq {h p g : Value} {s t : Src} {k c : Int} (e : skipF s k = (t, c)) (w : World) (hs : SlS w h p g s) (hl : LensK s) : Calls Tryz.prog 13 #[.agg #[h, p, g], .int .i64 k] w fun r w' => ∃ h p g, r = .returned (.tuple #[.agg #[h, p, g], .int .i64 c]) ∧ OwnS w' w.heap.size h p g t ∧ Bl w w' :=
  (impl_SkipTerms h p g s k w hs ⟨by have := hl.1; omega, by have := hl.2.1; omega, by have := hl.2.2; omega⟩).mono fun _ _ q => by unfold SkP at q; rw [e] at q; exact q
theorem ssk_eq {h p g : Value} {s t : Src} {k c : Int} (e : skipF s k = (t, c)) (w : World) (hs : SlS w h p g s) (hl : LensK s) : Calls Tryz.prog 14 #[.agg #[h, p, g], .int .i64 k] w fun r w' => ∃ h p g, r = .returned (.tuple #[.agg #[h, p, g], .int .i64 c]) ∧ OwnS w' w.heap.size h p g t ∧ Bl w w' :=
  (spec_SkipTerms h p g s k w hs ⟨by have := hl.1; omega, by have := hl.2.1; omega, by have := hl.2.2; omega⟩).mono fun _ _ q => by unfold SkP at q; rw [e] at q; exact q
theorem irs_eq {T : ByteArray} {s : Src} {b : Bool} (e : rsF T.data.toList = (s, b)) (w : World) (hs : T.size ≤ 1048576) (hE : Env w) : Calls Tryz.prog 17 #[.string T] w fun r w' => ∃ h p g, r = .returned (.tuple #[.agg #[h, p, g], .bool b]) ∧ OwnS w' w.heap.size h p g s ∧ Bl w w' :=
  (impl_ReadSource T w hs hE).mono fun _ _ q => by unfold RsP at q; rw [e] at q; exact q
theorem srs_eq {T : ByteArray} {s : Src} {b : Bool} (e : rsF T.data.toList = (s, b)) (w : World) (hs : T.size ≤ 1048576) : Calls Tryz.prog 19 #[.string T] w fun r w' => ∃ h p g, r = .returned (.tuple #[.agg #[h, p, g], .bool b]) ∧ OwnS w' w.heap.size h p g s ∧ Bl w w' :=
  (spec_ReadSource T w hs).mono fun _ _ q => by unfold RsP at q; rw [e] at q; exact q
/-- The text of a source, and what is read from it. -/
theorem stx_facts (s : Src) : ∃ T : ByteArray, (⟨(stxt s.H s.P s.G).toArray⟩ : ByteArray) = T ∧ T.size ≤ 1048576 ∧ ((T.toList.isEmpty = false ∧ rsF T.data.toList = (s, true)) ∨ (T.toList.isEmpty = true ∧ rsF T.data.toList = (⟨[], [], []⟩, false))) := by
  refine ⟨_, rfl, ?_, ?_⟩
  · have := stxt_len s.H s.P s.G
    simpa [ByteArray.size] using this
  · by_cases v : VS s.H s.P s.G
    · left
      refine ⟨empty_no (by have := stxt_ne v; simp [ByteArray.size]; exact List.length_pos_iff.2 this), ?_⟩
      exact rsF_yes v
    · right
      refine ⟨(empty_yes (by rw [stxt_no v]; rfl)).1, ?_⟩
      exact rsF_no v
theorem ist_eq {h p g : Value} {s : Src} {T : ByteArray} (e : (⟨(stxt s.H s.P s.G).toArray⟩ : ByteArray) = T) (w : World) (ha : SlS w h p g s) (ht : Tab w) : Calls Tryz.prog 16 #[.agg #[h, p, g]] w fun r w' => r = .returned (.string T) ∧ Bl w w' :=
  e ▸ impl_SourceText h p g s w ha ht
theorem sst_eq {h p g : Value} {s : Src} {T : ByteArray} (e : (⟨(stxt s.H s.P s.G).toArray⟩ : ByteArray) = T) (w : World) (ha : SlS w h p g s) : Calls Tryz.prog 23 #[.agg #[h, p, g]] w fun r w' => r = .returned (.string T) ∧ Bl w w' :=
  e ▸ spec_SourceText h p g s w ha
theorem ssame_selfS {h p g h' p' g' : Value} {s : Src} (w : World) (ha : SlS w h p g s) (hb : SlS w h' p' g' s) : Calls Tryz.prog 22 #[.agg #[h, p, g], .agg #[h', p', g']] w fun e w' => e = .returned (.bool true) ∧ Bl w w' :=
  (spec_SameSource h p g s h' p' g' s w ha hb).mono fun _ _ q => by rw [← sameSrc_selfS] at q; exact q
theorem ssame_eq {h p g h' p' g' : Value} {s t : Src} {b : Bool} (e : sameSrc s t = b) (w : World) (ha : SlS w h p g s) (hb : SlS w h' p' g' t) : Calls Tryz.prog 22 #[.agg #[h, p, g], .agg #[h', p', g']] w fun e w' => e = .returned (.bool b) ∧ Bl w w' := e ▸ spec_SameSource h p g s h' p' g' t w ha hb
theorem isame_eq {h p g h' p' g' : Value} {s t : Src} {b : Bool} (e : sameSrc s t = b) (w : World) (ha : SlS w h p g s) (hb : SlS w h' p' g' t) : Calls Tryz.prog 24 #[.agg #[h, p, g], .agg #[h', p', g']] w fun e w' => e = .returned (.bool b) ∧ Bl w w' := e ▸ impl_SameSource h p g s h' p' g' t w ha hb
theorem ival_eqS {h p g : Value} {s : Src} {b : Bool} (e : okSrc s = b) (w : World) (ha : SlS w h p g s) : Calls Tryz.prog 25 #[.agg #[h, p, g]] w fun e w' => e = .returned (.bool b) ∧ Bl w w' := e ▸ ivalid_any h p g s w ha
theorem f6_selfS {va vb : Value} {xs : List Int} (w : World) (ha : Sl w va xs) (hb : Sl w vb xs) : Calls Tryz.prog 21 #[va, vb] w fun e w' => e = .returned (.bool true) ∧ Bl w w' :=
  (f6ints_any va vb xs xs w ha hb).mono fun _ _ q => ⟨by rw [q.1]; simp, by obtain ⟨n, e⟩ := q.2; rw [e]; exact Drawn.below ⟨n, rfl⟩ _⟩
theorem sval_eqS {h p g : Value} {s : Src} {b : Bool} (e : okSrc s = b) (w : World) (ha : SlS w h p g s) : Calls Tryz.prog 26 #[.agg #[h, p, g]] w fun e w' => e = .returned (.bool b) ∧ Bl w w' := by
  subst e
  go_enter Tryz.func26, Tryz.ntmps26
  go_wp2_with (go_at_call 48; refine (svalid_any _ _ _ _ _ _ (ha.alloc _) (Bx.new _ _ _ rfl)).mono ?_; rintro e w' ⟨rfl, hb⟩)
  go_ret
  exact ⟨rfl, bl_call (bl_alloc (bl_refl _) _) hb⟩
theorem sl_twoS {w w' : World} {a : Option Addr} {n c : Nat} {xs : List Int} (h : Sl w (.slice a n c) xs) (hb : Bl w w') {i : Nat} (hi : i < xs.length) :
    ∃ b o, a = some ⟨b, o, none⟩ ∧ ∀ (j : Nat) (y : Int), xs[j]? = some y → w'.cell? ⟨b, o + j, none⟩ = some (.int .i64 y) := by
  obtain ⟨a', cap, e, h1, h2, h3, h4, h5⟩ := h
  injection e with e1 e2 e3
  subst e1 e2 e3
  rcases h5 with h5 | ⟨b, off, rfl, hc⟩
  · rw [h5] at hi; simp at hi
  · exact ⟨b, off, rfl, fun j y hy => (hb.cell (p := ⟨b, off + j, none⟩) (cell_lt (hc j y hy))).trans (hc j y hy)⟩
theorem skip_bd {s t : Src} {c : Int} (h : skipF s c = (t, 0)) : 0 ≤ c ∧ c ≤ 1000 := by
  cases c1 : okSrc s with
  | false => rw [skip_1 c1] at h; exact absurd (Prod.mk.inj h).2 (by decide)
  | true =>
    cases c2 : inB c 0 1000 with
    | false => rw [skip_2 c1 c2] at h; exact absurd (Prod.mk.inj h).2 (by decide)
    | true => exact inB_iff.1 c2
set_option maxRecDepth 100000 in
set_option maxHeartbeats 51200000 in
theorem lawSources (v0 : Value) (x0 : List Int) (w : World) (S0 : SlB w v0 x0) (hE : Env w) :
    Calls Tryz.prog 3 #[v0] w fun e w' => e = .returned (.bool true) ∧ Bl w w' := by
  have H0 := Lib.hid S0
  have HE := Lib.hid hE
  obtain ⟨a0, c0, rfl, _⟩ := S0.form
  clear S0 hE
  by_cases hl : 4096 < x0.length
  · have hL := Lib.hid (decide_eq_true hl)
    clear hl
    go_enter Tryz.func3, Tryz.ntmps3
    go_wp2_with fail
    refine (f6big_anyK H0.out).mono ?_
    rintro e w9 ⟨rfl, rfl⟩
    rw [hL.out]
    go_wp2
    go_ret
    exact ⟨rfl, bl_refl _⟩
  · have hL := Lib.hid (decide_eq_false hl)
    have hl0 : x0.length ≤ 4096 := by omega
    clear hl
    go_enter Tryz.func3, Tryz.ntmps3
    go_wp2_with fail
    refine (f6big_anyK H0.out).mono ?_
    rintro e w9 ⟨rfl, rfl⟩
    rw [hL.out]
    go_wp2_with fail
    refine (dterm_any H0.out hl0).mono ?_
    rintro e w1 ⟨h1, p1, g1, s1, kk1, rfl, O1, K1, hb1⟩
    have B1 : Bl w w1 := bl_call (bl_refl _) hb1
    obtain ⟨⟨x1, y1⟩, hx1⟩ : ∃ X, termAtF s1 kk1 = X := ⟨_, rfl⟩
    have HX1 := Lib.hid hx1
    clear hx1 K1
    obtain ⟨⟨a1, m1, k1, rfl⟩, ⟨b1, n1, l1, rfl⟩, ⟨c1, o1, q1, rfl⟩⟩ := O1.shape
    have O1 := Lib.hid O1.sl
    go_wp2_with fail
    have B2 : Bl w (w1.alloc (.cells #[.slice a1 m1 k1, .slice b1 n1 l1, .slice c1 o1 q1] 26)) := (bl_alloc B1 _)
    have xA_2 : Bx (w1.alloc (.cells #[.slice a1 m1 k1, .slice b1 n1 l1, .slice c1 o1 q1] 26)) (w1.heap.size) #[.slice a1 m1 k1, .slice b1 n1 l1, .slice c1 o1 q1] := (Bx.new (b := w1.heap.size) _ #[.slice a1 m1 k1, .slice b1 n1 l1, .slice c1 o1 q1] 26 (by first | rfl | simp))
    have zz2 : w1.heap.size + 1 ≤ (w1.alloc (.cells #[.slice a1 m1 k1, .slice b1 n1 l1, .slice c1 o1 q1] 26)).heap.size := (by simp)
    have O1 : Hid (SlS (w1.alloc (.cells #[.slice a1 m1 k1, .slice b1 n1 l1, .slice c1 o1 q1] 26)) (.slice a1 m1 k1) (.slice b1 n1 l1) (.slice c1 o1 q1) s1) := Lib.hid (O1.out.below (bl_alloc (bl_refl w1) _))
    generalize (w1.alloc (.cells #[.slice a1 m1 k1, .slice b1 n1 l1, .slice c1 o1 q1] 26)) = w2 at *
    obtain ⟨cA_2, fA_2, zA_2⟩ := xA_2.out
    refine (ita_eq HX1.out _ O1.out).mono ?_
    rintro e w3 ⟨rfl, hb3⟩
    have B3 : Bl w w3 := bl_call B2 hb3
    have xA_3 : Bx w3 (w1.heap.size) #[.slice a1 m1 k1, .slice b1 n1 l1, .slice c1 o1 q1] := xA_2.below hb3
    clear cA_2 fA_2 zA_2
    obtain ⟨cA_3, fA_3, zA_3⟩ := xA_3.out
    have O1 : Hid (SlS w3 (.slice a1 m1 k1) (.slice b1 n1 l1) (.slice c1 o1 q1) s1) := Lib.hid ((O1.out.below (bl_refl w2)).below hb3)
    go_wp2_with fail
    refine (sta_eq HX1.out _ O1.out).mono ?_
    rintro e w4 ⟨rfl, hb4⟩
    have B4 : Bl w w4 := bl_call B3 hb4
    have xA_4 : Bx w4 (w1.heap.size) #[.slice a1 m1 k1, .slice b1 n1 l1, .slice c1 o1 q1] := xA_3.below hb4
    clear cA_3 fA_3 zA_3
    obtain ⟨cA_4, fA_4, zA_4⟩ := xA_4.out
    have O1 : Hid (SlS w4 (.slice a1 m1 k1) (.slice b1 n1 l1) (.slice c1 o1 q1) s1) := Lib.hid ((O1.out.below (bl_refl w3)).below hb4)
    have H2 := Lib.hid (H0.out.below B4)
    go_wp2_with fail
    refine (dfirst_any H2.out hl0).mono ?_
    rintro e w5 ⟨h2, p2, g2, s2, kk2, rfl, O2, K2, hb5⟩
    have B5 : Bl w w5 := bl_call B4 hb5
    have xA_5 : Bx w5 (w1.heap.size) #[.slice a1 m1 k1, .slice b1 n1 l1, .slice c1 o1 q1] := xA_4.below hb5
    clear cA_4 fA_4 zA_4
    obtain ⟨cA_5, fA_5, zA_5⟩ := xA_5.out
    have O1 : Hid (SlS w5 (.slice a1 m1 k1) (.slice b1 n1 l1) (.slice c1 o1 q1) s1) := Lib.hid ((O1.out.below (bl_refl w4)).below hb5)
    obtain ⟨⟨L2, y2⟩, hx2⟩ : ∃ X, firstF s2 kk2 = X := ⟨_, rfl⟩
    have HX2 := Lib.hid hx2
    clear hx2 K2
    obtain ⟨⟨a2, m2, k2, rfl⟩, ⟨b2, n2, l2, rfl⟩, ⟨c2, o2, q2, rfl⟩⟩ := O2.shape
    have O2 := Lib.hid O2.sl
    go_wp2_with fail
    have B6 : Bl w (w5.alloc (.cells #[.slice a2 m2 k2, .slice b2 n2 l2, .slice c2 o2 q2] 26)) := (bl_alloc B5 _)
    have xA_6 : Bx (w5.alloc (.cells #[.slice a2 m2 k2, .slice b2 n2 l2, .slice c2 o2 q2] 26)) (w1.heap.size) #[.slice a1 m1 k1, .slice b1 n1 l1, .slice c1 o1 q1] := (xA_5.alloc _)
    have xB_6 : Bx (w5.alloc (.cells #[.slice a2 m2 k2, .slice b2 n2 l2, .slice c2 o2 q2] 26)) (w5.heap.size) #[.slice a2 m2 k2, .slice b2 n2 l2, .slice c2 o2 q2] := (Bx.new (b := w5.heap.size) _ #[.slice a2 m2 k2, .slice b2 n2 l2, .slice c2 o2 q2] 26 (by first | rfl | simp))
    have zz6 : w5.heap.size + 1 ≤ (w5.alloc (.cells #[.slice a2 m2 k2, .slice b2 n2 l2, .slice c2 o2 q2] 26)).heap.size := (by simp)
    clear cA_5 fA_5 zA_5
    have O1 : Hid (SlS (w5.alloc (.cells #[.slice a2 m2 k2, .slice b2 n2 l2, .slice c2 o2 q2] 26)) (.slice a1 m1 k1) (.slice b1 n1 l1) (.slice c1 o1 q1) s1) := Lib.hid (O1.out.below (bl_alloc (bl_refl w5) _))
    have O2 : Hid (SlS (w5.alloc (.cells #[.slice a2 m2 k2, .slice b2 n2 l2, .slice c2 o2 q2] 26)) (.slice a2 m2 k2) (.slice b2 n2 l2) (.slice c2 o2 q2) s2) := Lib.hid (O2.out.below (bl_alloc (bl_refl w5) _))
    generalize (w5.alloc (.cells #[.slice a2 m2 k2, .slice b2 n2 l2, .slice c2 o2 q2] 26)) = w6 at *
    obtain ⟨cA_6, fA_6, zA_6⟩ := xA_6.out
    obtain ⟨cB_6, fB_6, zB_6⟩ := xB_6.out
    refine (ift_eqS HX2.out _ O2.out).mono ?_
    rintro e w7 ⟨av1, cv1, rfl, M1, hb7⟩
    have B7 : Bl w w7 := bl_call B6 hb7
    have xA_7 : Bx w7 (w1.heap.size) #[.slice a1 m1 k1, .slice b1 n1 l1, .slice c1 o1 q1] := xA_6.below hb7
    have xB_7 : Bx w7 (w5.heap.size) #[.slice a2 m2 k2, .slice b2 n2 l2, .slice c2 o2 q2] := xB_6.below hb7
    clear cA_6 fA_6 zA_6 cB_6 fB_6 zB_6
    obtain ⟨cA_7, fA_7, zA_7⟩ := xA_7.out
    obtain ⟨cB_7, fB_7, zB_7⟩ := xB_7.out
    have O1 : Hid (SlS w7 (.slice a1 m1 k1) (.slice b1 n1 l1) (.slice c1 o1 q1) s1) := Lib.hid ((O1.out.below (bl_refl w6)).below hb7)
    have O2 : Hid (SlS w7 (.slice a2 m2 k2) (.slice b2 n2 l2) (.slice c2 o2 q2) s2) := Lib.hid ((O2.out.below (bl_refl w6)).below hb7)
    have M1 := Lib.hid M1.sl
    go_wp2_with fail
    refine (sft_eqS HX2.out _ O2.out).mono ?_
    rintro e w8 ⟨av2, cv2, rfl, M2, hb8⟩
    have B8 : Bl w w8 := bl_call B7 hb8
    have xA_8 : Bx w8 (w1.heap.size) #[.slice a1 m1 k1, .slice b1 n1 l1, .slice c1 o1 q1] := xA_7.below hb8
    have xB_8 : Bx w8 (w5.heap.size) #[.slice a2 m2 k2, .slice b2 n2 l2, .slice c2 o2 q2] := xB_7.below hb8
    clear cA_7 fA_7 zA_7 cB_7 fB_7 zB_7
    obtain ⟨cA_8, fA_8, zA_8⟩ := xA_8.out
    obtain ⟨cB_8, fB_8, zB_8⟩ := xB_8.out
    have O1 : Hid (SlS w8 (.slice a1 m1 k1) (.slice b1 n1 l1) (.slice c1 o1 q1) s1) := Lib.hid ((O1.out.below (bl_refl w7)).below hb8)
    have O2 : Hid (SlS w8 (.slice a2 m2 k2) (.slice b2 n2 l2) (.slice c2 o2 q2) s2) := Lib.hid ((O2.out.below (bl_refl w7)).below hb8)
    have M1 : Hid (Sl w8 (.slice av1 L2.length cv1) L2) := Lib.hid ((M1.out.below (bl_refl w7)).below hb8)
    have M2 := Lib.hid M2.sl
    have H3 := Lib.hid (H0.out.below B8)
    go_wp2_with fail
    refine (dskip_any H3.out hl0).mono ?_
    rintro e w9 ⟨h3, p3, g3, s3, kk3, rfl, O3, K3, hb9⟩
    have B9 : Bl w w9 := bl_call B8 hb9
    have xA_9 : Bx w9 (w1.heap.size) #[.slice a1 m1 k1, .slice b1 n1 l1, .slice c1 o1 q1] := xA_8.below hb9
    have xB_9 : Bx w9 (w5.heap.size) #[.slice a2 m2 k2, .slice b2 n2 l2, .slice c2 o2 q2] := xB_8.below hb9
    clear cA_8 fA_8 zA_8 cB_8 fB_8 zB_8
    obtain ⟨cA_9, fA_9, zA_9⟩ := xA_9.out
    obtain ⟨cB_9, fB_9, zB_9⟩ := xB_9.out
    have O1 : Hid (SlS w9 (.slice a1 m1 k1) (.slice b1 n1 l1) (.slice c1 o1 q1) s1) := Lib.hid ((O1.out.below (bl_refl w8)).below hb9)
    have O2 : Hid (SlS w9 (.slice a2 m2 k2) (.slice b2 n2 l2) (.slice c2 o2 q2) s2) := Lib.hid ((O2.out.below (bl_refl w8)).below hb9)
    have M1 : Hid (Sl w9 (.slice av1 L2.length cv1) L2) := Lib.hid ((M1.out.below (bl_refl w8)).below hb9)
    have M2 : Hid (Sl w9 (.slice av2 L2.length cv2) L2) := Lib.hid ((M2.out.below (bl_refl w8)).below hb9)
    obtain ⟨⟨t3, y3⟩, hx3⟩ : ∃ X, skipF s3 kk3 = X := ⟨_, rfl⟩
    have HX3 := Lib.hid hx3
    have K3 := Lib.hid K3
    clear hx3
    obtain ⟨⟨a3, m3, k3, rfl⟩, ⟨b3, n3, l3, rfl⟩, ⟨c3, o3, q3, rfl⟩⟩ := O3.shape
    have O3 := Lib.hid O3.sl
    go_wp2_with fail
    have B10 : Bl w (w9.alloc (.cells #[.slice a3 m3 k3, .slice b3 n3 l3, .slice c3 o3 q3] 26)) := (bl_alloc B9 _)
    have xA_10 : Bx (w9.alloc (.cells #[.slice a3 m3 k3, .slice b3 n3 l3, .slice c3 o3 q3] 26)) (w1.heap.size) #[.slice a1 m1 k1, .slice b1 n1 l1, .slice c1 o1 q1] := (xA_9.alloc _)
    have xB_10 : Bx (w9.alloc (.cells #[.slice a3 m3 k3, .slice b3 n3 l3, .slice c3 o3 q3] 26)) (w5.heap.size) #[.slice a2 m2 k2, .slice b2 n2 l2, .slice c2 o2 q2] := (xB_9.alloc _)
    have xC_10 : Bx (w9.alloc (.cells #[.slice a3 m3 k3, .slice b3 n3 l3, .slice c3 o3 q3] 26)) (w9.heap.size) #[.slice a3 m3 k3, .slice b3 n3 l3, .slice c3 o3 q3] := (Bx.new (b := w9.heap.size) _ #[.slice a3 m3 k3, .slice b3 n3 l3, .slice c3 o3 q3] 26 (by first | rfl | simp))
    have zz10 : w9.heap.size + 1 ≤ (w9.alloc (.cells #[.slice a3 m3 k3, .slice b3 n3 l3, .slice c3 o3 q3] 26)).heap.size := (by simp)
    clear cA_9 fA_9 zA_9 cB_9 fB_9 zB_9
    have O1 : Hid (SlS (w9.alloc (.cells #[.slice a3 m3 k3, .slice b3 n3 l3, .slice c3 o3 q3] 26)) (.slice a1 m1 k1) (.slice b1 n1 l1) (.slice c1 o1 q1) s1) := Lib.hid (O1.out.below (bl_alloc (bl_refl w9) _))
    have O2 : Hid (SlS (w9.alloc (.cells #[.slice a3 m3 k3, .slice b3 n3 l3, .slice c3 o3 q3] 26)) (.slice a2 m2 k2) (.slice b2 n2 l2) (.slice c2 o2 q2) s2) := Lib.hid (O2.out.below (bl_alloc (bl_refl w9) _))
    have M1 : Hid (Sl (w9.alloc (.cells #[.slice a3 m3 k3, .slice b3 n3 l3, .slice c3 o3 q3] 26)) (.slice av1 L2.length cv1) L2) := Lib.hid (M1.out.below (bl_alloc (bl_refl w9) _))
    have M2 : Hid (Sl (w9.alloc (.cells #[.slice a3 m3 k3, .slice b3 n3 l3, .slice c3 o3 q3] 26)) (.slice av2 L2.length cv2) L2) := Lib.hid (M2.out.below (bl_alloc (bl_refl w9) _))
    have O3 : Hid (SlS (w9.alloc (.cells #[.slice a3 m3 k3, .slice b3 n3 l3, .slice c3 o3 q3] 26)) (.slice a3 m3 k3) (.slice b3 n3 l3) (.slice c3 o3 q3) s3) := Lib.hid (O3.out.below (bl_alloc (bl_refl w9) _))
    generalize (w9.alloc (.cells #[.slice a3 m3 k3, .slice b3 n3 l3, .slice c3 o3 q3] 26)) = w10 at *
    obtain ⟨cA_10, fA_10, zA_10⟩ := xA_10.out
    obtain ⟨cB_10, fB_10, zB_10⟩ := xB_10.out
    obtain ⟨cC_10, fC_10, zC_10⟩ := xC_10.out
    refine (isk_eq HX3.out _ O3.out K3.out).mono ?_
    rintro e w11 ⟨h4, p4, g4, rfl, O4, hb11⟩
    have B11 : Bl w w11 := bl_call B10 hb11
    have xA_11 : Bx w11 (w1.heap.size) #[.slice a1 m1 k1, .slice b1 n1 l1, .slice c1 o1 q1] := xA_10.below hb11
    have xB_11 : Bx w11 (w5.heap.size) #[.slice a2 m2 k2, .slice b2 n2 l2, .slice c2 o2 q2] := xB_10.below hb11
    have xC_11 : Bx w11 (w9.heap.size) #[.slice a3 m3 k3, .slice b3 n3 l3, .slice c3 o3 q3] := xC_10.below hb11
    clear cA_10 fA_10 zA_10 cB_10 fB_10 zB_10 cC_10 fC_10 zC_10
    obtain ⟨cA_11, fA_11, zA_11⟩ := xA_11.out
    obtain ⟨cB_11, fB_11, zB_11⟩ := xB_11.out
    obtain ⟨cC_11, fC_11, zC_11⟩ := xC_11.out
    have O1 : Hid (SlS w11 (.slice a1 m1 k1) (.slice b1 n1 l1) (.slice c1 o1 q1) s1) := Lib.hid ((O1.out.below (bl_refl w10)).below hb11)
    have O2 : Hid (SlS w11 (.slice a2 m2 k2) (.slice b2 n2 l2) (.slice c2 o2 q2) s2) := Lib.hid ((O2.out.below (bl_refl w10)).below hb11)
    have M1 : Hid (Sl w11 (.slice av1 L2.length cv1) L2) := Lib.hid ((M1.out.below (bl_refl w10)).below hb11)
    have M2 : Hid (Sl w11 (.slice av2 L2.length cv2) L2) := Lib.hid ((M2.out.below (bl_refl w10)).below hb11)
    have O3 : Hid (SlS w11 (.slice a3 m3 k3) (.slice b3 n3 l3) (.slice c3 o3 q3) s3) := Lib.hid ((O3.out.below (bl_refl w10)).below hb11)
    obtain ⟨⟨a4, m4, k4, rfl⟩, ⟨b4, n4, l4, rfl⟩, ⟨c4, o4, q4, rfl⟩⟩ := O4.shape
    have O4 := Lib.hid O4.sl
    go_wp2_with fail
    have B12 : Bl w (w11.alloc (.cells #[.slice a4 m4 k4, .slice b4 n4 l4, .slice c4 o4 q4] 26)) := (bl_alloc B11 _)
    have xA_12 : Bx (w11.alloc (.cells #[.slice a4 m4 k4, .slice b4 n4 l4, .slice c4 o4 q4] 26)) (w1.heap.size) #[.slice a1 m1 k1, .slice b1 n1 l1, .slice c1 o1 q1] := (xA_11.alloc _)
    have xB_12 : Bx (w11.alloc (.cells #[.slice a4 m4 k4, .slice b4 n4 l4, .slice c4 o4 q4] 26)) (w5.heap.size) #[.slice a2 m2 k2, .slice b2 n2 l2, .slice c2 o2 q2] := (xB_11.alloc _)
    have xC_12 : Bx (w11.alloc (.cells #[.slice a4 m4 k4, .slice b4 n4 l4, .slice c4 o4 q4] 26)) (w9.heap.size) #[.slice a3 m3 k3, .slice b3 n3 l3, .slice c3 o3 q3] := (xC_11.alloc _)
    have xD_12 : Bx (w11.alloc (.cells #[.slice a4 m4 k4, .slice b4 n4 l4, .slice c4 o4 q4] 26)) (w11.heap.size) #[.slice a4 m4 k4, .slice b4 n4 l4, .slice c4 o4 q4] := (Bx.new (b := w11.heap.size) _ #[.slice a4 m4 k4, .slice b4 n4 l4, .slice c4 o4 q4] 26 (by first | rfl | simp))
    have zz12 : w11.heap.size + 1 ≤ (w11.alloc (.cells #[.slice a4 m4 k4, .slice b4 n4 l4, .slice c4 o4 q4] 26)).heap.size := (by simp)
    clear cA_11 fA_11 zA_11 cB_11 fB_11 zB_11 cC_11 fC_11 zC_11
    have O1 : Hid (SlS (w11.alloc (.cells #[.slice a4 m4 k4, .slice b4 n4 l4, .slice c4 o4 q4] 26)) (.slice a1 m1 k1) (.slice b1 n1 l1) (.slice c1 o1 q1) s1) := Lib.hid (O1.out.below (bl_alloc (bl_refl w11) _))
    have O2 : Hid (SlS (w11.alloc (.cells #[.slice a4 m4 k4, .slice b4 n4 l4, .slice c4 o4 q4] 26)) (.slice a2 m2 k2) (.slice b2 n2 l2) (.slice c2 o2 q2) s2) := Lib.hid (O2.out.below (bl_alloc (bl_refl w11) _))
    have M1 : Hid (Sl (w11.alloc (.cells #[.slice a4 m4 k4, .slice b4 n4 l4, .slice c4 o4 q4] 26)) (.slice av1 L2.length cv1) L2) := Lib.hid (M1.out.below (bl_alloc (bl_refl w11) _))
    have M2 : Hid (Sl (w11.alloc (.cells #[.slice a4 m4 k4, .slice b4 n4 l4, .slice c4 o4 q4] 26)) (.slice av2 L2.length cv2) L2) := Lib.hid (M2.out.below (bl_alloc (bl_refl w11) _))
    have O3 : Hid (SlS (w11.alloc (.cells #[.slice a4 m4 k4, .slice b4 n4 l4, .slice c4 o4 q4] 26)) (.slice a3 m3 k3) (.slice b3 n3 l3) (.slice c3 o3 q3) s3) := Lib.hid (O3.out.below (bl_alloc (bl_refl w11) _))
    have O4 : Hid (SlS (w11.alloc (.cells #[.slice a4 m4 k4, .slice b4 n4 l4, .slice c4 o4 q4] 26)) (.slice a4 m4 k4) (.slice b4 n4 l4) (.slice c4 o4 q4) t3) := Lib.hid (O4.out.below (bl_alloc (bl_refl w11) _))
    generalize (w11.alloc (.cells #[.slice a4 m4 k4, .slice b4 n4 l4, .slice c4 o4 q4] 26)) = w12 at *
    obtain ⟨cA_12, fA_12, zA_12⟩ := xA_12.out
    obtain ⟨cB_12, fB_12, zB_12⟩ := xB_12.out
    obtain ⟨cC_12, fC_12, zC_12⟩ := xC_12.out
    obtain ⟨cD_12, fD_12, zD_12⟩ := xD_12.out
    refine (ssk_eq HX3.out _ O3.out K3.out).mono ?_
    rintro e w13 ⟨h5, p5, g5, rfl, O5, hb13⟩
    have B13 : Bl w w13 := bl_call B12 hb13
    have xA_13 : Bx w13 (w1.heap.size) #[.slice a1 m1 k1, .slice b1 n1 l1, .slice c1 o1 q1] := xA_12.below hb13
    have xB_13 : Bx w13 (w5.heap.size) #[.slice a2 m2 k2, .slice b2 n2 l2, .slice c2 o2 q2] := xB_12.below hb13
    have xC_13 : Bx w13 (w9.heap.size) #[.slice a3 m3 k3, .slice b3 n3 l3, .slice c3 o3 q3] := xC_12.below hb13
    have xD_13 : Bx w13 (w11.heap.size) #[.slice a4 m4 k4, .slice b4 n4 l4, .slice c4 o4 q4] := xD_12.below hb13
    clear cA_12 fA_12 zA_12 cB_12 fB_12 zB_12 cC_12 fC_12 zC_12 cD_12 fD_12 zD_12
    obtain ⟨cA_13, fA_13, zA_13⟩ := xA_13.out
    obtain ⟨cB_13, fB_13, zB_13⟩ := xB_13.out
    obtain ⟨cC_13, fC_13, zC_13⟩ := xC_13.out
    obtain ⟨cD_13, fD_13, zD_13⟩ := xD_13.out
    have O1 : Hid (SlS w13 (.slice a1 m1 k1) (.slice b1 n1 l1) (.slice c1 o1 q1) s1) := Lib.hid ((O1.out.below (bl_refl w12)).below hb13)
    have O2 : Hid (SlS w13 (.slice a2 m2 k2) (.slice b2 n2 l2) (.slice c2 o2 q2) s2) := Lib.hid ((O2.out.below (bl_refl w12)).below hb13)
    have M1 : Hid (Sl w13 (.slice av1 L2.length cv1) L2) := Lib.hid ((M1.out.below (bl_refl w12)).below hb13)
    have M2 : Hid (Sl w13 (.slice av2 L2.length cv2) L2) := Lib.hid ((M2.out.below (bl_refl w12)).below hb13)
    have O3 : Hid (SlS w13 (.slice a3 m3 k3) (.slice b3 n3 l3) (.slice c3 o3 q3) s3) := Lib.hid ((O3.out.below (bl_refl w12)).below hb13)
    have O4 : Hid (SlS w13 (.slice a4 m4 k4) (.slice b4 n4 l4) (.slice c4 o4 q4) t3) := Lib.hid ((O4.out.below (bl_refl w12)).below hb13)
    obtain ⟨⟨a5, m5, k5, rfl⟩, ⟨b5, n5, l5, rfl⟩, ⟨c5, o5, q5, rfl⟩⟩ := O5.shape
    have O5 := Lib.hid O5.sl
    go_wp2_with fail
    have B14 : Bl w (w13.alloc (.cells #[.slice a5 m5 k5, .slice b5 n5 l5, .slice c5 o5 q5] 26)) := (bl_alloc B13 _)
    have xA_14 : Bx (w13.alloc (.cells #[.slice a5 m5 k5, .slice b5 n5 l5, .slice c5 o5 q5] 26)) (w1.heap.size) #[.slice a1 m1 k1, .slice b1 n1 l1, .slice c1 o1 q1] := (xA_13.alloc _)
    have xB_14 : Bx (w13.alloc (.cells #[.slice a5 m5 k5, .slice b5 n5 l5, .slice c5 o5 q5] 26)) (w5.heap.size) #[.slice a2 m2 k2, .slice b2 n2 l2, .slice c2 o2 q2] := (xB_13.alloc _)
    have xC_14 : Bx (w13.alloc (.cells #[.slice a5 m5 k5, .slice b5 n5 l5, .slice c5 o5 q5] 26)) (w9.heap.size) #[.slice a3 m3 k3, .slice b3 n3 l3, .slice c3 o3 q3] := (xC_13.alloc _)
    have xD_14 : Bx (w13.alloc (.cells #[.slice a5 m5 k5, .slice b5 n5 l5, .slice c5 o5 q5] 26)) (w11.heap.size) #[.slice a4 m4 k4, .slice b4 n4 l4, .slice c4 o4 q4] := (xD_13.alloc _)
    have xE_14 : Bx (w13.alloc (.cells #[.slice a5 m5 k5, .slice b5 n5 l5, .slice c5 o5 q5] 26)) (w13.heap.size) #[.slice a5 m5 k5, .slice b5 n5 l5, .slice c5 o5 q5] := (Bx.new (b := w13.heap.size) _ #[.slice a5 m5 k5, .slice b5 n5 l5, .slice c5 o5 q5] 26 (by first | rfl | simp))
    have zz14 : w13.heap.size + 1 ≤ (w13.alloc (.cells #[.slice a5 m5 k5, .slice b5 n5 l5, .slice c5 o5 q5] 26)).heap.size := (by simp)
    clear cA_13 fA_13 zA_13 cB_13 fB_13 zB_13 cC_13 fC_13 zC_13 cD_13 fD_13 zD_13
    have O1 : Hid (SlS (w13.alloc (.cells #[.slice a5 m5 k5, .slice b5 n5 l5, .slice c5 o5 q5] 26)) (.slice a1 m1 k1) (.slice b1 n1 l1) (.slice c1 o1 q1) s1) := Lib.hid (O1.out.below (bl_alloc (bl_refl w13) _))
    have O2 : Hid (SlS (w13.alloc (.cells #[.slice a5 m5 k5, .slice b5 n5 l5, .slice c5 o5 q5] 26)) (.slice a2 m2 k2) (.slice b2 n2 l2) (.slice c2 o2 q2) s2) := Lib.hid (O2.out.below (bl_alloc (bl_refl w13) _))
    have M1 : Hid (Sl (w13.alloc (.cells #[.slice a5 m5 k5, .slice b5 n5 l5, .slice c5 o5 q5] 26)) (.slice av1 L2.length cv1) L2) := Lib.hid (M1.out.below (bl_alloc (bl_refl w13) _))
    have M2 : Hid (Sl (w13.alloc (.cells #[.slice a5 m5 k5, .slice b5 n5 l5, .slice c5 o5 q5] 26)) (.slice av2 L2.length cv2) L2) := Lib.hid (M2.out.below (bl_alloc (bl_refl w13) _))
    have O3 : Hid (SlS (w13.alloc (.cells #[.slice a5 m5 k5, .slice b5 n5 l5, .slice c5 o5 q5] 26)) (.slice a3 m3 k3) (.slice b3 n3 l3) (.slice c3 o3 q3) s3) := Lib.hid (O3.out.below (bl_alloc (bl_refl w13) _))
    have O4 : Hid (SlS (w13.alloc (.cells #[.slice a5 m5 k5, .slice b5 n5 l5, .slice c5 o5 q5] 26)) (.slice a4 m4 k4) (.slice b4 n4 l4) (.slice c4 o4 q4) t3) := Lib.hid (O4.out.below (bl_alloc (bl_refl w13) _))
    have O5 : Hid (SlS (w13.alloc (.cells #[.slice a5 m5 k5, .slice b5 n5 l5, .slice c5 o5 q5] 26)) (.slice a5 m5 k5) (.slice b5 n5 l5) (.slice c5 o5 q5) t3) := Lib.hid (O5.out.below (bl_alloc (bl_refl w13) _))
    generalize (w13.alloc (.cells #[.slice a5 m5 k5, .slice b5 n5 l5, .slice c5 o5 q5] 26)) = w14 at *
    obtain ⟨cA_14, fA_14, zA_14⟩ := xA_14.out
    obtain ⟨cB_14, fB_14, zB_14⟩ := xB_14.out
    obtain ⟨cC_14, fC_14, zC_14⟩ := xC_14.out
    obtain ⟨cD_14, fD_14, zD_14⟩ := xD_14.out
    obtain ⟨cE_14, fE_14, zE_14⟩ := xE_14.out
    have H4 := Lib.hid (H0.out.below B14)
    refine (dtext_any H4.out hl0).mono ?_
    rintro e w15 ⟨h6, p6, g6, s6, rfl, O6, K6, hb15⟩
    have B15 : Bl w w15 := bl_call B14 hb15
    have xA_15 : Bx w15 (w1.heap.size) #[.slice a1 m1 k1, .slice b1 n1 l1, .slice c1 o1 q1] := xA_14.below hb15
    have xB_15 : Bx w15 (w5.heap.size) #[.slice a2 m2 k2, .slice b2 n2 l2, .slice c2 o2 q2] := xB_14.below hb15
    have xC_15 : Bx w15 (w9.heap.size) #[.slice a3 m3 k3, .slice b3 n3 l3, .slice c3 o3 q3] := xC_14.below hb15
    have xD_15 : Bx w15 (w11.heap.size) #[.slice a4 m4 k4, .slice b4 n4 l4, .slice c4 o4 q4] := xD_14.below hb15
    have xE_15 : Bx w15 (w13.heap.size) #[.slice a5 m5 k5, .slice b5 n5 l5, .slice c5 o5 q5] := xE_14.below hb15
    clear cA_14 fA_14 zA_14 cB_14 fB_14 zB_14 cC_14 fC_14 zC_14 cD_14 fD_14 zD_14 cE_14 fE_14 zE_14
    obtain ⟨cA_15, fA_15, zA_15⟩ := xA_15.out
    obtain ⟨cB_15, fB_15, zB_15⟩ := xB_15.out
    obtain ⟨cC_15, fC_15, zC_15⟩ := xC_15.out
    obtain ⟨cD_15, fD_15, zD_15⟩ := xD_15.out
    obtain ⟨cE_15, fE_15, zE_15⟩ := xE_15.out
    have O1 : Hid (SlS w15 (.slice a1 m1 k1) (.slice b1 n1 l1) (.slice c1 o1 q1) s1) := Lib.hid ((O1.out.below (bl_refl w14)).below hb15)
    have O2 : Hid (SlS w15 (.slice a2 m2 k2) (.slice b2 n2 l2) (.slice c2 o2 q2) s2) := Lib.hid ((O2.out.below (bl_refl w14)).below hb15)
    have M1 : Hid (Sl w15 (.slice av1 L2.length cv1) L2) := Lib.hid ((M1.out.below (bl_refl w14)).below hb15)
    have M2 : Hid (Sl w15 (.slice av2 L2.length cv2) L2) := Lib.hid ((M2.out.below (bl_refl w14)).below hb15)
    have O3 : Hid (SlS w15 (.slice a3 m3 k3) (.slice b3 n3 l3) (.slice c3 o3 q3) s3) := Lib.hid ((O3.out.below (bl_refl w14)).below hb15)
    have O4 : Hid (SlS w15 (.slice a4 m4 k4) (.slice b4 n4 l4) (.slice c4 o4 q4) t3) := Lib.hid ((O4.out.below (bl_refl w14)).below hb15)
    have O5 : Hid (SlS w15 (.slice a5 m5 k5) (.slice b5 n5 l5) (.slice c5 o5 q5) t3) := Lib.hid ((O5.out.below (bl_refl w14)).below hb15)
    obtain ⟨T6, hT6, z6, hR6⟩ := stx_facts s6
    have HT6 := Lib.hid hT6
    have Z6 := Lib.hid z6
    have HR6 := Lib.hid hR6
    clear hT6 z6 hR6 K6
    obtain ⟨⟨s7, ok7⟩, hx7⟩ : ∃ X, rsF T6.data.toList = X := ⟨_, rfl⟩
    have HX7 := Lib.hid hx7
    clear hx7
    obtain ⟨⟨a6, m6, k6, rfl⟩, ⟨b6, n6, l6, rfl⟩, ⟨c6, o6, q6, rfl⟩⟩ := O6.shape
    have O6 := Lib.hid O6.sl
    go_wp2_with fail
    have B16 : Bl w (w15.alloc (.cells #[.slice a6 m6 k6, .slice b6 n6 l6, .slice c6 o6 q6] 26)) := (bl_alloc B15 _)
    have xA_16 : Bx (w15.alloc (.cells #[.slice a6 m6 k6, .slice b6 n6 l6, .slice c6 o6 q6] 26)) (w1.heap.size) #[.slice a1 m1 k1, .slice b1 n1 l1, .slice c1 o1 q1] := (xA_15.alloc _)
    have xB_16 : Bx (w15.alloc (.cells #[.slice a6 m6 k6, .slice b6 n6 l6, .slice c6 o6 q6] 26)) (w5.heap.size) #[.slice a2 m2 k2, .slice b2 n2 l2, .slice c2 o2 q2] := (xB_15.alloc _)
    have xC_16 : Bx (w15.alloc (.cells #[.slice a6 m6 k6, .slice b6 n6 l6, .slice c6 o6 q6] 26)) (w9.heap.size) #[.slice a3 m3 k3, .slice b3 n3 l3, .slice c3 o3 q3] := (xC_15.alloc _)
    have xD_16 : Bx (w15.alloc (.cells #[.slice a6 m6 k6, .slice b6 n6 l6, .slice c6 o6 q6] 26)) (w11.heap.size) #[.slice a4 m4 k4, .slice b4 n4 l4, .slice c4 o4 q4] := (xD_15.alloc _)
    have xE_16 : Bx (w15.alloc (.cells #[.slice a6 m6 k6, .slice b6 n6 l6, .slice c6 o6 q6] 26)) (w13.heap.size) #[.slice a5 m5 k5, .slice b5 n5 l5, .slice c5 o5 q5] := (xE_15.alloc _)
    have xF_16 : Bx (w15.alloc (.cells #[.slice a6 m6 k6, .slice b6 n6 l6, .slice c6 o6 q6] 26)) (w15.heap.size) #[.slice a6 m6 k6, .slice b6 n6 l6, .slice c6 o6 q6] := (Bx.new (b := w15.heap.size) _ #[.slice a6 m6 k6, .slice b6 n6 l6, .slice c6 o6 q6] 26 (by first | rfl | simp))
    have zz16 : w15.heap.size + 1 ≤ (w15.alloc (.cells #[.slice a6 m6 k6, .slice b6 n6 l6, .slice c6 o6 q6] 26)).heap.size := (by simp)
    clear cA_15 fA_15 zA_15 cB_15 fB_15 zB_15 cC_15 fC_15 zC_15 cD_15 fD_15 zD_15 cE_15 fE_15 zE_15
    have O1 : Hid (SlS (w15.alloc (.cells #[.slice a6 m6 k6, .slice b6 n6 l6, .slice c6 o6 q6] 26)) (.slice a1 m1 k1) (.slice b1 n1 l1) (.slice c1 o1 q1) s1) := Lib.hid (O1.out.below (bl_alloc (bl_refl w15) _))
    have O2 : Hid (SlS (w15.alloc (.cells #[.slice a6 m6 k6, .slice b6 n6 l6, .slice c6 o6 q6] 26)) (.slice a2 m2 k2) (.slice b2 n2 l2) (.slice c2 o2 q2) s2) := Lib.hid (O2.out.below (bl_alloc (bl_refl w15) _))
    have M1 : Hid (Sl (w15.alloc (.cells #[.slice a6 m6 k6, .slice b6 n6 l6, .slice c6 o6 q6] 26)) (.slice av1 L2.length cv1) L2) := Lib.hid (M1.out.below (bl_alloc (bl_refl w15) _))
    have M2 : Hid (Sl (w15.alloc (.cells #[.slice a6 m6 k6, .slice b6 n6 l6, .slice c6 o6 q6] 26)) (.slice av2 L2.length cv2) L2) := Lib.hid (M2.out.below (bl_alloc (bl_refl w15) _))
    have O3 : Hid (SlS (w15.alloc (.cells #[.slice a6 m6 k6, .slice b6 n6 l6, .slice c6 o6 q6] 26)) (.slice a3 m3 k3) (.slice b3 n3 l3) (.slice c3 o3 q3) s3) := Lib.hid (O3.out.below (bl_alloc (bl_refl w15) _))
    have O4 : Hid (SlS (w15.alloc (.cells #[.slice a6 m6 k6, .slice b6 n6 l6, .slice c6 o6 q6] 26)) (.slice a4 m4 k4) (.slice b4 n4 l4) (.slice c4 o4 q4) t3) := Lib.hid (O4.out.below (bl_alloc (bl_refl w15) _))
    have O5 : Hid (SlS (w15.alloc (.cells #[.slice a6 m6 k6, .slice b6 n6 l6, .slice c6 o6 q6] 26)) (.slice a5 m5 k5) (.slice b5 n5 l5) (.slice c5 o5 q5) t3) := Lib.hid (O5.out.below (bl_alloc (bl_refl w15) _))
    have O6 : Hid (SlS (w15.alloc (.cells #[.slice a6 m6 k6, .slice b6 n6 l6, .slice c6 o6 q6] 26)) (.slice a6 m6 k6) (.slice b6 n6 l6) (.slice c6 o6 q6) s6) := Lib.hid (O6.out.below (bl_alloc (bl_refl w15) _))
    generalize (w15.alloc (.cells #[.slice a6 m6 k6, .slice b6 n6 l6, .slice c6 o6 q6] 26)) = w16 at *
    obtain ⟨cA_16, fA_16, zA_16⟩ := xA_16.out
    obtain ⟨cB_16, fB_16, zB_16⟩ := xB_16.out
    obtain ⟨cC_16, fC_16, zC_16⟩ := xC_16.out
    obtain ⟨cD_16, fD_16, zD_16⟩ := xD_16.out
    obtain ⟨cE_16, fE_16, zE_16⟩ := xE_16.out
    obtain ⟨cF_16, fF_16, zF_16⟩ := xF_16.out
    refine (ist_eq HT6.out _ O6.out (HE.out.tab.below B16)).mono ?_
    rintro e w17 ⟨rfl, hb17⟩
    have B17 : Bl w w17 := bl_call B16 hb17
    have xA_17 : Bx w17 (w1.heap.size) #[.slice a1 m1 k1, .slice b1 n1 l1, .slice c1 o1 q1] := xA_16.below hb17
    have xB_17 : Bx w17 (w5.heap.size) #[.slice a2 m2 k2, .slice b2 n2 l2, .slice c2 o2 q2] := xB_16.below hb17
    have xC_17 : Bx w17 (w9.heap.size) #[.slice a3 m3 k3, .slice b3 n3 l3, .slice c3 o3 q3] := xC_16.below hb17
    have xD_17 : Bx w17 (w11.heap.size) #[.slice a4 m4 k4, .slice b4 n4 l4, .slice c4 o4 q4] := xD_16.below hb17
    have xE_17 : Bx w17 (w13.heap.size) #[.slice a5 m5 k5, .slice b5 n5 l5, .slice c5 o5 q5] := xE_16.below hb17
    have xF_17 : Bx w17 (w15.heap.size) #[.slice a6 m6 k6, .slice b6 n6 l6, .slice c6 o6 q6] := xF_16.below hb17
    clear cA_16 fA_16 zA_16 cB_16 fB_16 zB_16 cC_16 fC_16 zC_16 cD_16 fD_16 zD_16 cE_16 fE_16 zE_16 cF_16 fF_16 zF_16
    obtain ⟨cA_17, fA_17, zA_17⟩ := xA_17.out
    obtain ⟨cB_17, fB_17, zB_17⟩ := xB_17.out
    obtain ⟨cC_17, fC_17, zC_17⟩ := xC_17.out
    obtain ⟨cD_17, fD_17, zD_17⟩ := xD_17.out
    obtain ⟨cE_17, fE_17, zE_17⟩ := xE_17.out
    obtain ⟨cF_17, fF_17, zF_17⟩ := xF_17.out
    have O1 : Hid (SlS w17 (.slice a1 m1 k1) (.slice b1 n1 l1) (.slice c1 o1 q1) s1) := Lib.hid ((O1.out.below (bl_refl w16)).below hb17)
    have O2 : Hid (SlS w17 (.slice a2 m2 k2) (.slice b2 n2 l2) (.slice c2 o2 q2) s2) := Lib.hid ((O2.out.below (bl_refl w16)).below hb17)
    have M1 : Hid (Sl w17 (.slice av1 L2.length cv1) L2) := Lib.hid ((M1.out.below (bl_refl w16)).below hb17)
    have M2 : Hid (Sl w17 (.slice av2 L2.length cv2) L2) := Lib.hid ((M2.out.below (bl_refl w16)).below hb17)
    have O3 : Hid (SlS w17 (.slice a3 m3 k3) (.slice b3 n3 l3) (.slice c3 o3 q3) s3) := Lib.hid ((O3.out.below (bl_refl w16)).below hb17)
    have O4 : Hid (SlS w17 (.slice a4 m4 k4) (.slice b4 n4 l4) (.slice c4 o4 q4) t3) := Lib.hid ((O4.out.below (bl_refl w16)).below hb17)
    have O5 : Hid (SlS w17 (.slice a5 m5 k5) (.slice b5 n5 l5) (.slice c5 o5 q5) t3) := Lib.hid ((O5.out.below (bl_refl w16)).below hb17)
    have O6 : Hid (SlS w17 (.slice a6 m6 k6) (.slice b6 n6 l6) (.slice c6 o6 q6) s6) := Lib.hid ((O6.out.below (bl_refl w16)).below hb17)
    go_wp2_with fail
    refine (irs_eq HX7.out _ Z6.out (HE.out.below B17)).mono ?_
    rintro e w18 ⟨h7, p7, g7, rfl, O7, hb18⟩
    have B18 : Bl w w18 := bl_call B17 hb18
    have xA_18 : Bx w18 (w1.heap.size) #[.slice a1 m1 k1, .slice b1 n1 l1, .slice c1 o1 q1] := xA_17.below hb18
    have xB_18 : Bx w18 (w5.heap.size) #[.slice a2 m2 k2, .slice b2 n2 l2, .slice c2 o2 q2] := xB_17.below hb18
    have xC_18 : Bx w18 (w9.heap.size) #[.slice a3 m3 k3, .slice b3 n3 l3, .slice c3 o3 q3] := xC_17.below hb18
    have xD_18 : Bx w18 (w11.heap.size) #[.slice a4 m4 k4, .slice b4 n4 l4, .slice c4 o4 q4] := xD_17.below hb18
    have xE_18 : Bx w18 (w13.heap.size) #[.slice a5 m5 k5, .slice b5 n5 l5, .slice c5 o5 q5] := xE_17.below hb18
    have xF_18 : Bx w18 (w15.heap.size) #[.slice a6 m6 k6, .slice b6 n6 l6, .slice c6 o6 q6] := xF_17.below hb18
    clear cA_17 fA_17 zA_17 cB_17 fB_17 zB_17 cC_17 fC_17 zC_17 cD_17 fD_17 zD_17 cE_17 fE_17 zE_17 cF_17 fF_17 zF_17
    obtain ⟨cA_18, fA_18, zA_18⟩ := xA_18.out
    obtain ⟨cB_18, fB_18, zB_18⟩ := xB_18.out
    obtain ⟨cC_18, fC_18, zC_18⟩ := xC_18.out
    obtain ⟨cD_18, fD_18, zD_18⟩ := xD_18.out
    obtain ⟨cE_18, fE_18, zE_18⟩ := xE_18.out
    obtain ⟨cF_18, fF_18, zF_18⟩ := xF_18.out
    have O1 : Hid (SlS w18 (.slice a1 m1 k1) (.slice b1 n1 l1) (.slice c1 o1 q1) s1) := Lib.hid ((O1.out.below (bl_refl w17)).below hb18)
    have O2 : Hid (SlS w18 (.slice a2 m2 k2) (.slice b2 n2 l2) (.slice c2 o2 q2) s2) := Lib.hid ((O2.out.below (bl_refl w17)).below hb18)
    have M1 : Hid (Sl w18 (.slice av1 L2.length cv1) L2) := Lib.hid ((M1.out.below (bl_refl w17)).below hb18)
    have M2 : Hid (Sl w18 (.slice av2 L2.length cv2) L2) := Lib.hid ((M2.out.below (bl_refl w17)).below hb18)
    have O3 : Hid (SlS w18 (.slice a3 m3 k3) (.slice b3 n3 l3) (.slice c3 o3 q3) s3) := Lib.hid ((O3.out.below (bl_refl w17)).below hb18)
    have O4 : Hid (SlS w18 (.slice a4 m4 k4) (.slice b4 n4 l4) (.slice c4 o4 q4) t3) := Lib.hid ((O4.out.below (bl_refl w17)).below hb18)
    have O5 : Hid (SlS w18 (.slice a5 m5 k5) (.slice b5 n5 l5) (.slice c5 o5 q5) t3) := Lib.hid ((O5.out.below (bl_refl w17)).below hb18)
    have O6 : Hid (SlS w18 (.slice a6 m6 k6) (.slice b6 n6 l6) (.slice c6 o6 q6) s6) := Lib.hid ((O6.out.below (bl_refl w17)).below hb18)
    obtain ⟨⟨a7, m7, k7, rfl⟩, ⟨b7, n7, l7, rfl⟩, ⟨c7, o7, q7, rfl⟩⟩ := O7.shape
    have O7 := Lib.hid O7.sl
    go_wp2_with fail
    have B19 : Bl w (w18.alloc (.cells #[.slice a7 m7 k7, .slice b7 n7 l7, .slice c7 o7 q7] 26)) := (bl_alloc B18 _)
    have xA_19 : Bx (w18.alloc (.cells #[.slice a7 m7 k7, .slice b7 n7 l7, .slice c7 o7 q7] 26)) (w1.heap.size) #[.slice a1 m1 k1, .slice b1 n1 l1, .slice c1 o1 q1] := (xA_18.alloc _)
    have xB_19 : Bx (w18.alloc (.cells #[.slice a7 m7 k7, .slice b7 n7 l7, .slice c7 o7 q7] 26)) (w5.heap.size) #[.slice a2 m2 k2, .slice b2 n2 l2, .slice c2 o2 q2] := (xB_18.alloc _)
    have xC_19 : Bx (w18.alloc (.cells #[.slice a7 m7 k7, .slice b7 n7 l7, .slice c7 o7 q7] 26)) (w9.heap.size) #[.slice a3 m3 k3, .slice b3 n3 l3, .slice c3 o3 q3] := (xC_18.alloc _)
    have xD_19 : Bx (w18.alloc (.cells #[.slice a7 m7 k7, .slice b7 n7 l7, .slice c7 o7 q7] 26)) (w11.heap.size) #[.slice a4 m4 k4, .slice b4 n4 l4, .slice c4 o4 q4] := (xD_18.alloc _)
    have xE_19 : Bx (w18.alloc (.cells #[.slice a7 m7 k7, .slice b7 n7 l7, .slice c7 o7 q7] 26)) (w13.heap.size) #[.slice a5 m5 k5, .slice b5 n5 l5, .slice c5 o5 q5] := (xE_18.alloc _)
    have xF_19 : Bx (w18.alloc (.cells #[.slice a7 m7 k7, .slice b7 n7 l7, .slice c7 o7 q7] 26)) (w15.heap.size) #[.slice a6 m6 k6, .slice b6 n6 l6, .slice c6 o6 q6] := (xF_18.alloc _)
    have xG_19 : Bx (w18.alloc (.cells #[.slice a7 m7 k7, .slice b7 n7 l7, .slice c7 o7 q7] 26)) (w18.heap.size) #[.slice a7 m7 k7, .slice b7 n7 l7, .slice c7 o7 q7] := (Bx.new (b := w18.heap.size) _ #[.slice a7 m7 k7, .slice b7 n7 l7, .slice c7 o7 q7] 26 (by first | rfl | simp))
    have zz19 : w18.heap.size + 1 ≤ (w18.alloc (.cells #[.slice a7 m7 k7, .slice b7 n7 l7, .slice c7 o7 q7] 26)).heap.size := (by simp)
    clear cA_18 fA_18 zA_18 cB_18 fB_18 zB_18 cC_18 fC_18 zC_18 cD_18 fD_18 zD_18 cE_18 fE_18 zE_18 cF_18 fF_18 zF_18
    have O1 : Hid (SlS (w18.alloc (.cells #[.slice a7 m7 k7, .slice b7 n7 l7, .slice c7 o7 q7] 26)) (.slice a1 m1 k1) (.slice b1 n1 l1) (.slice c1 o1 q1) s1) := Lib.hid (O1.out.below (bl_alloc (bl_refl w18) _))
    have O2 : Hid (SlS (w18.alloc (.cells #[.slice a7 m7 k7, .slice b7 n7 l7, .slice c7 o7 q7] 26)) (.slice a2 m2 k2) (.slice b2 n2 l2) (.slice c2 o2 q2) s2) := Lib.hid (O2.out.below (bl_alloc (bl_refl w18) _))
    have M1 : Hid (Sl (w18.alloc (.cells #[.slice a7 m7 k7, .slice b7 n7 l7, .slice c7 o7 q7] 26)) (.slice av1 L2.length cv1) L2) := Lib.hid (M1.out.below (bl_alloc (bl_refl w18) _))
    have M2 : Hid (Sl (w18.alloc (.cells #[.slice a7 m7 k7, .slice b7 n7 l7, .slice c7 o7 q7] 26)) (.slice av2 L2.length cv2) L2) := Lib.hid (M2.out.below (bl_alloc (bl_refl w18) _))
    have O3 : Hid (SlS (w18.alloc (.cells #[.slice a7 m7 k7, .slice b7 n7 l7, .slice c7 o7 q7] 26)) (.slice a3 m3 k3) (.slice b3 n3 l3) (.slice c3 o3 q3) s3) := Lib.hid (O3.out.below (bl_alloc (bl_refl w18) _))
    have O4 : Hid (SlS (w18.alloc (.cells #[.slice a7 m7 k7, .slice b7 n7 l7, .slice c7 o7 q7] 26)) (.slice a4 m4 k4) (.slice b4 n4 l4) (.slice c4 o4 q4) t3) := Lib.hid (O4.out.below (bl_alloc (bl_refl w18) _))
    have O5 : Hid (SlS (w18.alloc (.cells #[.slice a7 m7 k7, .slice b7 n7 l7, .slice c7 o7 q7] 26)) (.slice a5 m5 k5) (.slice b5 n5 l5) (.slice c5 o5 q5) t3) := Lib.hid (O5.out.below (bl_alloc (bl_refl w18) _))
    have O6 : Hid (SlS (w18.alloc (.cells #[.slice a7 m7 k7, .slice b7 n7 l7, .slice c7 o7 q7] 26)) (.slice a6 m6 k6) (.slice b6 n6 l6) (.slice c6 o6 q6) s6) := Lib.hid (O6.out.below (bl_alloc (bl_refl w18) _))
    have O7 : Hid (SlS (w18.alloc (.cells #[.slice a7 m7 k7, .slice b7 n7 l7, .slice c7 o7 q7] 26)) (.slice a7 m7 k7) (.slice b7 n7 l7) (.slice c7 o7 q7) s7) := Lib.hid (O7.out.below (bl_alloc (bl_refl w18) _))
    generalize (w18.alloc (.cells #[.slice a7 m7 k7, .slice b7 n7 l7, .slice c7 o7 q7] 26)) = w19 at *
    obtain ⟨cA_19, fA_19, zA_19⟩ := xA_19.out
    obtain ⟨cB_19, fB_19, zB_19⟩ := xB_19.out
    obtain ⟨cC_19, fC_19, zC_19⟩ := xC_19.out
    obtain ⟨cD_19, fD_19, zD_19⟩ := xD_19.out
    obtain ⟨cE_19, fE_19, zE_19⟩ := xE_19.out
    obtain ⟨cF_19, fF_19, zF_19⟩ := xF_19.out
    obtain ⟨cG_19, fG_19, zG_19⟩ := xG_19.out
    have H5 := Lib.hid (H0.out.below B19)
    refine (drdsrc_any H5.out hl0).mono ?_
    rintro e w20 ⟨T8, rfl, z8, hb20⟩
    have B20 : Bl w w20 := bl_call B19 hb20
    have xA_20 : Bx w20 (w1.heap.size) #[.slice a1 m1 k1, .slice b1 n1 l1, .slice c1 o1 q1] := xA_19.below hb20
    have xB_20 : Bx w20 (w5.heap.size) #[.slice a2 m2 k2, .slice b2 n2 l2, .slice c2 o2 q2] := xB_19.below hb20
    have xC_20 : Bx w20 (w9.heap.size) #[.slice a3 m3 k3, .slice b3 n3 l3, .slice c3 o3 q3] := xC_19.below hb20
    have xD_20 : Bx w20 (w11.heap.size) #[.slice a4 m4 k4, .slice b4 n4 l4, .slice c4 o4 q4] := xD_19.below hb20
    have xE_20 : Bx w20 (w13.heap.size) #[.slice a5 m5 k5, .slice b5 n5 l5, .slice c5 o5 q5] := xE_19.below hb20
    have xF_20 : Bx w20 (w15.heap.size) #[.slice a6 m6 k6, .slice b6 n6 l6, .slice c6 o6 q6] := xF_19.below hb20
    have xG_20 : Bx w20 (w18.heap.size) #[.slice a7 m7 k7, .slice b7 n7 l7, .slice c7 o7 q7] := xG_19.below hb20
    clear cA_19 fA_19 zA_19 cB_19 fB_19 zB_19 cC_19 fC_19 zC_19 cD_19 fD_19 zD_19 cE_19 fE_19 zE_19 cF_19 fF_19 zF_19 cG_19 fG_19 zG_19
    obtain ⟨cA_20, fA_20, zA_20⟩ := xA_20.out
    obtain ⟨cB_20, fB_20, zB_20⟩ := xB_20.out
    obtain ⟨cC_20, fC_20, zC_20⟩ := xC_20.out
    obtain ⟨cD_20, fD_20, zD_20⟩ := xD_20.out
    obtain ⟨cE_20, fE_20, zE_20⟩ := xE_20.out
    obtain ⟨cF_20, fF_20, zF_20⟩ := xF_20.out
    obtain ⟨cG_20, fG_20, zG_20⟩ := xG_20.out
    have O1 : Hid (SlS w20 (.slice a1 m1 k1) (.slice b1 n1 l1) (.slice c1 o1 q1) s1) := Lib.hid ((O1.out.below (bl_refl w19)).below hb20)
    have O2 : Hid (SlS w20 (.slice a2 m2 k2) (.slice b2 n2 l2) (.slice c2 o2 q2) s2) := Lib.hid ((O2.out.below (bl_refl w19)).below hb20)
    have M1 : Hid (Sl w20 (.slice av1 L2.length cv1) L2) := Lib.hid ((M1.out.below (bl_refl w19)).below hb20)
    have M2 : Hid (Sl w20 (.slice av2 L2.length cv2) L2) := Lib.hid ((M2.out.below (bl_refl w19)).below hb20)
    have O3 : Hid (SlS w20 (.slice a3 m3 k3) (.slice b3 n3 l3) (.slice c3 o3 q3) s3) := Lib.hid ((O3.out.below (bl_refl w19)).below hb20)
    have O4 : Hid (SlS w20 (.slice a4 m4 k4) (.slice b4 n4 l4) (.slice c4 o4 q4) t3) := Lib.hid ((O4.out.below (bl_refl w19)).below hb20)
    have O5 : Hid (SlS w20 (.slice a5 m5 k5) (.slice b5 n5 l5) (.slice c5 o5 q5) t3) := Lib.hid ((O5.out.below (bl_refl w19)).below hb20)
    have O6 : Hid (SlS w20 (.slice a6 m6 k6) (.slice b6 n6 l6) (.slice c6 o6 q6) s6) := Lib.hid ((O6.out.below (bl_refl w19)).below hb20)
    have O7 : Hid (SlS w20 (.slice a7 m7 k7) (.slice b7 n7 l7) (.slice c7 o7 q7) s7) := Lib.hid ((O7.out.below (bl_refl w19)).below hb20)
    have Z8 := Lib.hid z8
    clear z8
    obtain ⟨⟨s8, ok8⟩, hx8⟩ : ∃ X, rsF T8.data.toList = X := ⟨_, rfl⟩
    have HX8 := Lib.hid hx8
    clear hx8
    go_wp2_with fail
    refine (irs_eq HX8.out _ Z8.out (HE.out.below B20)).mono ?_
    rintro e w21 ⟨h8, p8, g8, rfl, O8, hb21⟩
    have B21 : Bl w w21 := bl_call B20 hb21
    have xA_21 : Bx w21 (w1.heap.size) #[.slice a1 m1 k1, .slice b1 n1 l1, .slice c1 o1 q1] := xA_20.below hb21
    have xB_21 : Bx w21 (w5.heap.size) #[.slice a2 m2 k2, .slice b2 n2 l2, .slice c2 o2 q2] := xB_20.below hb21
    have xC_21 : Bx w21 (w9.heap.size) #[.slice a3 m3 k3, .slice b3 n3 l3, .slice c3 o3 q3] := xC_20.below hb21
    have xD_21 : Bx w21 (w11.heap.size) #[.slice a4 m4 k4, .slice b4 n4 l4, .slice c4 o4 q4] := xD_20.below hb21
    have xE_21 : Bx w21 (w13.heap.size) #[.slice a5 m5 k5, .slice b5 n5 l5, .slice c5 o5 q5] := xE_20.below hb21
    have xF_21 : Bx w21 (w15.heap.size) #[.slice a6 m6 k6, .slice b6 n6 l6, .slice c6 o6 q6] := xF_20.below hb21
    have xG_21 : Bx w21 (w18.heap.size) #[.slice a7 m7 k7, .slice b7 n7 l7, .slice c7 o7 q7] := xG_20.below hb21
    clear cA_20 fA_20 zA_20 cB_20 fB_20 zB_20 cC_20 fC_20 zC_20 cD_20 fD_20 zD_20 cE_20 fE_20 zE_20 cF_20 fF_20 zF_20 cG_20 fG_20 zG_20
    obtain ⟨cA_21, fA_21, zA_21⟩ := xA_21.out
    obtain ⟨cB_21, fB_21, zB_21⟩ := xB_21.out
    obtain ⟨cC_21, fC_21, zC_21⟩ := xC_21.out
    obtain ⟨cD_21, fD_21, zD_21⟩ := xD_21.out
    obtain ⟨cE_21, fE_21, zE_21⟩ := xE_21.out
    obtain ⟨cF_21, fF_21, zF_21⟩ := xF_21.out
    obtain ⟨cG_21, fG_21, zG_21⟩ := xG_21.out
    have O1 : Hid (SlS w21 (.slice a1 m1 k1) (.slice b1 n1 l1) (.slice c1 o1 q1) s1) := Lib.hid ((O1.out.below (bl_refl w20)).below hb21)
    have O2 : Hid (SlS w21 (.slice a2 m2 k2) (.slice b2 n2 l2) (.slice c2 o2 q2) s2) := Lib.hid ((O2.out.below (bl_refl w20)).below hb21)
    have M1 : Hid (Sl w21 (.slice av1 L2.length cv1) L2) := Lib.hid ((M1.out.below (bl_refl w20)).below hb21)
    have M2 : Hid (Sl w21 (.slice av2 L2.length cv2) L2) := Lib.hid ((M2.out.below (bl_refl w20)).below hb21)
    have O3 : Hid (SlS w21 (.slice a3 m3 k3) (.slice b3 n3 l3) (.slice c3 o3 q3) s3) := Lib.hid ((O3.out.below (bl_refl w20)).below hb21)
    have O4 : Hid (SlS w21 (.slice a4 m4 k4) (.slice b4 n4 l4) (.slice c4 o4 q4) t3) := Lib.hid ((O4.out.below (bl_refl w20)).below hb21)
    have O5 : Hid (SlS w21 (.slice a5 m5 k5) (.slice b5 n5 l5) (.slice c5 o5 q5) t3) := Lib.hid ((O5.out.below (bl_refl w20)).below hb21)
    have O6 : Hid (SlS w21 (.slice a6 m6 k6) (.slice b6 n6 l6) (.slice c6 o6 q6) s6) := Lib.hid ((O6.out.below (bl_refl w20)).below hb21)
    have O7 : Hid (SlS w21 (.slice a7 m7 k7) (.slice b7 n7 l7) (.slice c7 o7 q7) s7) := Lib.hid ((O7.out.below (bl_refl w20)).below hb21)
    obtain ⟨⟨a8, m8, k8, rfl⟩, ⟨b8, n8, l8, rfl⟩, ⟨c8, o8, q8, rfl⟩⟩ := O8.shape
    have O8 := Lib.hid O8.sl
    go_wp2_with fail
    have B22 : Bl w (w21.alloc (.cells #[.slice a8 m8 k8, .slice b8 n8 l8, .slice c8 o8 q8] 26)) := (bl_alloc B21 _)
    have xA_22 : Bx (w21.alloc (.cells #[.slice a8 m8 k8, .slice b8 n8 l8, .slice c8 o8 q8] 26)) (w1.heap.size) #[.slice a1 m1 k1, .slice b1 n1 l1, .slice c1 o1 q1] := (xA_21.alloc _)
    have xB_22 : Bx (w21.alloc (.cells #[.slice a8 m8 k8, .slice b8 n8 l8, .slice c8 o8 q8] 26)) (w5.heap.size) #[.slice a2 m2 k2, .slice b2 n2 l2, .slice c2 o2 q2] := (xB_21.alloc _)
    have xC_22 : Bx (w21.alloc (.cells #[.slice a8 m8 k8, .slice b8 n8 l8, .slice c8 o8 q8] 26)) (w9.heap.size) #[.slice a3 m3 k3, .slice b3 n3 l3, .slice c3 o3 q3] := (xC_21.alloc _)
    have xD_22 : Bx (w21.alloc (.cells #[.slice a8 m8 k8, .slice b8 n8 l8, .slice c8 o8 q8] 26)) (w11.heap.size) #[.slice a4 m4 k4, .slice b4 n4 l4, .slice c4 o4 q4] := (xD_21.alloc _)
    have xE_22 : Bx (w21.alloc (.cells #[.slice a8 m8 k8, .slice b8 n8 l8, .slice c8 o8 q8] 26)) (w13.heap.size) #[.slice a5 m5 k5, .slice b5 n5 l5, .slice c5 o5 q5] := (xE_21.alloc _)
    have xF_22 : Bx (w21.alloc (.cells #[.slice a8 m8 k8, .slice b8 n8 l8, .slice c8 o8 q8] 26)) (w15.heap.size) #[.slice a6 m6 k6, .slice b6 n6 l6, .slice c6 o6 q6] := (xF_21.alloc _)
    have xG_22 : Bx (w21.alloc (.cells #[.slice a8 m8 k8, .slice b8 n8 l8, .slice c8 o8 q8] 26)) (w18.heap.size) #[.slice a7 m7 k7, .slice b7 n7 l7, .slice c7 o7 q7] := (xG_21.alloc _)
    have xX_22 : Bx (w21.alloc (.cells #[.slice a8 m8 k8, .slice b8 n8 l8, .slice c8 o8 q8] 26)) (w21.heap.size) #[.slice a8 m8 k8, .slice b8 n8 l8, .slice c8 o8 q8] := (Bx.new (b := w21.heap.size) _ #[.slice a8 m8 k8, .slice b8 n8 l8, .slice c8 o8 q8] 26 (by first | rfl | simp))
    have zz22 : w21.heap.size + 1 ≤ (w21.alloc (.cells #[.slice a8 m8 k8, .slice b8 n8 l8, .slice c8 o8 q8] 26)).heap.size := (by simp)
    clear cA_21 fA_21 zA_21 cB_21 fB_21 zB_21 cC_21 fC_21 zC_21 cD_21 fD_21 zD_21 cE_21 fE_21 zE_21 cF_21 fF_21 zF_21 cG_21 fG_21 zG_21
    have O1 : Hid (SlS (w21.alloc (.cells #[.slice a8 m8 k8, .slice b8 n8 l8, .slice c8 o8 q8] 26)) (.slice a1 m1 k1) (.slice b1 n1 l1) (.slice c1 o1 q1) s1) := Lib.hid (O1.out.below (bl_alloc (bl_refl w21) _))
    have O2 : Hid (SlS (w21.alloc (.cells #[.slice a8 m8 k8, .slice b8 n8 l8, .slice c8 o8 q8] 26)) (.slice a2 m2 k2) (.slice b2 n2 l2) (.slice c2 o2 q2) s2) := Lib.hid (O2.out.below (bl_alloc (bl_refl w21) _))
    have M1 : Hid (Sl (w21.alloc (.cells #[.slice a8 m8 k8, .slice b8 n8 l8, .slice c8 o8 q8] 26)) (.slice av1 L2.length cv1) L2) := Lib.hid (M1.out.below (bl_alloc (bl_refl w21) _))
    have M2 : Hid (Sl (w21.alloc (.cells #[.slice a8 m8 k8, .slice b8 n8 l8, .slice c8 o8 q8] 26)) (.slice av2 L2.length cv2) L2) := Lib.hid (M2.out.below (bl_alloc (bl_refl w21) _))
    have O3 : Hid (SlS (w21.alloc (.cells #[.slice a8 m8 k8, .slice b8 n8 l8, .slice c8 o8 q8] 26)) (.slice a3 m3 k3) (.slice b3 n3 l3) (.slice c3 o3 q3) s3) := Lib.hid (O3.out.below (bl_alloc (bl_refl w21) _))
    have O4 : Hid (SlS (w21.alloc (.cells #[.slice a8 m8 k8, .slice b8 n8 l8, .slice c8 o8 q8] 26)) (.slice a4 m4 k4) (.slice b4 n4 l4) (.slice c4 o4 q4) t3) := Lib.hid (O4.out.below (bl_alloc (bl_refl w21) _))
    have O5 : Hid (SlS (w21.alloc (.cells #[.slice a8 m8 k8, .slice b8 n8 l8, .slice c8 o8 q8] 26)) (.slice a5 m5 k5) (.slice b5 n5 l5) (.slice c5 o5 q5) t3) := Lib.hid (O5.out.below (bl_alloc (bl_refl w21) _))
    have O6 : Hid (SlS (w21.alloc (.cells #[.slice a8 m8 k8, .slice b8 n8 l8, .slice c8 o8 q8] 26)) (.slice a6 m6 k6) (.slice b6 n6 l6) (.slice c6 o6 q6) s6) := Lib.hid (O6.out.below (bl_alloc (bl_refl w21) _))
    have O7 : Hid (SlS (w21.alloc (.cells #[.slice a8 m8 k8, .slice b8 n8 l8, .slice c8 o8 q8] 26)) (.slice a7 m7 k7) (.slice b7 n7 l7) (.slice c7 o7 q7) s7) := Lib.hid (O7.out.below (bl_alloc (bl_refl w21) _))
    have O8 : Hid (SlS (w21.alloc (.cells #[.slice a8 m8 k8, .slice b8 n8 l8, .slice c8 o8 q8] 26)) (.slice a8 m8 k8) (.slice b8 n8 l8) (.slice c8 o8 q8) s8) := Lib.hid (O8.out.below (bl_alloc (bl_refl w21) _))
    generalize (w21.alloc (.cells #[.slice a8 m8 k8, .slice b8 n8 l8, .slice c8 o8 q8] 26)) = w22 at *
    obtain ⟨cA_22, fA_22, zA_22⟩ := xA_22.out
    obtain ⟨cB_22, fB_22, zB_22⟩ := xB_22.out
    obtain ⟨cC_22, fC_22, zC_22⟩ := xC_22.out
    obtain ⟨cD_22, fD_22, zD_22⟩ := xD_22.out
    obtain ⟨cE_22, fE_22, zE_22⟩ := xE_22.out
    obtain ⟨cF_22, fF_22, zF_22⟩ := xF_22.out
    obtain ⟨cG_22, fG_22, zG_22⟩ := xG_22.out
    obtain ⟨cX_22, fX_22, zX_22⟩ := xX_22.out
    refine (srs_eq HX8.out _ Z8.out).mono ?_
    rintro e w23 ⟨h9, p9, g9, rfl, O9, hb23⟩
    have B23 : Bl w w23 := bl_call B22 hb23
    have xA_23 : Bx w23 (w1.heap.size) #[.slice a1 m1 k1, .slice b1 n1 l1, .slice c1 o1 q1] := xA_22.below hb23
    have xB_23 : Bx w23 (w5.heap.size) #[.slice a2 m2 k2, .slice b2 n2 l2, .slice c2 o2 q2] := xB_22.below hb23
    have xC_23 : Bx w23 (w9.heap.size) #[.slice a3 m3 k3, .slice b3 n3 l3, .slice c3 o3 q3] := xC_22.below hb23
    have xD_23 : Bx w23 (w11.heap.size) #[.slice a4 m4 k4, .slice b4 n4 l4, .slice c4 o4 q4] := xD_22.below hb23
    have xE_23 : Bx w23 (w13.heap.size) #[.slice a5 m5 k5, .slice b5 n5 l5, .slice c5 o5 q5] := xE_22.below hb23
    have xF_23 : Bx w23 (w15.heap.size) #[.slice a6 m6 k6, .slice b6 n6 l6, .slice c6 o6 q6] := xF_22.below hb23
    have xG_23 : Bx w23 (w18.heap.size) #[.slice a7 m7 k7, .slice b7 n7 l7, .slice c7 o7 q7] := xG_22.below hb23
    have xX_23 : Bx w23 (w21.heap.size) #[.slice a8 m8 k8, .slice b8 n8 l8, .slice c8 o8 q8] := xX_22.below hb23
    clear cA_22 fA_22 zA_22 cB_22 fB_22 zB_22 cC_22 fC_22 zC_22 cD_22 fD_22 zD_22 cE_22 fE_22 zE_22 cF_22 fF_22 zF_22 cG_22 fG_22 zG_22 cX_22 fX_22 zX_22
    obtain ⟨cA_23, fA_23, zA_23⟩ := xA_23.out
    obtain ⟨cB_23, fB_23, zB_23⟩ := xB_23.out
    obtain ⟨cC_23, fC_23, zC_23⟩ := xC_23.out
    obtain ⟨cD_23, fD_23, zD_23⟩ := xD_23.out
    obtain ⟨cE_23, fE_23, zE_23⟩ := xE_23.out
    obtain ⟨cF_23, fF_23, zF_23⟩ := xF_23.out
    obtain ⟨cG_23, fG_23, zG_23⟩ := xG_23.out
    obtain ⟨cX_23, fX_23, zX_23⟩ := xX_23.out
    have O1 : Hid (SlS w23 (.slice a1 m1 k1) (.slice b1 n1 l1) (.slice c1 o1 q1) s1) := Lib.hid ((O1.out.below (bl_refl w22)).below hb23)
    have O2 : Hid (SlS w23 (.slice a2 m2 k2) (.slice b2 n2 l2) (.slice c2 o2 q2) s2) := Lib.hid ((O2.out.below (bl_refl w22)).below hb23)
    have M1 : Hid (Sl w23 (.slice av1 L2.length cv1) L2) := Lib.hid ((M1.out.below (bl_refl w22)).below hb23)
    have M2 : Hid (Sl w23 (.slice av2 L2.length cv2) L2) := Lib.hid ((M2.out.below (bl_refl w22)).below hb23)
    have O3 : Hid (SlS w23 (.slice a3 m3 k3) (.slice b3 n3 l3) (.slice c3 o3 q3) s3) := Lib.hid ((O3.out.below (bl_refl w22)).below hb23)
    have O4 : Hid (SlS w23 (.slice a4 m4 k4) (.slice b4 n4 l4) (.slice c4 o4 q4) t3) := Lib.hid ((O4.out.below (bl_refl w22)).below hb23)
    have O5 : Hid (SlS w23 (.slice a5 m5 k5) (.slice b5 n5 l5) (.slice c5 o5 q5) t3) := Lib.hid ((O5.out.below (bl_refl w22)).below hb23)
    have O6 : Hid (SlS w23 (.slice a6 m6 k6) (.slice b6 n6 l6) (.slice c6 o6 q6) s6) := Lib.hid ((O6.out.below (bl_refl w22)).below hb23)
    have O7 : Hid (SlS w23 (.slice a7 m7 k7) (.slice b7 n7 l7) (.slice c7 o7 q7) s7) := Lib.hid ((O7.out.below (bl_refl w22)).below hb23)
    have O8 : Hid (SlS w23 (.slice a8 m8 k8) (.slice b8 n8 l8) (.slice c8 o8 q8) s8) := Lib.hid ((O8.out.below (bl_refl w22)).below hb23)
    obtain ⟨⟨a9, m9, k9, rfl⟩, ⟨b9, n9, l9, rfl⟩, ⟨c9, o9, q9, rfl⟩⟩ := O9.shape
    have O9 := Lib.hid O9.sl
    go_wp2_with fail
    have B24 : Bl w (w23.alloc (.cells #[.slice a9 m9 k9, .slice b9 n9 l9, .slice c9 o9 q9] 26)) := (bl_alloc B23 _)
    have xA_24 : Bx (w23.alloc (.cells #[.slice a9 m9 k9, .slice b9 n9 l9, .slice c9 o9 q9] 26)) (w1.heap.size) #[.slice a1 m1 k1, .slice b1 n1 l1, .slice c1 o1 q1] := (xA_23.alloc _)
    have xB_24 : Bx (w23.alloc (.cells #[.slice a9 m9 k9, .slice b9 n9 l9, .slice c9 o9 q9] 26)) (w5.heap.size) #[.slice a2 m2 k2, .slice b2 n2 l2, .slice c2 o2 q2] := (xB_23.alloc _)
    have xC_24 : Bx (w23.alloc (.cells #[.slice a9 m9 k9, .slice b9 n9 l9, .slice c9 o9 q9] 26)) (w9.heap.size) #[.slice a3 m3 k3, .slice b3 n3 l3, .slice c3 o3 q3] := (xC_23.alloc _)
    have xD_24 : Bx (w23.alloc (.cells #[.slice a9 m9 k9, .slice b9 n9 l9, .slice c9 o9 q9] 26)) (w11.heap.size) #[.slice a4 m4 k4, .slice b4 n4 l4, .slice c4 o4 q4] := (xD_23.alloc _)
    have xE_24 : Bx (w23.alloc (.cells #[.slice a9 m9 k9, .slice b9 n9 l9, .slice c9 o9 q9] 26)) (w13.heap.size) #[.slice a5 m5 k5, .slice b5 n5 l5, .slice c5 o5 q5] := (xE_23.alloc _)
    have xF_24 : Bx (w23.alloc (.cells #[.slice a9 m9 k9, .slice b9 n9 l9, .slice c9 o9 q9] 26)) (w15.heap.size) #[.slice a6 m6 k6, .slice b6 n6 l6, .slice c6 o6 q6] := (xF_23.alloc _)
    have xG_24 : Bx (w23.alloc (.cells #[.slice a9 m9 k9, .slice b9 n9 l9, .slice c9 o9 q9] 26)) (w18.heap.size) #[.slice a7 m7 k7, .slice b7 n7 l7, .slice c7 o7 q7] := (xG_23.alloc _)
    have xX_24 : Bx (w23.alloc (.cells #[.slice a9 m9 k9, .slice b9 n9 l9, .slice c9 o9 q9] 26)) (w21.heap.size) #[.slice a8 m8 k8, .slice b8 n8 l8, .slice c8 o8 q8] := (xX_23.alloc _)
    have xY_24 : Bx (w23.alloc (.cells #[.slice a9 m9 k9, .slice b9 n9 l9, .slice c9 o9 q9] 26)) (w23.heap.size) #[.slice a9 m9 k9, .slice b9 n9 l9, .slice c9 o9 q9] := (Bx.new (b := w23.heap.size) _ #[.slice a9 m9 k9, .slice b9 n9 l9, .slice c9 o9 q9] 26 (by first | rfl | simp))
    have zz24 : w23.heap.size + 1 ≤ (w23.alloc (.cells #[.slice a9 m9 k9, .slice b9 n9 l9, .slice c9 o9 q9] 26)).heap.size := (by simp)
    clear cA_23 fA_23 zA_23 cB_23 fB_23 zB_23 cC_23 fC_23 zC_23 cD_23 fD_23 zD_23 cE_23 fE_23 zE_23 cF_23 fF_23 zF_23 cG_23 fG_23 zG_23 cX_23 fX_23 zX_23
    have O1 : Hid (SlS (w23.alloc (.cells #[.slice a9 m9 k9, .slice b9 n9 l9, .slice c9 o9 q9] 26)) (.slice a1 m1 k1) (.slice b1 n1 l1) (.slice c1 o1 q1) s1) := Lib.hid (O1.out.below (bl_alloc (bl_refl w23) _))
    have O2 : Hid (SlS (w23.alloc (.cells #[.slice a9 m9 k9, .slice b9 n9 l9, .slice c9 o9 q9] 26)) (.slice a2 m2 k2) (.slice b2 n2 l2) (.slice c2 o2 q2) s2) := Lib.hid (O2.out.below (bl_alloc (bl_refl w23) _))
    have M1 : Hid (Sl (w23.alloc (.cells #[.slice a9 m9 k9, .slice b9 n9 l9, .slice c9 o9 q9] 26)) (.slice av1 L2.length cv1) L2) := Lib.hid (M1.out.below (bl_alloc (bl_refl w23) _))
    have M2 : Hid (Sl (w23.alloc (.cells #[.slice a9 m9 k9, .slice b9 n9 l9, .slice c9 o9 q9] 26)) (.slice av2 L2.length cv2) L2) := Lib.hid (M2.out.below (bl_alloc (bl_refl w23) _))
    have O3 : Hid (SlS (w23.alloc (.cells #[.slice a9 m9 k9, .slice b9 n9 l9, .slice c9 o9 q9] 26)) (.slice a3 m3 k3) (.slice b3 n3 l3) (.slice c3 o3 q3) s3) := Lib.hid (O3.out.below (bl_alloc (bl_refl w23) _))
    have O4 : Hid (SlS (w23.alloc (.cells #[.slice a9 m9 k9, .slice b9 n9 l9, .slice c9 o9 q9] 26)) (.slice a4 m4 k4) (.slice b4 n4 l4) (.slice c4 o4 q4) t3) := Lib.hid (O4.out.below (bl_alloc (bl_refl w23) _))
    have O5 : Hid (SlS (w23.alloc (.cells #[.slice a9 m9 k9, .slice b9 n9 l9, .slice c9 o9 q9] 26)) (.slice a5 m5 k5) (.slice b5 n5 l5) (.slice c5 o5 q5) t3) := Lib.hid (O5.out.below (bl_alloc (bl_refl w23) _))
    have O6 : Hid (SlS (w23.alloc (.cells #[.slice a9 m9 k9, .slice b9 n9 l9, .slice c9 o9 q9] 26)) (.slice a6 m6 k6) (.slice b6 n6 l6) (.slice c6 o6 q6) s6) := Lib.hid (O6.out.below (bl_alloc (bl_refl w23) _))
    have O7 : Hid (SlS (w23.alloc (.cells #[.slice a9 m9 k9, .slice b9 n9 l9, .slice c9 o9 q9] 26)) (.slice a7 m7 k7) (.slice b7 n7 l7) (.slice c7 o7 q7) s7) := Lib.hid (O7.out.below (bl_alloc (bl_refl w23) _))
    have O8 : Hid (SlS (w23.alloc (.cells #[.slice a9 m9 k9, .slice b9 n9 l9, .slice c9 o9 q9] 26)) (.slice a8 m8 k8) (.slice b8 n8 l8) (.slice c8 o8 q8) s8) := Lib.hid (O8.out.below (bl_alloc (bl_refl w23) _))
    have O9 : Hid (SlS (w23.alloc (.cells #[.slice a9 m9 k9, .slice b9 n9 l9, .slice c9 o9 q9] 26)) (.slice a9 m9 k9) (.slice b9 n9 l9) (.slice c9 o9 q9) s8) := Lib.hid (O9.out.below (bl_alloc (bl_refl w23) _))
    generalize (w23.alloc (.cells #[.slice a9 m9 k9, .slice b9 n9 l9, .slice c9 o9 q9] 26)) = w24 at *
    obtain ⟨cA_24, fA_24, zA_24⟩ := xA_24.out
    obtain ⟨cB_24, fB_24, zB_24⟩ := xB_24.out
    obtain ⟨cC_24, fC_24, zC_24⟩ := xC_24.out
    obtain ⟨cD_24, fD_24, zD_24⟩ := xD_24.out
    obtain ⟨cE_24, fE_24, zE_24⟩ := xE_24.out
    obtain ⟨cF_24, fF_24, zF_24⟩ := xF_24.out
    obtain ⟨cG_24, fG_24, zG_24⟩ := xG_24.out
    obtain ⟨cX_24, fX_24, zX_24⟩ := xX_24.out
    obtain ⟨cY_24, fY_24, zY_24⟩ := xY_24.out
    have H6 := Lib.hid (H0.out.below B24)
    refine (dsame_any H6.out hl0).mono ?_
    rintro e w25 ⟨h10, p10, g10, s10, h11, p11, g11, s11, rfl, O10, O11, hb25⟩
    have B25 : Bl w w25 := bl_call B24 hb25
    have xA_25 : Bx w25 (w1.heap.size) #[.slice a1 m1 k1, .slice b1 n1 l1, .slice c1 o1 q1] := xA_24.below hb25
    have xB_25 : Bx w25 (w5.heap.size) #[.slice a2 m2 k2, .slice b2 n2 l2, .slice c2 o2 q2] := xB_24.below hb25
    have xC_25 : Bx w25 (w9.heap.size) #[.slice a3 m3 k3, .slice b3 n3 l3, .slice c3 o3 q3] := xC_24.below hb25
    have xD_25 : Bx w25 (w11.heap.size) #[.slice a4 m4 k4, .slice b4 n4 l4, .slice c4 o4 q4] := xD_24.below hb25
    have xE_25 : Bx w25 (w13.heap.size) #[.slice a5 m5 k5, .slice b5 n5 l5, .slice c5 o5 q5] := xE_24.below hb25
    have xF_25 : Bx w25 (w15.heap.size) #[.slice a6 m6 k6, .slice b6 n6 l6, .slice c6 o6 q6] := xF_24.below hb25
    have xG_25 : Bx w25 (w18.heap.size) #[.slice a7 m7 k7, .slice b7 n7 l7, .slice c7 o7 q7] := xG_24.below hb25
    have xX_25 : Bx w25 (w21.heap.size) #[.slice a8 m8 k8, .slice b8 n8 l8, .slice c8 o8 q8] := xX_24.below hb25
    have xY_25 : Bx w25 (w23.heap.size) #[.slice a9 m9 k9, .slice b9 n9 l9, .slice c9 o9 q9] := xY_24.below hb25
    clear cA_24 fA_24 zA_24 cB_24 fB_24 zB_24 cC_24 fC_24 zC_24 cD_24 fD_24 zD_24 cE_24 fE_24 zE_24 cF_24 fF_24 zF_24 cG_24 fG_24 zG_24 cX_24 fX_24 zX_24 cY_24 fY_24 zY_24
    obtain ⟨cA_25, fA_25, zA_25⟩ := xA_25.out
    obtain ⟨cB_25, fB_25, zB_25⟩ := xB_25.out
    obtain ⟨cC_25, fC_25, zC_25⟩ := xC_25.out
    obtain ⟨cD_25, fD_25, zD_25⟩ := xD_25.out
    obtain ⟨cE_25, fE_25, zE_25⟩ := xE_25.out
    obtain ⟨cF_25, fF_25, zF_25⟩ := xF_25.out
    obtain ⟨cG_25, fG_25, zG_25⟩ := xG_25.out
    obtain ⟨cX_25, fX_25, zX_25⟩ := xX_25.out
    obtain ⟨cY_25, fY_25, zY_25⟩ := xY_25.out
    have O1 : Hid (SlS w25 (.slice a1 m1 k1) (.slice b1 n1 l1) (.slice c1 o1 q1) s1) := Lib.hid ((O1.out.below (bl_refl w24)).below hb25)
    have O2 : Hid (SlS w25 (.slice a2 m2 k2) (.slice b2 n2 l2) (.slice c2 o2 q2) s2) := Lib.hid ((O2.out.below (bl_refl w24)).below hb25)
    have M1 : Hid (Sl w25 (.slice av1 L2.length cv1) L2) := Lib.hid ((M1.out.below (bl_refl w24)).below hb25)
    have M2 : Hid (Sl w25 (.slice av2 L2.length cv2) L2) := Lib.hid ((M2.out.below (bl_refl w24)).below hb25)
    have O3 : Hid (SlS w25 (.slice a3 m3 k3) (.slice b3 n3 l3) (.slice c3 o3 q3) s3) := Lib.hid ((O3.out.below (bl_refl w24)).below hb25)
    have O4 : Hid (SlS w25 (.slice a4 m4 k4) (.slice b4 n4 l4) (.slice c4 o4 q4) t3) := Lib.hid ((O4.out.below (bl_refl w24)).below hb25)
    have O5 : Hid (SlS w25 (.slice a5 m5 k5) (.slice b5 n5 l5) (.slice c5 o5 q5) t3) := Lib.hid ((O5.out.below (bl_refl w24)).below hb25)
    have O6 : Hid (SlS w25 (.slice a6 m6 k6) (.slice b6 n6 l6) (.slice c6 o6 q6) s6) := Lib.hid ((O6.out.below (bl_refl w24)).below hb25)
    have O7 : Hid (SlS w25 (.slice a7 m7 k7) (.slice b7 n7 l7) (.slice c7 o7 q7) s7) := Lib.hid ((O7.out.below (bl_refl w24)).below hb25)
    have O8 : Hid (SlS w25 (.slice a8 m8 k8) (.slice b8 n8 l8) (.slice c8 o8 q8) s8) := Lib.hid ((O8.out.below (bl_refl w24)).below hb25)
    have O9 : Hid (SlS w25 (.slice a9 m9 k9) (.slice b9 n9 l9) (.slice c9 o9 q9) s8) := Lib.hid ((O9.out.below (bl_refl w24)).below hb25)
    obtain ⟨a10, k10, rfl, _⟩ := O10.1.form
    obtain ⟨b10, l10, rfl, _⟩ := O10.2.1.form
    obtain ⟨c10, q10, rfl, _⟩ := O10.2.2.form
    obtain ⟨a11, k11, rfl, _⟩ := O11.1.form
    obtain ⟨b11, l11, rfl, _⟩ := O11.2.1.form
    obtain ⟨c11, q11, rfl, _⟩ := O11.2.2.form
    have O10 := Lib.hid O10
    have O11 := Lib.hid O11
    go_upto_region 19 with fail
    have B26 : Bl w ((w25.alloc (.cells #[.slice a10 s10.H.length k10, .slice b10 s10.P.length l10, .slice c10 s10.G.length q10] 26)).alloc (.cells #[.slice a11 s11.H.length k11, .slice b11 s11.P.length l11, .slice c11 s11.G.length q11] 26)) := (bl_alloc (bl_alloc B25 _) _)
    have xA_26 : Bx ((w25.alloc (.cells #[.slice a10 s10.H.length k10, .slice b10 s10.P.length l10, .slice c10 s10.G.length q10] 26)).alloc (.cells #[.slice a11 s11.H.length k11, .slice b11 s11.P.length l11, .slice c11 s11.G.length q11] 26)) (w1.heap.size) #[.slice a1 m1 k1, .slice b1 n1 l1, .slice c1 o1 q1] := ((xA_25.alloc _).alloc _)
    have xB_26 : Bx ((w25.alloc (.cells #[.slice a10 s10.H.length k10, .slice b10 s10.P.length l10, .slice c10 s10.G.length q10] 26)).alloc (.cells #[.slice a11 s11.H.length k11, .slice b11 s11.P.length l11, .slice c11 s11.G.length q11] 26)) (w5.heap.size) #[.slice a2 m2 k2, .slice b2 n2 l2, .slice c2 o2 q2] := ((xB_25.alloc _).alloc _)
    have xC_26 : Bx ((w25.alloc (.cells #[.slice a10 s10.H.length k10, .slice b10 s10.P.length l10, .slice c10 s10.G.length q10] 26)).alloc (.cells #[.slice a11 s11.H.length k11, .slice b11 s11.P.length l11, .slice c11 s11.G.length q11] 26)) (w9.heap.size) #[.slice a3 m3 k3, .slice b3 n3 l3, .slice c3 o3 q3] := ((xC_25.alloc _).alloc _)
    have xD_26 : Bx ((w25.alloc (.cells #[.slice a10 s10.H.length k10, .slice b10 s10.P.length l10, .slice c10 s10.G.length q10] 26)).alloc (.cells #[.slice a11 s11.H.length k11, .slice b11 s11.P.length l11, .slice c11 s11.G.length q11] 26)) (w11.heap.size) #[.slice a4 m4 k4, .slice b4 n4 l4, .slice c4 o4 q4] := ((xD_25.alloc _).alloc _)
    have xE_26 : Bx ((w25.alloc (.cells #[.slice a10 s10.H.length k10, .slice b10 s10.P.length l10, .slice c10 s10.G.length q10] 26)).alloc (.cells #[.slice a11 s11.H.length k11, .slice b11 s11.P.length l11, .slice c11 s11.G.length q11] 26)) (w13.heap.size) #[.slice a5 m5 k5, .slice b5 n5 l5, .slice c5 o5 q5] := ((xE_25.alloc _).alloc _)
    have xF_26 : Bx ((w25.alloc (.cells #[.slice a10 s10.H.length k10, .slice b10 s10.P.length l10, .slice c10 s10.G.length q10] 26)).alloc (.cells #[.slice a11 s11.H.length k11, .slice b11 s11.P.length l11, .slice c11 s11.G.length q11] 26)) (w15.heap.size) #[.slice a6 m6 k6, .slice b6 n6 l6, .slice c6 o6 q6] := ((xF_25.alloc _).alloc _)
    have xG_26 : Bx ((w25.alloc (.cells #[.slice a10 s10.H.length k10, .slice b10 s10.P.length l10, .slice c10 s10.G.length q10] 26)).alloc (.cells #[.slice a11 s11.H.length k11, .slice b11 s11.P.length l11, .slice c11 s11.G.length q11] 26)) (w18.heap.size) #[.slice a7 m7 k7, .slice b7 n7 l7, .slice c7 o7 q7] := ((xG_25.alloc _).alloc _)
    have xX_26 : Bx ((w25.alloc (.cells #[.slice a10 s10.H.length k10, .slice b10 s10.P.length l10, .slice c10 s10.G.length q10] 26)).alloc (.cells #[.slice a11 s11.H.length k11, .slice b11 s11.P.length l11, .slice c11 s11.G.length q11] 26)) (w21.heap.size) #[.slice a8 m8 k8, .slice b8 n8 l8, .slice c8 o8 q8] := ((xX_25.alloc _).alloc _)
    have xY_26 : Bx ((w25.alloc (.cells #[.slice a10 s10.H.length k10, .slice b10 s10.P.length l10, .slice c10 s10.G.length q10] 26)).alloc (.cells #[.slice a11 s11.H.length k11, .slice b11 s11.P.length l11, .slice c11 s11.G.length q11] 26)) (w23.heap.size) #[.slice a9 m9 k9, .slice b9 n9 l9, .slice c9 o9 q9] := ((xY_25.alloc _).alloc _)
    have xS_26 : Bx ((w25.alloc (.cells #[.slice a10 s10.H.length k10, .slice b10 s10.P.length l10, .slice c10 s10.G.length q10] 26)).alloc (.cells #[.slice a11 s11.H.length k11, .slice b11 s11.P.length l11, .slice c11 s11.G.length q11] 26)) (w25.heap.size) #[.slice a10 s10.H.length k10, .slice b10 s10.P.length l10, .slice c10 s10.G.length q10] := ((Bx.new (b := w25.heap.size) _ #[.slice a10 s10.H.length k10, .slice b10 s10.P.length l10, .slice c10 s10.G.length q10] 26 (by first | rfl | simp)).alloc _)
    have xU_26 : Bx ((w25.alloc (.cells #[.slice a10 s10.H.length k10, .slice b10 s10.P.length l10, .slice c10 s10.G.length q10] 26)).alloc (.cells #[.slice a11 s11.H.length k11, .slice b11 s11.P.length l11, .slice c11 s11.G.length q11] 26)) (w25.heap.size + 1) #[.slice a11 s11.H.length k11, .slice b11 s11.P.length l11, .slice c11 s11.G.length q11] := (Bx.new (b := w25.heap.size + 1) _ #[.slice a11 s11.H.length k11, .slice b11 s11.P.length l11, .slice c11 s11.G.length q11] 26 (by first | rfl | simp))
    have zz26 : w25.heap.size + 2 ≤ ((w25.alloc (.cells #[.slice a10 s10.H.length k10, .slice b10 s10.P.length l10, .slice c10 s10.G.length q10] 26)).alloc (.cells #[.slice a11 s11.H.length k11, .slice b11 s11.P.length l11, .slice c11 s11.G.length q11] 26)).heap.size := (by simp)
    clear cA_25 fA_25 zA_25 cB_25 fB_25 zB_25 cC_25 fC_25 zC_25 cD_25 fD_25 zD_25 cE_25 fE_25 zE_25 cF_25 fF_25 zF_25 cG_25 fG_25 zG_25 cX_25 fX_25 zX_25 cY_25 fY_25 zY_25
    have O1 : Hid (SlS ((w25.alloc (.cells #[.slice a10 s10.H.length k10, .slice b10 s10.P.length l10, .slice c10 s10.G.length q10] 26)).alloc (.cells #[.slice a11 s11.H.length k11, .slice b11 s11.P.length l11, .slice c11 s11.G.length q11] 26)) (.slice a1 m1 k1) (.slice b1 n1 l1) (.slice c1 o1 q1) s1) := Lib.hid (O1.out.below (bl_alloc (bl_alloc (bl_refl w25) _) _))
    have O2 : Hid (SlS ((w25.alloc (.cells #[.slice a10 s10.H.length k10, .slice b10 s10.P.length l10, .slice c10 s10.G.length q10] 26)).alloc (.cells #[.slice a11 s11.H.length k11, .slice b11 s11.P.length l11, .slice c11 s11.G.length q11] 26)) (.slice a2 m2 k2) (.slice b2 n2 l2) (.slice c2 o2 q2) s2) := Lib.hid (O2.out.below (bl_alloc (bl_alloc (bl_refl w25) _) _))
    have M1 : Hid (Sl ((w25.alloc (.cells #[.slice a10 s10.H.length k10, .slice b10 s10.P.length l10, .slice c10 s10.G.length q10] 26)).alloc (.cells #[.slice a11 s11.H.length k11, .slice b11 s11.P.length l11, .slice c11 s11.G.length q11] 26)) (.slice av1 L2.length cv1) L2) := Lib.hid (M1.out.below (bl_alloc (bl_alloc (bl_refl w25) _) _))
    have M2 : Hid (Sl ((w25.alloc (.cells #[.slice a10 s10.H.length k10, .slice b10 s10.P.length l10, .slice c10 s10.G.length q10] 26)).alloc (.cells #[.slice a11 s11.H.length k11, .slice b11 s11.P.length l11, .slice c11 s11.G.length q11] 26)) (.slice av2 L2.length cv2) L2) := Lib.hid (M2.out.below (bl_alloc (bl_alloc (bl_refl w25) _) _))
    have O3 : Hid (SlS ((w25.alloc (.cells #[.slice a10 s10.H.length k10, .slice b10 s10.P.length l10, .slice c10 s10.G.length q10] 26)).alloc (.cells #[.slice a11 s11.H.length k11, .slice b11 s11.P.length l11, .slice c11 s11.G.length q11] 26)) (.slice a3 m3 k3) (.slice b3 n3 l3) (.slice c3 o3 q3) s3) := Lib.hid (O3.out.below (bl_alloc (bl_alloc (bl_refl w25) _) _))
    have O4 : Hid (SlS ((w25.alloc (.cells #[.slice a10 s10.H.length k10, .slice b10 s10.P.length l10, .slice c10 s10.G.length q10] 26)).alloc (.cells #[.slice a11 s11.H.length k11, .slice b11 s11.P.length l11, .slice c11 s11.G.length q11] 26)) (.slice a4 m4 k4) (.slice b4 n4 l4) (.slice c4 o4 q4) t3) := Lib.hid (O4.out.below (bl_alloc (bl_alloc (bl_refl w25) _) _))
    have O5 : Hid (SlS ((w25.alloc (.cells #[.slice a10 s10.H.length k10, .slice b10 s10.P.length l10, .slice c10 s10.G.length q10] 26)).alloc (.cells #[.slice a11 s11.H.length k11, .slice b11 s11.P.length l11, .slice c11 s11.G.length q11] 26)) (.slice a5 m5 k5) (.slice b5 n5 l5) (.slice c5 o5 q5) t3) := Lib.hid (O5.out.below (bl_alloc (bl_alloc (bl_refl w25) _) _))
    have O6 : Hid (SlS ((w25.alloc (.cells #[.slice a10 s10.H.length k10, .slice b10 s10.P.length l10, .slice c10 s10.G.length q10] 26)).alloc (.cells #[.slice a11 s11.H.length k11, .slice b11 s11.P.length l11, .slice c11 s11.G.length q11] 26)) (.slice a6 m6 k6) (.slice b6 n6 l6) (.slice c6 o6 q6) s6) := Lib.hid (O6.out.below (bl_alloc (bl_alloc (bl_refl w25) _) _))
    have O7 : Hid (SlS ((w25.alloc (.cells #[.slice a10 s10.H.length k10, .slice b10 s10.P.length l10, .slice c10 s10.G.length q10] 26)).alloc (.cells #[.slice a11 s11.H.length k11, .slice b11 s11.P.length l11, .slice c11 s11.G.length q11] 26)) (.slice a7 m7 k7) (.slice b7 n7 l7) (.slice c7 o7 q7) s7) := Lib.hid (O7.out.below (bl_alloc (bl_alloc (bl_refl w25) _) _))
    have O8 : Hid (SlS ((w25.alloc (.cells #[.slice a10 s10.H.length k10, .slice b10 s10.P.length l10, .slice c10 s10.G.length q10] 26)).alloc (.cells #[.slice a11 s11.H.length k11, .slice b11 s11.P.length l11, .slice c11 s11.G.length q11] 26)) (.slice a8 m8 k8) (.slice b8 n8 l8) (.slice c8 o8 q8) s8) := Lib.hid (O8.out.below (bl_alloc (bl_alloc (bl_refl w25) _) _))
    have O9 : Hid (SlS ((w25.alloc (.cells #[.slice a10 s10.H.length k10, .slice b10 s10.P.length l10, .slice c10 s10.G.length q10] 26)).alloc (.cells #[.slice a11 s11.H.length k11, .slice b11 s11.P.length l11, .slice c11 s11.G.length q11] 26)) (.slice a9 m9 k9) (.slice b9 n9 l9) (.slice c9 o9 q9) s8) := Lib.hid (O9.out.below (bl_alloc (bl_alloc (bl_refl w25) _) _))
    have O10 : Hid (SlS ((w25.alloc (.cells #[.slice a10 s10.H.length k10, .slice b10 s10.P.length l10, .slice c10 s10.G.length q10] 26)).alloc (.cells #[.slice a11 s11.H.length k11, .slice b11 s11.P.length l11, .slice c11 s11.G.length q11] 26)) (.slice a10 s10.H.length k10) (.slice b10 s10.P.length l10) (.slice c10 s10.G.length q10) s10) := Lib.hid (O10.out.below (bl_alloc (bl_alloc (bl_refl w25) _) _))
    have O11 : Hid (SlS ((w25.alloc (.cells #[.slice a10 s10.H.length k10, .slice b10 s10.P.length l10, .slice c10 s10.G.length q10] 26)).alloc (.cells #[.slice a11 s11.H.length k11, .slice b11 s11.P.length l11, .slice c11 s11.G.length q11] 26)) (.slice a11 s11.H.length k11) (.slice b11 s11.P.length l11) (.slice c11 s11.G.length q11) s11) := Lib.hid (O11.out.below (bl_alloc (bl_alloc (bl_refl w25) _) _))
    generalize ((w25.alloc (.cells #[.slice a10 s10.H.length k10, .slice b10 s10.P.length l10, .slice c10 s10.G.length q10] 26)).alloc (.cells #[.slice a11 s11.H.length k11, .slice b11 s11.P.length l11, .slice c11 s11.G.length q11] 26)) = w26 at *
    obtain ⟨cA_26, fA_26, zA_26⟩ := xA_26.out
    obtain ⟨cB_26, fB_26, zB_26⟩ := xB_26.out
    obtain ⟨cC_26, fC_26, zC_26⟩ := xC_26.out
    obtain ⟨cD_26, fD_26, zD_26⟩ := xD_26.out
    obtain ⟨cE_26, fE_26, zE_26⟩ := xE_26.out
    obtain ⟨cF_26, fF_26, zF_26⟩ := xF_26.out
    obtain ⟨cG_26, fG_26, zG_26⟩ := xG_26.out
    obtain ⟨cX_26, fX_26, zX_26⟩ := xX_26.out
    obtain ⟨cY_26, fY_26, zY_26⟩ := xY_26.out
    obtain ⟨cS_26, fS_26, zS_26⟩ := xS_26.out
    obtain ⟨cU_26, fU_26, zU_26⟩ := xU_26.out
    go_cut [196] (fun s196 wx => s196 = .bool false ∧ Bl w26 wx)
    case first =>
      simp only [List.append_eq, List.cons_append, List.nil_append]
      rcases HR6.out with ⟨he6, hr6⟩ | ⟨he6, hr6⟩
      · as_aux_lemma =>
          have e7 := HX7.out
          rw [hr6] at e7
          obtain ⟨rfl, rfl⟩ : s6 = s7 ∧ true = ok7 := ⟨(Prod.mk.inj e7).1, (Prod.mk.inj e7).2⟩
          clear e7 hr6
          obtain ⟨u10, hu10⟩ : ∃ b, sameSrc s10 s11 = b := ⟨_, rfl⟩
          have HB10 := Lib.hid hu10
          clear hu10
          obtain ⟨u1, hu1⟩ : ∃ b, okSrc s1 = b := ⟨_, rfl⟩
          have HB1 := Lib.hid hu1
          clear hu1
          have O1 : Hid (SlS w26.drew (.slice a1 m1 k1) (.slice b1 n1 l1) (.slice c1 o1 q1) s1) := Lib.hid (O1.out.below (bl_drew (bl_refl w26)))
          have O2 : Hid (SlS w26.drew (.slice a2 m2 k2) (.slice b2 n2 l2) (.slice c2 o2 q2) s2) := Lib.hid (O2.out.below (bl_drew (bl_refl w26)))
          have M1 : Hid (Sl w26.drew (.slice av1 L2.length cv1) L2) := Lib.hid (M1.out.below (bl_drew (bl_refl w26)))
          have M2 : Hid (Sl w26.drew (.slice av2 L2.length cv2) L2) := Lib.hid (M2.out.below (bl_drew (bl_refl w26)))
          have O3 : Hid (SlS w26.drew (.slice a3 m3 k3) (.slice b3 n3 l3) (.slice c3 o3 q3) s3) := Lib.hid (O3.out.below (bl_drew (bl_refl w26)))
          have O4 : Hid (SlS w26.drew (.slice a4 m4 k4) (.slice b4 n4 l4) (.slice c4 o4 q4) t3) := Lib.hid (O4.out.below (bl_drew (bl_refl w26)))
          have O5 : Hid (SlS w26.drew (.slice a5 m5 k5) (.slice b5 n5 l5) (.slice c5 o5 q5) t3) := Lib.hid (O5.out.below (bl_drew (bl_refl w26)))
          have O6 : Hid (SlS w26.drew (.slice a6 m6 k6) (.slice b6 n6 l6) (.slice c6 o6 q6) s6) := Lib.hid (O6.out.below (bl_drew (bl_refl w26)))
          have O7 : Hid (SlS w26.drew (.slice a7 m7 k7) (.slice b7 n7 l7) (.slice c7 o7 q7) s6) := Lib.hid (O7.out.below (bl_drew (bl_refl w26)))
          have O8 : Hid (SlS w26.drew (.slice a8 m8 k8) (.slice b8 n8 l8) (.slice c8 o8 q8) s8) := Lib.hid (O8.out.below (bl_drew (bl_refl w26)))
          have O9 : Hid (SlS w26.drew (.slice a9 m9 k9) (.slice b9 n9 l9) (.slice c9 o9 q9) s8) := Lib.hid (O9.out.below (bl_drew (bl_refl w26)))
          have O10 : Hid (SlS w26.drew (.slice a10 s10.H.length k10) (.slice b10 s10.P.length l10) (.slice c10 s10.G.length q10) s10) := Lib.hid (O10.out.below (bl_drew (bl_refl w26)))
          have O11 : Hid (SlS w26.drew (.slice a11 s11.H.length k11) (.slice b11 s11.P.length l11) (.slice c11 s11.G.length q11) s11) := Lib.hid (O11.out.below (bl_drew (bl_refl w26)))
          refine wp_region_held_drew (S := fun w' => Bx w' (w11.heap.size) #[.slice a4 m4 k4, .slice b4 n4 l4, .slice c4 o4 q4] ∧ Bx w' (w13.heap.size) #[.slice a5 m5 k5, .slice b5 n5 l5, .slice c5 o5 q5] ∧ Bx w' (w15.heap.size) #[.slice a6 m6 k6, .slice b6 n6 l6, .slice c6 o6 q6] ∧ Bx w' (w18.heap.size) #[.slice a7 m7 k7, .slice b7 n7 l7, .slice c7 o7 q7] ∧ Bx w' (w21.heap.size) #[.slice a8 m8 k8, .slice b8 n8 l8, .slice c8 o8 q8] ∧ Bx w' (w23.heap.size) #[.slice a9 m9 k9, .slice b9 n9 l9, .slice c9 o9 q9] ∧ Bx w' (w25.heap.size) #[.slice a10 s10.H.length k10, .slice b10 s10.P.length l10, .slice c10 s10.G.length q10] ∧ Bx w' (w25.heap.size + 1) #[.slice a11 s11.H.length k11, .slice b11 s11.P.length l11, .slice c11 s11.G.length q11] ∧ Bx w' (w1.heap.size) #[.slice a1 m1 k1, .slice b1 n1 l1, .slice c1 o1 q1]) (by kernel_rfl) ?_ (fun hHeld => ?_)
          · exact ⟨xD_26.drew, xE_26.drew, xF_26.drew, xG_26.drew, xX_26.drew, xY_26.drew, xS_26.drew, xU_26.drew, xA_26.drew⟩
          clear cA_26 fA_26 zA_26 cB_26 fB_26 zB_26 cC_26 fC_26 zC_26 cD_26 fD_26 zD_26 cE_26 fE_26 zE_26 cF_26 fF_26 zF_26 cG_26 fG_26 zG_26 cX_26 fX_26 zX_26 cY_26 fY_26 zY_26 cS_26 fS_26 zS_26 cU_26 fU_26 zU_26
          refine' wpAnyH_take (i := 0) (oi := ⟨some 119, .move _, _, _, _, _⟩) (v := _) rfl (by kernel_rfl) (by kernel_rfl) (by kernel_rfl) (fun _ _ _ h => h) (Or.inl ⟨by rfl, ?_⟩) hHeld ?_
          rotate_left
          · (intro wS _; go_simp; try with_reducible rfl)
          simp only [Act.put, List.setIfInBounds_toArray, List.set_cons_zero, List.set_cons_succ]
          refine' wpAnyH_take (i := 1) (oi := ⟨some 120, .move _, _, _, _, _⟩) (v := _) rfl (by kernel_rfl) (by kernel_rfl) (by kernel_rfl) (fun _ _ _ h => h) (Or.inl ⟨by rfl, ?_⟩) hHeld ?_
          rotate_left
          · (intro wS _; go_simp; try with_reducible rfl)
          simp only [Act.put, List.setIfInBounds_toArray, List.set_cons_zero, List.set_cons_succ]
          refine' wpAnyH_take (i := 2) (oi := ⟨some 121, .binOp _ _ _ _ _, _, _, _, _⟩) (v := _) rfl (by kernel_rfl) (by kernel_rfl) (by kernel_rfl) (fun _ _ _ h => h) (Or.inl ⟨by rfl, ?_⟩) hHeld ?_
          rotate_left
          · (intro wS _; go_simp; try with_reducible rfl)
          simp only [Act.put, List.setIfInBounds_toArray, List.set_cons_zero, List.set_cons_succ]
          refine' wpAnyH_take (i := 3) (oi := ⟨some 122, .move _, _, _, _, _⟩) (v := _) rfl (by kernel_rfl) (by kernel_rfl) (by kernel_rfl) (fun _ _ _ h => h) (Or.inl ⟨by rfl, ?_⟩) hHeld ?_
          rotate_left
          · (intro wS _; go_simp; try with_reducible rfl)
          simp only [Act.put, List.setIfInBounds_toArray, List.set_cons_zero, List.set_cons_succ]
          refine' wpAnyH_take (i := 4) (oi := ⟨some 123, .move _, _, _, _, _⟩) (v := _) rfl (by kernel_rfl) (by kernel_rfl) (by kernel_rfl) (fun _ _ _ h => h) (Or.inl ⟨by rfl, ?_⟩) hHeld ?_
          rotate_left
          · (intro wS _; go_simp; try with_reducible rfl)
          simp only [Act.put, List.setIfInBounds_toArray, List.set_cons_zero, List.set_cons_succ]
          refine' wpAnyH_take (i := 5) (oi := ⟨some 124, .move _, _, _, _, _⟩) (v := _) rfl (by kernel_rfl) (by kernel_rfl) (by kernel_rfl) (fun _ _ _ h => h) (Or.inl ⟨by rfl, ?_⟩) hHeld ?_
          rotate_left
          · (intro wS _; go_simp; try with_reducible rfl)
          simp only [Act.put, List.setIfInBounds_toArray, List.set_cons_zero, List.set_cons_succ]
          refine' wpAnyH_take (i := 6) (oi := ⟨some 125, .binOp _ _ _ _ _, _, _, _, _⟩) (v := _) rfl (by kernel_rfl) (by kernel_rfl) (by kernel_rfl) (fun _ _ _ h => h) (Or.inl ⟨by rfl, ?_⟩) hHeld ?_
          rotate_left
          · (intro wS _; go_simp; try with_reducible rfl)
          simp only [Act.put, List.setIfInBounds_toArray, List.set_cons_zero, List.set_cons_succ]
          refine' wpAnyH_take (i := 7) (oi := ⟨some 126, .pick _ _ _, _, _, _, _⟩) (v := _) rfl (by kernel_rfl) (by kernel_rfl) (by kernel_rfl) (fun _ _ _ h => h) (Or.inl ⟨by rfl, ?_⟩) hHeld ?_
          rotate_left
          · (intro wS _; go_simp; try with_reducible rfl)
          simp only [Act.put, List.setIfInBounds_toArray, List.set_cons_zero, List.set_cons_succ]
          refine' wpAnyH_take (i := 8) (oi := ⟨some 127, .move _, _, _, _, _⟩) (v := _) rfl (by kernel_rfl) (by kernel_rfl) (by kernel_rfl) (fun _ _ _ h => h) (Or.inl ⟨by rfl, ?_⟩) hHeld ?_
          rotate_left
          · (intro wS _; go_simp; try with_reducible rfl)
          simp only [Act.put, List.setIfInBounds_toArray, List.set_cons_zero, List.set_cons_succ]
          refine' wpAnyH_take (i := 9) (oi := ⟨some 128, .move _, _, _, _, _⟩) (v := _) rfl (by kernel_rfl) (by kernel_rfl) (by kernel_rfl) (fun _ _ _ h => h) (Or.inl ⟨by rfl, ?_⟩) hHeld ?_
          rotate_left
          · (intro wS _; go_simp; try with_reducible rfl)
          simp only [Act.put, List.setIfInBounds_toArray, List.set_cons_zero, List.set_cons_succ]
          refine' wpAnyH_take (i := 10) (oi := ⟨some 129, .move _, _, _, _, _⟩) (v := _) rfl (by kernel_rfl) (by kernel_rfl) (by kernel_rfl) (fun _ _ _ h => h) (Or.inl ⟨by rfl, ?_⟩) hHeld ?_
          rotate_left
          · (intro wS _; go_simp; try with_reducible rfl)
          simp only [Act.put, List.setIfInBounds_toArray, List.set_cons_zero, List.set_cons_succ]
          refine' wpAnyH_take (i := 11) (oi := ⟨some 130, .binOp _ _ _ _ _, _, _, _, _⟩) (v := _) rfl (by kernel_rfl) (by kernel_rfl) (by kernel_rfl) (fun _ _ _ h => h) (Or.inl ⟨by rfl, ?_⟩) hHeld ?_
          rotate_left
          · (intro wS _; go_simp; try with_reducible rfl)
          simp only [Act.put, List.setIfInBounds_toArray, List.set_cons_zero, List.set_cons_succ]
          refine' wpAnyH_take (i := 12) (oi := ⟨some 131, .pick _ _ _, _, _, _, _⟩) (v := _) rfl (by kernel_rfl) (by kernel_rfl) (by kernel_rfl) (fun _ _ _ h => h) (Or.inl ⟨by rfl, ?_⟩) hHeld ?_
          rotate_left
          · (intro wS _; go_simp; try with_reducible rfl)
          simp only [Act.put, List.setIfInBounds_toArray, List.set_cons_zero, List.set_cons_succ]
          as_aux_lemma =>
            refine' wpAnyH_take (i := 13) (oi := ⟨some 132, .move _, _, _, _, _⟩) (v := _) rfl (by kernel_rfl) (by kernel_rfl) (by kernel_rfl) (fun _ _ _ h => h) (Or.inl ⟨by rfl, ?_⟩) hHeld ?_
            rotate_left
            · (intro wS _; go_simp; try with_reducible rfl)
            simp only [Act.put, List.setIfInBounds_toArray, List.set_cons_zero, List.set_cons_succ]
            refine' wpAnyH_take (i := 14) (oi := ⟨some 133, .move _, _, _, _, _⟩) (v := _) rfl (by kernel_rfl) (by kernel_rfl) (by kernel_rfl) (fun _ _ _ h => h) (Or.inl ⟨by rfl, ?_⟩) hHeld ?_
            rotate_left
            · (intro wS _; go_simp; try with_reducible rfl)
            simp only [Act.put, List.setIfInBounds_toArray, List.set_cons_zero, List.set_cons_succ]
            refine' wpAnyH_take (i := 15) (oi := ⟨some 134, .move _, _, _, _, _⟩) (v := _) rfl (by kernel_rfl) (by kernel_rfl) (by kernel_rfl) (fun _ _ _ h => h) (Or.inl ⟨by rfl, ?_⟩) hHeld ?_
            rotate_left
            · (intro wS _; go_simp; try with_reducible rfl)
            simp only [Act.put, List.setIfInBounds_toArray, List.set_cons_zero, List.set_cons_succ]
            refine wpAnyH_ready (rs := [16]) (by kernel_rfl) (by simp) ?_
            refine AllReadyH.cons (o := ⟨some 135, .call _, _, _, _, _⟩) rfl (fun K hK => ?_) AllReadyH.nil
            go_simp
            refine (f6_selfS _ M1.out M2.out).mono ?_
            rintro e w27 ⟨rfl, hb27⟩
            have B27 : Bl w w27 := bl_call (bl_drew B26) hb27
            have xA_27 : Bx w27 (w1.heap.size) #[.slice a1 m1 k1, .slice b1 n1 l1, .slice c1 o1 q1] := xA_26.drew.below hb27
            have xB_27 : Bx w27 (w5.heap.size) #[.slice a2 m2 k2, .slice b2 n2 l2, .slice c2 o2 q2] := xB_26.drew.below hb27
            have xC_27 : Bx w27 (w9.heap.size) #[.slice a3 m3 k3, .slice b3 n3 l3, .slice c3 o3 q3] := xC_26.drew.below hb27
            have xD_27 : Bx w27 (w11.heap.size) #[.slice a4 m4 k4, .slice b4 n4 l4, .slice c4 o4 q4] := xD_26.drew.below hb27
            have xE_27 : Bx w27 (w13.heap.size) #[.slice a5 m5 k5, .slice b5 n5 l5, .slice c5 o5 q5] := xE_26.drew.below hb27
            have xF_27 : Bx w27 (w15.heap.size) #[.slice a6 m6 k6, .slice b6 n6 l6, .slice c6 o6 q6] := xF_26.drew.below hb27
            have xG_27 : Bx w27 (w18.heap.size) #[.slice a7 m7 k7, .slice b7 n7 l7, .slice c7 o7 q7] := xG_26.drew.below hb27
            have xX_27 : Bx w27 (w21.heap.size) #[.slice a8 m8 k8, .slice b8 n8 l8, .slice c8 o8 q8] := xX_26.drew.below hb27
            have xY_27 : Bx w27 (w23.heap.size) #[.slice a9 m9 k9, .slice b9 n9 l9, .slice c9 o9 q9] := xY_26.drew.below hb27
            have xS_27 : Bx w27 (w25.heap.size) #[.slice a10 s10.H.length k10, .slice b10 s10.P.length l10, .slice c10 s10.G.length q10] := xS_26.drew.below hb27
            have xU_27 : Bx w27 (w25.heap.size + 1) #[.slice a11 s11.H.length k11, .slice b11 s11.P.length l11, .slice c11 s11.G.length q11] := xU_26.drew.below hb27
            obtain ⟨cA_27, fA_27, zA_27⟩ := xA_27.out
            obtain ⟨cB_27, fB_27, zB_27⟩ := xB_27.out
            obtain ⟨cC_27, fC_27, zC_27⟩ := xC_27.out
            obtain ⟨cD_27, fD_27, zD_27⟩ := xD_27.out
            obtain ⟨cE_27, fE_27, zE_27⟩ := xE_27.out
            obtain ⟨cF_27, fF_27, zF_27⟩ := xF_27.out
            obtain ⟨cG_27, fG_27, zG_27⟩ := xG_27.out
            obtain ⟨cX_27, fX_27, zX_27⟩ := xX_27.out
            obtain ⟨cY_27, fY_27, zY_27⟩ := xY_27.out
            obtain ⟨cS_27, fS_27, zS_27⟩ := xS_27.out
            obtain ⟨cU_27, fU_27, zU_27⟩ := xU_27.out
            have O1 : Hid (SlS w27 (.slice a1 m1 k1) (.slice b1 n1 l1) (.slice c1 o1 q1) s1) := Lib.hid ((O1.out.below (bl_refl w26.drew)).below hb27)
            have O2 : Hid (SlS w27 (.slice a2 m2 k2) (.slice b2 n2 l2) (.slice c2 o2 q2) s2) := Lib.hid ((O2.out.below (bl_refl w26.drew)).below hb27)
            have M1 : Hid (Sl w27 (.slice av1 L2.length cv1) L2) := Lib.hid ((M1.out.below (bl_refl w26.drew)).below hb27)
            have M2 : Hid (Sl w27 (.slice av2 L2.length cv2) L2) := Lib.hid ((M2.out.below (bl_refl w26.drew)).below hb27)
            have O3 : Hid (SlS w27 (.slice a3 m3 k3) (.slice b3 n3 l3) (.slice c3 o3 q3) s3) := Lib.hid ((O3.out.below (bl_refl w26.drew)).below hb27)
            have O4 : Hid (SlS w27 (.slice a4 m4 k4) (.slice b4 n4 l4) (.slice c4 o4 q4) t3) := Lib.hid ((O4.out.below (bl_refl w26.drew)).below hb27)
            have O5 : Hid (SlS w27 (.slice a5 m5 k5) (.slice b5 n5 l5) (.slice c5 o5 q5) t3) := Lib.hid ((O5.out.below (bl_refl w26.drew)).below hb27)
            have O6 : Hid (SlS w27 (.slice a6 m6 k6) (.slice b6 n6 l6) (.slice c6 o6 q6) s6) := Lib.hid ((O6.out.below (bl_refl w26.drew)).below hb27)
            have O7 : Hid (SlS w27 (.slice a7 m7 k7) (.slice b7 n7 l7) (.slice c7 o7 q7) s6) := Lib.hid ((O7.out.below (bl_refl w26.drew)).below hb27)
            have O8 : Hid (SlS w27 (.slice a8 m8 k8) (.slice b8 n8 l8) (.slice c8 o8 q8) s8) := Lib.hid ((O8.out.below (bl_refl w26.drew)).below hb27)
            have O9 : Hid (SlS w27 (.slice a9 m9 k9) (.slice b9 n9 l9) (.slice c9 o9 q9) s8) := Lib.hid ((O9.out.below (bl_refl w26.drew)).below hb27)
            have O10 : Hid (SlS w27 (.slice a10 s10.H.length k10) (.slice b10 s10.P.length l10) (.slice c10 s10.G.length q10) s10) := Lib.hid ((O10.out.below (bl_refl w26.drew)).below hb27)
            have O11 : Hid (SlS w27 (.slice a11 s11.H.length k11) (.slice b11 s11.P.length l11) (.slice c11 s11.G.length q11) s11) := Lib.hid ((O11.out.below (bl_refl w26.drew)).below hb27)
            have Rw27 : Bl w26 w27 := bl_call (bl_drew (bl_refl w26)) hb27
            go_wp2_with fail
            refine hK.out _ _ ?_ ?_
            · exact ⟨xD_27, xE_27, xF_27, xG_27, xX_27, xY_27, xS_27, xU_27, xA_27⟩
            clear hK K hHeld cA_27 fA_27 zA_27 cB_27 fB_27 zB_27 cC_27 fC_27 zC_27 cD_27 fD_27 zD_27 cE_27 fE_27 zE_27 cF_27 fF_27 zF_27 cG_27 fG_27 zG_27 cX_27 fX_27 zX_27 cY_27 fY_27 zY_27 cS_27 fS_27 zS_27 cU_27 fU_27 zU_27
            intro hHeld
            try simp only [Act.put, List.setIfInBounds_toArray, List.set_cons_zero, List.set_cons_succ]
            refine' wpAnyH_take (i := 17) (oi := ⟨some 136, .unOp _ _ _, _, _, _, _⟩) (v := _) rfl (by kernel_rfl) (by kernel_rfl) (by kernel_rfl) (fun _ _ _ h => h) (Or.inl ⟨by rfl, ?_⟩) hHeld ?_
            rotate_left
            · (intro wS _; go_simp; try with_reducible rfl)
            simp only [Act.put, List.setIfInBounds_toArray, List.set_cons_zero, List.set_cons_succ]
            refine' wpAnyH_take (i := 18) (oi := ⟨some 137, .pick _ _ _, _, _, _, _⟩) (v := _) rfl (by kernel_rfl) (by kernel_rfl) (by kernel_rfl) (fun _ _ _ h => h) (Or.inl ⟨by rfl, ?_⟩) hHeld ?_
            rotate_left
            · (intro wS _; go_simp; try with_reducible rfl)
            simp only [Act.put, List.setIfInBounds_toArray, List.set_cons_zero, List.set_cons_succ]
            refine' wpAnyH_take (i := 19) (oi := ⟨some 138, .move _, _, _, _, _⟩) (v := _) rfl (by kernel_rfl) (by kernel_rfl) (by kernel_rfl) (fun _ _ _ h => h) (Or.inl ⟨by rfl, ?_⟩) hHeld ?_
            rotate_left
            · (intro wS _; go_simp; try with_reducible rfl)
            simp only [Act.put, List.setIfInBounds_toArray, List.set_cons_zero, List.set_cons_succ]
            refine' wpAnyH_take (i := 20) (oi := ⟨some 139, .move _, _, _, _, _⟩) (v := _) rfl (by kernel_rfl) (by kernel_rfl) (by kernel_rfl) (fun _ _ _ h => h) (Or.inl ⟨by rfl, ?_⟩) hHeld ?_
            rotate_left
            · (intro wS _; go_simp; try with_reducible rfl)
            simp only [Act.put, List.setIfInBounds_toArray, List.set_cons_zero, List.set_cons_succ]
            refine' wpAnyH_take (i := 21) (oi := ⟨some 140, .move _, _, _, _, _⟩) (v := _) rfl (by kernel_rfl) (by kernel_rfl) (by kernel_rfl) (fun _ _ _ h => h) (Or.inl ⟨by rfl, ?_⟩) hHeld ?_
            rotate_left
            · (intro wS _; go_simp; try with_reducible rfl)
            simp only [Act.put, List.setIfInBounds_toArray, List.set_cons_zero, List.set_cons_succ]
            refine' wpAnyH_take (i := 22) (oi := ⟨some 141, .binOp _ _ _ _ _, _, _, _, _⟩) (v := _) rfl (by kernel_rfl) (by kernel_rfl) (by kernel_rfl) (fun _ _ _ h => h) (Or.inl ⟨by rfl, ?_⟩) hHeld ?_
            rotate_left
            · (intro wS _; go_simp; try with_reducible rfl)
            simp only [Act.put, List.setIfInBounds_toArray, List.set_cons_zero, List.set_cons_succ]
            refine' wpAnyH_take (i := 23) (oi := ⟨some 142, .pick _ _ _, _, _, _, _⟩) (v := _) rfl (by kernel_rfl) (by kernel_rfl) (by kernel_rfl) (fun _ _ _ h => h) (Or.inl ⟨by rfl, ?_⟩) hHeld ?_
            rotate_left
            · (intro wS _; go_simp; try with_reducible rfl)
            simp only [Act.put, List.setIfInBounds_toArray, List.set_cons_zero, List.set_cons_succ]
            refine' wpAnyH_take (i := 24) (oi := ⟨some 143, .move _, _, _, _, _⟩) (v := _) rfl (by kernel_rfl) (by kernel_rfl) (by kernel_rfl) (fun _ _ _ h => h) (Or.inl ⟨by rfl, ?_⟩) hHeld ?_
            rotate_left
            · (intro wS _; go_simp; try with_reducible rfl)
            simp only [Act.put, List.setIfInBounds_toArray, List.set_cons_zero, List.set_cons_succ]
            refine' wpAnyH_take (i := 25) (oi := ⟨some 144, .load _ _, _, _, _, _⟩) (v := _) rfl (by kernel_rfl) (by kernel_rfl) (by kernel_rfl) (fun _ _ _ h => h) (Or.inl ⟨by rfl, ?_⟩) hHeld ?_
            rotate_left
            · (intro wS hSw; obtain ⟨cS, fS, zS⟩ := hSw.1.out; clear hSw; go_simp; try with_reducible rfl)
            simp only [Act.put, List.setIfInBounds_toArray, List.set_cons_zero, List.set_cons_succ]
            as_aux_lemma =>
              refine' wpAnyH_take (i := 26) (oi := ⟨some 145, .load _ _, _, _, _, _⟩) (v := _) rfl (by kernel_rfl) (by kernel_rfl) (by kernel_rfl) (fun _ _ _ h => h) (Or.inl ⟨by rfl, ?_⟩) hHeld ?_
              rotate_left
              · (intro wS hSw; obtain ⟨cS, fS, zS⟩ := hSw.2.1.out; clear hSw; go_simp; try with_reducible rfl)
              simp only [Act.put, List.setIfInBounds_toArray, List.set_cons_zero, List.set_cons_succ]
              refine wpAnyH_ready (rs := [27]) (by kernel_rfl) (by simp) ?_
              refine AllReadyH.cons (o := ⟨some 146, .call _, _, _, _, _⟩) rfl (fun K hK => ?_) AllReadyH.nil
              go_simp
              refine (ssame_selfS _ O4.out O5.out).mono ?_
              rintro e w28 ⟨rfl, hb28⟩
              have B28 : Bl w w28 := bl_call B27 hb28
              have xA_28 : Bx w28 (w1.heap.size) #[.slice a1 m1 k1, .slice b1 n1 l1, .slice c1 o1 q1] := xA_27.below hb28
              have xB_28 : Bx w28 (w5.heap.size) #[.slice a2 m2 k2, .slice b2 n2 l2, .slice c2 o2 q2] := xB_27.below hb28
              have xC_28 : Bx w28 (w9.heap.size) #[.slice a3 m3 k3, .slice b3 n3 l3, .slice c3 o3 q3] := xC_27.below hb28
              have xD_28 : Bx w28 (w11.heap.size) #[.slice a4 m4 k4, .slice b4 n4 l4, .slice c4 o4 q4] := xD_27.below hb28
              have xE_28 : Bx w28 (w13.heap.size) #[.slice a5 m5 k5, .slice b5 n5 l5, .slice c5 o5 q5] := xE_27.below hb28
              have xF_28 : Bx w28 (w15.heap.size) #[.slice a6 m6 k6, .slice b6 n6 l6, .slice c6 o6 q6] := xF_27.below hb28
              have xG_28 : Bx w28 (w18.heap.size) #[.slice a7 m7 k7, .slice b7 n7 l7, .slice c7 o7 q7] := xG_27.below hb28
              have xX_28 : Bx w28 (w21.heap.size) #[.slice a8 m8 k8, .slice b8 n8 l8, .slice c8 o8 q8] := xX_27.below hb28
              have xY_28 : Bx w28 (w23.heap.size) #[.slice a9 m9 k9, .slice b9 n9 l9, .slice c9 o9 q9] := xY_27.below hb28
              have xS_28 : Bx w28 (w25.heap.size) #[.slice a10 s10.H.length k10, .slice b10 s10.P.length l10, .slice c10 s10.G.length q10] := xS_27.below hb28
              have xU_28 : Bx w28 (w25.heap.size + 1) #[.slice a11 s11.H.length k11, .slice b11 s11.P.length l11, .slice c11 s11.G.length q11] := xU_27.below hb28
              obtain ⟨cA_28, fA_28, zA_28⟩ := xA_28.out
              obtain ⟨cB_28, fB_28, zB_28⟩ := xB_28.out
              obtain ⟨cC_28, fC_28, zC_28⟩ := xC_28.out
              obtain ⟨cD_28, fD_28, zD_28⟩ := xD_28.out
              obtain ⟨cE_28, fE_28, zE_28⟩ := xE_28.out
              obtain ⟨cF_28, fF_28, zF_28⟩ := xF_28.out
              obtain ⟨cG_28, fG_28, zG_28⟩ := xG_28.out
              obtain ⟨cX_28, fX_28, zX_28⟩ := xX_28.out
              obtain ⟨cY_28, fY_28, zY_28⟩ := xY_28.out
              obtain ⟨cS_28, fS_28, zS_28⟩ := xS_28.out
              obtain ⟨cU_28, fU_28, zU_28⟩ := xU_28.out
              have O1 : Hid (SlS w28 (.slice a1 m1 k1) (.slice b1 n1 l1) (.slice c1 o1 q1) s1) := Lib.hid ((O1.out.below (bl_refl w27)).below hb28)
              have O2 : Hid (SlS w28 (.slice a2 m2 k2) (.slice b2 n2 l2) (.slice c2 o2 q2) s2) := Lib.hid ((O2.out.below (bl_refl w27)).below hb28)
              have M1 : Hid (Sl w28 (.slice av1 L2.length cv1) L2) := Lib.hid ((M1.out.below (bl_refl w27)).below hb28)
              have M2 : Hid (Sl w28 (.slice av2 L2.length cv2) L2) := Lib.hid ((M2.out.below (bl_refl w27)).below hb28)
              have O3 : Hid (SlS w28 (.slice a3 m3 k3) (.slice b3 n3 l3) (.slice c3 o3 q3) s3) := Lib.hid ((O3.out.below (bl_refl w27)).below hb28)
              have O4 : Hid (SlS w28 (.slice a4 m4 k4) (.slice b4 n4 l4) (.slice c4 o4 q4) t3) := Lib.hid ((O4.out.below (bl_refl w27)).below hb28)
              have O5 : Hid (SlS w28 (.slice a5 m5 k5) (.slice b5 n5 l5) (.slice c5 o5 q5) t3) := Lib.hid ((O5.out.below (bl_refl w27)).below hb28)
              have O6 : Hid (SlS w28 (.slice a6 m6 k6) (.slice b6 n6 l6) (.slice c6 o6 q6) s6) := Lib.hid ((O6.out.below (bl_refl w27)).below hb28)
              have O7 : Hid (SlS w28 (.slice a7 m7 k7) (.slice b7 n7 l7) (.slice c7 o7 q7) s6) := Lib.hid ((O7.out.below (bl_refl w27)).below hb28)
              have O8 : Hid (SlS w28 (.slice a8 m8 k8) (.slice b8 n8 l8) (.slice c8 o8 q8) s8) := Lib.hid ((O8.out.below (bl_refl w27)).below hb28)
              have O9 : Hid (SlS w28 (.slice a9 m9 k9) (.slice b9 n9 l9) (.slice c9 o9 q9) s8) := Lib.hid ((O9.out.below (bl_refl w27)).below hb28)
              have O10 : Hid (SlS w28 (.slice a10 s10.H.length k10) (.slice b10 s10.P.length l10) (.slice c10 s10.G.length q10) s10) := Lib.hid ((O10.out.below (bl_refl w27)).below hb28)
              have O11 : Hid (SlS w28 (.slice a11 s11.H.length k11) (.slice b11 s11.P.length l11) (.slice c11 s11.G.length q11) s11) := Lib.hid ((O11.out.below (bl_refl w27)).below hb28)
              have Rw28 : Bl w26 w28 := bl_call Rw27 hb28
              go_wp2_with fail
              refine hK.out _ _ ?_ ?_
              · exact ⟨xD_28, xE_28, xF_28, xG_28, xX_28, xY_28, xS_28, xU_28, xA_28⟩
              clear hK K hHeld cA_28 fA_28 zA_28 cB_28 fB_28 zB_28 cC_28 fC_28 zC_28 cD_28 fD_28 zD_28 cE_28 fE_28 zE_28 cF_28 fF_28 zF_28 cG_28 fG_28 zG_28 cX_28 fX_28 zX_28 cY_28 fY_28 zY_28 cS_28 fS_28 zS_28 cU_28 fU_28 zU_28
              intro hHeld
              try simp only [Act.put, List.setIfInBounds_toArray, List.set_cons_zero, List.set_cons_succ]
              refine' wpAnyH_take (i := 28) (oi := ⟨some 147, .unOp _ _ _, _, _, _, _⟩) (v := _) rfl (by kernel_rfl) (by kernel_rfl) (by kernel_rfl) (fun _ _ _ h => h) (Or.inl ⟨by rfl, ?_⟩) hHeld ?_
              rotate_left
              · (intro wS _; go_simp; try with_reducible rfl)
              simp only [Act.put, List.setIfInBounds_toArray, List.set_cons_zero, List.set_cons_succ]
              refine' wpAnyH_take (i := 29) (oi := ⟨some 148, .pick _ _ _, _, _, _, _⟩) (v := _) rfl (by kernel_rfl) (by kernel_rfl) (by kernel_rfl) (fun _ _ _ h => h) (Or.inl ⟨by rfl, ?_⟩) hHeld ?_
              rotate_left
              · (intro wS _; go_simp; try with_reducible rfl)
              simp only [Act.put, List.setIfInBounds_toArray, List.set_cons_zero, List.set_cons_succ]
              refine' wpAnyH_take (i := 30) (oi := ⟨some 149, .move _, _, _, _, _⟩) (v := _) rfl (by kernel_rfl) (by kernel_rfl) (by kernel_rfl) (fun _ _ _ h => h) (Or.inl ⟨by rfl, ?_⟩) hHeld ?_
              rotate_left
              · (intro wS _; go_simp; try with_reducible rfl)
              simp only [Act.put, List.setIfInBounds_toArray, List.set_cons_zero, List.set_cons_succ]
              refine' wpAnyH_take (i := 31) (oi := ⟨some 150, .move _, _, _, _, _⟩) (v := _) rfl (by kernel_rfl) (by kernel_rfl) (by kernel_rfl) (fun _ _ _ h => h) (Or.inl ⟨by rfl, ?_⟩) hHeld ?_
              rotate_left
              · (intro wS _; go_simp; try with_reducible rfl)
              simp only [Act.put, List.setIfInBounds_toArray, List.set_cons_zero, List.set_cons_succ]
              refine' wpAnyH_take (i := 32) (oi := ⟨some 151, .load _ _, _, _, _, _⟩) (v := _) rfl (by kernel_rfl) (by kernel_rfl) (by kernel_rfl) (fun _ _ _ h => h) (Or.inl ⟨by rfl, ?_⟩) hHeld ?_
              rotate_left
              · (intro wS hSw; obtain ⟨cS, fS, zS⟩ := hSw.2.2.1.out; clear hSw; go_simp; try with_reducible rfl)
              simp only [Act.put, List.setIfInBounds_toArray, List.set_cons_zero, List.set_cons_succ]
              refine wpAnyH_ready (rs := [33]) (by kernel_rfl) (by simp) ?_
              refine AllReadyH.cons (o := ⟨some 152, .call _, _, _, _, _⟩) rfl (fun K hK => ?_) AllReadyH.nil
              go_simp
              refine (sst_eq HT6.out _ O6.out).mono ?_
              rintro e w29 ⟨rfl, hb29⟩
              have B29 : Bl w w29 := bl_call B28 hb29
              have xA_29 : Bx w29 (w1.heap.size) #[.slice a1 m1 k1, .slice b1 n1 l1, .slice c1 o1 q1] := xA_28.below hb29
              have xB_29 : Bx w29 (w5.heap.size) #[.slice a2 m2 k2, .slice b2 n2 l2, .slice c2 o2 q2] := xB_28.below hb29
              have xC_29 : Bx w29 (w9.heap.size) #[.slice a3 m3 k3, .slice b3 n3 l3, .slice c3 o3 q3] := xC_28.below hb29
              have xD_29 : Bx w29 (w11.heap.size) #[.slice a4 m4 k4, .slice b4 n4 l4, .slice c4 o4 q4] := xD_28.below hb29
              have xE_29 : Bx w29 (w13.heap.size) #[.slice a5 m5 k5, .slice b5 n5 l5, .slice c5 o5 q5] := xE_28.below hb29
              have xF_29 : Bx w29 (w15.heap.size) #[.slice a6 m6 k6, .slice b6 n6 l6, .slice c6 o6 q6] := xF_28.below hb29
              have xG_29 : Bx w29 (w18.heap.size) #[.slice a7 m7 k7, .slice b7 n7 l7, .slice c7 o7 q7] := xG_28.below hb29
              have xX_29 : Bx w29 (w21.heap.size) #[.slice a8 m8 k8, .slice b8 n8 l8, .slice c8 o8 q8] := xX_28.below hb29
              have xY_29 : Bx w29 (w23.heap.size) #[.slice a9 m9 k9, .slice b9 n9 l9, .slice c9 o9 q9] := xY_28.below hb29
              have xS_29 : Bx w29 (w25.heap.size) #[.slice a10 s10.H.length k10, .slice b10 s10.P.length l10, .slice c10 s10.G.length q10] := xS_28.below hb29
              have xU_29 : Bx w29 (w25.heap.size + 1) #[.slice a11 s11.H.length k11, .slice b11 s11.P.length l11, .slice c11 s11.G.length q11] := xU_28.below hb29
              obtain ⟨cA_29, fA_29, zA_29⟩ := xA_29.out
              obtain ⟨cB_29, fB_29, zB_29⟩ := xB_29.out
              obtain ⟨cC_29, fC_29, zC_29⟩ := xC_29.out
              obtain ⟨cD_29, fD_29, zD_29⟩ := xD_29.out
              obtain ⟨cE_29, fE_29, zE_29⟩ := xE_29.out
              obtain ⟨cF_29, fF_29, zF_29⟩ := xF_29.out
              obtain ⟨cG_29, fG_29, zG_29⟩ := xG_29.out
              obtain ⟨cX_29, fX_29, zX_29⟩ := xX_29.out
              obtain ⟨cY_29, fY_29, zY_29⟩ := xY_29.out
              obtain ⟨cS_29, fS_29, zS_29⟩ := xS_29.out
              obtain ⟨cU_29, fU_29, zU_29⟩ := xU_29.out
              have O1 : Hid (SlS w29 (.slice a1 m1 k1) (.slice b1 n1 l1) (.slice c1 o1 q1) s1) := Lib.hid ((O1.out.below (bl_refl w28)).below hb29)
              have O2 : Hid (SlS w29 (.slice a2 m2 k2) (.slice b2 n2 l2) (.slice c2 o2 q2) s2) := Lib.hid ((O2.out.below (bl_refl w28)).below hb29)
              have M1 : Hid (Sl w29 (.slice av1 L2.length cv1) L2) := Lib.hid ((M1.out.below (bl_refl w28)).below hb29)
              have M2 : Hid (Sl w29 (.slice av2 L2.length cv2) L2) := Lib.hid ((M2.out.below (bl_refl w28)).below hb29)
              have O3 : Hid (SlS w29 (.slice a3 m3 k3) (.slice b3 n3 l3) (.slice c3 o3 q3) s3) := Lib.hid ((O3.out.below (bl_refl w28)).below hb29)
              have O4 : Hid (SlS w29 (.slice a4 m4 k4) (.slice b4 n4 l4) (.slice c4 o4 q4) t3) := Lib.hid ((O4.out.below (bl_refl w28)).below hb29)
              have O5 : Hid (SlS w29 (.slice a5 m5 k5) (.slice b5 n5 l5) (.slice c5 o5 q5) t3) := Lib.hid ((O5.out.below (bl_refl w28)).below hb29)
              have O6 : Hid (SlS w29 (.slice a6 m6 k6) (.slice b6 n6 l6) (.slice c6 o6 q6) s6) := Lib.hid ((O6.out.below (bl_refl w28)).below hb29)
              have O7 : Hid (SlS w29 (.slice a7 m7 k7) (.slice b7 n7 l7) (.slice c7 o7 q7) s6) := Lib.hid ((O7.out.below (bl_refl w28)).below hb29)
              have O8 : Hid (SlS w29 (.slice a8 m8 k8) (.slice b8 n8 l8) (.slice c8 o8 q8) s8) := Lib.hid ((O8.out.below (bl_refl w28)).below hb29)
              have O9 : Hid (SlS w29 (.slice a9 m9 k9) (.slice b9 n9 l9) (.slice c9 o9 q9) s8) := Lib.hid ((O9.out.below (bl_refl w28)).below hb29)
              have O10 : Hid (SlS w29 (.slice a10 s10.H.length k10) (.slice b10 s10.P.length l10) (.slice c10 s10.G.length q10) s10) := Lib.hid ((O10.out.below (bl_refl w28)).below hb29)
              have O11 : Hid (SlS w29 (.slice a11 s11.H.length k11) (.slice b11 s11.P.length l11) (.slice c11 s11.G.length q11) s11) := Lib.hid ((O11.out.below (bl_refl w28)).below hb29)
              have Rw29 : Bl w26 w29 := bl_call Rw28 hb29
              go_wp2_with fail
              refine hK.out _ _ ?_ ?_
              · exact ⟨xD_29, xE_29, xF_29, xG_29, xX_29, xY_29, xS_29, xU_29, xA_29⟩
              clear hK K hHeld cA_29 fA_29 zA_29 cB_29 fB_29 zB_29 cC_29 fC_29 zC_29 cD_29 fD_29 zD_29 cE_29 fE_29 zE_29 cF_29 fF_29 zF_29 cG_29 fG_29 zG_29 cX_29 fX_29 zX_29 cY_29 fY_29 zY_29 cS_29 fS_29 zS_29 cU_29 fU_29 zU_29
              intro hHeld
              try simp only [Act.put, List.setIfInBounds_toArray, List.set_cons_zero, List.set_cons_succ]
              refine' wpAnyH_take (i := 34) (oi := ⟨some 153, .binOp _ _ _ _ _, _, _, _, _⟩) (v := _) rfl (by kernel_rfl) (by kernel_rfl) (by kernel_rfl) (fun _ _ _ h => h) (Or.inl ⟨by rfl, ?_⟩) hHeld ?_
              rotate_left
              · (intro wS _; go_simp; try with_reducible rfl)
              simp only [Act.put, List.setIfInBounds_toArray, List.set_cons_zero, List.set_cons_succ]
              refine' wpAnyH_take (i := 35) (oi := ⟨some 154, .pick _ _ _, _, _, _, _⟩) (v := _) rfl (by kernel_rfl) (by kernel_rfl) (by kernel_rfl) (fun _ _ _ h => h) (Or.inl ⟨by rfl, ?_⟩) hHeld ?_
              rotate_left
              · (intro wS _; go_simp; try with_reducible rfl)
              simp only [Act.put, List.setIfInBounds_toArray, List.set_cons_zero, List.set_cons_succ]
              refine' wpAnyH_take (i := 36) (oi := ⟨some 155, .move _, _, _, _, _⟩) (v := _) rfl (by kernel_rfl) (by kernel_rfl) (by kernel_rfl) (fun _ _ _ h => h) (Or.inl ⟨by rfl, ?_⟩) hHeld ?_
              rotate_left
              · (intro wS _; go_simp; try with_reducible rfl)
              simp only [Act.put, List.setIfInBounds_toArray, List.set_cons_zero, List.set_cons_succ]
              refine' wpAnyH_take (i := 37) (oi := ⟨some 156, .move _, _, _, _, _⟩) (v := _) rfl (by kernel_rfl) (by kernel_rfl) (by kernel_rfl) (fun _ _ _ h => h) (Or.inl ⟨by rfl, ?_⟩) hHeld ?_
              rotate_left
              · (intro wS _; go_simp; try with_reducible rfl)
              simp only [Act.put, List.setIfInBounds_toArray, List.set_cons_zero, List.set_cons_succ]
              refine' wpAnyH_take (i := 38) (oi := ⟨some 157, .move _, _, _, _, _⟩) (v := _) rfl (by kernel_rfl) (by kernel_rfl) (by kernel_rfl) (fun _ _ _ h => h) (Or.inl ⟨by rfl, ?_⟩) hHeld ?_
              rotate_left
              · (intro wS _; go_simp; try with_reducible rfl)
              simp only [Act.put, List.setIfInBounds_toArray, List.set_cons_zero, List.set_cons_succ]
              as_aux_lemma =>
                refine' wpAnyH_take (i := 39) (oi := ⟨some 158, .binOp _ _ _ _ _, _, _, _, _⟩) (v := _) rfl (by kernel_rfl) (by kernel_rfl) (by kernel_rfl) (fun _ _ _ h => h) (Or.inl ⟨by rfl, ?_⟩) hHeld ?_
                rotate_left
                · (intro wS _; go_simp; try with_reducible rfl)
                simp only [Act.put, List.setIfInBounds_toArray, List.set_cons_zero, List.set_cons_succ]
                refine' wpAnyH_take (i := 40) (oi := ⟨some 159, .binOp _ _ _ _ _, _, _, _, _⟩) (v := _) rfl (by kernel_rfl) (by kernel_rfl) (by kernel_rfl) (fun _ _ _ h => h) (Or.inl ⟨by rfl, ?_⟩) hHeld ?_
                rotate_left
                · (intro wS _; go_simp; try with_reducible rfl)
                simp only [Act.put, List.setIfInBounds_toArray, List.set_cons_zero, List.set_cons_succ]
                refine' wpAnyH_take (i := 41) (oi := ⟨some 160, .pick _ _ _, _, _, _, _⟩) (v := _) rfl (by kernel_rfl) (by kernel_rfl) (by kernel_rfl) (fun _ _ _ h => h) (Or.inl ⟨by rfl, ?_⟩) hHeld ?_
                rotate_left
                · (intro wS _; go_simp; try with_reducible rfl)
                simp only [Act.put, List.setIfInBounds_toArray, List.set_cons_zero, List.set_cons_succ]
                refine' wpAnyH_take (i := 42) (oi := ⟨some 161, .move _, _, _, _, _⟩) (v := _) rfl (by kernel_rfl) (by kernel_rfl) (by kernel_rfl) (fun _ _ _ h => h) (Or.inl ⟨by rfl, ?_⟩) hHeld ?_
                rotate_left
                · (intro wS _; go_simp; try with_reducible rfl)
                simp only [Act.put, List.setIfInBounds_toArray, List.set_cons_zero, List.set_cons_succ]
                refine' wpAnyH_take (i := 43) (oi := ⟨some 162, .move _, _, _, _, _⟩) (v := _) rfl (by kernel_rfl) (by kernel_rfl) (by kernel_rfl) (fun _ _ _ h => h) (Or.inl ⟨by rfl, ?_⟩) hHeld ?_
                rotate_left
                · (intro wS _; go_simp; try with_reducible rfl)
                simp only [Act.put, List.setIfInBounds_toArray, List.set_cons_zero, List.set_cons_succ]
                refine' wpAnyH_take (i := 44) (oi := ⟨some 163, .move _, _, _, _, _⟩) (v := _) rfl (by kernel_rfl) (by kernel_rfl) (by kernel_rfl) (fun _ _ _ h => h) (Or.inl ⟨by rfl, ?_⟩) hHeld ?_
                rotate_left
                · (intro wS _; go_simp; try with_reducible rfl)
                simp only [Act.put, List.setIfInBounds_toArray, List.set_cons_zero, List.set_cons_succ]
                refine' wpAnyH_take (i := 45) (oi := ⟨some 164, .load _ _, _, _, _, _⟩) (v := _) rfl (by kernel_rfl) (by kernel_rfl) (by kernel_rfl) (fun _ _ _ h => h) (Or.inl ⟨by rfl, ?_⟩) hHeld ?_
                rotate_left
                · (intro wS hSw; obtain ⟨cS, fS, zS⟩ := hSw.2.2.2.1.out; clear hSw; go_simp; try with_reducible rfl)
                simp only [Act.put, List.setIfInBounds_toArray, List.set_cons_zero, List.set_cons_succ]
                refine' wpAnyH_take (i := 46) (oi := ⟨some 165, .load _ _, _, _, _, _⟩) (v := _) rfl (by kernel_rfl) (by kernel_rfl) (by kernel_rfl) (fun _ _ _ h => h) (Or.inl ⟨by rfl, ?_⟩) hHeld ?_
                rotate_left
                · (intro wS hSw; obtain ⟨cS, fS, zS⟩ := hSw.2.2.1.out; clear hSw; go_simp; try with_reducible rfl)
                simp only [Act.put, List.setIfInBounds_toArray, List.set_cons_zero, List.set_cons_succ]
                refine wpAnyH_ready (rs := [47]) (by kernel_rfl) (by simp) ?_
                refine AllReadyH.cons (o := ⟨some 166, .call _, _, _, _, _⟩) rfl (fun K hK => ?_) AllReadyH.nil
                go_simp
                refine (ssame_selfS _ O7.out O6.out).mono ?_
                rintro e w30 ⟨rfl, hb30⟩
                have B30 : Bl w w30 := bl_call B29 hb30
                have xA_30 : Bx w30 (w1.heap.size) #[.slice a1 m1 k1, .slice b1 n1 l1, .slice c1 o1 q1] := xA_29.below hb30
                have xB_30 : Bx w30 (w5.heap.size) #[.slice a2 m2 k2, .slice b2 n2 l2, .slice c2 o2 q2] := xB_29.below hb30
                have xC_30 : Bx w30 (w9.heap.size) #[.slice a3 m3 k3, .slice b3 n3 l3, .slice c3 o3 q3] := xC_29.below hb30
                have xD_30 : Bx w30 (w11.heap.size) #[.slice a4 m4 k4, .slice b4 n4 l4, .slice c4 o4 q4] := xD_29.below hb30
                have xE_30 : Bx w30 (w13.heap.size) #[.slice a5 m5 k5, .slice b5 n5 l5, .slice c5 o5 q5] := xE_29.below hb30
                have xF_30 : Bx w30 (w15.heap.size) #[.slice a6 m6 k6, .slice b6 n6 l6, .slice c6 o6 q6] := xF_29.below hb30
                have xG_30 : Bx w30 (w18.heap.size) #[.slice a7 m7 k7, .slice b7 n7 l7, .slice c7 o7 q7] := xG_29.below hb30
                have xX_30 : Bx w30 (w21.heap.size) #[.slice a8 m8 k8, .slice b8 n8 l8, .slice c8 o8 q8] := xX_29.below hb30
                have xY_30 : Bx w30 (w23.heap.size) #[.slice a9 m9 k9, .slice b9 n9 l9, .slice c9 o9 q9] := xY_29.below hb30
                have xS_30 : Bx w30 (w25.heap.size) #[.slice a10 s10.H.length k10, .slice b10 s10.P.length l10, .slice c10 s10.G.length q10] := xS_29.below hb30
                have xU_30 : Bx w30 (w25.heap.size + 1) #[.slice a11 s11.H.length k11, .slice b11 s11.P.length l11, .slice c11 s11.G.length q11] := xU_29.below hb30
                obtain ⟨cA_30, fA_30, zA_30⟩ := xA_30.out
                obtain ⟨cB_30, fB_30, zB_30⟩ := xB_30.out
                obtain ⟨cC_30, fC_30, zC_30⟩ := xC_30.out
                obtain ⟨cD_30, fD_30, zD_30⟩ := xD_30.out
                obtain ⟨cE_30, fE_30, zE_30⟩ := xE_30.out
                obtain ⟨cF_30, fF_30, zF_30⟩ := xF_30.out
                obtain ⟨cG_30, fG_30, zG_30⟩ := xG_30.out
                obtain ⟨cX_30, fX_30, zX_30⟩ := xX_30.out
                obtain ⟨cY_30, fY_30, zY_30⟩ := xY_30.out
                obtain ⟨cS_30, fS_30, zS_30⟩ := xS_30.out
                obtain ⟨cU_30, fU_30, zU_30⟩ := xU_30.out
                have O1 : Hid (SlS w30 (.slice a1 m1 k1) (.slice b1 n1 l1) (.slice c1 o1 q1) s1) := Lib.hid ((O1.out.below (bl_refl w29)).below hb30)
                have O2 : Hid (SlS w30 (.slice a2 m2 k2) (.slice b2 n2 l2) (.slice c2 o2 q2) s2) := Lib.hid ((O2.out.below (bl_refl w29)).below hb30)
                have M1 : Hid (Sl w30 (.slice av1 L2.length cv1) L2) := Lib.hid ((M1.out.below (bl_refl w29)).below hb30)
                have M2 : Hid (Sl w30 (.slice av2 L2.length cv2) L2) := Lib.hid ((M2.out.below (bl_refl w29)).below hb30)
                have O3 : Hid (SlS w30 (.slice a3 m3 k3) (.slice b3 n3 l3) (.slice c3 o3 q3) s3) := Lib.hid ((O3.out.below (bl_refl w29)).below hb30)
                have O4 : Hid (SlS w30 (.slice a4 m4 k4) (.slice b4 n4 l4) (.slice c4 o4 q4) t3) := Lib.hid ((O4.out.below (bl_refl w29)).below hb30)
                have O5 : Hid (SlS w30 (.slice a5 m5 k5) (.slice b5 n5 l5) (.slice c5 o5 q5) t3) := Lib.hid ((O5.out.below (bl_refl w29)).below hb30)
                have O6 : Hid (SlS w30 (.slice a6 m6 k6) (.slice b6 n6 l6) (.slice c6 o6 q6) s6) := Lib.hid ((O6.out.below (bl_refl w29)).below hb30)
                have O7 : Hid (SlS w30 (.slice a7 m7 k7) (.slice b7 n7 l7) (.slice c7 o7 q7) s6) := Lib.hid ((O7.out.below (bl_refl w29)).below hb30)
                have O8 : Hid (SlS w30 (.slice a8 m8 k8) (.slice b8 n8 l8) (.slice c8 o8 q8) s8) := Lib.hid ((O8.out.below (bl_refl w29)).below hb30)
                have O9 : Hid (SlS w30 (.slice a9 m9 k9) (.slice b9 n9 l9) (.slice c9 o9 q9) s8) := Lib.hid ((O9.out.below (bl_refl w29)).below hb30)
                have O10 : Hid (SlS w30 (.slice a10 s10.H.length k10) (.slice b10 s10.P.length l10) (.slice c10 s10.G.length q10) s10) := Lib.hid ((O10.out.below (bl_refl w29)).below hb30)
                have O11 : Hid (SlS w30 (.slice a11 s11.H.length k11) (.slice b11 s11.P.length l11) (.slice c11 s11.G.length q11) s11) := Lib.hid ((O11.out.below (bl_refl w29)).below hb30)
                have Rw30 : Bl w26 w30 := bl_call Rw29 hb30
                go_wp2_with fail
                refine hK.out _ _ ?_ ?_
                · exact ⟨xD_30, xE_30, xF_30, xG_30, xX_30, xY_30, xS_30, xU_30, xA_30⟩
                clear hK K hHeld cA_30 fA_30 zA_30 cB_30 fB_30 zB_30 cC_30 fC_30 zC_30 cD_30 fD_30 zD_30 cE_30 fE_30 zE_30 cF_30 fF_30 zF_30 cG_30 fG_30 zG_30 cX_30 fX_30 zX_30 cY_30 fY_30 zY_30 cS_30 fS_30 zS_30 cU_30 fU_30 zU_30
                intro hHeld
                try simp only [Act.put, List.setIfInBounds_toArray, List.set_cons_zero, List.set_cons_succ]
                refine' wpAnyH_take (i := 48) (oi := ⟨some 167, .unOp _ _ _, _, _, _, _⟩) (v := _) rfl (by kernel_rfl) (by kernel_rfl) (by kernel_rfl) (fun _ _ _ h => h) (Or.inl ⟨by rfl, ?_⟩) hHeld ?_
                rotate_left
                · (intro wS _; go_simp; try with_reducible rfl)
                simp only [Act.put, List.setIfInBounds_toArray, List.set_cons_zero, List.set_cons_succ]
                refine' wpAnyH_take (i := 49) (oi := ⟨some 168, .pick _ _ _, _, _, _, _⟩) (v := _) rfl (by kernel_rfl) (by kernel_rfl) (by kernel_rfl) (fun _ _ _ h => h) (Or.inl ⟨by rfl, ?_⟩) hHeld ?_
                rotate_left
                · (intro wS _; go_simp; try with_reducible rfl)
                simp only [Act.put, List.setIfInBounds_toArray, List.set_cons_zero, List.set_cons_succ]
                refine' wpAnyH_take (i := 50) (oi := ⟨some 169, .pick _ _ _, _, _, _, _⟩) (v := _) rfl (by kernel_rfl) (by kernel_rfl) (by kernel_rfl) (fun _ _ _ h => h) (Or.inl ⟨by rfl, ?_⟩) hHeld ?_
                rotate_left
                · (intro wS _; go_simp; try with_reducible rfl)
                simp only [Act.put, List.setIfInBounds_toArray, List.set_cons_zero, List.set_cons_succ]
                refine' wpAnyH_take (i := 51) (oi := ⟨some 170, .move _, _, _, _, _⟩) (v := _) rfl (by kernel_rfl) (by kernel_rfl) (by kernel_rfl) (fun _ _ _ h => h) (Or.inl ⟨by rfl, ?_⟩) hHeld ?_
                rotate_left
                · (intro wS _; go_simp; try with_reducible rfl)
                simp only [Act.put, List.setIfInBounds_toArray, List.set_cons_zero, List.set_cons_succ]
                as_aux_lemma =>
                  refine' wpAnyH_take (i := 52) (oi := ⟨some 171, .move _, _, _, _, _⟩) (v := _) rfl (by kernel_rfl) (by kernel_rfl) (by kernel_rfl) (fun _ _ _ h => h) (Or.inl ⟨by rfl, ?_⟩) hHeld ?_
                  rotate_left
                  · (intro wS _; go_simp; try with_reducible rfl)
                  simp only [Act.put, List.setIfInBounds_toArray, List.set_cons_zero, List.set_cons_succ]
                  refine' wpAnyH_take (i := 53) (oi := ⟨some 172, .move _, _, _, _, _⟩) (v := _) rfl (by kernel_rfl) (by kernel_rfl) (by kernel_rfl) (fun _ _ _ h => h) (Or.inl ⟨by rfl, ?_⟩) hHeld ?_
                  rotate_left
                  · (intro wS _; go_simp; try with_reducible rfl)
                  simp only [Act.put, List.setIfInBounds_toArray, List.set_cons_zero, List.set_cons_succ]
                  refine' wpAnyH_take (i := 54) (oi := ⟨some 173, .binOp _ _ _ _ _, _, _, _, _⟩) (v := _) rfl (by kernel_rfl) (by kernel_rfl) (by kernel_rfl) (fun _ _ _ h => h) (Or.inl ⟨by rfl, ?_⟩) hHeld ?_
                  rotate_left
                  · (intro wS _; go_simp; try with_reducible rfl)
                  simp only [Act.put, List.setIfInBounds_toArray, List.set_cons_zero, List.set_cons_succ]
                  refine' wpAnyH_take (i := 55) (oi := ⟨some 174, .pick _ _ _, _, _, _, _⟩) (v := _) rfl (by kernel_rfl) (by kernel_rfl) (by kernel_rfl) (fun _ _ _ h => h) (Or.inl ⟨by rfl, ?_⟩) hHeld ?_
                  rotate_left
                  · (intro wS _; go_simp; try with_reducible rfl)
                  simp only [Act.put, List.setIfInBounds_toArray, List.set_cons_zero, List.set_cons_succ]
                  refine' wpAnyH_take (i := 56) (oi := ⟨some 175, .move _, _, _, _, _⟩) (v := _) rfl (by kernel_rfl) (by kernel_rfl) (by kernel_rfl) (fun _ _ _ h => h) (Or.inl ⟨by rfl, ?_⟩) hHeld ?_
                  rotate_left
                  · (intro wS _; go_simp; try with_reducible rfl)
                  simp only [Act.put, List.setIfInBounds_toArray, List.set_cons_zero, List.set_cons_succ]
                  refine' wpAnyH_take (i := 57) (oi := ⟨some 176, .load _ _, _, _, _, _⟩) (v := _) rfl (by kernel_rfl) (by kernel_rfl) (by kernel_rfl) (fun _ _ _ h => h) (Or.inl ⟨by rfl, ?_⟩) hHeld ?_
                  rotate_left
                  · (intro wS hSw; obtain ⟨cS, fS, zS⟩ := hSw.2.2.2.2.1.out; clear hSw; go_simp; try with_reducible rfl)
                  simp only [Act.put, List.setIfInBounds_toArray, List.set_cons_zero, List.set_cons_succ]
                  refine' wpAnyH_take (i := 58) (oi := ⟨some 177, .load _ _, _, _, _, _⟩) (v := _) rfl (by kernel_rfl) (by kernel_rfl) (by kernel_rfl) (fun _ _ _ h => h) (Or.inl ⟨by rfl, ?_⟩) hHeld ?_
                  rotate_left
                  · (intro wS hSw; obtain ⟨cS, fS, zS⟩ := hSw.2.2.2.2.2.1.out; clear hSw; go_simp; try with_reducible rfl)
                  simp only [Act.put, List.setIfInBounds_toArray, List.set_cons_zero, List.set_cons_succ]
                  refine wpAnyH_ready (rs := [59]) (by kernel_rfl) (by simp) ?_
                  refine AllReadyH.cons (o := ⟨some 178, .call _, _, _, _, _⟩) rfl (fun K hK => ?_) AllReadyH.nil
                  go_simp
                  refine (ssame_selfS _ O8.out O9.out).mono ?_
                  rintro e w31 ⟨rfl, hb31⟩
                  have B31 : Bl w w31 := bl_call B30 hb31
                  have xA_31 : Bx w31 (w1.heap.size) #[.slice a1 m1 k1, .slice b1 n1 l1, .slice c1 o1 q1] := xA_30.below hb31
                  have xB_31 : Bx w31 (w5.heap.size) #[.slice a2 m2 k2, .slice b2 n2 l2, .slice c2 o2 q2] := xB_30.below hb31
                  have xC_31 : Bx w31 (w9.heap.size) #[.slice a3 m3 k3, .slice b3 n3 l3, .slice c3 o3 q3] := xC_30.below hb31
                  have xD_31 : Bx w31 (w11.heap.size) #[.slice a4 m4 k4, .slice b4 n4 l4, .slice c4 o4 q4] := xD_30.below hb31
                  have xE_31 : Bx w31 (w13.heap.size) #[.slice a5 m5 k5, .slice b5 n5 l5, .slice c5 o5 q5] := xE_30.below hb31
                  have xF_31 : Bx w31 (w15.heap.size) #[.slice a6 m6 k6, .slice b6 n6 l6, .slice c6 o6 q6] := xF_30.below hb31
                  have xG_31 : Bx w31 (w18.heap.size) #[.slice a7 m7 k7, .slice b7 n7 l7, .slice c7 o7 q7] := xG_30.below hb31
                  have xX_31 : Bx w31 (w21.heap.size) #[.slice a8 m8 k8, .slice b8 n8 l8, .slice c8 o8 q8] := xX_30.below hb31
                  have xY_31 : Bx w31 (w23.heap.size) #[.slice a9 m9 k9, .slice b9 n9 l9, .slice c9 o9 q9] := xY_30.below hb31
                  have xS_31 : Bx w31 (w25.heap.size) #[.slice a10 s10.H.length k10, .slice b10 s10.P.length l10, .slice c10 s10.G.length q10] := xS_30.below hb31
                  have xU_31 : Bx w31 (w25.heap.size + 1) #[.slice a11 s11.H.length k11, .slice b11 s11.P.length l11, .slice c11 s11.G.length q11] := xU_30.below hb31
                  obtain ⟨cA_31, fA_31, zA_31⟩ := xA_31.out
                  obtain ⟨cB_31, fB_31, zB_31⟩ := xB_31.out
                  obtain ⟨cC_31, fC_31, zC_31⟩ := xC_31.out
                  obtain ⟨cD_31, fD_31, zD_31⟩ := xD_31.out
                  obtain ⟨cE_31, fE_31, zE_31⟩ := xE_31.out
                  obtain ⟨cF_31, fF_31, zF_31⟩ := xF_31.out
                  obtain ⟨cG_31, fG_31, zG_31⟩ := xG_31.out
                  obtain ⟨cX_31, fX_31, zX_31⟩ := xX_31.out
                  obtain ⟨cY_31, fY_31, zY_31⟩ := xY_31.out
                  obtain ⟨cS_31, fS_31, zS_31⟩ := xS_31.out
                  obtain ⟨cU_31, fU_31, zU_31⟩ := xU_31.out
                  have O1 : Hid (SlS w31 (.slice a1 m1 k1) (.slice b1 n1 l1) (.slice c1 o1 q1) s1) := Lib.hid ((O1.out.below (bl_refl w30)).below hb31)
                  have O2 : Hid (SlS w31 (.slice a2 m2 k2) (.slice b2 n2 l2) (.slice c2 o2 q2) s2) := Lib.hid ((O2.out.below (bl_refl w30)).below hb31)
                  have M1 : Hid (Sl w31 (.slice av1 L2.length cv1) L2) := Lib.hid ((M1.out.below (bl_refl w30)).below hb31)
                  have M2 : Hid (Sl w31 (.slice av2 L2.length cv2) L2) := Lib.hid ((M2.out.below (bl_refl w30)).below hb31)
                  have O3 : Hid (SlS w31 (.slice a3 m3 k3) (.slice b3 n3 l3) (.slice c3 o3 q3) s3) := Lib.hid ((O3.out.below (bl_refl w30)).below hb31)
                  have O4 : Hid (SlS w31 (.slice a4 m4 k4) (.slice b4 n4 l4) (.slice c4 o4 q4) t3) := Lib.hid ((O4.out.below (bl_refl w30)).below hb31)
                  have O5 : Hid (SlS w31 (.slice a5 m5 k5) (.slice b5 n5 l5) (.slice c5 o5 q5) t3) := Lib.hid ((O5.out.below (bl_refl w30)).below hb31)
                  have O6 : Hid (SlS w31 (.slice a6 m6 k6) (.slice b6 n6 l6) (.slice c6 o6 q6) s6) := Lib.hid ((O6.out.below (bl_refl w30)).below hb31)
                  have O7 : Hid (SlS w31 (.slice a7 m7 k7) (.slice b7 n7 l7) (.slice c7 o7 q7) s6) := Lib.hid ((O7.out.below (bl_refl w30)).below hb31)
                  have O8 : Hid (SlS w31 (.slice a8 m8 k8) (.slice b8 n8 l8) (.slice c8 o8 q8) s8) := Lib.hid ((O8.out.below (bl_refl w30)).below hb31)
                  have O9 : Hid (SlS w31 (.slice a9 m9 k9) (.slice b9 n9 l9) (.slice c9 o9 q9) s8) := Lib.hid ((O9.out.below (bl_refl w30)).below hb31)
                  have O10 : Hid (SlS w31 (.slice a10 s10.H.length k10) (.slice b10 s10.P.length l10) (.slice c10 s10.G.length q10) s10) := Lib.hid ((O10.out.below (bl_refl w30)).below hb31)
                  have O11 : Hid (SlS w31 (.slice a11 s11.H.length k11) (.slice b11 s11.P.length l11) (.slice c11 s11.G.length q11) s11) := Lib.hid ((O11.out.below (bl_refl w30)).below hb31)
                  have Rw31 : Bl w26 w31 := bl_call Rw30 hb31
                  go_wp2_with fail
                  refine hK.out _ _ ?_ ?_
                  · exact ⟨xD_31, xE_31, xF_31, xG_31, xX_31, xY_31, xS_31, xU_31, xA_31⟩
                  clear hK K hHeld cA_31 fA_31 zA_31 cB_31 fB_31 zB_31 cC_31 fC_31 zC_31 cD_31 fD_31 zD_31 cE_31 fE_31 zE_31 cF_31 fF_31 zF_31 cG_31 fG_31 zG_31 cX_31 fX_31 zX_31 cY_31 fY_31 zY_31 cS_31 fS_31 zS_31 cU_31 fU_31 zU_31
                  intro hHeld
                  try simp only [Act.put, List.setIfInBounds_toArray, List.set_cons_zero, List.set_cons_succ]
                  refine' wpAnyH_take (i := 60) (oi := ⟨some 179, .unOp _ _ _, _, _, _, _⟩) (v := _) rfl (by kernel_rfl) (by kernel_rfl) (by kernel_rfl) (fun _ _ _ h => h) (Or.inl ⟨by rfl, ?_⟩) hHeld ?_
                  rotate_left
                  · (intro wS _; go_simp; try with_reducible rfl)
                  simp only [Act.put, List.setIfInBounds_toArray, List.set_cons_zero, List.set_cons_succ]
                  refine' wpAnyH_take (i := 61) (oi := ⟨some 180, .pick _ _ _, _, _, _, _⟩) (v := _) rfl (by kernel_rfl) (by kernel_rfl) (by kernel_rfl) (fun _ _ _ h => h) (Or.inl ⟨by rfl, ?_⟩) hHeld ?_
                  rotate_left
                  · (intro wS _; go_simp; try with_reducible rfl)
                  simp only [Act.put, List.setIfInBounds_toArray, List.set_cons_zero, List.set_cons_succ]
                  refine' wpAnyH_take (i := 62) (oi := ⟨some 181, .move _, _, _, _, _⟩) (v := _) rfl (by kernel_rfl) (by kernel_rfl) (by kernel_rfl) (fun _ _ _ h => h) (Or.inl ⟨by rfl, ?_⟩) hHeld ?_
                  rotate_left
                  · (intro wS _; go_simp; try with_reducible rfl)
                  simp only [Act.put, List.setIfInBounds_toArray, List.set_cons_zero, List.set_cons_succ]
                  refine' wpAnyH_take (i := 63) (oi := ⟨some 182, .load _ _, _, _, _, _⟩) (v := _) rfl (by kernel_rfl) (by kernel_rfl) (by kernel_rfl) (fun _ _ _ h => h) (Or.inl ⟨by rfl, ?_⟩) hHeld ?_
                  rotate_left
                  · (intro wS hSw; obtain ⟨cS, fS, zS⟩ := hSw.2.2.2.2.2.2.1.out; clear hSw; go_simp; try with_reducible rfl)
                  simp only [Act.put, List.setIfInBounds_toArray, List.set_cons_zero, List.set_cons_succ]
                  refine' wpAnyH_take (i := 64) (oi := ⟨some 183, .load _ _, _, _, _, _⟩) (v := _) rfl (by kernel_rfl) (by kernel_rfl) (by kernel_rfl) (fun _ _ _ h => h) (Or.inl ⟨by rfl, ?_⟩) hHeld ?_
                  rotate_left
                  · (intro wS hSw; obtain ⟨cS, fS, zS⟩ := hSw.2.2.2.2.2.2.2.1.out; clear hSw; go_simp; try with_reducible rfl)
                  simp only [Act.put, List.setIfInBounds_toArray, List.set_cons_zero, List.set_cons_succ]
                  as_aux_lemma =>
                    refine' wpAnyH_take (i := 66) (oi := ⟨some 185, .load _ _, _, _, _, _⟩) (v := _) rfl (by kernel_rfl) (by kernel_rfl) (by kernel_rfl) (fun _ _ _ h => h) (Or.inl ⟨by rfl, ?_⟩) hHeld ?_
                    rotate_left
                    · (intro wS hSw; obtain ⟨cS, fS, zS⟩ := hSw.2.2.2.2.2.2.1.out; clear hSw; go_simp; try with_reducible rfl)
                    simp only [Act.put, List.setIfInBounds_toArray, List.set_cons_zero, List.set_cons_succ]
                    refine' wpAnyH_take (i := 67) (oi := ⟨some 186, .load _ _, _, _, _, _⟩) (v := _) rfl (by kernel_rfl) (by kernel_rfl) (by kernel_rfl) (fun _ _ _ h => h) (Or.inl ⟨by rfl, ?_⟩) hHeld ?_
                    rotate_left
                    · (intro wS hSw; obtain ⟨cS, fS, zS⟩ := hSw.2.2.2.2.2.2.2.1.out; clear hSw; go_simp; try with_reducible rfl)
                    simp only [Act.put, List.setIfInBounds_toArray, List.set_cons_zero, List.set_cons_succ]
                    refine wpAnyH_ready (rs := [65]) (by kernel_rfl) (by simp) ?_
                    refine AllReadyH.cons (o := ⟨some 184, .call _, _, _, _, _⟩) rfl (fun K hK => ?_) AllReadyH.nil
                    go_simp
                    refine (isame_eq HB10.out _ O10.out O11.out).mono ?_
                    rintro e w32 ⟨rfl, hb32⟩
                    have B32 : Bl w w32 := bl_call B31 hb32
                    have xA_32 : Bx w32 (w1.heap.size) #[.slice a1 m1 k1, .slice b1 n1 l1, .slice c1 o1 q1] := xA_31.below hb32
                    have xB_32 : Bx w32 (w5.heap.size) #[.slice a2 m2 k2, .slice b2 n2 l2, .slice c2 o2 q2] := xB_31.below hb32
                    have xC_32 : Bx w32 (w9.heap.size) #[.slice a3 m3 k3, .slice b3 n3 l3, .slice c3 o3 q3] := xC_31.below hb32
                    have xD_32 : Bx w32 (w11.heap.size) #[.slice a4 m4 k4, .slice b4 n4 l4, .slice c4 o4 q4] := xD_31.below hb32
                    have xE_32 : Bx w32 (w13.heap.size) #[.slice a5 m5 k5, .slice b5 n5 l5, .slice c5 o5 q5] := xE_31.below hb32
                    have xF_32 : Bx w32 (w15.heap.size) #[.slice a6 m6 k6, .slice b6 n6 l6, .slice c6 o6 q6] := xF_31.below hb32
                    have xG_32 : Bx w32 (w18.heap.size) #[.slice a7 m7 k7, .slice b7 n7 l7, .slice c7 o7 q7] := xG_31.below hb32
                    have xX_32 : Bx w32 (w21.heap.size) #[.slice a8 m8 k8, .slice b8 n8 l8, .slice c8 o8 q8] := xX_31.below hb32
                    have xY_32 : Bx w32 (w23.heap.size) #[.slice a9 m9 k9, .slice b9 n9 l9, .slice c9 o9 q9] := xY_31.below hb32
                    have xS_32 : Bx w32 (w25.heap.size) #[.slice a10 s10.H.length k10, .slice b10 s10.P.length l10, .slice c10 s10.G.length q10] := xS_31.below hb32
                    have xU_32 : Bx w32 (w25.heap.size + 1) #[.slice a11 s11.H.length k11, .slice b11 s11.P.length l11, .slice c11 s11.G.length q11] := xU_31.below hb32
                    obtain ⟨cA_32, fA_32, zA_32⟩ := xA_32.out
                    obtain ⟨cB_32, fB_32, zB_32⟩ := xB_32.out
                    obtain ⟨cC_32, fC_32, zC_32⟩ := xC_32.out
                    obtain ⟨cD_32, fD_32, zD_32⟩ := xD_32.out
                    obtain ⟨cE_32, fE_32, zE_32⟩ := xE_32.out
                    obtain ⟨cF_32, fF_32, zF_32⟩ := xF_32.out
                    obtain ⟨cG_32, fG_32, zG_32⟩ := xG_32.out
                    obtain ⟨cX_32, fX_32, zX_32⟩ := xX_32.out
                    obtain ⟨cY_32, fY_32, zY_32⟩ := xY_32.out
                    obtain ⟨cS_32, fS_32, zS_32⟩ := xS_32.out
                    obtain ⟨cU_32, fU_32, zU_32⟩ := xU_32.out
                    have O1 : Hid (SlS w32 (.slice a1 m1 k1) (.slice b1 n1 l1) (.slice c1 o1 q1) s1) := Lib.hid ((O1.out.below (bl_refl w31)).below hb32)
                    have O2 : Hid (SlS w32 (.slice a2 m2 k2) (.slice b2 n2 l2) (.slice c2 o2 q2) s2) := Lib.hid ((O2.out.below (bl_refl w31)).below hb32)
                    have M1 : Hid (Sl w32 (.slice av1 L2.length cv1) L2) := Lib.hid ((M1.out.below (bl_refl w31)).below hb32)
                    have M2 : Hid (Sl w32 (.slice av2 L2.length cv2) L2) := Lib.hid ((M2.out.below (bl_refl w31)).below hb32)
                    have O3 : Hid (SlS w32 (.slice a3 m3 k3) (.slice b3 n3 l3) (.slice c3 o3 q3) s3) := Lib.hid ((O3.out.below (bl_refl w31)).below hb32)
                    have O4 : Hid (SlS w32 (.slice a4 m4 k4) (.slice b4 n4 l4) (.slice c4 o4 q4) t3) := Lib.hid ((O4.out.below (bl_refl w31)).below hb32)
                    have O5 : Hid (SlS w32 (.slice a5 m5 k5) (.slice b5 n5 l5) (.slice c5 o5 q5) t3) := Lib.hid ((O5.out.below (bl_refl w31)).below hb32)
                    have O6 : Hid (SlS w32 (.slice a6 m6 k6) (.slice b6 n6 l6) (.slice c6 o6 q6) s6) := Lib.hid ((O6.out.below (bl_refl w31)).below hb32)
                    have O7 : Hid (SlS w32 (.slice a7 m7 k7) (.slice b7 n7 l7) (.slice c7 o7 q7) s6) := Lib.hid ((O7.out.below (bl_refl w31)).below hb32)
                    have O8 : Hid (SlS w32 (.slice a8 m8 k8) (.slice b8 n8 l8) (.slice c8 o8 q8) s8) := Lib.hid ((O8.out.below (bl_refl w31)).below hb32)
                    have O9 : Hid (SlS w32 (.slice a9 m9 k9) (.slice b9 n9 l9) (.slice c9 o9 q9) s8) := Lib.hid ((O9.out.below (bl_refl w31)).below hb32)
                    have O10 : Hid (SlS w32 (.slice a10 s10.H.length k10) (.slice b10 s10.P.length l10) (.slice c10 s10.G.length q10) s10) := Lib.hid ((O10.out.below (bl_refl w31)).below hb32)
                    have O11 : Hid (SlS w32 (.slice a11 s11.H.length k11) (.slice b11 s11.P.length l11) (.slice c11 s11.G.length q11) s11) := Lib.hid ((O11.out.below (bl_refl w31)).below hb32)
                    have Rw32 : Bl w26 w32 := bl_call Rw31 hb32
                    go_wp2_with fail
                    refine hK.out _ _ ?_ ?_
                    · exact ⟨xD_32, xE_32, xF_32, xG_32, xX_32, xY_32, xS_32, xU_32, xA_32⟩
                    clear hK K hHeld cA_32 fA_32 zA_32 cB_32 fB_32 zB_32 cC_32 fC_32 zC_32 cD_32 fD_32 zD_32 cE_32 fE_32 zE_32 cF_32 fF_32 zF_32 cG_32 fG_32 zG_32 cX_32 fX_32 zX_32 cY_32 fY_32 zY_32 cS_32 fS_32 zS_32 cU_32 fU_32 zU_32
                    intro hHeld
                    try simp only [Act.put, List.setIfInBounds_toArray, List.set_cons_zero, List.set_cons_succ]
                    refine wpAnyH_ready (rs := [68]) (by kernel_rfl) (by simp) ?_
                    refine AllReadyH.cons (o := ⟨some 187, .call _, _, _, _, _⟩) rfl (fun K hK => ?_) AllReadyH.nil
                    go_simp
                    refine (ssame_eq HB10.out _ O10.out O11.out).mono ?_
                    rintro e w33 ⟨rfl, hb33⟩
                    have B33 : Bl w w33 := bl_call B32 hb33
                    have xA_33 : Bx w33 (w1.heap.size) #[.slice a1 m1 k1, .slice b1 n1 l1, .slice c1 o1 q1] := xA_32.below hb33
                    have xB_33 : Bx w33 (w5.heap.size) #[.slice a2 m2 k2, .slice b2 n2 l2, .slice c2 o2 q2] := xB_32.below hb33
                    have xC_33 : Bx w33 (w9.heap.size) #[.slice a3 m3 k3, .slice b3 n3 l3, .slice c3 o3 q3] := xC_32.below hb33
                    have xD_33 : Bx w33 (w11.heap.size) #[.slice a4 m4 k4, .slice b4 n4 l4, .slice c4 o4 q4] := xD_32.below hb33
                    have xE_33 : Bx w33 (w13.heap.size) #[.slice a5 m5 k5, .slice b5 n5 l5, .slice c5 o5 q5] := xE_32.below hb33
                    have xF_33 : Bx w33 (w15.heap.size) #[.slice a6 m6 k6, .slice b6 n6 l6, .slice c6 o6 q6] := xF_32.below hb33
                    have xG_33 : Bx w33 (w18.heap.size) #[.slice a7 m7 k7, .slice b7 n7 l7, .slice c7 o7 q7] := xG_32.below hb33
                    have xX_33 : Bx w33 (w21.heap.size) #[.slice a8 m8 k8, .slice b8 n8 l8, .slice c8 o8 q8] := xX_32.below hb33
                    have xY_33 : Bx w33 (w23.heap.size) #[.slice a9 m9 k9, .slice b9 n9 l9, .slice c9 o9 q9] := xY_32.below hb33
                    have xS_33 : Bx w33 (w25.heap.size) #[.slice a10 s10.H.length k10, .slice b10 s10.P.length l10, .slice c10 s10.G.length q10] := xS_32.below hb33
                    have xU_33 : Bx w33 (w25.heap.size + 1) #[.slice a11 s11.H.length k11, .slice b11 s11.P.length l11, .slice c11 s11.G.length q11] := xU_32.below hb33
                    obtain ⟨cA_33, fA_33, zA_33⟩ := xA_33.out
                    obtain ⟨cB_33, fB_33, zB_33⟩ := xB_33.out
                    obtain ⟨cC_33, fC_33, zC_33⟩ := xC_33.out
                    obtain ⟨cD_33, fD_33, zD_33⟩ := xD_33.out
                    obtain ⟨cE_33, fE_33, zE_33⟩ := xE_33.out
                    obtain ⟨cF_33, fF_33, zF_33⟩ := xF_33.out
                    obtain ⟨cG_33, fG_33, zG_33⟩ := xG_33.out
                    obtain ⟨cX_33, fX_33, zX_33⟩ := xX_33.out
                    obtain ⟨cY_33, fY_33, zY_33⟩ := xY_33.out
                    obtain ⟨cS_33, fS_33, zS_33⟩ := xS_33.out
                    obtain ⟨cU_33, fU_33, zU_33⟩ := xU_33.out
                    have O1 : Hid (SlS w33 (.slice a1 m1 k1) (.slice b1 n1 l1) (.slice c1 o1 q1) s1) := Lib.hid ((O1.out.below (bl_refl w32)).below hb33)
                    have O2 : Hid (SlS w33 (.slice a2 m2 k2) (.slice b2 n2 l2) (.slice c2 o2 q2) s2) := Lib.hid ((O2.out.below (bl_refl w32)).below hb33)
                    have M1 : Hid (Sl w33 (.slice av1 L2.length cv1) L2) := Lib.hid ((M1.out.below (bl_refl w32)).below hb33)
                    have M2 : Hid (Sl w33 (.slice av2 L2.length cv2) L2) := Lib.hid ((M2.out.below (bl_refl w32)).below hb33)
                    have O3 : Hid (SlS w33 (.slice a3 m3 k3) (.slice b3 n3 l3) (.slice c3 o3 q3) s3) := Lib.hid ((O3.out.below (bl_refl w32)).below hb33)
                    have O4 : Hid (SlS w33 (.slice a4 m4 k4) (.slice b4 n4 l4) (.slice c4 o4 q4) t3) := Lib.hid ((O4.out.below (bl_refl w32)).below hb33)
                    have O5 : Hid (SlS w33 (.slice a5 m5 k5) (.slice b5 n5 l5) (.slice c5 o5 q5) t3) := Lib.hid ((O5.out.below (bl_refl w32)).below hb33)
                    have O6 : Hid (SlS w33 (.slice a6 m6 k6) (.slice b6 n6 l6) (.slice c6 o6 q6) s6) := Lib.hid ((O6.out.below (bl_refl w32)).below hb33)
                    have O7 : Hid (SlS w33 (.slice a7 m7 k7) (.slice b7 n7 l7) (.slice c7 o7 q7) s6) := Lib.hid ((O7.out.below (bl_refl w32)).below hb33)
                    have O8 : Hid (SlS w33 (.slice a8 m8 k8) (.slice b8 n8 l8) (.slice c8 o8 q8) s8) := Lib.hid ((O8.out.below (bl_refl w32)).below hb33)
                    have O9 : Hid (SlS w33 (.slice a9 m9 k9) (.slice b9 n9 l9) (.slice c9 o9 q9) s8) := Lib.hid ((O9.out.below (bl_refl w32)).below hb33)
                    have O10 : Hid (SlS w33 (.slice a10 s10.H.length k10) (.slice b10 s10.P.length l10) (.slice c10 s10.G.length q10) s10) := Lib.hid ((O10.out.below (bl_refl w32)).below hb33)
                    have O11 : Hid (SlS w33 (.slice a11 s11.H.length k11) (.slice b11 s11.P.length l11) (.slice c11 s11.G.length q11) s11) := Lib.hid ((O11.out.below (bl_refl w32)).below hb33)
                    have Rw33 : Bl w26 w33 := bl_call Rw32 hb33
                    go_wp2_with fail
                    refine hK.out _ _ ?_ ?_
                    · exact ⟨xD_33, xE_33, xF_33, xG_33, xX_33, xY_33, xS_33, xU_33, xA_33⟩
                    clear hK K hHeld cA_33 fA_33 zA_33 cB_33 fB_33 zB_33 cC_33 fC_33 zC_33 cD_33 fD_33 zD_33 cE_33 fE_33 zE_33 cF_33 fF_33 zF_33 cG_33 fG_33 zG_33 cX_33 fX_33 zX_33 cY_33 fY_33 zY_33 cS_33 fS_33 zS_33 cU_33 fU_33 zU_33
                    intro hHeld
                    try simp only [Act.put, List.setIfInBounds_toArray, List.set_cons_zero, List.set_cons_succ]
                    refine' wpAnyH_take (i := 69) (oi := ⟨some 188, .binOp _ _ _ _ _, _, _, _, _⟩) (v := _) rfl (by kernel_rfl) (by kernel_rfl) (by kernel_rfl) (fun _ _ _ h => h) (Or.inl ⟨by rfl, ?_⟩) hHeld ?_
                    rotate_left
                    · (intro wS _; go_simp; try with_reducible rfl)
                    simp only [Act.put, List.setIfInBounds_toArray, List.set_cons_zero, List.set_cons_succ]
                    refine' wpAnyH_take (i := 70) (oi := ⟨some 189, .pick _ _ _, _, _, _, _⟩) (v := _) rfl (by kernel_rfl) (by kernel_rfl) (by kernel_rfl) (fun _ _ _ h => h) (Or.inl ⟨by rfl, ?_⟩) hHeld ?_
                    rotate_left
                    · (intro wS _; go_simp; try with_reducible rfl)
                    simp only [Act.put, List.setIfInBounds_toArray, List.set_cons_zero, List.set_cons_succ]
                    refine' wpAnyH_take (i := 71) (oi := ⟨some 190, .move _, _, _, _, _⟩) (v := _) rfl (by kernel_rfl) (by kernel_rfl) (by kernel_rfl) (fun _ _ _ h => h) (Or.inl ⟨by rfl, ?_⟩) hHeld ?_
                    rotate_left
                    · (intro wS _; go_simp; try with_reducible rfl)
                    simp only [Act.put, List.setIfInBounds_toArray, List.set_cons_zero, List.set_cons_succ]
                    refine' wpAnyH_take (i := 72) (oi := ⟨some 191, .load _ _, _, _, _, _⟩) (v := _) rfl (by kernel_rfl) (by kernel_rfl) (by kernel_rfl) (fun _ _ _ h => h) (Or.inl ⟨by rfl, ?_⟩) hHeld ?_
                    rotate_left
                    · (intro wS hSw; obtain ⟨cS, fS, zS⟩ := hSw.2.2.2.2.2.2.2.2.out; clear hSw; go_simp; try with_reducible rfl)
                    simp only [Act.put, List.setIfInBounds_toArray, List.set_cons_zero, List.set_cons_succ]
                    refine' wpAnyH_take (i := 74) (oi := ⟨some 193, .load _ _, _, _, _, _⟩) (v := _) rfl (by kernel_rfl) (by kernel_rfl) (by kernel_rfl) (fun _ _ _ h => h) (Or.inl ⟨by rfl, ?_⟩) hHeld ?_
                    rotate_left
                    · (intro wS hSw; obtain ⟨cS, fS, zS⟩ := hSw.2.2.2.2.2.2.2.2.out; clear hSw; go_simp; try with_reducible rfl)
                    simp only [Act.put, List.setIfInBounds_toArray, List.set_cons_zero, List.set_cons_succ]
                    refine wpAnyH_ready (rs := [73]) (by kernel_rfl) (by simp) ?_
                    refine AllReadyH.cons (o := ⟨some 192, .call _, _, _, _, _⟩) rfl (fun K hK => ?_) AllReadyH.nil
                    go_simp
                    refine (ival_eqS HB1.out _ O1.out).mono ?_
                    rintro e w34 ⟨rfl, hb34⟩
                    have B34 : Bl w w34 := bl_call B33 hb34
                    have xA_34 : Bx w34 (w1.heap.size) #[.slice a1 m1 k1, .slice b1 n1 l1, .slice c1 o1 q1] := xA_33.below hb34
                    have xB_34 : Bx w34 (w5.heap.size) #[.slice a2 m2 k2, .slice b2 n2 l2, .slice c2 o2 q2] := xB_33.below hb34
                    have xC_34 : Bx w34 (w9.heap.size) #[.slice a3 m3 k3, .slice b3 n3 l3, .slice c3 o3 q3] := xC_33.below hb34
                    have xD_34 : Bx w34 (w11.heap.size) #[.slice a4 m4 k4, .slice b4 n4 l4, .slice c4 o4 q4] := xD_33.below hb34
                    have xE_34 : Bx w34 (w13.heap.size) #[.slice a5 m5 k5, .slice b5 n5 l5, .slice c5 o5 q5] := xE_33.below hb34
                    have xF_34 : Bx w34 (w15.heap.size) #[.slice a6 m6 k6, .slice b6 n6 l6, .slice c6 o6 q6] := xF_33.below hb34
                    have xG_34 : Bx w34 (w18.heap.size) #[.slice a7 m7 k7, .slice b7 n7 l7, .slice c7 o7 q7] := xG_33.below hb34
                    have xX_34 : Bx w34 (w21.heap.size) #[.slice a8 m8 k8, .slice b8 n8 l8, .slice c8 o8 q8] := xX_33.below hb34
                    have xY_34 : Bx w34 (w23.heap.size) #[.slice a9 m9 k9, .slice b9 n9 l9, .slice c9 o9 q9] := xY_33.below hb34
                    have xS_34 : Bx w34 (w25.heap.size) #[.slice a10 s10.H.length k10, .slice b10 s10.P.length l10, .slice c10 s10.G.length q10] := xS_33.below hb34
                    have xU_34 : Bx w34 (w25.heap.size + 1) #[.slice a11 s11.H.length k11, .slice b11 s11.P.length l11, .slice c11 s11.G.length q11] := xU_33.below hb34
                    obtain ⟨cA_34, fA_34, zA_34⟩ := xA_34.out
                    obtain ⟨cB_34, fB_34, zB_34⟩ := xB_34.out
                    obtain ⟨cC_34, fC_34, zC_34⟩ := xC_34.out
                    obtain ⟨cD_34, fD_34, zD_34⟩ := xD_34.out
                    obtain ⟨cE_34, fE_34, zE_34⟩ := xE_34.out
                    obtain ⟨cF_34, fF_34, zF_34⟩ := xF_34.out
                    obtain ⟨cG_34, fG_34, zG_34⟩ := xG_34.out
                    obtain ⟨cX_34, fX_34, zX_34⟩ := xX_34.out
                    obtain ⟨cY_34, fY_34, zY_34⟩ := xY_34.out
                    obtain ⟨cS_34, fS_34, zS_34⟩ := xS_34.out
                    obtain ⟨cU_34, fU_34, zU_34⟩ := xU_34.out
                    have O1 : Hid (SlS w34 (.slice a1 m1 k1) (.slice b1 n1 l1) (.slice c1 o1 q1) s1) := Lib.hid ((O1.out.below (bl_refl w33)).below hb34)
                    have O2 : Hid (SlS w34 (.slice a2 m2 k2) (.slice b2 n2 l2) (.slice c2 o2 q2) s2) := Lib.hid ((O2.out.below (bl_refl w33)).below hb34)
                    have M1 : Hid (Sl w34 (.slice av1 L2.length cv1) L2) := Lib.hid ((M1.out.below (bl_refl w33)).below hb34)
                    have M2 : Hid (Sl w34 (.slice av2 L2.length cv2) L2) := Lib.hid ((M2.out.below (bl_refl w33)).below hb34)
                    have O3 : Hid (SlS w34 (.slice a3 m3 k3) (.slice b3 n3 l3) (.slice c3 o3 q3) s3) := Lib.hid ((O3.out.below (bl_refl w33)).below hb34)
                    have O4 : Hid (SlS w34 (.slice a4 m4 k4) (.slice b4 n4 l4) (.slice c4 o4 q4) t3) := Lib.hid ((O4.out.below (bl_refl w33)).below hb34)
                    have O5 : Hid (SlS w34 (.slice a5 m5 k5) (.slice b5 n5 l5) (.slice c5 o5 q5) t3) := Lib.hid ((O5.out.below (bl_refl w33)).below hb34)
                    have O6 : Hid (SlS w34 (.slice a6 m6 k6) (.slice b6 n6 l6) (.slice c6 o6 q6) s6) := Lib.hid ((O6.out.below (bl_refl w33)).below hb34)
                    have O7 : Hid (SlS w34 (.slice a7 m7 k7) (.slice b7 n7 l7) (.slice c7 o7 q7) s6) := Lib.hid ((O7.out.below (bl_refl w33)).below hb34)
                    have O8 : Hid (SlS w34 (.slice a8 m8 k8) (.slice b8 n8 l8) (.slice c8 o8 q8) s8) := Lib.hid ((O8.out.below (bl_refl w33)).below hb34)
                    have O9 : Hid (SlS w34 (.slice a9 m9 k9) (.slice b9 n9 l9) (.slice c9 o9 q9) s8) := Lib.hid ((O9.out.below (bl_refl w33)).below hb34)
                    have O10 : Hid (SlS w34 (.slice a10 s10.H.length k10) (.slice b10 s10.P.length l10) (.slice c10 s10.G.length q10) s10) := Lib.hid ((O10.out.below (bl_refl w33)).below hb34)
                    have O11 : Hid (SlS w34 (.slice a11 s11.H.length k11) (.slice b11 s11.P.length l11) (.slice c11 s11.G.length q11) s11) := Lib.hid ((O11.out.below (bl_refl w33)).below hb34)
                    have Rw34 : Bl w26 w34 := bl_call Rw33 hb34
                    go_wp2_with fail
                    refine hK.out _ _ ?_ ?_
                    · exact ⟨xD_34, xE_34, xF_34, xG_34, xX_34, xY_34, xS_34, xU_34, xA_34⟩
                    clear hK K hHeld cA_34 fA_34 zA_34 cB_34 fB_34 zB_34 cC_34 fC_34 zC_34 cD_34 fD_34 zD_34 cE_34 fE_34 zE_34 cF_34 fF_34 zF_34 cG_34 fG_34 zG_34 cX_34 fX_34 zX_34 cY_34 fY_34 zY_34 cS_34 fS_34 zS_34 cU_34 fU_34 zU_34
                    intro hHeld
                    try simp only [Act.put, List.setIfInBounds_toArray, List.set_cons_zero, List.set_cons_succ]
                    refine wpAnyH_ready (rs := [75]) (by kernel_rfl) (by simp) ?_
                    refine AllReadyH.cons (o := ⟨some 194, .call _, _, _, _, _⟩) rfl (fun K hK => ?_) AllReadyH.nil
                    go_simp
                    refine (sval_eqS HB1.out _ O1.out).mono ?_
                    rintro e w35 ⟨rfl, hb35⟩
                    have B35 : Bl w w35 := bl_call B34 hb35
                    have xA_35 : Bx w35 (w1.heap.size) #[.slice a1 m1 k1, .slice b1 n1 l1, .slice c1 o1 q1] := xA_34.below hb35
                    have xB_35 : Bx w35 (w5.heap.size) #[.slice a2 m2 k2, .slice b2 n2 l2, .slice c2 o2 q2] := xB_34.below hb35
                    have xC_35 : Bx w35 (w9.heap.size) #[.slice a3 m3 k3, .slice b3 n3 l3, .slice c3 o3 q3] := xC_34.below hb35
                    have xD_35 : Bx w35 (w11.heap.size) #[.slice a4 m4 k4, .slice b4 n4 l4, .slice c4 o4 q4] := xD_34.below hb35
                    have xE_35 : Bx w35 (w13.heap.size) #[.slice a5 m5 k5, .slice b5 n5 l5, .slice c5 o5 q5] := xE_34.below hb35
                    have xF_35 : Bx w35 (w15.heap.size) #[.slice a6 m6 k6, .slice b6 n6 l6, .slice c6 o6 q6] := xF_34.below hb35
                    have xG_35 : Bx w35 (w18.heap.size) #[.slice a7 m7 k7, .slice b7 n7 l7, .slice c7 o7 q7] := xG_34.below hb35
                    have xX_35 : Bx w35 (w21.heap.size) #[.slice a8 m8 k8, .slice b8 n8 l8, .slice c8 o8 q8] := xX_34.below hb35
                    have xY_35 : Bx w35 (w23.heap.size) #[.slice a9 m9 k9, .slice b9 n9 l9, .slice c9 o9 q9] := xY_34.below hb35
                    have xS_35 : Bx w35 (w25.heap.size) #[.slice a10 s10.H.length k10, .slice b10 s10.P.length l10, .slice c10 s10.G.length q10] := xS_34.below hb35
                    have xU_35 : Bx w35 (w25.heap.size + 1) #[.slice a11 s11.H.length k11, .slice b11 s11.P.length l11, .slice c11 s11.G.length q11] := xU_34.below hb35
                    obtain ⟨cA_35, fA_35, zA_35⟩ := xA_35.out
                    obtain ⟨cB_35, fB_35, zB_35⟩ := xB_35.out
                    obtain ⟨cC_35, fC_35, zC_35⟩ := xC_35.out
                    obtain ⟨cD_35, fD_35, zD_35⟩ := xD_35.out
                    obtain ⟨cE_35, fE_35, zE_35⟩ := xE_35.out
                    obtain ⟨cF_35, fF_35, zF_35⟩ := xF_35.out
                    obtain ⟨cG_35, fG_35, zG_35⟩ := xG_35.out
                    obtain ⟨cX_35, fX_35, zX_35⟩ := xX_35.out
                    obtain ⟨cY_35, fY_35, zY_35⟩ := xY_35.out
                    obtain ⟨cS_35, fS_35, zS_35⟩ := xS_35.out
                    obtain ⟨cU_35, fU_35, zU_35⟩ := xU_35.out
                    have O1 : Hid (SlS w35 (.slice a1 m1 k1) (.slice b1 n1 l1) (.slice c1 o1 q1) s1) := Lib.hid ((O1.out.below (bl_refl w34)).below hb35)
                    have O2 : Hid (SlS w35 (.slice a2 m2 k2) (.slice b2 n2 l2) (.slice c2 o2 q2) s2) := Lib.hid ((O2.out.below (bl_refl w34)).below hb35)
                    have M1 : Hid (Sl w35 (.slice av1 L2.length cv1) L2) := Lib.hid ((M1.out.below (bl_refl w34)).below hb35)
                    have M2 : Hid (Sl w35 (.slice av2 L2.length cv2) L2) := Lib.hid ((M2.out.below (bl_refl w34)).below hb35)
                    have O3 : Hid (SlS w35 (.slice a3 m3 k3) (.slice b3 n3 l3) (.slice c3 o3 q3) s3) := Lib.hid ((O3.out.below (bl_refl w34)).below hb35)
                    have O4 : Hid (SlS w35 (.slice a4 m4 k4) (.slice b4 n4 l4) (.slice c4 o4 q4) t3) := Lib.hid ((O4.out.below (bl_refl w34)).below hb35)
                    have O5 : Hid (SlS w35 (.slice a5 m5 k5) (.slice b5 n5 l5) (.slice c5 o5 q5) t3) := Lib.hid ((O5.out.below (bl_refl w34)).below hb35)
                    have O6 : Hid (SlS w35 (.slice a6 m6 k6) (.slice b6 n6 l6) (.slice c6 o6 q6) s6) := Lib.hid ((O6.out.below (bl_refl w34)).below hb35)
                    have O7 : Hid (SlS w35 (.slice a7 m7 k7) (.slice b7 n7 l7) (.slice c7 o7 q7) s6) := Lib.hid ((O7.out.below (bl_refl w34)).below hb35)
                    have O8 : Hid (SlS w35 (.slice a8 m8 k8) (.slice b8 n8 l8) (.slice c8 o8 q8) s8) := Lib.hid ((O8.out.below (bl_refl w34)).below hb35)
                    have O9 : Hid (SlS w35 (.slice a9 m9 k9) (.slice b9 n9 l9) (.slice c9 o9 q9) s8) := Lib.hid ((O9.out.below (bl_refl w34)).below hb35)
                    have O10 : Hid (SlS w35 (.slice a10 s10.H.length k10) (.slice b10 s10.P.length l10) (.slice c10 s10.G.length q10) s10) := Lib.hid ((O10.out.below (bl_refl w34)).below hb35)
                    have O11 : Hid (SlS w35 (.slice a11 s11.H.length k11) (.slice b11 s11.P.length l11) (.slice c11 s11.G.length q11) s11) := Lib.hid ((O11.out.below (bl_refl w34)).below hb35)
                    have Rw35 : Bl w26 w35 := bl_call Rw34 hb35
                    go_wp2_with fail
                    refine hK.out _ _ ?_ ?_
                    · exact ⟨xD_35, xE_35, xF_35, xG_35, xX_35, xY_35, xS_35, xU_35, xA_35⟩
                    clear hK K hHeld cA_35 fA_35 zA_35 cB_35 fB_35 zB_35 cC_35 fC_35 zC_35 cD_35 fD_35 zD_35 cE_35 fE_35 zE_35 cF_35 fF_35 zF_35 cG_35 fG_35 zG_35 cX_35 fX_35 zX_35 cY_35 fY_35 zY_35 cS_35 fS_35 zS_35 cU_35 fU_35 zU_35
                    intro hHeld
                    try simp only [Act.put, List.setIfInBounds_toArray, List.set_cons_zero, List.set_cons_succ]
                    refine' wpAnyH_take (i := 76) (oi := ⟨some 195, .binOp _ _ _ _ _, _, _, _, _⟩) (v := _) rfl (by kernel_rfl) (by kernel_rfl) (by kernel_rfl) (fun _ _ _ h => h) (Or.inl ⟨by rfl, ?_⟩) hHeld ?_
                    rotate_left
                    · (intro wS _; go_simp; try with_reducible rfl)
                    simp only [Act.put, List.setIfInBounds_toArray, List.set_cons_zero, List.set_cons_succ]
                    refine' wpAnyH_take (i := 77) (oi := ⟨some 196, .pick _ _ _, _, _, _, _⟩) (v := _) rfl (by kernel_rfl) (by kernel_rfl) (by kernel_rfl) (fun _ _ _ h => h) (Or.inl ⟨by rfl, ?_⟩) hHeld ?_
                    rotate_left
                    · (intro wS _; go_simp; try with_reducible rfl)
                    simp only [Act.put, List.setIfInBounds_toArray, List.set_cons_zero, List.set_cons_succ]
                    refine wpAnyH_done (by kernel_rfl) ?_ _
                    go_wp2_with fail
                    go_meet
                    exact ⟨by first | rfl | simp, Rw35⟩
      · as_aux_lemma =>
          have e7 := HX7.out
          rw [hr6] at e7
          obtain ⟨rfl, rfl⟩ : (⟨[], [], []⟩ : Src) = s7 ∧ false = ok7 := ⟨(Prod.mk.inj e7).1, (Prod.mk.inj e7).2⟩
          clear e7 hr6
          obtain ⟨u10, hu10⟩ : ∃ b, sameSrc s10 s11 = b := ⟨_, rfl⟩
          have HB10 := Lib.hid hu10
          clear hu10
          obtain ⟨u1, hu1⟩ : ∃ b, okSrc s1 = b := ⟨_, rfl⟩
          have HB1 := Lib.hid hu1
          clear hu1
          have O1 : Hid (SlS w26.drew (.slice a1 m1 k1) (.slice b1 n1 l1) (.slice c1 o1 q1) s1) := Lib.hid (O1.out.below (bl_drew (bl_refl w26)))
          have O2 : Hid (SlS w26.drew (.slice a2 m2 k2) (.slice b2 n2 l2) (.slice c2 o2 q2) s2) := Lib.hid (O2.out.below (bl_drew (bl_refl w26)))
          have M1 : Hid (Sl w26.drew (.slice av1 L2.length cv1) L2) := Lib.hid (M1.out.below (bl_drew (bl_refl w26)))
          have M2 : Hid (Sl w26.drew (.slice av2 L2.length cv2) L2) := Lib.hid (M2.out.below (bl_drew (bl_refl w26)))
          have O3 : Hid (SlS w26.drew (.slice a3 m3 k3) (.slice b3 n3 l3) (.slice c3 o3 q3) s3) := Lib.hid (O3.out.below (bl_drew (bl_refl w26)))
          have O4 : Hid (SlS w26.drew (.slice a4 m4 k4) (.slice b4 n4 l4) (.slice c4 o4 q4) t3) := Lib.hid (O4.out.below (bl_drew (bl_refl w26)))
          have O5 : Hid (SlS w26.drew (.slice a5 m5 k5) (.slice b5 n5 l5) (.slice c5 o5 q5) t3) := Lib.hid (O5.out.below (bl_drew (bl_refl w26)))
          have O6 : Hid (SlS w26.drew (.slice a6 m6 k6) (.slice b6 n6 l6) (.slice c6 o6 q6) s6) := Lib.hid (O6.out.below (bl_drew (bl_refl w26)))
          have O7 : Hid (SlS w26.drew (.slice a7 m7 k7) (.slice b7 n7 l7) (.slice c7 o7 q7) ⟨[], [], []⟩) := Lib.hid (O7.out.below (bl_drew (bl_refl w26)))
          have O8 : Hid (SlS w26.drew (.slice a8 m8 k8) (.slice b8 n8 l8) (.slice c8 o8 q8) s8) := Lib.hid (O8.out.below (bl_drew (bl_refl w26)))
          have O9 : Hid (SlS w26.drew (.slice a9 m9 k9) (.slice b9 n9 l9) (.slice c9 o9 q9) s8) := Lib.hid (O9.out.below (bl_drew (bl_refl w26)))
          have O10 : Hid (SlS w26.drew (.slice a10 s10.H.length k10) (.slice b10 s10.P.length l10) (.slice c10 s10.G.length q10) s10) := Lib.hid (O10.out.below (bl_drew (bl_refl w26)))
          have O11 : Hid (SlS w26.drew (.slice a11 s11.H.length k11) (.slice b11 s11.P.length l11) (.slice c11 s11.G.length q11) s11) := Lib.hid (O11.out.below (bl_drew (bl_refl w26)))
          refine wp_region_held_drew (S := fun w' => Bx w' (w11.heap.size) #[.slice a4 m4 k4, .slice b4 n4 l4, .slice c4 o4 q4] ∧ Bx w' (w13.heap.size) #[.slice a5 m5 k5, .slice b5 n5 l5, .slice c5 o5 q5] ∧ Bx w' (w15.heap.size) #[.slice a6 m6 k6, .slice b6 n6 l6, .slice c6 o6 q6] ∧ Bx w' (w18.heap.size) #[.slice a7 m7 k7, .slice b7 n7 l7, .slice c7 o7 q7] ∧ Bx w' (w21.heap.size) #[.slice a8 m8 k8, .slice b8 n8 l8, .slice c8 o8 q8] ∧ Bx w' (w23.heap.size) #[.slice a9 m9 k9, .slice b9 n9 l9, .slice c9 o9 q9] ∧ Bx w' (w25.heap.size) #[.slice a10 s10.H.length k10, .slice b10 s10.P.length l10, .slice c10 s10.G.length q10] ∧ Bx w' (w25.heap.size + 1) #[.slice a11 s11.H.length k11, .slice b11 s11.P.length l11, .slice c11 s11.G.length q11] ∧ Bx w' (w1.heap.size) #[.slice a1 m1 k1, .slice b1 n1 l1, .slice c1 o1 q1]) (by kernel_rfl) ?_ (fun hHeld => ?_)
          · exact ⟨xD_26.drew, xE_26.drew, xF_26.drew, xG_26.drew, xX_26.drew, xY_26.drew, xS_26.drew, xU_26.drew, xA_26.drew⟩
          clear cA_26 fA_26 zA_26 cB_26 fB_26 zB_26 cC_26 fC_26 zC_26 cD_26 fD_26 zD_26 cE_26 fE_26 zE_26 cF_26 fF_26 zF_26 cG_26 fG_26 zG_26 cX_26 fX_26 zX_26 cY_26 fY_26 zY_26 cS_26 fS_26 zS_26 cU_26 fU_26 zU_26
          refine' wpAnyH_take (i := 0) (oi := ⟨some 119, .move _, _, _, _, _⟩) (v := _) rfl (by kernel_rfl) (by kernel_rfl) (by kernel_rfl) (fun _ _ _ h => h) (Or.inl ⟨by rfl, ?_⟩) hHeld ?_
          rotate_left
          · (intro wS _; go_simp; try with_reducible rfl)
          simp only [Act.put, List.setIfInBounds_toArray, List.set_cons_zero, List.set_cons_succ]
          refine' wpAnyH_take (i := 1) (oi := ⟨some 120, .move _, _, _, _, _⟩) (v := _) rfl (by kernel_rfl) (by kernel_rfl) (by kernel_rfl) (fun _ _ _ h => h) (Or.inl ⟨by rfl, ?_⟩) hHeld ?_
          rotate_left
          · (intro wS _; go_simp; try with_reducible rfl)
          simp only [Act.put, List.setIfInBounds_toArray, List.set_cons_zero, List.set_cons_succ]
          refine' wpAnyH_take (i := 2) (oi := ⟨some 121, .binOp _ _ _ _ _, _, _, _, _⟩) (v := _) rfl (by kernel_rfl) (by kernel_rfl) (by kernel_rfl) (fun _ _ _ h => h) (Or.inl ⟨by rfl, ?_⟩) hHeld ?_
          rotate_left
          · (intro wS _; go_simp; try with_reducible rfl)
          simp only [Act.put, List.setIfInBounds_toArray, List.set_cons_zero, List.set_cons_succ]
          refine' wpAnyH_take (i := 3) (oi := ⟨some 122, .move _, _, _, _, _⟩) (v := _) rfl (by kernel_rfl) (by kernel_rfl) (by kernel_rfl) (fun _ _ _ h => h) (Or.inl ⟨by rfl, ?_⟩) hHeld ?_
          rotate_left
          · (intro wS _; go_simp; try with_reducible rfl)
          simp only [Act.put, List.setIfInBounds_toArray, List.set_cons_zero, List.set_cons_succ]
          refine' wpAnyH_take (i := 4) (oi := ⟨some 123, .move _, _, _, _, _⟩) (v := _) rfl (by kernel_rfl) (by kernel_rfl) (by kernel_rfl) (fun _ _ _ h => h) (Or.inl ⟨by rfl, ?_⟩) hHeld ?_
          rotate_left
          · (intro wS _; go_simp; try with_reducible rfl)
          simp only [Act.put, List.setIfInBounds_toArray, List.set_cons_zero, List.set_cons_succ]
          refine' wpAnyH_take (i := 5) (oi := ⟨some 124, .move _, _, _, _, _⟩) (v := _) rfl (by kernel_rfl) (by kernel_rfl) (by kernel_rfl) (fun _ _ _ h => h) (Or.inl ⟨by rfl, ?_⟩) hHeld ?_
          rotate_left
          · (intro wS _; go_simp; try with_reducible rfl)
          simp only [Act.put, List.setIfInBounds_toArray, List.set_cons_zero, List.set_cons_succ]
          refine' wpAnyH_take (i := 6) (oi := ⟨some 125, .binOp _ _ _ _ _, _, _, _, _⟩) (v := _) rfl (by kernel_rfl) (by kernel_rfl) (by kernel_rfl) (fun _ _ _ h => h) (Or.inl ⟨by rfl, ?_⟩) hHeld ?_
          rotate_left
          · (intro wS _; go_simp; try with_reducible rfl)
          simp only [Act.put, List.setIfInBounds_toArray, List.set_cons_zero, List.set_cons_succ]
          refine' wpAnyH_take (i := 7) (oi := ⟨some 126, .pick _ _ _, _, _, _, _⟩) (v := _) rfl (by kernel_rfl) (by kernel_rfl) (by kernel_rfl) (fun _ _ _ h => h) (Or.inl ⟨by rfl, ?_⟩) hHeld ?_
          rotate_left
          · (intro wS _; go_simp; try with_reducible rfl)
          simp only [Act.put, List.setIfInBounds_toArray, List.set_cons_zero, List.set_cons_succ]
          refine' wpAnyH_take (i := 8) (oi := ⟨some 127, .move _, _, _, _, _⟩) (v := _) rfl (by kernel_rfl) (by kernel_rfl) (by kernel_rfl) (fun _ _ _ h => h) (Or.inl ⟨by rfl, ?_⟩) hHeld ?_
          rotate_left
          · (intro wS _; go_simp; try with_reducible rfl)
          simp only [Act.put, List.setIfInBounds_toArray, List.set_cons_zero, List.set_cons_succ]
          refine' wpAnyH_take (i := 9) (oi := ⟨some 128, .move _, _, _, _, _⟩) (v := _) rfl (by kernel_rfl) (by kernel_rfl) (by kernel_rfl) (fun _ _ _ h => h) (Or.inl ⟨by rfl, ?_⟩) hHeld ?_
          rotate_left
          · (intro wS _; go_simp; try with_reducible rfl)
          simp only [Act.put, List.setIfInBounds_toArray, List.set_cons_zero, List.set_cons_succ]
          refine' wpAnyH_take (i := 10) (oi := ⟨some 129, .move _, _, _, _, _⟩) (v := _) rfl (by kernel_rfl) (by kernel_rfl) (by kernel_rfl) (fun _ _ _ h => h) (Or.inl ⟨by rfl, ?_⟩) hHeld ?_
          rotate_left
          · (intro wS _; go_simp; try with_reducible rfl)
          simp only [Act.put, List.setIfInBounds_toArray, List.set_cons_zero, List.set_cons_succ]
          refine' wpAnyH_take (i := 11) (oi := ⟨some 130, .binOp _ _ _ _ _, _, _, _, _⟩) (v := _) rfl (by kernel_rfl) (by kernel_rfl) (by kernel_rfl) (fun _ _ _ h => h) (Or.inl ⟨by rfl, ?_⟩) hHeld ?_
          rotate_left
          · (intro wS _; go_simp; try with_reducible rfl)
          simp only [Act.put, List.setIfInBounds_toArray, List.set_cons_zero, List.set_cons_succ]
          refine' wpAnyH_take (i := 12) (oi := ⟨some 131, .pick _ _ _, _, _, _, _⟩) (v := _) rfl (by kernel_rfl) (by kernel_rfl) (by kernel_rfl) (fun _ _ _ h => h) (Or.inl ⟨by rfl, ?_⟩) hHeld ?_
          rotate_left
          · (intro wS _; go_simp; try with_reducible rfl)
          simp only [Act.put, List.setIfInBounds_toArray, List.set_cons_zero, List.set_cons_succ]
          as_aux_lemma =>
            refine' wpAnyH_take (i := 13) (oi := ⟨some 132, .move _, _, _, _, _⟩) (v := _) rfl (by kernel_rfl) (by kernel_rfl) (by kernel_rfl) (fun _ _ _ h => h) (Or.inl ⟨by rfl, ?_⟩) hHeld ?_
            rotate_left
            · (intro wS _; go_simp; try with_reducible rfl)
            simp only [Act.put, List.setIfInBounds_toArray, List.set_cons_zero, List.set_cons_succ]
            refine' wpAnyH_take (i := 14) (oi := ⟨some 133, .move _, _, _, _, _⟩) (v := _) rfl (by kernel_rfl) (by kernel_rfl) (by kernel_rfl) (fun _ _ _ h => h) (Or.inl ⟨by rfl, ?_⟩) hHeld ?_
            rotate_left
            · (intro wS _; go_simp; try with_reducible rfl)
            simp only [Act.put, List.setIfInBounds_toArray, List.set_cons_zero, List.set_cons_succ]
            refine' wpAnyH_take (i := 15) (oi := ⟨some 134, .move _, _, _, _, _⟩) (v := _) rfl (by kernel_rfl) (by kernel_rfl) (by kernel_rfl) (fun _ _ _ h => h) (Or.inl ⟨by rfl, ?_⟩) hHeld ?_
            rotate_left
            · (intro wS _; go_simp; try with_reducible rfl)
            simp only [Act.put, List.setIfInBounds_toArray, List.set_cons_zero, List.set_cons_succ]
            refine wpAnyH_ready (rs := [16]) (by kernel_rfl) (by simp) ?_
            refine AllReadyH.cons (o := ⟨some 135, .call _, _, _, _, _⟩) rfl (fun K hK => ?_) AllReadyH.nil
            go_simp
            refine (f6_selfS _ M1.out M2.out).mono ?_
            rintro e w27 ⟨rfl, hb27⟩
            have B27 : Bl w w27 := bl_call (bl_drew B26) hb27
            have xA_27 : Bx w27 (w1.heap.size) #[.slice a1 m1 k1, .slice b1 n1 l1, .slice c1 o1 q1] := xA_26.drew.below hb27
            have xB_27 : Bx w27 (w5.heap.size) #[.slice a2 m2 k2, .slice b2 n2 l2, .slice c2 o2 q2] := xB_26.drew.below hb27
            have xC_27 : Bx w27 (w9.heap.size) #[.slice a3 m3 k3, .slice b3 n3 l3, .slice c3 o3 q3] := xC_26.drew.below hb27
            have xD_27 : Bx w27 (w11.heap.size) #[.slice a4 m4 k4, .slice b4 n4 l4, .slice c4 o4 q4] := xD_26.drew.below hb27
            have xE_27 : Bx w27 (w13.heap.size) #[.slice a5 m5 k5, .slice b5 n5 l5, .slice c5 o5 q5] := xE_26.drew.below hb27
            have xF_27 : Bx w27 (w15.heap.size) #[.slice a6 m6 k6, .slice b6 n6 l6, .slice c6 o6 q6] := xF_26.drew.below hb27
            have xG_27 : Bx w27 (w18.heap.size) #[.slice a7 m7 k7, .slice b7 n7 l7, .slice c7 o7 q7] := xG_26.drew.below hb27
            have xX_27 : Bx w27 (w21.heap.size) #[.slice a8 m8 k8, .slice b8 n8 l8, .slice c8 o8 q8] := xX_26.drew.below hb27
            have xY_27 : Bx w27 (w23.heap.size) #[.slice a9 m9 k9, .slice b9 n9 l9, .slice c9 o9 q9] := xY_26.drew.below hb27
            have xS_27 : Bx w27 (w25.heap.size) #[.slice a10 s10.H.length k10, .slice b10 s10.P.length l10, .slice c10 s10.G.length q10] := xS_26.drew.below hb27
            have xU_27 : Bx w27 (w25.heap.size + 1) #[.slice a11 s11.H.length k11, .slice b11 s11.P.length l11, .slice c11 s11.G.length q11] := xU_26.drew.below hb27
            obtain ⟨cA_27, fA_27, zA_27⟩ := xA_27.out
            obtain ⟨cB_27, fB_27, zB_27⟩ := xB_27.out
            obtain ⟨cC_27, fC_27, zC_27⟩ := xC_27.out
            obtain ⟨cD_27, fD_27, zD_27⟩ := xD_27.out
            obtain ⟨cE_27, fE_27, zE_27⟩ := xE_27.out
            obtain ⟨cF_27, fF_27, zF_27⟩ := xF_27.out
            obtain ⟨cG_27, fG_27, zG_27⟩ := xG_27.out
            obtain ⟨cX_27, fX_27, zX_27⟩ := xX_27.out
            obtain ⟨cY_27, fY_27, zY_27⟩ := xY_27.out
            obtain ⟨cS_27, fS_27, zS_27⟩ := xS_27.out
            obtain ⟨cU_27, fU_27, zU_27⟩ := xU_27.out
            have O1 : Hid (SlS w27 (.slice a1 m1 k1) (.slice b1 n1 l1) (.slice c1 o1 q1) s1) := Lib.hid ((O1.out.below (bl_refl w26.drew)).below hb27)
            have O2 : Hid (SlS w27 (.slice a2 m2 k2) (.slice b2 n2 l2) (.slice c2 o2 q2) s2) := Lib.hid ((O2.out.below (bl_refl w26.drew)).below hb27)
            have M1 : Hid (Sl w27 (.slice av1 L2.length cv1) L2) := Lib.hid ((M1.out.below (bl_refl w26.drew)).below hb27)
            have M2 : Hid (Sl w27 (.slice av2 L2.length cv2) L2) := Lib.hid ((M2.out.below (bl_refl w26.drew)).below hb27)
            have O3 : Hid (SlS w27 (.slice a3 m3 k3) (.slice b3 n3 l3) (.slice c3 o3 q3) s3) := Lib.hid ((O3.out.below (bl_refl w26.drew)).below hb27)
            have O4 : Hid (SlS w27 (.slice a4 m4 k4) (.slice b4 n4 l4) (.slice c4 o4 q4) t3) := Lib.hid ((O4.out.below (bl_refl w26.drew)).below hb27)
            have O5 : Hid (SlS w27 (.slice a5 m5 k5) (.slice b5 n5 l5) (.slice c5 o5 q5) t3) := Lib.hid ((O5.out.below (bl_refl w26.drew)).below hb27)
            have O6 : Hid (SlS w27 (.slice a6 m6 k6) (.slice b6 n6 l6) (.slice c6 o6 q6) s6) := Lib.hid ((O6.out.below (bl_refl w26.drew)).below hb27)
            have O7 : Hid (SlS w27 (.slice a7 m7 k7) (.slice b7 n7 l7) (.slice c7 o7 q7) ⟨[], [], []⟩) := Lib.hid ((O7.out.below (bl_refl w26.drew)).below hb27)
            have O8 : Hid (SlS w27 (.slice a8 m8 k8) (.slice b8 n8 l8) (.slice c8 o8 q8) s8) := Lib.hid ((O8.out.below (bl_refl w26.drew)).below hb27)
            have O9 : Hid (SlS w27 (.slice a9 m9 k9) (.slice b9 n9 l9) (.slice c9 o9 q9) s8) := Lib.hid ((O9.out.below (bl_refl w26.drew)).below hb27)
            have O10 : Hid (SlS w27 (.slice a10 s10.H.length k10) (.slice b10 s10.P.length l10) (.slice c10 s10.G.length q10) s10) := Lib.hid ((O10.out.below (bl_refl w26.drew)).below hb27)
            have O11 : Hid (SlS w27 (.slice a11 s11.H.length k11) (.slice b11 s11.P.length l11) (.slice c11 s11.G.length q11) s11) := Lib.hid ((O11.out.below (bl_refl w26.drew)).below hb27)
            have Rw27 : Bl w26 w27 := bl_call (bl_drew (bl_refl w26)) hb27
            go_wp2_with fail
            refine hK.out _ _ ?_ ?_
            · exact ⟨xD_27, xE_27, xF_27, xG_27, xX_27, xY_27, xS_27, xU_27, xA_27⟩
            clear hK K hHeld cA_27 fA_27 zA_27 cB_27 fB_27 zB_27 cC_27 fC_27 zC_27 cD_27 fD_27 zD_27 cE_27 fE_27 zE_27 cF_27 fF_27 zF_27 cG_27 fG_27 zG_27 cX_27 fX_27 zX_27 cY_27 fY_27 zY_27 cS_27 fS_27 zS_27 cU_27 fU_27 zU_27
            intro hHeld
            try simp only [Act.put, List.setIfInBounds_toArray, List.set_cons_zero, List.set_cons_succ]
            refine' wpAnyH_take (i := 17) (oi := ⟨some 136, .unOp _ _ _, _, _, _, _⟩) (v := _) rfl (by kernel_rfl) (by kernel_rfl) (by kernel_rfl) (fun _ _ _ h => h) (Or.inl ⟨by rfl, ?_⟩) hHeld ?_
            rotate_left
            · (intro wS _; go_simp; try with_reducible rfl)
            simp only [Act.put, List.setIfInBounds_toArray, List.set_cons_zero, List.set_cons_succ]
            refine' wpAnyH_take (i := 18) (oi := ⟨some 137, .pick _ _ _, _, _, _, _⟩) (v := _) rfl (by kernel_rfl) (by kernel_rfl) (by kernel_rfl) (fun _ _ _ h => h) (Or.inl ⟨by rfl, ?_⟩) hHeld ?_
            rotate_left
            · (intro wS _; go_simp; try with_reducible rfl)
            simp only [Act.put, List.setIfInBounds_toArray, List.set_cons_zero, List.set_cons_succ]
            refine' wpAnyH_take (i := 19) (oi := ⟨some 138, .move _, _, _, _, _⟩) (v := _) rfl (by kernel_rfl) (by kernel_rfl) (by kernel_rfl) (fun _ _ _ h => h) (Or.inl ⟨by rfl, ?_⟩) hHeld ?_
            rotate_left
            · (intro wS _; go_simp; try with_reducible rfl)
            simp only [Act.put, List.setIfInBounds_toArray, List.set_cons_zero, List.set_cons_succ]
            refine' wpAnyH_take (i := 20) (oi := ⟨some 139, .move _, _, _, _, _⟩) (v := _) rfl (by kernel_rfl) (by kernel_rfl) (by kernel_rfl) (fun _ _ _ h => h) (Or.inl ⟨by rfl, ?_⟩) hHeld ?_
            rotate_left
            · (intro wS _; go_simp; try with_reducible rfl)
            simp only [Act.put, List.setIfInBounds_toArray, List.set_cons_zero, List.set_cons_succ]
            refine' wpAnyH_take (i := 21) (oi := ⟨some 140, .move _, _, _, _, _⟩) (v := _) rfl (by kernel_rfl) (by kernel_rfl) (by kernel_rfl) (fun _ _ _ h => h) (Or.inl ⟨by rfl, ?_⟩) hHeld ?_
            rotate_left
            · (intro wS _; go_simp; try with_reducible rfl)
            simp only [Act.put, List.setIfInBounds_toArray, List.set_cons_zero, List.set_cons_succ]
            refine' wpAnyH_take (i := 22) (oi := ⟨some 141, .binOp _ _ _ _ _, _, _, _, _⟩) (v := _) rfl (by kernel_rfl) (by kernel_rfl) (by kernel_rfl) (fun _ _ _ h => h) (Or.inl ⟨by rfl, ?_⟩) hHeld ?_
            rotate_left
            · (intro wS _; go_simp; try with_reducible rfl)
            simp only [Act.put, List.setIfInBounds_toArray, List.set_cons_zero, List.set_cons_succ]
            refine' wpAnyH_take (i := 23) (oi := ⟨some 142, .pick _ _ _, _, _, _, _⟩) (v := _) rfl (by kernel_rfl) (by kernel_rfl) (by kernel_rfl) (fun _ _ _ h => h) (Or.inl ⟨by rfl, ?_⟩) hHeld ?_
            rotate_left
            · (intro wS _; go_simp; try with_reducible rfl)
            simp only [Act.put, List.setIfInBounds_toArray, List.set_cons_zero, List.set_cons_succ]
            refine' wpAnyH_take (i := 24) (oi := ⟨some 143, .move _, _, _, _, _⟩) (v := _) rfl (by kernel_rfl) (by kernel_rfl) (by kernel_rfl) (fun _ _ _ h => h) (Or.inl ⟨by rfl, ?_⟩) hHeld ?_
            rotate_left
            · (intro wS _; go_simp; try with_reducible rfl)
            simp only [Act.put, List.setIfInBounds_toArray, List.set_cons_zero, List.set_cons_succ]
            refine' wpAnyH_take (i := 25) (oi := ⟨some 144, .load _ _, _, _, _, _⟩) (v := _) rfl (by kernel_rfl) (by kernel_rfl) (by kernel_rfl) (fun _ _ _ h => h) (Or.inl ⟨by rfl, ?_⟩) hHeld ?_
            rotate_left
            · (intro wS hSw; obtain ⟨cS, fS, zS⟩ := hSw.1.out; clear hSw; go_simp; try with_reducible rfl)
            simp only [Act.put, List.setIfInBounds_toArray, List.set_cons_zero, List.set_cons_succ]
            as_aux_lemma =>
              refine' wpAnyH_take (i := 26) (oi := ⟨some 145, .load _ _, _, _, _, _⟩) (v := _) rfl (by kernel_rfl) (by kernel_rfl) (by kernel_rfl) (fun _ _ _ h => h) (Or.inl ⟨by rfl, ?_⟩) hHeld ?_
              rotate_left
              · (intro wS hSw; obtain ⟨cS, fS, zS⟩ := hSw.2.1.out; clear hSw; go_simp; try with_reducible rfl)
              simp only [Act.put, List.setIfInBounds_toArray, List.set_cons_zero, List.set_cons_succ]
              refine wpAnyH_ready (rs := [27]) (by kernel_rfl) (by simp) ?_
              refine AllReadyH.cons (o := ⟨some 146, .call _, _, _, _, _⟩) rfl (fun K hK => ?_) AllReadyH.nil
              go_simp
              refine (ssame_selfS _ O4.out O5.out).mono ?_
              rintro e w28 ⟨rfl, hb28⟩
              have B28 : Bl w w28 := bl_call B27 hb28
              have xA_28 : Bx w28 (w1.heap.size) #[.slice a1 m1 k1, .slice b1 n1 l1, .slice c1 o1 q1] := xA_27.below hb28
              have xB_28 : Bx w28 (w5.heap.size) #[.slice a2 m2 k2, .slice b2 n2 l2, .slice c2 o2 q2] := xB_27.below hb28
              have xC_28 : Bx w28 (w9.heap.size) #[.slice a3 m3 k3, .slice b3 n3 l3, .slice c3 o3 q3] := xC_27.below hb28
              have xD_28 : Bx w28 (w11.heap.size) #[.slice a4 m4 k4, .slice b4 n4 l4, .slice c4 o4 q4] := xD_27.below hb28
              have xE_28 : Bx w28 (w13.heap.size) #[.slice a5 m5 k5, .slice b5 n5 l5, .slice c5 o5 q5] := xE_27.below hb28
              have xF_28 : Bx w28 (w15.heap.size) #[.slice a6 m6 k6, .slice b6 n6 l6, .slice c6 o6 q6] := xF_27.below hb28
              have xG_28 : Bx w28 (w18.heap.size) #[.slice a7 m7 k7, .slice b7 n7 l7, .slice c7 o7 q7] := xG_27.below hb28
              have xX_28 : Bx w28 (w21.heap.size) #[.slice a8 m8 k8, .slice b8 n8 l8, .slice c8 o8 q8] := xX_27.below hb28
              have xY_28 : Bx w28 (w23.heap.size) #[.slice a9 m9 k9, .slice b9 n9 l9, .slice c9 o9 q9] := xY_27.below hb28
              have xS_28 : Bx w28 (w25.heap.size) #[.slice a10 s10.H.length k10, .slice b10 s10.P.length l10, .slice c10 s10.G.length q10] := xS_27.below hb28
              have xU_28 : Bx w28 (w25.heap.size + 1) #[.slice a11 s11.H.length k11, .slice b11 s11.P.length l11, .slice c11 s11.G.length q11] := xU_27.below hb28
              obtain ⟨cA_28, fA_28, zA_28⟩ := xA_28.out
              obtain ⟨cB_28, fB_28, zB_28⟩ := xB_28.out
              obtain ⟨cC_28, fC_28, zC_28⟩ := xC_28.out
              obtain ⟨cD_28, fD_28, zD_28⟩ := xD_28.out
              obtain ⟨cE_28, fE_28, zE_28⟩ := xE_28.out
              obtain ⟨cF_28, fF_28, zF_28⟩ := xF_28.out
              obtain ⟨cG_28, fG_28, zG_28⟩ := xG_28.out
              obtain ⟨cX_28, fX_28, zX_28⟩ := xX_28.out
              obtain ⟨cY_28, fY_28, zY_28⟩ := xY_28.out
              obtain ⟨cS_28, fS_28, zS_28⟩ := xS_28.out
              obtain ⟨cU_28, fU_28, zU_28⟩ := xU_28.out
              have O1 : Hid (SlS w28 (.slice a1 m1 k1) (.slice b1 n1 l1) (.slice c1 o1 q1) s1) := Lib.hid ((O1.out.below (bl_refl w27)).below hb28)
              have O2 : Hid (SlS w28 (.slice a2 m2 k2) (.slice b2 n2 l2) (.slice c2 o2 q2) s2) := Lib.hid ((O2.out.below (bl_refl w27)).below hb28)
              have M1 : Hid (Sl w28 (.slice av1 L2.length cv1) L2) := Lib.hid ((M1.out.below (bl_refl w27)).below hb28)
              have M2 : Hid (Sl w28 (.slice av2 L2.length cv2) L2) := Lib.hid ((M2.out.below (bl_refl w27)).below hb28)
              have O3 : Hid (SlS w28 (.slice a3 m3 k3) (.slice b3 n3 l3) (.slice c3 o3 q3) s3) := Lib.hid ((O3.out.below (bl_refl w27)).below hb28)
              have O4 : Hid (SlS w28 (.slice a4 m4 k4) (.slice b4 n4 l4) (.slice c4 o4 q4) t3) := Lib.hid ((O4.out.below (bl_refl w27)).below hb28)
              have O5 : Hid (SlS w28 (.slice a5 m5 k5) (.slice b5 n5 l5) (.slice c5 o5 q5) t3) := Lib.hid ((O5.out.below (bl_refl w27)).below hb28)
              have O6 : Hid (SlS w28 (.slice a6 m6 k6) (.slice b6 n6 l6) (.slice c6 o6 q6) s6) := Lib.hid ((O6.out.below (bl_refl w27)).below hb28)
              have O7 : Hid (SlS w28 (.slice a7 m7 k7) (.slice b7 n7 l7) (.slice c7 o7 q7) ⟨[], [], []⟩) := Lib.hid ((O7.out.below (bl_refl w27)).below hb28)
              have O8 : Hid (SlS w28 (.slice a8 m8 k8) (.slice b8 n8 l8) (.slice c8 o8 q8) s8) := Lib.hid ((O8.out.below (bl_refl w27)).below hb28)
              have O9 : Hid (SlS w28 (.slice a9 m9 k9) (.slice b9 n9 l9) (.slice c9 o9 q9) s8) := Lib.hid ((O9.out.below (bl_refl w27)).below hb28)
              have O10 : Hid (SlS w28 (.slice a10 s10.H.length k10) (.slice b10 s10.P.length l10) (.slice c10 s10.G.length q10) s10) := Lib.hid ((O10.out.below (bl_refl w27)).below hb28)
              have O11 : Hid (SlS w28 (.slice a11 s11.H.length k11) (.slice b11 s11.P.length l11) (.slice c11 s11.G.length q11) s11) := Lib.hid ((O11.out.below (bl_refl w27)).below hb28)
              have Rw28 : Bl w26 w28 := bl_call Rw27 hb28
              go_wp2_with fail
              refine hK.out _ _ ?_ ?_
              · exact ⟨xD_28, xE_28, xF_28, xG_28, xX_28, xY_28, xS_28, xU_28, xA_28⟩
              clear hK K hHeld cA_28 fA_28 zA_28 cB_28 fB_28 zB_28 cC_28 fC_28 zC_28 cD_28 fD_28 zD_28 cE_28 fE_28 zE_28 cF_28 fF_28 zF_28 cG_28 fG_28 zG_28 cX_28 fX_28 zX_28 cY_28 fY_28 zY_28 cS_28 fS_28 zS_28 cU_28 fU_28 zU_28
              intro hHeld
              try simp only [Act.put, List.setIfInBounds_toArray, List.set_cons_zero, List.set_cons_succ]
              refine' wpAnyH_take (i := 28) (oi := ⟨some 147, .unOp _ _ _, _, _, _, _⟩) (v := _) rfl (by kernel_rfl) (by kernel_rfl) (by kernel_rfl) (fun _ _ _ h => h) (Or.inl ⟨by rfl, ?_⟩) hHeld ?_
              rotate_left
              · (intro wS _; go_simp; try with_reducible rfl)
              simp only [Act.put, List.setIfInBounds_toArray, List.set_cons_zero, List.set_cons_succ]
              refine' wpAnyH_take (i := 29) (oi := ⟨some 148, .pick _ _ _, _, _, _, _⟩) (v := _) rfl (by kernel_rfl) (by kernel_rfl) (by kernel_rfl) (fun _ _ _ h => h) (Or.inl ⟨by rfl, ?_⟩) hHeld ?_
              rotate_left
              · (intro wS _; go_simp; try with_reducible rfl)
              simp only [Act.put, List.setIfInBounds_toArray, List.set_cons_zero, List.set_cons_succ]
              refine' wpAnyH_take (i := 30) (oi := ⟨some 149, .move _, _, _, _, _⟩) (v := _) rfl (by kernel_rfl) (by kernel_rfl) (by kernel_rfl) (fun _ _ _ h => h) (Or.inl ⟨by rfl, ?_⟩) hHeld ?_
              rotate_left
              · (intro wS _; go_simp; try with_reducible rfl)
              simp only [Act.put, List.setIfInBounds_toArray, List.set_cons_zero, List.set_cons_succ]
              refine' wpAnyH_take (i := 31) (oi := ⟨some 150, .move _, _, _, _, _⟩) (v := _) rfl (by kernel_rfl) (by kernel_rfl) (by kernel_rfl) (fun _ _ _ h => h) (Or.inl ⟨by rfl, ?_⟩) hHeld ?_
              rotate_left
              · (intro wS _; go_simp; try with_reducible rfl)
              simp only [Act.put, List.setIfInBounds_toArray, List.set_cons_zero, List.set_cons_succ]
              refine' wpAnyH_take (i := 32) (oi := ⟨some 151, .load _ _, _, _, _, _⟩) (v := _) rfl (by kernel_rfl) (by kernel_rfl) (by kernel_rfl) (fun _ _ _ h => h) (Or.inl ⟨by rfl, ?_⟩) hHeld ?_
              rotate_left
              · (intro wS hSw; obtain ⟨cS, fS, zS⟩ := hSw.2.2.1.out; clear hSw; go_simp; try with_reducible rfl)
              simp only [Act.put, List.setIfInBounds_toArray, List.set_cons_zero, List.set_cons_succ]
              refine wpAnyH_ready (rs := [33]) (by kernel_rfl) (by simp) ?_
              refine AllReadyH.cons (o := ⟨some 152, .call _, _, _, _, _⟩) rfl (fun K hK => ?_) AllReadyH.nil
              go_simp
              refine (sst_eq HT6.out _ O6.out).mono ?_
              rintro e w29 ⟨rfl, hb29⟩
              have B29 : Bl w w29 := bl_call B28 hb29
              have xA_29 : Bx w29 (w1.heap.size) #[.slice a1 m1 k1, .slice b1 n1 l1, .slice c1 o1 q1] := xA_28.below hb29
              have xB_29 : Bx w29 (w5.heap.size) #[.slice a2 m2 k2, .slice b2 n2 l2, .slice c2 o2 q2] := xB_28.below hb29
              have xC_29 : Bx w29 (w9.heap.size) #[.slice a3 m3 k3, .slice b3 n3 l3, .slice c3 o3 q3] := xC_28.below hb29
              have xD_29 : Bx w29 (w11.heap.size) #[.slice a4 m4 k4, .slice b4 n4 l4, .slice c4 o4 q4] := xD_28.below hb29
              have xE_29 : Bx w29 (w13.heap.size) #[.slice a5 m5 k5, .slice b5 n5 l5, .slice c5 o5 q5] := xE_28.below hb29
              have xF_29 : Bx w29 (w15.heap.size) #[.slice a6 m6 k6, .slice b6 n6 l6, .slice c6 o6 q6] := xF_28.below hb29
              have xG_29 : Bx w29 (w18.heap.size) #[.slice a7 m7 k7, .slice b7 n7 l7, .slice c7 o7 q7] := xG_28.below hb29
              have xX_29 : Bx w29 (w21.heap.size) #[.slice a8 m8 k8, .slice b8 n8 l8, .slice c8 o8 q8] := xX_28.below hb29
              have xY_29 : Bx w29 (w23.heap.size) #[.slice a9 m9 k9, .slice b9 n9 l9, .slice c9 o9 q9] := xY_28.below hb29
              have xS_29 : Bx w29 (w25.heap.size) #[.slice a10 s10.H.length k10, .slice b10 s10.P.length l10, .slice c10 s10.G.length q10] := xS_28.below hb29
              have xU_29 : Bx w29 (w25.heap.size + 1) #[.slice a11 s11.H.length k11, .slice b11 s11.P.length l11, .slice c11 s11.G.length q11] := xU_28.below hb29
              obtain ⟨cA_29, fA_29, zA_29⟩ := xA_29.out
              obtain ⟨cB_29, fB_29, zB_29⟩ := xB_29.out
              obtain ⟨cC_29, fC_29, zC_29⟩ := xC_29.out
              obtain ⟨cD_29, fD_29, zD_29⟩ := xD_29.out
              obtain ⟨cE_29, fE_29, zE_29⟩ := xE_29.out
              obtain ⟨cF_29, fF_29, zF_29⟩ := xF_29.out
              obtain ⟨cG_29, fG_29, zG_29⟩ := xG_29.out
              obtain ⟨cX_29, fX_29, zX_29⟩ := xX_29.out
              obtain ⟨cY_29, fY_29, zY_29⟩ := xY_29.out
              obtain ⟨cS_29, fS_29, zS_29⟩ := xS_29.out
              obtain ⟨cU_29, fU_29, zU_29⟩ := xU_29.out
              have O1 : Hid (SlS w29 (.slice a1 m1 k1) (.slice b1 n1 l1) (.slice c1 o1 q1) s1) := Lib.hid ((O1.out.below (bl_refl w28)).below hb29)
              have O2 : Hid (SlS w29 (.slice a2 m2 k2) (.slice b2 n2 l2) (.slice c2 o2 q2) s2) := Lib.hid ((O2.out.below (bl_refl w28)).below hb29)
              have M1 : Hid (Sl w29 (.slice av1 L2.length cv1) L2) := Lib.hid ((M1.out.below (bl_refl w28)).below hb29)
              have M2 : Hid (Sl w29 (.slice av2 L2.length cv2) L2) := Lib.hid ((M2.out.below (bl_refl w28)).below hb29)
              have O3 : Hid (SlS w29 (.slice a3 m3 k3) (.slice b3 n3 l3) (.slice c3 o3 q3) s3) := Lib.hid ((O3.out.below (bl_refl w28)).below hb29)
              have O4 : Hid (SlS w29 (.slice a4 m4 k4) (.slice b4 n4 l4) (.slice c4 o4 q4) t3) := Lib.hid ((O4.out.below (bl_refl w28)).below hb29)
              have O5 : Hid (SlS w29 (.slice a5 m5 k5) (.slice b5 n5 l5) (.slice c5 o5 q5) t3) := Lib.hid ((O5.out.below (bl_refl w28)).below hb29)
              have O6 : Hid (SlS w29 (.slice a6 m6 k6) (.slice b6 n6 l6) (.slice c6 o6 q6) s6) := Lib.hid ((O6.out.below (bl_refl w28)).below hb29)
              have O7 : Hid (SlS w29 (.slice a7 m7 k7) (.slice b7 n7 l7) (.slice c7 o7 q7) ⟨[], [], []⟩) := Lib.hid ((O7.out.below (bl_refl w28)).below hb29)
              have O8 : Hid (SlS w29 (.slice a8 m8 k8) (.slice b8 n8 l8) (.slice c8 o8 q8) s8) := Lib.hid ((O8.out.below (bl_refl w28)).below hb29)
              have O9 : Hid (SlS w29 (.slice a9 m9 k9) (.slice b9 n9 l9) (.slice c9 o9 q9) s8) := Lib.hid ((O9.out.below (bl_refl w28)).below hb29)
              have O10 : Hid (SlS w29 (.slice a10 s10.H.length k10) (.slice b10 s10.P.length l10) (.slice c10 s10.G.length q10) s10) := Lib.hid ((O10.out.below (bl_refl w28)).below hb29)
              have O11 : Hid (SlS w29 (.slice a11 s11.H.length k11) (.slice b11 s11.P.length l11) (.slice c11 s11.G.length q11) s11) := Lib.hid ((O11.out.below (bl_refl w28)).below hb29)
              have Rw29 : Bl w26 w29 := bl_call Rw28 hb29
              go_wp2_with fail
              refine hK.out _ _ ?_ ?_
              · exact ⟨xD_29, xE_29, xF_29, xG_29, xX_29, xY_29, xS_29, xU_29, xA_29⟩
              clear hK K hHeld cA_29 fA_29 zA_29 cB_29 fB_29 zB_29 cC_29 fC_29 zC_29 cD_29 fD_29 zD_29 cE_29 fE_29 zE_29 cF_29 fF_29 zF_29 cG_29 fG_29 zG_29 cX_29 fX_29 zX_29 cY_29 fY_29 zY_29 cS_29 fS_29 zS_29 cU_29 fU_29 zU_29
              intro hHeld
              try simp only [Act.put, List.setIfInBounds_toArray, List.set_cons_zero, List.set_cons_succ]
              refine' wpAnyH_take (i := 34) (oi := ⟨some 153, .binOp _ _ _ _ _, _, _, _, _⟩) (v := _) rfl (by kernel_rfl) (by kernel_rfl) (by kernel_rfl) (fun _ _ _ h => h) (Or.inl ⟨by rfl, ?_⟩) hHeld ?_
              rotate_left
              · (intro wS _; go_simp; try with_reducible rfl)
              simp only [Act.put, List.setIfInBounds_toArray, List.set_cons_zero, List.set_cons_succ]
              refine' wpAnyH_take (i := 35) (oi := ⟨some 154, .pick _ _ _, _, _, _, _⟩) (v := _) rfl (by kernel_rfl) (by kernel_rfl) (by kernel_rfl) (fun _ _ _ h => h) (Or.inl ⟨by rfl, ?_⟩) hHeld ?_
              rotate_left
              · (intro wS _; go_simp; try with_reducible rfl)
              simp only [Act.put, List.setIfInBounds_toArray, List.set_cons_zero, List.set_cons_succ]
              refine' wpAnyH_take (i := 36) (oi := ⟨some 155, .move _, _, _, _, _⟩) (v := _) rfl (by kernel_rfl) (by kernel_rfl) (by kernel_rfl) (fun _ _ _ h => h) (Or.inl ⟨by rfl, ?_⟩) hHeld ?_
              rotate_left
              · (intro wS _; go_simp; try with_reducible rfl)
              simp only [Act.put, List.setIfInBounds_toArray, List.set_cons_zero, List.set_cons_succ]
              refine' wpAnyH_take (i := 37) (oi := ⟨some 156, .move _, _, _, _, _⟩) (v := _) rfl (by kernel_rfl) (by kernel_rfl) (by kernel_rfl) (fun _ _ _ h => h) (Or.inl ⟨by rfl, ?_⟩) hHeld ?_
              rotate_left
              · (intro wS _; go_simp; try with_reducible rfl)
              simp only [Act.put, List.setIfInBounds_toArray, List.set_cons_zero, List.set_cons_succ]
              refine' wpAnyH_take (i := 38) (oi := ⟨some 157, .move _, _, _, _, _⟩) (v := _) rfl (by kernel_rfl) (by kernel_rfl) (by kernel_rfl) (fun _ _ _ h => h) (Or.inl ⟨by rfl, ?_⟩) hHeld ?_
              rotate_left
              · (intro wS _; go_simp; try with_reducible rfl)
              simp only [Act.put, List.setIfInBounds_toArray, List.set_cons_zero, List.set_cons_succ]
              as_aux_lemma =>
                refine' wpAnyH_take (i := 39) (oi := ⟨some 158, .binOp _ _ _ _ _, _, _, _, _⟩) (v := _) rfl (by kernel_rfl) (by kernel_rfl) (by kernel_rfl) (fun _ _ _ h => h) (Or.inl ⟨by rfl, ?_⟩) hHeld ?_
                rotate_left
                · (intro wS _; go_simp; try with_reducible rfl)
                simp only [Act.put, List.setIfInBounds_toArray, List.set_cons_zero, List.set_cons_succ]
                refine' wpAnyH_take (i := 40) (oi := ⟨some 159, .binOp _ _ _ _ _, _, _, _, _⟩) (v := _) rfl (by kernel_rfl) (by kernel_rfl) (by kernel_rfl) (fun _ _ _ h => h) (Or.inl ⟨by rfl, ?_⟩) hHeld ?_
                rotate_left
                · (intro wS _; go_simp; try with_reducible rfl)
                simp only [Act.put, List.setIfInBounds_toArray, List.set_cons_zero, List.set_cons_succ]
                refine' wpAnyH_take (i := 41) (oi := ⟨some 160, .pick _ _ _, _, _, _, _⟩) (v := _) rfl (by kernel_rfl) (by kernel_rfl) (by kernel_rfl) (fun _ _ _ h => h) (Or.inl ⟨by rfl, ?_⟩) hHeld ?_
                rotate_left
                · (intro wS _; go_simp; try with_reducible rfl)
                simp only [Act.put, List.setIfInBounds_toArray, List.set_cons_zero, List.set_cons_succ]
                refine' wpAnyH_take (i := 42) (oi := ⟨some 161, .move _, _, _, _, _⟩) (v := _) rfl (by kernel_rfl) (by kernel_rfl) (by kernel_rfl) (fun _ _ _ h => h) (Or.inl ⟨by rfl, ?_⟩) hHeld ?_
                rotate_left
                · (intro wS _; go_simp; try with_reducible rfl)
                simp only [Act.put, List.setIfInBounds_toArray, List.set_cons_zero, List.set_cons_succ]
                refine' wpAnyH_take (i := 43) (oi := ⟨some 162, .move _, _, _, _, _⟩) (v := _) rfl (by kernel_rfl) (by kernel_rfl) (by kernel_rfl) (fun _ _ _ h => h) (Or.inl ⟨by rfl, ?_⟩) hHeld ?_
                rotate_left
                · (intro wS _; go_simp; try with_reducible rfl)
                simp only [Act.put, List.setIfInBounds_toArray, List.set_cons_zero, List.set_cons_succ]
                refine' wpAnyH_take (i := 44) (oi := ⟨some 163, .move _, _, _, _, _⟩) (v := _) rfl (by kernel_rfl) (by kernel_rfl) (by kernel_rfl) (fun _ _ _ h => h) (Or.inl ⟨by rfl, ?_⟩) hHeld ?_
                rotate_left
                · (intro wS _; go_simp; try with_reducible rfl)
                simp only [Act.put, List.setIfInBounds_toArray, List.set_cons_zero, List.set_cons_succ]
                refine wpAnyH_take (i := 45) (oi := ⟨some 164, .load _ _, _, _, _, _⟩) (v := undef) rfl (by kernel_rfl) (by kernel_rfl) (by kernel_rfl) (fun _ _ _ h => h) (Or.inr ⟨by rfl, rfl⟩) hHeld ?_
                simp only [Act.put, List.setIfInBounds_toArray, List.set_cons_zero, List.set_cons_succ]
                refine wpAnyH_take (i := 46) (oi := ⟨some 165, .load _ _, _, _, _, _⟩) (v := undef) rfl (by kernel_rfl) (by kernel_rfl) (by kernel_rfl) (fun _ _ _ h => h) (Or.inr ⟨by rfl, rfl⟩) hHeld ?_
                simp only [Act.put, List.setIfInBounds_toArray, List.set_cons_zero, List.set_cons_succ]
                refine wpAnyH_take (i := 47) (oi := ⟨some 166, .call _, _, _, _, _⟩) (v := undef) rfl (by kernel_rfl) (by kernel_rfl) (by kernel_rfl) (fun _ _ _ h => h) (Or.inr ⟨by rfl, rfl⟩) hHeld ?_
                simp only [Act.put, List.setIfInBounds_toArray, List.set_cons_zero, List.set_cons_succ]
                refine wpAnyH_take (i := 48) (oi := ⟨some 167, .unOp _ _ _, _, _, _, _⟩) (v := undef) rfl (by kernel_rfl) (by kernel_rfl) (by kernel_rfl) (fun _ _ _ h => h) (Or.inr ⟨by rfl, rfl⟩) hHeld ?_
                simp only [Act.put, List.setIfInBounds_toArray, List.set_cons_zero, List.set_cons_succ]
                refine' wpAnyH_take (i := 49) (oi := ⟨some 168, .pick _ _ _, _, _, _, _⟩) (v := _) rfl (by kernel_rfl) (by kernel_rfl) (by kernel_rfl) (fun _ _ _ h => h) (Or.inl ⟨by rfl, ?_⟩) hHeld ?_
                rotate_left
                · (intro wS _; go_simp; try with_reducible rfl)
                simp only [Act.put, List.setIfInBounds_toArray, List.set_cons_zero, List.set_cons_succ]
                refine' wpAnyH_take (i := 50) (oi := ⟨some 169, .pick _ _ _, _, _, _, _⟩) (v := _) rfl (by kernel_rfl) (by kernel_rfl) (by kernel_rfl) (fun _ _ _ h => h) (Or.inl ⟨by rfl, ?_⟩) hHeld ?_
                rotate_left
                · (intro wS _; go_simp; try with_reducible rfl)
                simp only [Act.put, List.setIfInBounds_toArray, List.set_cons_zero, List.set_cons_succ]
                refine' wpAnyH_take (i := 51) (oi := ⟨some 170, .move _, _, _, _, _⟩) (v := _) rfl (by kernel_rfl) (by kernel_rfl) (by kernel_rfl) (fun _ _ _ h => h) (Or.inl ⟨by rfl, ?_⟩) hHeld ?_
                rotate_left
                · (intro wS _; go_simp; try with_reducible rfl)
                simp only [Act.put, List.setIfInBounds_toArray, List.set_cons_zero, List.set_cons_succ]
                as_aux_lemma =>
                  refine' wpAnyH_take (i := 52) (oi := ⟨some 171, .move _, _, _, _, _⟩) (v := _) rfl (by kernel_rfl) (by kernel_rfl) (by kernel_rfl) (fun _ _ _ h => h) (Or.inl ⟨by rfl, ?_⟩) hHeld ?_
                  rotate_left
                  · (intro wS _; go_simp; try with_reducible rfl)
                  simp only [Act.put, List.setIfInBounds_toArray, List.set_cons_zero, List.set_cons_succ]
                  refine' wpAnyH_take (i := 53) (oi := ⟨some 172, .move _, _, _, _, _⟩) (v := _) rfl (by kernel_rfl) (by kernel_rfl) (by kernel_rfl) (fun _ _ _ h => h) (Or.inl ⟨by rfl, ?_⟩) hHeld ?_
                  rotate_left
                  · (intro wS _; go_simp; try with_reducible rfl)
                  simp only [Act.put, List.setIfInBounds_toArray, List.set_cons_zero, List.set_cons_succ]
                  refine' wpAnyH_take (i := 54) (oi := ⟨some 173, .binOp _ _ _ _ _, _, _, _, _⟩) (v := _) rfl (by kernel_rfl) (by kernel_rfl) (by kernel_rfl) (fun _ _ _ h => h) (Or.inl ⟨by rfl, ?_⟩) hHeld ?_
                  rotate_left
                  · (intro wS _; go_simp; try with_reducible rfl)
                  simp only [Act.put, List.setIfInBounds_toArray, List.set_cons_zero, List.set_cons_succ]
                  refine' wpAnyH_take (i := 55) (oi := ⟨some 174, .pick _ _ _, _, _, _, _⟩) (v := _) rfl (by kernel_rfl) (by kernel_rfl) (by kernel_rfl) (fun _ _ _ h => h) (Or.inl ⟨by rfl, ?_⟩) hHeld ?_
                  rotate_left
                  · (intro wS _; go_simp; try with_reducible rfl)
                  simp only [Act.put, List.setIfInBounds_toArray, List.set_cons_zero, List.set_cons_succ]
                  refine' wpAnyH_take (i := 56) (oi := ⟨some 175, .move _, _, _, _, _⟩) (v := _) rfl (by kernel_rfl) (by kernel_rfl) (by kernel_rfl) (fun _ _ _ h => h) (Or.inl ⟨by rfl, ?_⟩) hHeld ?_
                  rotate_left
                  · (intro wS _; go_simp; try with_reducible rfl)
                  simp only [Act.put, List.setIfInBounds_toArray, List.set_cons_zero, List.set_cons_succ]
                  refine' wpAnyH_take (i := 57) (oi := ⟨some 176, .load _ _, _, _, _, _⟩) (v := _) rfl (by kernel_rfl) (by kernel_rfl) (by kernel_rfl) (fun _ _ _ h => h) (Or.inl ⟨by rfl, ?_⟩) hHeld ?_
                  rotate_left
                  · (intro wS hSw; obtain ⟨cS, fS, zS⟩ := hSw.2.2.2.2.1.out; clear hSw; go_simp; try with_reducible rfl)
                  simp only [Act.put, List.setIfInBounds_toArray, List.set_cons_zero, List.set_cons_succ]
                  refine' wpAnyH_take (i := 58) (oi := ⟨some 177, .load _ _, _, _, _, _⟩) (v := _) rfl (by kernel_rfl) (by kernel_rfl) (by kernel_rfl) (fun _ _ _ h => h) (Or.inl ⟨by rfl, ?_⟩) hHeld ?_
                  rotate_left
                  · (intro wS hSw; obtain ⟨cS, fS, zS⟩ := hSw.2.2.2.2.2.1.out; clear hSw; go_simp; try with_reducible rfl)
                  simp only [Act.put, List.setIfInBounds_toArray, List.set_cons_zero, List.set_cons_succ]
                  refine wpAnyH_ready (rs := [59]) (by kernel_rfl) (by simp) ?_
                  refine AllReadyH.cons (o := ⟨some 178, .call _, _, _, _, _⟩) rfl (fun K hK => ?_) AllReadyH.nil
                  go_simp
                  refine (ssame_selfS _ O8.out O9.out).mono ?_
                  rintro e w30 ⟨rfl, hb30⟩
                  have B30 : Bl w w30 := bl_call B29 hb30
                  have xA_30 : Bx w30 (w1.heap.size) #[.slice a1 m1 k1, .slice b1 n1 l1, .slice c1 o1 q1] := xA_29.below hb30
                  have xB_30 : Bx w30 (w5.heap.size) #[.slice a2 m2 k2, .slice b2 n2 l2, .slice c2 o2 q2] := xB_29.below hb30
                  have xC_30 : Bx w30 (w9.heap.size) #[.slice a3 m3 k3, .slice b3 n3 l3, .slice c3 o3 q3] := xC_29.below hb30
                  have xD_30 : Bx w30 (w11.heap.size) #[.slice a4 m4 k4, .slice b4 n4 l4, .slice c4 o4 q4] := xD_29.below hb30
                  have xE_30 : Bx w30 (w13.heap.size) #[.slice a5 m5 k5, .slice b5 n5 l5, .slice c5 o5 q5] := xE_29.below hb30
                  have xF_30 : Bx w30 (w15.heap.size) #[.slice a6 m6 k6, .slice b6 n6 l6, .slice c6 o6 q6] := xF_29.below hb30
                  have xG_30 : Bx w30 (w18.heap.size) #[.slice a7 m7 k7, .slice b7 n7 l7, .slice c7 o7 q7] := xG_29.below hb30
                  have xX_30 : Bx w30 (w21.heap.size) #[.slice a8 m8 k8, .slice b8 n8 l8, .slice c8 o8 q8] := xX_29.below hb30
                  have xY_30 : Bx w30 (w23.heap.size) #[.slice a9 m9 k9, .slice b9 n9 l9, .slice c9 o9 q9] := xY_29.below hb30
                  have xS_30 : Bx w30 (w25.heap.size) #[.slice a10 s10.H.length k10, .slice b10 s10.P.length l10, .slice c10 s10.G.length q10] := xS_29.below hb30
                  have xU_30 : Bx w30 (w25.heap.size + 1) #[.slice a11 s11.H.length k11, .slice b11 s11.P.length l11, .slice c11 s11.G.length q11] := xU_29.below hb30
                  obtain ⟨cA_30, fA_30, zA_30⟩ := xA_30.out
                  obtain ⟨cB_30, fB_30, zB_30⟩ := xB_30.out
                  obtain ⟨cC_30, fC_30, zC_30⟩ := xC_30.out
                  obtain ⟨cD_30, fD_30, zD_30⟩ := xD_30.out
                  obtain ⟨cE_30, fE_30, zE_30⟩ := xE_30.out
                  obtain ⟨cF_30, fF_30, zF_30⟩ := xF_30.out
                  obtain ⟨cG_30, fG_30, zG_30⟩ := xG_30.out
                  obtain ⟨cX_30, fX_30, zX_30⟩ := xX_30.out
                  obtain ⟨cY_30, fY_30, zY_30⟩ := xY_30.out
                  obtain ⟨cS_30, fS_30, zS_30⟩ := xS_30.out
                  obtain ⟨cU_30, fU_30, zU_30⟩ := xU_30.out
                  have O1 : Hid (SlS w30 (.slice a1 m1 k1) (.slice b1 n1 l1) (.slice c1 o1 q1) s1) := Lib.hid ((O1.out.below (bl_refl w29)).below hb30)
                  have O2 : Hid (SlS w30 (.slice a2 m2 k2) (.slice b2 n2 l2) (.slice c2 o2 q2) s2) := Lib.hid ((O2.out.below (bl_refl w29)).below hb30)
                  have M1 : Hid (Sl w30 (.slice av1 L2.length cv1) L2) := Lib.hid ((M1.out.below (bl_refl w29)).below hb30)
                  have M2 : Hid (Sl w30 (.slice av2 L2.length cv2) L2) := Lib.hid ((M2.out.below (bl_refl w29)).below hb30)
                  have O3 : Hid (SlS w30 (.slice a3 m3 k3) (.slice b3 n3 l3) (.slice c3 o3 q3) s3) := Lib.hid ((O3.out.below (bl_refl w29)).below hb30)
                  have O4 : Hid (SlS w30 (.slice a4 m4 k4) (.slice b4 n4 l4) (.slice c4 o4 q4) t3) := Lib.hid ((O4.out.below (bl_refl w29)).below hb30)
                  have O5 : Hid (SlS w30 (.slice a5 m5 k5) (.slice b5 n5 l5) (.slice c5 o5 q5) t3) := Lib.hid ((O5.out.below (bl_refl w29)).below hb30)
                  have O6 : Hid (SlS w30 (.slice a6 m6 k6) (.slice b6 n6 l6) (.slice c6 o6 q6) s6) := Lib.hid ((O6.out.below (bl_refl w29)).below hb30)
                  have O7 : Hid (SlS w30 (.slice a7 m7 k7) (.slice b7 n7 l7) (.slice c7 o7 q7) ⟨[], [], []⟩) := Lib.hid ((O7.out.below (bl_refl w29)).below hb30)
                  have O8 : Hid (SlS w30 (.slice a8 m8 k8) (.slice b8 n8 l8) (.slice c8 o8 q8) s8) := Lib.hid ((O8.out.below (bl_refl w29)).below hb30)
                  have O9 : Hid (SlS w30 (.slice a9 m9 k9) (.slice b9 n9 l9) (.slice c9 o9 q9) s8) := Lib.hid ((O9.out.below (bl_refl w29)).below hb30)
                  have O10 : Hid (SlS w30 (.slice a10 s10.H.length k10) (.slice b10 s10.P.length l10) (.slice c10 s10.G.length q10) s10) := Lib.hid ((O10.out.below (bl_refl w29)).below hb30)
                  have O11 : Hid (SlS w30 (.slice a11 s11.H.length k11) (.slice b11 s11.P.length l11) (.slice c11 s11.G.length q11) s11) := Lib.hid ((O11.out.below (bl_refl w29)).below hb30)
                  have Rw30 : Bl w26 w30 := bl_call Rw29 hb30
                  go_wp2_with fail
                  refine hK.out _ _ ?_ ?_
                  · exact ⟨xD_30, xE_30, xF_30, xG_30, xX_30, xY_30, xS_30, xU_30, xA_30⟩
                  clear hK K hHeld cA_30 fA_30 zA_30 cB_30 fB_30 zB_30 cC_30 fC_30 zC_30 cD_30 fD_30 zD_30 cE_30 fE_30 zE_30 cF_30 fF_30 zF_30 cG_30 fG_30 zG_30 cX_30 fX_30 zX_30 cY_30 fY_30 zY_30 cS_30 fS_30 zS_30 cU_30 fU_30 zU_30
                  intro hHeld
                  try simp only [Act.put, List.setIfInBounds_toArray, List.set_cons_zero, List.set_cons_succ]
                  refine' wpAnyH_take (i := 60) (oi := ⟨some 179, .unOp _ _ _, _, _, _, _⟩) (v := _) rfl (by kernel_rfl) (by kernel_rfl) (by kernel_rfl) (fun _ _ _ h => h) (Or.inl ⟨by rfl, ?_⟩) hHeld ?_
                  rotate_left
                  · (intro wS _; go_simp; try with_reducible rfl)
                  simp only [Act.put, List.setIfInBounds_toArray, List.set_cons_zero, List.set_cons_succ]
                  refine' wpAnyH_take (i := 61) (oi := ⟨some 180, .pick _ _ _, _, _, _, _⟩) (v := _) rfl (by kernel_rfl) (by kernel_rfl) (by kernel_rfl) (fun _ _ _ h => h) (Or.inl ⟨by rfl, ?_⟩) hHeld ?_
                  rotate_left
                  · (intro wS _; go_simp; try with_reducible rfl)
                  simp only [Act.put, List.setIfInBounds_toArray, List.set_cons_zero, List.set_cons_succ]
                  refine' wpAnyH_take (i := 62) (oi := ⟨some 181, .move _, _, _, _, _⟩) (v := _) rfl (by kernel_rfl) (by kernel_rfl) (by kernel_rfl) (fun _ _ _ h => h) (Or.inl ⟨by rfl, ?_⟩) hHeld ?_
                  rotate_left
                  · (intro wS _; go_simp; try with_reducible rfl)
                  simp only [Act.put, List.setIfInBounds_toArray, List.set_cons_zero, List.set_cons_succ]
                  refine' wpAnyH_take (i := 63) (oi := ⟨some 182, .load _ _, _, _, _, _⟩) (v := _) rfl (by kernel_rfl) (by kernel_rfl) (by kernel_rfl) (fun _ _ _ h => h) (Or.inl ⟨by rfl, ?_⟩) hHeld ?_
                  rotate_left
                  · (intro wS hSw; obtain ⟨cS, fS, zS⟩ := hSw.2.2.2.2.2.2.1.out; clear hSw; go_simp; try with_reducible rfl)
                  simp only [Act.put, List.setIfInBounds_toArray, List.set_cons_zero, List.set_cons_succ]
                  refine' wpAnyH_take (i := 64) (oi := ⟨some 183, .load _ _, _, _, _, _⟩) (v := _) rfl (by kernel_rfl) (by kernel_rfl) (by kernel_rfl) (fun _ _ _ h => h) (Or.inl ⟨by rfl, ?_⟩) hHeld ?_
                  rotate_left
                  · (intro wS hSw; obtain ⟨cS, fS, zS⟩ := hSw.2.2.2.2.2.2.2.1.out; clear hSw; go_simp; try with_reducible rfl)
                  simp only [Act.put, List.setIfInBounds_toArray, List.set_cons_zero, List.set_cons_succ]
                  as_aux_lemma =>
                    refine' wpAnyH_take (i := 66) (oi := ⟨some 185, .load _ _, _, _, _, _⟩) (v := _) rfl (by kernel_rfl) (by kernel_rfl) (by kernel_rfl) (fun _ _ _ h => h) (Or.inl ⟨by rfl, ?_⟩) hHeld ?_
                    rotate_left
                    · (intro wS hSw; obtain ⟨cS, fS, zS⟩ := hSw.2.2.2.2.2.2.1.out; clear hSw; go_simp; try with_reducible rfl)
                    simp only [Act.put, List.setIfInBounds_toArray, List.set_cons_zero, List.set_cons_succ]
                    refine' wpAnyH_take (i := 67) (oi := ⟨some 186, .load _ _, _, _, _, _⟩) (v := _) rfl (by kernel_rfl) (by kernel_rfl) (by kernel_rfl) (fun _ _ _ h => h) (Or.inl ⟨by rfl, ?_⟩) hHeld ?_
                    rotate_left
                    · (intro wS hSw; obtain ⟨cS, fS, zS⟩ := hSw.2.2.2.2.2.2.2.1.out; clear hSw; go_simp; try with_reducible rfl)
                    simp only [Act.put, List.setIfInBounds_toArray, List.set_cons_zero, List.set_cons_succ]
                    refine wpAnyH_ready (rs := [65]) (by kernel_rfl) (by simp) ?_
                    refine AllReadyH.cons (o := ⟨some 184, .call _, _, _, _, _⟩) rfl (fun K hK => ?_) AllReadyH.nil
                    go_simp
                    refine (isame_eq HB10.out _ O10.out O11.out).mono ?_
                    rintro e w31 ⟨rfl, hb31⟩
                    have B31 : Bl w w31 := bl_call B30 hb31
                    have xA_31 : Bx w31 (w1.heap.size) #[.slice a1 m1 k1, .slice b1 n1 l1, .slice c1 o1 q1] := xA_30.below hb31
                    have xB_31 : Bx w31 (w5.heap.size) #[.slice a2 m2 k2, .slice b2 n2 l2, .slice c2 o2 q2] := xB_30.below hb31
                    have xC_31 : Bx w31 (w9.heap.size) #[.slice a3 m3 k3, .slice b3 n3 l3, .slice c3 o3 q3] := xC_30.below hb31
                    have xD_31 : Bx w31 (w11.heap.size) #[.slice a4 m4 k4, .slice b4 n4 l4, .slice c4 o4 q4] := xD_30.below hb31
                    have xE_31 : Bx w31 (w13.heap.size) #[.slice a5 m5 k5, .slice b5 n5 l5, .slice c5 o5 q5] := xE_30.below hb31
                    have xF_31 : Bx w31 (w15.heap.size) #[.slice a6 m6 k6, .slice b6 n6 l6, .slice c6 o6 q6] := xF_30.below hb31
                    have xG_31 : Bx w31 (w18.heap.size) #[.slice a7 m7 k7, .slice b7 n7 l7, .slice c7 o7 q7] := xG_30.below hb31
                    have xX_31 : Bx w31 (w21.heap.size) #[.slice a8 m8 k8, .slice b8 n8 l8, .slice c8 o8 q8] := xX_30.below hb31
                    have xY_31 : Bx w31 (w23.heap.size) #[.slice a9 m9 k9, .slice b9 n9 l9, .slice c9 o9 q9] := xY_30.below hb31
                    have xS_31 : Bx w31 (w25.heap.size) #[.slice a10 s10.H.length k10, .slice b10 s10.P.length l10, .slice c10 s10.G.length q10] := xS_30.below hb31
                    have xU_31 : Bx w31 (w25.heap.size + 1) #[.slice a11 s11.H.length k11, .slice b11 s11.P.length l11, .slice c11 s11.G.length q11] := xU_30.below hb31
                    obtain ⟨cA_31, fA_31, zA_31⟩ := xA_31.out
                    obtain ⟨cB_31, fB_31, zB_31⟩ := xB_31.out
                    obtain ⟨cC_31, fC_31, zC_31⟩ := xC_31.out
                    obtain ⟨cD_31, fD_31, zD_31⟩ := xD_31.out
                    obtain ⟨cE_31, fE_31, zE_31⟩ := xE_31.out
                    obtain ⟨cF_31, fF_31, zF_31⟩ := xF_31.out
                    obtain ⟨cG_31, fG_31, zG_31⟩ := xG_31.out
                    obtain ⟨cX_31, fX_31, zX_31⟩ := xX_31.out
                    obtain ⟨cY_31, fY_31, zY_31⟩ := xY_31.out
                    obtain ⟨cS_31, fS_31, zS_31⟩ := xS_31.out
                    obtain ⟨cU_31, fU_31, zU_31⟩ := xU_31.out
                    have O1 : Hid (SlS w31 (.slice a1 m1 k1) (.slice b1 n1 l1) (.slice c1 o1 q1) s1) := Lib.hid ((O1.out.below (bl_refl w30)).below hb31)
                    have O2 : Hid (SlS w31 (.slice a2 m2 k2) (.slice b2 n2 l2) (.slice c2 o2 q2) s2) := Lib.hid ((O2.out.below (bl_refl w30)).below hb31)
                    have M1 : Hid (Sl w31 (.slice av1 L2.length cv1) L2) := Lib.hid ((M1.out.below (bl_refl w30)).below hb31)
                    have M2 : Hid (Sl w31 (.slice av2 L2.length cv2) L2) := Lib.hid ((M2.out.below (bl_refl w30)).below hb31)
                    have O3 : Hid (SlS w31 (.slice a3 m3 k3) (.slice b3 n3 l3) (.slice c3 o3 q3) s3) := Lib.hid ((O3.out.below (bl_refl w30)).below hb31)
                    have O4 : Hid (SlS w31 (.slice a4 m4 k4) (.slice b4 n4 l4) (.slice c4 o4 q4) t3) := Lib.hid ((O4.out.below (bl_refl w30)).below hb31)
                    have O5 : Hid (SlS w31 (.slice a5 m5 k5) (.slice b5 n5 l5) (.slice c5 o5 q5) t3) := Lib.hid ((O5.out.below (bl_refl w30)).below hb31)
                    have O6 : Hid (SlS w31 (.slice a6 m6 k6) (.slice b6 n6 l6) (.slice c6 o6 q6) s6) := Lib.hid ((O6.out.below (bl_refl w30)).below hb31)
                    have O7 : Hid (SlS w31 (.slice a7 m7 k7) (.slice b7 n7 l7) (.slice c7 o7 q7) ⟨[], [], []⟩) := Lib.hid ((O7.out.below (bl_refl w30)).below hb31)
                    have O8 : Hid (SlS w31 (.slice a8 m8 k8) (.slice b8 n8 l8) (.slice c8 o8 q8) s8) := Lib.hid ((O8.out.below (bl_refl w30)).below hb31)
                    have O9 : Hid (SlS w31 (.slice a9 m9 k9) (.slice b9 n9 l9) (.slice c9 o9 q9) s8) := Lib.hid ((O9.out.below (bl_refl w30)).below hb31)
                    have O10 : Hid (SlS w31 (.slice a10 s10.H.length k10) (.slice b10 s10.P.length l10) (.slice c10 s10.G.length q10) s10) := Lib.hid ((O10.out.below (bl_refl w30)).below hb31)
                    have O11 : Hid (SlS w31 (.slice a11 s11.H.length k11) (.slice b11 s11.P.length l11) (.slice c11 s11.G.length q11) s11) := Lib.hid ((O11.out.below (bl_refl w30)).below hb31)
                    have Rw31 : Bl w26 w31 := bl_call Rw30 hb31
                    go_wp2_with fail
                    refine hK.out _ _ ?_ ?_
                    · exact ⟨xD_31, xE_31, xF_31, xG_31, xX_31, xY_31, xS_31, xU_31, xA_31⟩
                    clear hK K hHeld cA_31 fA_31 zA_31 cB_31 fB_31 zB_31 cC_31 fC_31 zC_31 cD_31 fD_31 zD_31 cE_31 fE_31 zE_31 cF_31 fF_31 zF_31 cG_31 fG_31 zG_31 cX_31 fX_31 zX_31 cY_31 fY_31 zY_31 cS_31 fS_31 zS_31 cU_31 fU_31 zU_31
                    intro hHeld
                    try simp only [Act.put, List.setIfInBounds_toArray, List.set_cons_zero, List.set_cons_succ]
                    refine wpAnyH_ready (rs := [68]) (by kernel_rfl) (by simp) ?_
                    refine AllReadyH.cons (o := ⟨some 187, .call _, _, _, _, _⟩) rfl (fun K hK => ?_) AllReadyH.nil
                    go_simp
                    refine (ssame_eq HB10.out _ O10.out O11.out).mono ?_
                    rintro e w32 ⟨rfl, hb32⟩
                    have B32 : Bl w w32 := bl_call B31 hb32
                    have xA_32 : Bx w32 (w1.heap.size) #[.slice a1 m1 k1, .slice b1 n1 l1, .slice c1 o1 q1] := xA_31.below hb32
                    have xB_32 : Bx w32 (w5.heap.size) #[.slice a2 m2 k2, .slice b2 n2 l2, .slice c2 o2 q2] := xB_31.below hb32
                    have xC_32 : Bx w32 (w9.heap.size) #[.slice a3 m3 k3, .slice b3 n3 l3, .slice c3 o3 q3] := xC_31.below hb32
                    have xD_32 : Bx w32 (w11.heap.size) #[.slice a4 m4 k4, .slice b4 n4 l4, .slice c4 o4 q4] := xD_31.below hb32
                    have xE_32 : Bx w32 (w13.heap.size) #[.slice a5 m5 k5, .slice b5 n5 l5, .slice c5 o5 q5] := xE_31.below hb32
                    have xF_32 : Bx w32 (w15.heap.size) #[.slice a6 m6 k6, .slice b6 n6 l6, .slice c6 o6 q6] := xF_31.below hb32
                    have xG_32 : Bx w32 (w18.heap.size) #[.slice a7 m7 k7, .slice b7 n7 l7, .slice c7 o7 q7] := xG_31.below hb32
                    have xX_32 : Bx w32 (w21.heap.size) #[.slice a8 m8 k8, .slice b8 n8 l8, .slice c8 o8 q8] := xX_31.below hb32
                    have xY_32 : Bx w32 (w23.heap.size) #[.slice a9 m9 k9, .slice b9 n9 l9, .slice c9 o9 q9] := xY_31.below hb32
                    have xS_32 : Bx w32 (w25.heap.size) #[.slice a10 s10.H.length k10, .slice b10 s10.P.length l10, .slice c10 s10.G.length q10] := xS_31.below hb32
                    have xU_32 : Bx w32 (w25.heap.size + 1) #[.slice a11 s11.H.length k11, .slice b11 s11.P.length l11, .slice c11 s11.G.length q11] := xU_31.below hb32
                    obtain ⟨cA_32, fA_32, zA_32⟩ := xA_32.out
                    obtain ⟨cB_32, fB_32, zB_32⟩ := xB_32.out
                    obtain ⟨cC_32, fC_32, zC_32⟩ := xC_32.out
                    obtain ⟨cD_32, fD_32, zD_32⟩ := xD_32.out
                    obtain ⟨cE_32, fE_32, zE_32⟩ := xE_32.out
                    obtain ⟨cF_32, fF_32, zF_32⟩ := xF_32.out
                    obtain ⟨cG_32, fG_32, zG_32⟩ := xG_32.out
                    obtain ⟨cX_32, fX_32, zX_32⟩ := xX_32.out
                    obtain ⟨cY_32, fY_32, zY_32⟩ := xY_32.out
                    obtain ⟨cS_32, fS_32, zS_32⟩ := xS_32.out
                    obtain ⟨cU_32, fU_32, zU_32⟩ := xU_32.out
                    have O1 : Hid (SlS w32 (.slice a1 m1 k1) (.slice b1 n1 l1) (.slice c1 o1 q1) s1) := Lib.hid ((O1.out.below (bl_refl w31)).below hb32)
                    have O2 : Hid (SlS w32 (.slice a2 m2 k2) (.slice b2 n2 l2) (.slice c2 o2 q2) s2) := Lib.hid ((O2.out.below (bl_refl w31)).below hb32)
                    have M1 : Hid (Sl w32 (.slice av1 L2.length cv1) L2) := Lib.hid ((M1.out.below (bl_refl w31)).below hb32)
                    have M2 : Hid (Sl w32 (.slice av2 L2.length cv2) L2) := Lib.hid ((M2.out.below (bl_refl w31)).below hb32)
                    have O3 : Hid (SlS w32 (.slice a3 m3 k3) (.slice b3 n3 l3) (.slice c3 o3 q3) s3) := Lib.hid ((O3.out.below (bl_refl w31)).below hb32)
                    have O4 : Hid (SlS w32 (.slice a4 m4 k4) (.slice b4 n4 l4) (.slice c4 o4 q4) t3) := Lib.hid ((O4.out.below (bl_refl w31)).below hb32)
                    have O5 : Hid (SlS w32 (.slice a5 m5 k5) (.slice b5 n5 l5) (.slice c5 o5 q5) t3) := Lib.hid ((O5.out.below (bl_refl w31)).below hb32)
                    have O6 : Hid (SlS w32 (.slice a6 m6 k6) (.slice b6 n6 l6) (.slice c6 o6 q6) s6) := Lib.hid ((O6.out.below (bl_refl w31)).below hb32)
                    have O7 : Hid (SlS w32 (.slice a7 m7 k7) (.slice b7 n7 l7) (.slice c7 o7 q7) ⟨[], [], []⟩) := Lib.hid ((O7.out.below (bl_refl w31)).below hb32)
                    have O8 : Hid (SlS w32 (.slice a8 m8 k8) (.slice b8 n8 l8) (.slice c8 o8 q8) s8) := Lib.hid ((O8.out.below (bl_refl w31)).below hb32)
                    have O9 : Hid (SlS w32 (.slice a9 m9 k9) (.slice b9 n9 l9) (.slice c9 o9 q9) s8) := Lib.hid ((O9.out.below (bl_refl w31)).below hb32)
                    have O10 : Hid (SlS w32 (.slice a10 s10.H.length k10) (.slice b10 s10.P.length l10) (.slice c10 s10.G.length q10) s10) := Lib.hid ((O10.out.below (bl_refl w31)).below hb32)
                    have O11 : Hid (SlS w32 (.slice a11 s11.H.length k11) (.slice b11 s11.P.length l11) (.slice c11 s11.G.length q11) s11) := Lib.hid ((O11.out.below (bl_refl w31)).below hb32)
                    have Rw32 : Bl w26 w32 := bl_call Rw31 hb32
                    go_wp2_with fail
                    refine hK.out _ _ ?_ ?_
                    · exact ⟨xD_32, xE_32, xF_32, xG_32, xX_32, xY_32, xS_32, xU_32, xA_32⟩
                    clear hK K hHeld cA_32 fA_32 zA_32 cB_32 fB_32 zB_32 cC_32 fC_32 zC_32 cD_32 fD_32 zD_32 cE_32 fE_32 zE_32 cF_32 fF_32 zF_32 cG_32 fG_32 zG_32 cX_32 fX_32 zX_32 cY_32 fY_32 zY_32 cS_32 fS_32 zS_32 cU_32 fU_32 zU_32
                    intro hHeld
                    try simp only [Act.put, List.setIfInBounds_toArray, List.set_cons_zero, List.set_cons_succ]
                    refine' wpAnyH_take (i := 69) (oi := ⟨some 188, .binOp _ _ _ _ _, _, _, _, _⟩) (v := _) rfl (by kernel_rfl) (by kernel_rfl) (by kernel_rfl) (fun _ _ _ h => h) (Or.inl ⟨by rfl, ?_⟩) hHeld ?_
                    rotate_left
                    · (intro wS _; go_simp; try with_reducible rfl)
                    simp only [Act.put, List.setIfInBounds_toArray, List.set_cons_zero, List.set_cons_succ]
                    refine' wpAnyH_take (i := 70) (oi := ⟨some 189, .pick _ _ _, _, _, _, _⟩) (v := _) rfl (by kernel_rfl) (by kernel_rfl) (by kernel_rfl) (fun _ _ _ h => h) (Or.inl ⟨by rfl, ?_⟩) hHeld ?_
                    rotate_left
                    · (intro wS _; go_simp; try with_reducible rfl)
                    simp only [Act.put, List.setIfInBounds_toArray, List.set_cons_zero, List.set_cons_succ]
                    refine' wpAnyH_take (i := 71) (oi := ⟨some 190, .move _, _, _, _, _⟩) (v := _) rfl (by kernel_rfl) (by kernel_rfl) (by kernel_rfl) (fun _ _ _ h => h) (Or.inl ⟨by rfl, ?_⟩) hHeld ?_
                    rotate_left
                    · (intro wS _; go_simp; try with_reducible rfl)
                    simp only [Act.put, List.setIfInBounds_toArray, List.set_cons_zero, List.set_cons_succ]
                    refine' wpAnyH_take (i := 72) (oi := ⟨some 191, .load _ _, _, _, _, _⟩) (v := _) rfl (by kernel_rfl) (by kernel_rfl) (by kernel_rfl) (fun _ _ _ h => h) (Or.inl ⟨by rfl, ?_⟩) hHeld ?_
                    rotate_left
                    · (intro wS hSw; obtain ⟨cS, fS, zS⟩ := hSw.2.2.2.2.2.2.2.2.out; clear hSw; go_simp; try with_reducible rfl)
                    simp only [Act.put, List.setIfInBounds_toArray, List.set_cons_zero, List.set_cons_succ]
                    refine' wpAnyH_take (i := 74) (oi := ⟨some 193, .load _ _, _, _, _, _⟩) (v := _) rfl (by kernel_rfl) (by kernel_rfl) (by kernel_rfl) (fun _ _ _ h => h) (Or.inl ⟨by rfl, ?_⟩) hHeld ?_
                    rotate_left
                    · (intro wS hSw; obtain ⟨cS, fS, zS⟩ := hSw.2.2.2.2.2.2.2.2.out; clear hSw; go_simp; try with_reducible rfl)
                    simp only [Act.put, List.setIfInBounds_toArray, List.set_cons_zero, List.set_cons_succ]
                    refine wpAnyH_ready (rs := [73]) (by kernel_rfl) (by simp) ?_
                    refine AllReadyH.cons (o := ⟨some 192, .call _, _, _, _, _⟩) rfl (fun K hK => ?_) AllReadyH.nil
                    go_simp
                    refine (ival_eqS HB1.out _ O1.out).mono ?_
                    rintro e w33 ⟨rfl, hb33⟩
                    have B33 : Bl w w33 := bl_call B32 hb33
                    have xA_33 : Bx w33 (w1.heap.size) #[.slice a1 m1 k1, .slice b1 n1 l1, .slice c1 o1 q1] := xA_32.below hb33
                    have xB_33 : Bx w33 (w5.heap.size) #[.slice a2 m2 k2, .slice b2 n2 l2, .slice c2 o2 q2] := xB_32.below hb33
                    have xC_33 : Bx w33 (w9.heap.size) #[.slice a3 m3 k3, .slice b3 n3 l3, .slice c3 o3 q3] := xC_32.below hb33
                    have xD_33 : Bx w33 (w11.heap.size) #[.slice a4 m4 k4, .slice b4 n4 l4, .slice c4 o4 q4] := xD_32.below hb33
                    have xE_33 : Bx w33 (w13.heap.size) #[.slice a5 m5 k5, .slice b5 n5 l5, .slice c5 o5 q5] := xE_32.below hb33
                    have xF_33 : Bx w33 (w15.heap.size) #[.slice a6 m6 k6, .slice b6 n6 l6, .slice c6 o6 q6] := xF_32.below hb33
                    have xG_33 : Bx w33 (w18.heap.size) #[.slice a7 m7 k7, .slice b7 n7 l7, .slice c7 o7 q7] := xG_32.below hb33
                    have xX_33 : Bx w33 (w21.heap.size) #[.slice a8 m8 k8, .slice b8 n8 l8, .slice c8 o8 q8] := xX_32.below hb33
                    have xY_33 : Bx w33 (w23.heap.size) #[.slice a9 m9 k9, .slice b9 n9 l9, .slice c9 o9 q9] := xY_32.below hb33
                    have xS_33 : Bx w33 (w25.heap.size) #[.slice a10 s10.H.length k10, .slice b10 s10.P.length l10, .slice c10 s10.G.length q10] := xS_32.below hb33
                    have xU_33 : Bx w33 (w25.heap.size + 1) #[.slice a11 s11.H.length k11, .slice b11 s11.P.length l11, .slice c11 s11.G.length q11] := xU_32.below hb33
                    obtain ⟨cA_33, fA_33, zA_33⟩ := xA_33.out
                    obtain ⟨cB_33, fB_33, zB_33⟩ := xB_33.out
                    obtain ⟨cC_33, fC_33, zC_33⟩ := xC_33.out
                    obtain ⟨cD_33, fD_33, zD_33⟩ := xD_33.out
                    obtain ⟨cE_33, fE_33, zE_33⟩ := xE_33.out
                    obtain ⟨cF_33, fF_33, zF_33⟩ := xF_33.out
                    obtain ⟨cG_33, fG_33, zG_33⟩ := xG_33.out
                    obtain ⟨cX_33, fX_33, zX_33⟩ := xX_33.out
                    obtain ⟨cY_33, fY_33, zY_33⟩ := xY_33.out
                    obtain ⟨cS_33, fS_33, zS_33⟩ := xS_33.out
                    obtain ⟨cU_33, fU_33, zU_33⟩ := xU_33.out
                    have O1 : Hid (SlS w33 (.slice a1 m1 k1) (.slice b1 n1 l1) (.slice c1 o1 q1) s1) := Lib.hid ((O1.out.below (bl_refl w32)).below hb33)
                    have O2 : Hid (SlS w33 (.slice a2 m2 k2) (.slice b2 n2 l2) (.slice c2 o2 q2) s2) := Lib.hid ((O2.out.below (bl_refl w32)).below hb33)
                    have M1 : Hid (Sl w33 (.slice av1 L2.length cv1) L2) := Lib.hid ((M1.out.below (bl_refl w32)).below hb33)
                    have M2 : Hid (Sl w33 (.slice av2 L2.length cv2) L2) := Lib.hid ((M2.out.below (bl_refl w32)).below hb33)
                    have O3 : Hid (SlS w33 (.slice a3 m3 k3) (.slice b3 n3 l3) (.slice c3 o3 q3) s3) := Lib.hid ((O3.out.below (bl_refl w32)).below hb33)
                    have O4 : Hid (SlS w33 (.slice a4 m4 k4) (.slice b4 n4 l4) (.slice c4 o4 q4) t3) := Lib.hid ((O4.out.below (bl_refl w32)).below hb33)
                    have O5 : Hid (SlS w33 (.slice a5 m5 k5) (.slice b5 n5 l5) (.slice c5 o5 q5) t3) := Lib.hid ((O5.out.below (bl_refl w32)).below hb33)
                    have O6 : Hid (SlS w33 (.slice a6 m6 k6) (.slice b6 n6 l6) (.slice c6 o6 q6) s6) := Lib.hid ((O6.out.below (bl_refl w32)).below hb33)
                    have O7 : Hid (SlS w33 (.slice a7 m7 k7) (.slice b7 n7 l7) (.slice c7 o7 q7) ⟨[], [], []⟩) := Lib.hid ((O7.out.below (bl_refl w32)).below hb33)
                    have O8 : Hid (SlS w33 (.slice a8 m8 k8) (.slice b8 n8 l8) (.slice c8 o8 q8) s8) := Lib.hid ((O8.out.below (bl_refl w32)).below hb33)
                    have O9 : Hid (SlS w33 (.slice a9 m9 k9) (.slice b9 n9 l9) (.slice c9 o9 q9) s8) := Lib.hid ((O9.out.below (bl_refl w32)).below hb33)
                    have O10 : Hid (SlS w33 (.slice a10 s10.H.length k10) (.slice b10 s10.P.length l10) (.slice c10 s10.G.length q10) s10) := Lib.hid ((O10.out.below (bl_refl w32)).below hb33)
                    have O11 : Hid (SlS w33 (.slice a11 s11.H.length k11) (.slice b11 s11.P.length l11) (.slice c11 s11.G.length q11) s11) := Lib.hid ((O11.out.below (bl_refl w32)).below hb33)
                    have Rw33 : Bl w26 w33 := bl_call Rw32 hb33
                    go_wp2_with fail
                    refine hK.out _ _ ?_ ?_
                    · exact ⟨xD_33, xE_33, xF_33, xG_33, xX_33, xY_33, xS_33, xU_33, xA_33⟩
                    clear hK K hHeld cA_33 fA_33 zA_33 cB_33 fB_33 zB_33 cC_33 fC_33 zC_33 cD_33 fD_33 zD_33 cE_33 fE_33 zE_33 cF_33 fF_33 zF_33 cG_33 fG_33 zG_33 cX_33 fX_33 zX_33 cY_33 fY_33 zY_33 cS_33 fS_33 zS_33 cU_33 fU_33 zU_33
                    intro hHeld
                    try simp only [Act.put, List.setIfInBounds_toArray, List.set_cons_zero, List.set_cons_succ]
                    refine wpAnyH_ready (rs := [75]) (by kernel_rfl) (by simp) ?_
                    refine AllReadyH.cons (o := ⟨some 194, .call _, _, _, _, _⟩) rfl (fun K hK => ?_) AllReadyH.nil
                    go_simp
                    refine (sval_eqS HB1.out _ O1.out).mono ?_
                    rintro e w34 ⟨rfl, hb34⟩
                    have B34 : Bl w w34 := bl_call B33 hb34
                    have xA_34 : Bx w34 (w1.heap.size) #[.slice a1 m1 k1, .slice b1 n1 l1, .slice c1 o1 q1] := xA_33.below hb34
                    have xB_34 : Bx w34 (w5.heap.size) #[.slice a2 m2 k2, .slice b2 n2 l2, .slice c2 o2 q2] := xB_33.below hb34
                    have xC_34 : Bx w34 (w9.heap.size) #[.slice a3 m3 k3, .slice b3 n3 l3, .slice c3 o3 q3] := xC_33.below hb34
                    have xD_34 : Bx w34 (w11.heap.size) #[.slice a4 m4 k4, .slice b4 n4 l4, .slice c4 o4 q4] := xD_33.below hb34
                    have xE_34 : Bx w34 (w13.heap.size) #[.slice a5 m5 k5, .slice b5 n5 l5, .slice c5 o5 q5] := xE_33.below hb34
                    have xF_34 : Bx w34 (w15.heap.size) #[.slice a6 m6 k6, .slice b6 n6 l6, .slice c6 o6 q6] := xF_33.below hb34
                    have xG_34 : Bx w34 (w18.heap.size) #[.slice a7 m7 k7, .slice b7 n7 l7, .slice c7 o7 q7] := xG_33.below hb34
                    have xX_34 : Bx w34 (w21.heap.size) #[.slice a8 m8 k8, .slice b8 n8 l8, .slice c8 o8 q8] := xX_33.below hb34
                    have xY_34 : Bx w34 (w23.heap.size) #[.slice a9 m9 k9, .slice b9 n9 l9, .slice c9 o9 q9] := xY_33.below hb34
                    have xS_34 : Bx w34 (w25.heap.size) #[.slice a10 s10.H.length k10, .slice b10 s10.P.length l10, .slice c10 s10.G.length q10] := xS_33.below hb34
                    have xU_34 : Bx w34 (w25.heap.size + 1) #[.slice a11 s11.H.length k11, .slice b11 s11.P.length l11, .slice c11 s11.G.length q11] := xU_33.below hb34
                    obtain ⟨cA_34, fA_34, zA_34⟩ := xA_34.out
                    obtain ⟨cB_34, fB_34, zB_34⟩ := xB_34.out
                    obtain ⟨cC_34, fC_34, zC_34⟩ := xC_34.out
                    obtain ⟨cD_34, fD_34, zD_34⟩ := xD_34.out
                    obtain ⟨cE_34, fE_34, zE_34⟩ := xE_34.out
                    obtain ⟨cF_34, fF_34, zF_34⟩ := xF_34.out
                    obtain ⟨cG_34, fG_34, zG_34⟩ := xG_34.out
                    obtain ⟨cX_34, fX_34, zX_34⟩ := xX_34.out
                    obtain ⟨cY_34, fY_34, zY_34⟩ := xY_34.out
                    obtain ⟨cS_34, fS_34, zS_34⟩ := xS_34.out
                    obtain ⟨cU_34, fU_34, zU_34⟩ := xU_34.out
                    have O1 : Hid (SlS w34 (.slice a1 m1 k1) (.slice b1 n1 l1) (.slice c1 o1 q1) s1) := Lib.hid ((O1.out.below (bl_refl w33)).below hb34)
                    have O2 : Hid (SlS w34 (.slice a2 m2 k2) (.slice b2 n2 l2) (.slice c2 o2 q2) s2) := Lib.hid ((O2.out.below (bl_refl w33)).below hb34)
                    have M1 : Hid (Sl w34 (.slice av1 L2.length cv1) L2) := Lib.hid ((M1.out.below (bl_refl w33)).below hb34)
                    have M2 : Hid (Sl w34 (.slice av2 L2.length cv2) L2) := Lib.hid ((M2.out.below (bl_refl w33)).below hb34)
                    have O3 : Hid (SlS w34 (.slice a3 m3 k3) (.slice b3 n3 l3) (.slice c3 o3 q3) s3) := Lib.hid ((O3.out.below (bl_refl w33)).below hb34)
                    have O4 : Hid (SlS w34 (.slice a4 m4 k4) (.slice b4 n4 l4) (.slice c4 o4 q4) t3) := Lib.hid ((O4.out.below (bl_refl w33)).below hb34)
                    have O5 : Hid (SlS w34 (.slice a5 m5 k5) (.slice b5 n5 l5) (.slice c5 o5 q5) t3) := Lib.hid ((O5.out.below (bl_refl w33)).below hb34)
                    have O6 : Hid (SlS w34 (.slice a6 m6 k6) (.slice b6 n6 l6) (.slice c6 o6 q6) s6) := Lib.hid ((O6.out.below (bl_refl w33)).below hb34)
                    have O7 : Hid (SlS w34 (.slice a7 m7 k7) (.slice b7 n7 l7) (.slice c7 o7 q7) ⟨[], [], []⟩) := Lib.hid ((O7.out.below (bl_refl w33)).below hb34)
                    have O8 : Hid (SlS w34 (.slice a8 m8 k8) (.slice b8 n8 l8) (.slice c8 o8 q8) s8) := Lib.hid ((O8.out.below (bl_refl w33)).below hb34)
                    have O9 : Hid (SlS w34 (.slice a9 m9 k9) (.slice b9 n9 l9) (.slice c9 o9 q9) s8) := Lib.hid ((O9.out.below (bl_refl w33)).below hb34)
                    have O10 : Hid (SlS w34 (.slice a10 s10.H.length k10) (.slice b10 s10.P.length l10) (.slice c10 s10.G.length q10) s10) := Lib.hid ((O10.out.below (bl_refl w33)).below hb34)
                    have O11 : Hid (SlS w34 (.slice a11 s11.H.length k11) (.slice b11 s11.P.length l11) (.slice c11 s11.G.length q11) s11) := Lib.hid ((O11.out.below (bl_refl w33)).below hb34)
                    have Rw34 : Bl w26 w34 := bl_call Rw33 hb34
                    go_wp2_with fail
                    refine hK.out _ _ ?_ ?_
                    · exact ⟨xD_34, xE_34, xF_34, xG_34, xX_34, xY_34, xS_34, xU_34, xA_34⟩
                    clear hK K hHeld cA_34 fA_34 zA_34 cB_34 fB_34 zB_34 cC_34 fC_34 zC_34 cD_34 fD_34 zD_34 cE_34 fE_34 zE_34 cF_34 fF_34 zF_34 cG_34 fG_34 zG_34 cX_34 fX_34 zX_34 cY_34 fY_34 zY_34 cS_34 fS_34 zS_34 cU_34 fU_34 zU_34
                    intro hHeld
                    try simp only [Act.put, List.setIfInBounds_toArray, List.set_cons_zero, List.set_cons_succ]
                    refine' wpAnyH_take (i := 76) (oi := ⟨some 195, .binOp _ _ _ _ _, _, _, _, _⟩) (v := _) rfl (by kernel_rfl) (by kernel_rfl) (by kernel_rfl) (fun _ _ _ h => h) (Or.inl ⟨by rfl, ?_⟩) hHeld ?_
                    rotate_left
                    · (intro wS _; go_simp; try with_reducible rfl)
                    simp only [Act.put, List.setIfInBounds_toArray, List.set_cons_zero, List.set_cons_succ]
                    refine' wpAnyH_take (i := 77) (oi := ⟨some 196, .pick _ _ _, _, _, _, _⟩) (v := _) rfl (by kernel_rfl) (by kernel_rfl) (by kernel_rfl) (fun _ _ _ h => h) (Or.inl ⟨by rfl, ?_⟩) hHeld ?_
                    rotate_left
                    · (intro wS _; go_simp; try with_reducible rfl)
                    simp only [Act.put, List.setIfInBounds_toArray, List.set_cons_zero, List.set_cons_succ]
                    refine wpAnyH_done (by kernel_rfl) ?_ _
                    go_wp2_with fail
                    go_meet
                    exact ⟨by first | rfl | simp, Rw34⟩
    case rest =>
      obtain ⟨rfl, hcut⟩ := hcut
      obtain ⟨WW, rfl⟩ : ∃ x : World, x = wc := ⟨_, rfl⟩
      have BW : Bl w WW := bl_call B26 hcut
      have O2 : Hid (SlS WW (.slice a2 m2 k2) (.slice b2 n2 l2) (.slice c2 o2 q2) s2) := Lib.hid (O2.out.below hcut)
      have M2 : Hid (Sl WW (.slice av2 L2.length cv2) L2) := Lib.hid (M2.out.below hcut)
      have O3 : Hid (SlS WW (.slice a3 m3 k3) (.slice b3 n3 l3) (.slice c3 o3 q3) s3) := Lib.hid (O3.out.below hcut)
      have O4 : Hid (SlS WW (.slice a4 m4 k4) (.slice b4 n4 l4) (.slice c4 o4 q4) t3) := Lib.hid (O4.out.below hcut)
      have XB : Bx WW (w5.heap.size) #[.slice a2 m2 k2, .slice b2 n2 l2, .slice c2 o2 q2] := xB_26.below hcut
      have XC : Bx WW (w9.heap.size) #[.slice a3 m3 k3, .slice b3 n3 l3, .slice c3 o3 q3] := xC_26.below hcut
      have XD : Bx WW (w11.heap.size) #[.slice a4 m4 k4, .slice b4 n4 l4, .slice c4 o4 q4] := xD_26.below hcut
      clear hcut cA_26 fA_26 zA_26 cB_26 fB_26 zB_26 cC_26 fC_26 zC_26 cD_26 fD_26 zD_26 cE_26 fE_26 zE_26 cF_26 fF_26 zF_26 cG_26 fG_26 zG_26 cX_26 fX_26 zX_26 cY_26 fY_26 zY_26 cS_26 fS_26 zS_26 cU_26 fU_26 zU_26 xA_26 xB_26 xC_26 xD_26 xE_26 xF_26 xG_26 xX_26 xY_26 xS_26 xU_26 O1 O5 O6 O7 M1 O8 O9 O10 O11
      as_aux_lemma =>
        have hLl : (L2.length : Int) ≤ 9223372036854775807 := by have := M2.out.len; omega
        go_wp2_with fail
        go_loopw [32] (fun s32 wr => ∃ i : Nat, s32 = .int .i64 (i : Int) ∧ i ≤ L2.length ∧ Bl WW wr) (fun s32 _ => L2.length - (intOf s32).toNat)
        case atStart => exact ⟨0, rfl, by omega, bl_refl _⟩
        case round =>
          obtain ⟨i, rfl, hi, hB⟩ := hrel
          go_upto_region 22 with fail
          go_cut [204] from 197 to 222 (fun s204 wx => s204 = .bool (decide (y2 = 0 ∧ i < L2.length)) ∧ wx = wr)
          case first =>
            by_cases hy : y2 = 0
            · subst hy
              by_cases hlt : i < L2.length
              · have h1 : (i : Int) < (L2.length : Int) := by omega
                go_wp2_with fail
                go_meet
                exact ⟨by simp [hlt], rfl⟩
              · have h1 : ¬ (i : Int) < (L2.length : Int) := by omega
                go_wp2_with fail
                go_meet
                exact ⟨by simp [hlt], rfl⟩
            · have e2 : (y2 == 0) = false := by simp [hy]
              go_wp2_with fail
              go_meet
              exact ⟨by simp [hy], rfl⟩
          case rest =>
            obtain ⟨rfl, rfl⟩ := hcut
            by_cases hP : y2 = 0 ∧ i < L2.length
            · rw [decide_eq_true hP]
              obtain ⟨rfl, hlt⟩ := hP
              obtain ⟨x, hx, ht⟩ := first_at HX2.out hlt
              have HT := Lib.hid ht
              obtain ⟨bR, oR, rfl, hcell⟩ := sl_twoS M2.out hB hlt
              have r1 := hcell i _ hx
              have z1 := cell_lt r1
              have h1 : (i : Int) < (L2.length : Int) := by omega
              have XBr := XB.below hB
              obtain ⟨cB, fB, zB⟩ := XBr.out
              clear hcell hx ht
              go_wp2_with fail
              refine (ita_eq HT.out _ (O2.out.below hB)).mono ?_
              rintro e w9 ⟨rfl, hb9⟩
              have r1 : w9.cell? ⟨bR, oR + i, none⟩ = some (.int .i64 x) := (hb9.cell (p := ⟨bR, oR + i, none⟩) (cell_lt r1)).trans r1
              have B9 : Bl WW w9 := bl_call hB hb9
              clear cB fB zB XBr
              go_wp2
              go_roundw
              case rel => exact ⟨i + 1, by go_num, by omega, B9⟩
              case measure => simp only [intOf]; omega
            · rw [decide_eq_false hP]
              clear hP
              go_wp2_with fail
              go_loopw [35] (fun s35 wq => ∃ j : Nat, s35 = .int .i64 (j : Int) ∧ j ≤ 20 ∧ Bl WW wq) (fun s35 _ => 20 - (intOf s35).toNat)
              case atStart => exact ⟨0, rfl, by omega, hB⟩
              case round =>
                obtain ⟨j, rfl, hj, hQ⟩ := hrel
                by_cases hy : y3 = 0
                · subst hy
                  have hbd := skip_bd HX3.out
                  by_cases hlt : j < 20
                  · have h1 : (j : Int) < 20 := by omega
                    have hw : IntKind.i64.wrap (kk3 + (j : Int)) = kk3 + (j : Int) := by rw [IntKind.wrap_i64]; omega
                    by_cases hm : kk3 + (j : Int) ≤ 1000
                    · obtain ⟨⟨x, c⟩, hx⟩ : ∃ X, termAtF s3 (kk3 + (j : Int)) = X := ⟨_, rfl⟩
                      have HX := Lib.hid hx
                      have HY := Lib.hid ((skip_at HX3.out hlt hm).2.trans hx)
                      have XCr := XC.below hQ
                      have XDr := XD.below hQ
                      obtain ⟨cC, fC, zC⟩ := XCr.out
                      obtain ⟨cD, fD, zD⟩ := XDr.out
                      clear hx
                      go_wp2_with fail
                      refine (ita_eq HY.out _ (O4.out.below hQ)).mono ?_
                      rintro e w8 ⟨rfl, hb8⟩
                      have B8 : Bl WW w8 := bl_call hQ hb8
                      have XC8 := XCr.below hb8
                      clear cC fC zC cD fD zD XDr
                      obtain ⟨cC, fC, zC⟩ := XC8.out
                      go_wp2_with fail
                      refine (ita_eq HX.out _ (O3.out.below B8)).mono ?_
                      rintro e w9 ⟨rfl, hb9⟩
                      have B9 : Bl WW w9 := bl_call B8 hb9
                      clear cC fC zC XC8 XCr
                      go_wp2
                      go_roundw
                      case rel => exact ⟨j + 1, by go_num, by omega, B9⟩
                      case measure => simp only [intOf]; omega
                    · go_wp2
                      go_ret
                      exact ⟨by first | rfl | simp, bl_call BW hQ⟩
                  · have h1 : ¬ (j : Int) < 20 := by omega
                    go_wp2
                    go_ret
                    exact ⟨by first | rfl | simp, bl_call BW hQ⟩
                · have e3 : (y3 == 0) = false := by simp [hy]
                  go_wp2
                  go_ret
                  exact ⟨by first | rfl | simp, bl_call BW hQ⟩

end Go.Proofs.YtndblondleclpaaGreatDoor
