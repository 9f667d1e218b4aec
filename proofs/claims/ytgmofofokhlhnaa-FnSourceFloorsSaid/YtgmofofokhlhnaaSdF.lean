/- Draws for the laws on floors of sources: a source, a fraction and a number. Each theorem names its conditions. -/
import Derived.Test.YtgmofofokhlhnaaSdE
namespace Go.Proofs.Ytgmofofokhlhnaa
open Go.RowKit
set_option linter.unusedVariables false
set_option linter.unusedSimpArgs false
set_option maxRecDepth 100000 in
set_option maxHeartbeats 25600000 in
theorem dcmpf_any {w : World} {v : Value} {bs : List Int} (h : SlB w v bs) (hl : bs.length ≤ 4096) :
    Calls Try.prog 65 #[v] w (CfO w) := by
  obtain ⟨av, cv, rfl, hcv⟩ := h.form
  have HS := Lib.hid h
  clear h
  go_enter Try.func65, Try.ntmps65
  go_wp2_with fail
  have xR : Bx ((w.alloc (.cells #[.slice none 0 0, .slice none 0 0, .slice none 0 0] 26)).alloc (.cells #[.int .i64 0, .int .i64 0] 55)) w.heap.size #[.slice none 0 0, .slice none 0 0, .slice none 0 0] := (Bx.new (b := w.heap.size) w _ 26 rfl).alloc _
  have xF : Bx ((w.alloc (.cells #[.slice none 0 0, .slice none 0 0, .slice none 0 0] 26)).alloc (.cells #[.int .i64 0, .int .i64 0] 55)) (w.heap.size + 1) #[.int .i64 0, .int .i64 0] := Bx.new (b := w.heap.size + 1) (w.alloc (.cells #[.slice none 0 0, .slice none 0 0, .slice none 0 0] 26)) _ 55 (by simp)
  have hA : Bl w ((w.alloc (.cells #[.slice none 0 0, .slice none 0 0, .slice none 0 0] 26)).alloc (.cells #[.int .i64 0, .int .i64 0] 55)) := bl_alloc (bl_alloc (bl_refl w) _) _
  have hsz : w.heap.size + 2 ≤ (((w.alloc (.cells #[.slice none 0 0, .slice none 0 0, .slice none 0 0] 26)).alloc (.cells #[.int .i64 0, .int .i64 0] 55))).heap.size := by simp
  generalize ((w.alloc (.cells #[.slice none 0 0, .slice none 0 0, .slice none 0 0] 26)).alloc (.cells #[.int .i64 0, .int .i64 0] 55)) = wa at *
  refine (dfrom_any (HS.out.below hA) (by omega)).mono ?_
  rintro e w1 ⟨p, rfl, hD, hb1⟩
  have hp := hD.out
  have xR := xR.below hb1
  have xF := xF.below hb1
  have B := bl_call hA hb1
  have hs1 := hb1.size
  go_wp2_with fail
  refine (sbent15_any hD (by omega)).mono ?_
  rintro e w2 ⟨h, pp, g, s, rfl, hO, hL, hS2, hU2⟩
  obtain ⟨⟨b1, m1, k1, rfl⟩, ⟨b2, m2, k2, rfl⟩, ⟨b3, m3, k3, rfl⟩⟩ := hO.shape
  have hs2 := hU2.size
  have xR := (xR.upd hU2 (by omega)).alloc (.cells #[.slice b1 m1 k1, .slice b2 m2 k2, .slice b3 m3 k3] 26)
  have xF := (xF.upd hU2 (by omega)).alloc (.cells #[.slice b1 m1 k1, .slice b2 m2 k2, .slice b3 m3 k3] 26)
  have xX : Bx (w2.alloc (.cells #[.slice b1 m1 k1, .slice b2 m2 k2, .slice b3 m3 k3] 26)) w2.heap.size #[.slice b1 m1 k1, .slice b2 m2 k2, .slice b3 m3 k3] := Bx.new (b := w2.heap.size) _ _ _ rfl
  have S := hS2.below (bl_alloc (bl_refl w2) (.cells #[.slice b1 m1 k1, .slice b2 m2 k2, .slice b3 m3 k3] 26))
  have O := (hO.mono (B' := w.heap.size + 2) (by omega)).below (bl_alloc (bl_refl w2) (.cells #[.slice b1 m1 k1, .slice b2 m2 k2, .slice b3 m3 k3] 26))
  have B : Bl w (w2.alloc (.cells #[.slice b1 m1 k1, .slice b2 m2 k2, .slice b3 m3 k3] 26)) := bl_alloc (bl_of_upd B hU2 (by omega)) _
  have hOp : ∀ k, blks (.slice b1 m1 k1) (.slice b2 m2 k2) (.slice b3 m3 k3) k → ¬ k = p := fun k hk e => by have := (hO.blk k hk).1; omega
  have z3 : w2.heap.size + 1 ≤ (w2.alloc (.cells #[.slice b1 m1 k1, .slice b2 m2 k2, .slice b3 m3 k3] 26)).heap.size := by simp
  have hO2 : ∀ k, blks (.slice b1 m1 k1) (.slice b2 m2 k2) (.slice b3 m3 k3) k → k < w2.heap.size := fun k hk => (hO.blk k hk).2
  clear hO hS2 hU2
  go_wp2_with fail
  generalize w2.alloc (.cells #[.slice b1 m1 k1, .slice b2 m2 k2, .slice b3 m3 k3] 26) = w3 at *
  refine (sbent2_any S (by omega)).mono ?_
  rintro e w4 ⟨n, d, rfl, hS4, hU4⟩
  have hs4 := hU4.size
  have xR := (xR.upd hU4 (by omega)).alloc (.cells #[.int .i64 n, .int .i64 d] 55)
  have xF := (xF.upd hU4 (by omega)).alloc (.cells #[.int .i64 n, .int .i64 d] 55)
  have hXp : w2.heap.size ≠ p := by omega
  have xX := (xX.upd hU4 hXp).alloc (.cells #[.int .i64 n, .int .i64 d] 55)
  have xC : Bx (w4.alloc (.cells #[.int .i64 n, .int .i64 d] 55)) w4.heap.size #[.int .i64 n, .int .i64 d] := Bx.new (b := w4.heap.size) _ _ _ rfl
  have S := hS4.below (bl_alloc (bl_refl w4) (.cells #[.int .i64 n, .int .i64 d] 55))
  have O := (O.only2 (only_upd hU4) (fun k hk e => hOp k hk e)).below (bl_alloc (bl_refl w4) (.cells #[.int .i64 n, .int .i64 d] 55))
  have B : Bl w (w4.alloc (.cells #[.int .i64 n, .int .i64 d] 55)) := bl_alloc (bl_of_upd B hU4 (by omega)) _
  have hCp : w4.heap.size ≠ p := by omega
  have hOw4 : ∀ k, blks (.slice b1 m1 k1) (.slice b2 m2 k2) (.slice b3 m3 k3) k → k < w4.heap.size := fun k hk => by have := hO2 k hk; omega
  have z5 : w4.heap.size + 1 ≤ (w4.alloc (.cells #[.int .i64 n, .int .i64 d] 55)).heap.size := by simp
  clear hS4 hU4
  go_wp2_with fail
  generalize w4.alloc (.cells #[.int .i64 n, .int .i64 d] 55) = w5 at *
  cases ho : okSrc s with
  | false =>
    have HO := Lib.hid ho
    clear ho
    refine (svalid_eq HO.out _ O.sl xX).mono ?_
    rintro e w6 ⟨rfl, hb6⟩
    have xR := xR.below hb6
    have xF := xF.below hb6
    have xX := xX.below hb6
    have xC := xC.below hb6
    have S := S.below hb6
    have O := O.below hb6
    have B := bl_call B hb6
    obtain ⟨cR, fR, zR⟩ := xR.out
    obtain ⟨cF, fF, zF⟩ := xF.out
    obtain ⟨cX, fX, zX⟩ := xX.out
    obtain ⟨cC, fC, zC⟩ := xC.out
    go_wp2_with fail
    go_region_with
      ((go_at_call 77; go_must (refine (smost_any (S.below (bl_drew (bl_refl _))) (by omega)).mono ?_; rintro e w9 ⟨m, rfl, hS9, hU9⟩; have xR9 := xR.drew.upd hU9 (by omega); have xF9 := xF.drew.upd hU9 (by omega); have xX9 := xX.drew.upd hU9 hXp; have xC9 := xC.drew.upd hU9 hCp; have O9 := O.drew.only2 (only_upd hU9) (fun k hk e => hOp k hk e); have B9 := bl_of_upd (bl_drew B) hU9 (by omega); clear cR fR zR cF fF zF cX fX zX cC fC zC; obtain ⟨cR, fR, zR⟩ := xR9.out; obtain ⟨cF, fF, zF⟩ := xF9.out; obtain ⟨cX, fX, zX⟩ := xX9.out; obtain ⟨cC, fC, zC⟩ := xC9.out)))
    all_goals
      have O10 := ownS_set2 (b := w.heap.size + 1) (ownS_set3 (b := w.heap.size) (O9.mono (B' := w.heap.size) (by omega)) (fun k hk => by have := (O.blk k hk).1; omega) (.slice b1 m1 k1) (.slice b2 m2 k2) (.slice b3 m3 k3)) (fun k hk => by have := (O.blk k hk).1; omega) (.int .i64 n) (.int .i64 d)
      have O11 := ownS_set3 (b := w.heap.size) (ownS_set2 (b := w.heap.size + 1) (O9.mono (B' := w.heap.size) (by omega)) (fun k hk => by have := (O.blk k hk).1; omega) (.int .i64 n) (.int .i64 d)) (fun k hk => by have := (O.blk k hk).1; omega) (.slice b1 m1 k1) (.slice b2 m2 k2) (.slice b3 m3 k3)
      go_wp2
      refine bodyPost_ret (v := .tuple #[.agg #[.slice b1 m1 k1, .slice b2 m2 k2, .slice b3 m3 k3], .agg #[.int .i64 n, .int .i64 d], .int .i64 m]) (by simp only [results, Try.results65]; go_simp) rfl ?_
      first
        | exact ⟨_, _, _, _, _, _, _, rfl, O10, bl_set (bl_set (bl_set (bl_set (bl_set B9 (by simp) _) (by simp) _) (by simp) _) (by simp) _) (by simp) _⟩
        | exact ⟨_, _, _, _, _, _, _, rfl, O11, bl_set (bl_set (bl_set (bl_set (bl_set B9 (by simp) _) (by simp) _) (by simp) _) (by simp) _) (by simp) _⟩
  | true =>
    have HO := Lib.hid ho
    clear ho
    refine (svalid_eq HO.out _ O.sl xX).mono ?_
    rintro e w6 ⟨rfl, hb6⟩
    have xR := xR.below hb6
    have xF := xF.below hb6
    have xX := xX.below hb6
    have xC := xC.below hb6
    have S := S.below hb6
    have O := O.below hb6
    have B := bl_call B hb6
    go_wp2_with fail
    refine (done_any S (by omega) (by omega)).mono ?_
    rintro e w7 ⟨bb, rfl, hS7, hU7⟩
    have hs6 := hb6.size
    have hs7 := hU7.size
    have xR := xR.upd hU7 (by omega)
    have xF := xF.upd hU7 (by omega)
    have xX := xX.upd hU7 hXp
    have xC := xC.upd hU7 hCp
    have O := O.only2 (only_upd hU7) (fun k hk e => hOp k hk e)
    have B := bl_of_upd B hU7 (by omega)
    have S := hS7
    clear hS7 hU7
    cases bb with
    | false =>
      obtain ⟨cR, fR, zR⟩ := xR.out
      obtain ⟨cF, fF, zF⟩ := xF.out
      obtain ⟨cX, fX, zX⟩ := xX.out
      obtain ⟨cC, fC, zC⟩ := xC.out
      go_wp2_with fail
      go_region_with
        ((go_at_call 77; go_must (refine (smost_any (S.below (bl_drew (bl_refl _))) (by omega)).mono ?_; rintro e w9 ⟨m, rfl, hS9, hU9⟩; have xR9 := xR.drew.upd hU9 (by omega); have xF9 := xF.drew.upd hU9 (by omega); have xX9 := xX.drew.upd hU9 hXp; have xC9 := xC.drew.upd hU9 hCp; have O9 := O.drew.only2 (only_upd hU9) (fun k hk e => hOp k hk e); have B9 := bl_of_upd (bl_drew B) hU9 (by omega); clear cR fR zR cF fF zF cX fX zX cC fC zC; obtain ⟨cR, fR, zR⟩ := xR9.out; obtain ⟨cF, fF, zF⟩ := xF9.out; obtain ⟨cX, fX, zX⟩ := xX9.out; obtain ⟨cC, fC, zC⟩ := xC9.out)))
      all_goals
        have O10 := ownS_set2 (b := w.heap.size + 1) (ownS_set3 (b := w.heap.size) (O9.mono (B' := w.heap.size) (by omega)) (fun k hk => by have := (O.blk k hk).1; omega) (.slice b1 m1 k1) (.slice b2 m2 k2) (.slice b3 m3 k3)) (fun k hk => by have := (O.blk k hk).1; omega) (.int .i64 n) (.int .i64 d)
        have O11 := ownS_set3 (b := w.heap.size) (ownS_set2 (b := w.heap.size + 1) (O9.mono (B' := w.heap.size) (by omega)) (fun k hk => by have := (O.blk k hk).1; omega) (.int .i64 n) (.int .i64 d)) (fun k hk => by have := (O.blk k hk).1; omega) (.slice b1 m1 k1) (.slice b2 m2 k2) (.slice b3 m3 k3)
        go_wp2
        refine bodyPost_ret (v := .tuple #[.agg #[.slice b1 m1 k1, .slice b2 m2 k2, .slice b3 m3 k3], .agg #[.int .i64 n, .int .i64 d], .int .i64 m]) (by simp only [results, Try.results65]; go_simp) rfl ?_
        first
          | exact ⟨_, _, _, _, _, _, _, rfl, O10, bl_set (bl_set (bl_set (bl_set (bl_set B9 (by simp) _) (by simp) _) (by simp) _) (by simp) _) (by simp) _⟩
          | exact ⟨_, _, _, _, _, _, _, rfl, O11, bl_set (bl_set (bl_set (bl_set (bl_set B9 (by simp) _) (by simp) _) (by simp) _) (by simp) _) (by simp) _⟩
    | true =>
      obtain ⟨cX, fX, zX⟩ := xX.out
      go_wp2_with fail
      go_cut [8, 9] (fun s8 s9 wx => ∃ (q : Nat) (n' d' c' : Int), s8 = .pointer (some ⟨q, 0, none⟩) ∧ s9 = .int .i64 c' ∧ Bx wx q #[.int .i64 n', .int .i64 d'] ∧ Upd w7 wx p ∧ SrcD wa wx p 500 ∧ w7.heap.size ≤ q)
      case first =>
        have BB := bl_drew (bl_refl w7)
        have hp7 : p < w7.heap.size := by omega
        go_region_with (first
          | (go_at_call 135; go_must (refine (dpick_any (S.below (by first | exact BB | exact bl_alloc BB _)) (by omega) (by omega)).mono ?_; rintro e w8 ⟨r, rfl, r0, r1, hS8, hU8⟩; have U8 : Upd w7 w8 p := (by first | exact upd_trans (upd_bl (upd_refl _ _) BB) hU8 | exact upd_trans (upd_bl (upd_refl _ _) (bl_alloc BB _)) hU8); (first | (have nb := (Bx.new w7 #[.int .i64 0, .int .i64 0] 55 rfl).drew.upd hU8 (by omega); obtain ⟨cn, fn, zn⟩ := nb.out) | (have nb := (Bx.new w7.drew #[.int .i64 0, .int .i64 0] 55 rfl).upd hU8 (by simp; omega); obtain ⟨cn, fn, zn⟩ := nb.out) | skip); have zz8 := U8.size; clear cX fX zX; have xX8 := xX.upd U8 hXp; obtain ⟨cX, fX, zX⟩ := xX8.out))
          | (go_at_call 134; go_must (refine (spec_ConvergentAt _ _ _ s r _ (by first | exact (O.only2 (only_upd U8) (fun k hk e => hOp k hk e)).sl | exact ((O.only2 (only_upd U8) (fun k hk e => hOp k hk e)).alloc _).sl)).mono ?_; rintro e w9 ⟨rfl, hb9⟩; have U9 : Upd w7 w9 p := (by first | exact upd_bl U8 hb9 | exact upd_bl (upd_bl U8 (bl_alloc (bl_refl _) _)) hb9); (first | (have nb := nb.below hb9; obtain ⟨cn, fn, zn⟩ := nb.out) | (have nb := (Bx.new w8 #[.int .i64 0, .int .i64 0] 55 rfl).below hb9; obtain ⟨cn, fn, zn⟩ := nb.out) | skip); have zz9 := U9.size; have S9 : SrcD wa w9 p 500 := (by first | exact (hS8.below hb9).more (by omega) | exact ((hS8.below (bl_alloc (bl_refl _) _)).below hb9).more (by omega)); clear cX fX zX; have xX9 := xX.upd U9 hXp; obtain ⟨cX, fX, zX⟩ := xX9.out)))
        all_goals (go_wp2_with fail; go_meet)
        all_goals (first
          | exact ⟨_, _, _, _, rfl, rfl, (nb.set 0 _).set 1 _, upd_far (upd_far U9 (by first | (simp; omega) | simp) _) (by first | (simp; omega) | simp) _, (S9.far (by first | (simp; omega) | simp) (by first | (simp; omega) | simp) _).far (by first | (simp; omega) | simp) (by first | (simp; omega) | simp) _, by first | omega | (simp; omega) | simp⟩
          | exact ⟨_, _, _, _, rfl, rfl, Bx.new _ _ _ rfl, upd_bl U9 (bl_alloc (bl_refl _) _), S9.below (bl_alloc (bl_refl _) _), zz9⟩)
      case rest =>
        obtain ⟨q, n', d', c', rfl, rfl, xN, U9, S9, hq⟩ := hcut
        obtain ⟨w9, rfl⟩ : ∃ x : World, x = wc := ⟨_, rfl⟩
        clear cX fX zX S
        have zz9 := U9.size
        have xR := xR.upd U9 (by omega)
        have xF := xF.upd U9 (by omega)
        have xX := xX.upd U9 hXp
        have hlF := xF.out.2.2
        have xC7 := xC.out.2.2
        have xC := xC.upd U9 hCp
        have O := O.only2 (only_upd U9) (fun k hk e => hOp k hk e)
        have B := bl_of_upd B U9 (by omega)
        have S := S9
        clear S9
        by_cases hc0 : c' = 0
        · have hc2 : (c' == 0) = true := by simp [hc0]
          clear hc0
          obtain ⟨cN, fN, zN⟩ := xN.out
          obtain ⟨cC, fC, zC⟩ := xC.out
          have xR := (xR.far (p := ⟨w4.heap.size, 0, none⟩) (by simp; omega) (.int .i64 n')).far (p := ⟨w4.heap.size, 1, none⟩) (by simp; omega) (.int .i64 d')
          have xF := (xF.far (p := ⟨w4.heap.size, 0, none⟩) (by simp; omega) (.int .i64 n')).far (p := ⟨w4.heap.size, 1, none⟩) (by simp; omega) (.int .i64 d')
          have xX := (xX.far (p := ⟨w4.heap.size, 0, none⟩) (by simp; omega) (.int .i64 n')).far (p := ⟨w4.heap.size, 1, none⟩) (by simp; omega) (.int .i64 d')
          have S := (S.far (q := ⟨w4.heap.size, 0, none⟩) (by simp; omega) (by simp; omega) (.int .i64 n')).far (q := ⟨w4.heap.size, 1, none⟩) (by simp; omega) (by simp; omega) (.int .i64 d')
          have O := ownS_set2 (b := w4.heap.size) O (fun k hk e => by have := hOw4 k hk; omega) (.int .i64 n') (.int .i64 d')
          have B : Bl w ((w9.setCell ⟨w4.heap.size, 0, none⟩ (.int .i64 n')).setCell ⟨w4.heap.size, 1, none⟩ (.int .i64 d')) := bl_set (bl_set B (by simp; omega) _) (by simp; omega) _
          have xC := (xC.set 0 (.int .i64 n')).set 1 (.int .i64 d')
          have z9' : w9.heap.size ≤ ((w9.setCell ⟨w4.heap.size, 0, none⟩ (.int .i64 n')).setCell ⟨w4.heap.size, 1, none⟩ (.int .i64 d')).heap.size := by simp
          go_wp2_with fail
          clear cN fN zN cC fC zC
          generalize (w9.setCell ⟨w4.heap.size, 0, none⟩ (.int .i64 n')).setCell ⟨w4.heap.size, 1, none⟩ (.int .i64 d') = w10 at *
          obtain ⟨cR, fR, zR⟩ := xR.out
          obtain ⟨cF, fF, zF⟩ := xF.out
          obtain ⟨cX, fX, zX⟩ := xX.out
          obtain ⟨cC, fC, zC⟩ := xC.out
          go_wp2_with fail
          go_region_with
            ((go_at_call 77; go_must (refine (smost_any (S.below (bl_drew (bl_refl _))) (by omega)).mono ?_; rintro e w9 ⟨m, rfl, hS9, hU9⟩; have xR9 := xR.drew.upd hU9 (by omega); have xF9 := xF.drew.upd hU9 (by omega); have xX9 := xX.drew.upd hU9 hXp; have xC9 := xC.drew.upd hU9 hCp; have O9 := O.drew.only2 (only_upd hU9) (fun k hk e => hOp k hk e); have B9 := bl_of_upd (bl_drew B) hU9 (by omega); clear cR fR zR cF fF zF cX fX zX cC fC zC; obtain ⟨cR, fR, zR⟩ := xR9.out; obtain ⟨cF, fF, zF⟩ := xF9.out; obtain ⟨cX, fX, zX⟩ := xX9.out; obtain ⟨cC, fC, zC⟩ := xC9.out)))
          all_goals
            have O10 := ownS_set2 (b := w.heap.size + 1) (ownS_set3 (b := w.heap.size) (O9.mono (B' := w.heap.size) (by omega)) (fun k hk => by have := (O.blk k hk).1; omega) (.slice b1 m1 k1) (.slice b2 m2 k2) (.slice b3 m3 k3)) (fun k hk => by have := (O.blk k hk).1; omega) (.int .i64 n') (.int .i64 d')
            have O11 := ownS_set3 (b := w.heap.size) (ownS_set2 (b := w.heap.size + 1) (O9.mono (B' := w.heap.size) (by omega)) (fun k hk => by have := (O.blk k hk).1; omega) (.int .i64 n') (.int .i64 d')) (fun k hk => by have := (O.blk k hk).1; omega) (.slice b1 m1 k1) (.slice b2 m2 k2) (.slice b3 m3 k3)
            go_wp2
            refine bodyPost_ret (v := .tuple #[.agg #[.slice b1 m1 k1, .slice b2 m2 k2, .slice b3 m3 k3], .agg #[.int .i64 n', .int .i64 d'], .int .i64 m]) (by simp only [results, Try.results65]; go_simp) rfl ?_
            first
              | exact ⟨_, _, _, _, _, _, _, rfl, O10, bl_set (bl_set (bl_set (bl_set (bl_set B9 (by simp) _) (by simp) _) (by simp) _) (by simp) _) (by simp) _⟩
              | exact ⟨_, _, _, _, _, _, _, rfl, O11, bl_set (bl_set (bl_set (bl_set (bl_set B9 (by simp) _) (by simp) _) (by simp) _) (by simp) _) (by simp) _⟩
        · have hc2 : (c' == 0) = false := by simp [hc0]
          clear hc0
          obtain ⟨cR, fR, zR⟩ := xR.out
          obtain ⟨cF, fF, zF⟩ := xF.out
          obtain ⟨cX, fX, zX⟩ := xX.out
          obtain ⟨cC, fC, zC⟩ := xC.out
          go_wp2_with fail
          go_region_with
            ((go_at_call 77; go_must (refine (smost_any (S.below (bl_drew (bl_refl _))) (by omega)).mono ?_; rintro e w9 ⟨m, rfl, hS9, hU9⟩; have xR9 := xR.drew.upd hU9 (by omega); have xF9 := xF.drew.upd hU9 (by omega); have xX9 := xX.drew.upd hU9 hXp; have xC9 := xC.drew.upd hU9 hCp; have O9 := O.drew.only2 (only_upd hU9) (fun k hk e => hOp k hk e); have B9 := bl_of_upd (bl_drew B) hU9 (by omega); clear cR fR zR cF fF zF cX fX zX cC fC zC; obtain ⟨cR, fR, zR⟩ := xR9.out; obtain ⟨cF, fF, zF⟩ := xF9.out; obtain ⟨cX, fX, zX⟩ := xX9.out; obtain ⟨cC, fC, zC⟩ := xC9.out)))
          all_goals
            have O10 := ownS_set2 (b := w.heap.size + 1) (ownS_set3 (b := w.heap.size) (O9.mono (B' := w.heap.size) (by omega)) (fun k hk => by have := (O.blk k hk).1; omega) (.slice b1 m1 k1) (.slice b2 m2 k2) (.slice b3 m3 k3)) (fun k hk => by have := (O.blk k hk).1; omega) (.int .i64 n) (.int .i64 d)
            have O11 := ownS_set3 (b := w.heap.size) (ownS_set2 (b := w.heap.size + 1) (O9.mono (B' := w.heap.size) (by omega)) (fun k hk => by have := (O.blk k hk).1; omega) (.int .i64 n) (.int .i64 d)) (fun k hk => by have := (O.blk k hk).1; omega) (.slice b1 m1 k1) (.slice b2 m2 k2) (.slice b3 m3 k3)
            go_wp2
            refine bodyPost_ret (v := .tuple #[.agg #[.slice b1 m1 k1, .slice b2 m2 k2, .slice b3 m3 k3], .agg #[.int .i64 n, .int .i64 d], .int .i64 m]) (by simp only [results, Try.results65]; go_simp) rfl ?_
            first
              | exact ⟨_, _, _, _, _, _, _, rfl, O10, bl_set (bl_set (bl_set (bl_set (bl_set B9 (by simp) _) (by simp) _) (by simp) _) (by simp) _) (by simp) _⟩
              | exact ⟨_, _, _, _, _, _, _, rfl, O11, bl_set (bl_set (bl_set (bl_set (bl_set B9 (by simp) _) (by simp) _) (by simp) _) (by simp) _) (by simp) _⟩

end Go.Proofs.Ytgmofofokhlhnaa
