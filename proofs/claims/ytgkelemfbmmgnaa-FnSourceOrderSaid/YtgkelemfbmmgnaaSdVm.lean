/- Draws of two sources and of lists of sources. Each theorem names its conditions. -/
import Derived.Test.YtgkelemfbmmgnaaSdTm
import Derived.Test.YtgkelemfbmmgnaaMO5
namespace Go.Proofs.Ytgkelemfbmmgnaa
open Go.RowKit
set_option linter.unusedVariables false
set_option linter.unusedSimpArgs false
theorem slS_shape {w : World} {h p g : Value} {s : Src} (x : SlS w h p g s) : (∃ a n c, h = .slice a n c) ∧ (∃ a n c, p = .slice a n c) ∧ (∃ a n c, g = .slice a n c) := by
  obtain ⟨a, c, e, _⟩ := x.1.form
  obtain ⟨a', c', e', _⟩ := x.2.1.form
  obtain ⟨a'', c'', e'', _⟩ := x.2.2.form
  exact ⟨⟨a, _, c, e⟩, ⟨a', _, c', e'⟩, ⟨a'', _, c'', e''⟩⟩

/-- Two sources, their boxes bA and bB, and two result boxes of a call that began at w. -/
structure Tz (w wr : World) (p bA bB : Nat) (ha pa ga : Value) (sa : Src) (hb pb gb : Value) (sb : Src) : Prop where
  R1 : Bx wr w.heap.size #[.slice none 0 0, .slice none 0 0, .slice none 0 0]
  R2 : Bx wr (w.heap.size + 1) #[.slice none 0 0, .slice none 0 0, .slice none 0 0]
  XA : Bx wr bA #[ha, pa, ga]
  XB : Bx wr bB #[hb, pb, gb]
  A : SlS wr ha pa ga sa
  B : SlS wr hb pb gb sb
  nA : ∀ k, blks ha pa ga k → w.heap.size + 2 ≤ k ∧ k ≠ p
  nB : ∀ k, blks hb pb gb k → w.heap.size + 2 ≤ k ∧ k ≠ p
  L : Bl w wr
  pw : w.heap.size + 2 ≤ p
  pA : bA ≠ p
  pB : bB ≠ p
theorem Tz.bl {w wr wn : World} {p bA bB : Nat} {ha pa ga : Value} {sa : Src} {hb pb gb : Value} {sb : Src} (T : Tz w wr p bA bB ha pa ga sa hb pb gb sb) (h : Bl wr wn) : Tz w wn p bA bB ha pa ga sa hb pb gb sb :=
  ⟨T.R1.below h, T.R2.below h, T.XA.below h, T.XB.below h, T.A.below h, T.B.below h, T.nA, T.nB, bl_call T.L h, T.pw, T.pA, T.pB⟩
theorem Tz.upd {w wr wn : World} {p bA bB : Nat} {ha pa ga : Value} {sa : Src} {hb pb gb : Value} {sb : Src} (T : Tz w wr p bA bB ha pa ga sa hb pb gb sb) (h : Upd wr wn p) : Tz w wn p bA bB ha pa ga sa hb pb gb sb :=
  ⟨T.R1.upd h (by have := T.pw; omega), T.R2.upd h (by have := T.pw; omega), T.XA.upd h T.pA, T.XB.upd h T.pB, slS_onlyV T.A (only_upd h) (fun k hk e => (T.nA k hk).2 e), slS_onlyV T.B (only_upd h) (fun k hk e => (T.nB k hk).2 e), T.nA, T.nB, bl_of_upd T.L h (by have := T.pw; omega), T.pw, T.pA, T.pB⟩
theorem tz_set {w W : World} {ha pa ga : Value} {sa : Src} {b j : Nat} (A : SlS W ha pa ga sa) (nA : ∀ k, blks ha pa ga k → w.heap.size + 2 ≤ k) (h : b < w.heap.size + 2) (v : Value) : SlS (W.setCell ⟨b, j, none⟩ v) ha pa ga sa :=
  slS_onlyV A (only_set _ _ _) (fun k hk e => by have := nA k hk; simp at e; omega)
def TwO (w : World) (e : Ending) (w' : World) : Prop := ∃ ha pa ga sa hb pb gb sb, ∃ m : Int, e = .returned (.tuple #[.agg #[ha, pa, ga], .agg #[hb, pb, gb], .int .i64 m]) ∧ SlS w' ha pa ga sa ∧ SlS w' hb pb gb sb ∧ Bl w w'
def TeO (w : World) (e : Ending) (w' : World) : Prop := ∃ ha pa ga sa hb pb gb sb, e = .returned (.tuple #[.agg #[ha, pa, ga], .agg #[hb, pb, gb]]) ∧ SlS w' ha pa ga sa ∧ SlS w' hb pb gb sb ∧ Bl w w'
theorem tz_set6 {w W : World} {ha pa ga : Value} {sa : Src} (A : SlS W ha pa ga sa) (nA : ∀ k, blks ha pa ga k → w.heap.size + 2 ≤ k) (v0 v1 v2 v3 v4 v5 : Value) :
    SlS ((((((W.setCell ⟨w.heap.size, 0, none⟩ v0).setCell ⟨w.heap.size, 1, none⟩ v1).setCell ⟨w.heap.size, 2, none⟩ v2).setCell ⟨w.heap.size + 1, 0, none⟩ v3).setCell ⟨w.heap.size + 1, 1, none⟩ v4).setCell ⟨w.heap.size + 1, 2, none⟩ v5) ha pa ga sa :=
  tz_set (tz_set (tz_set (tz_set (tz_set (tz_set A nA (by omega) _) nA (by omega) _) nA (by omega) _) nA (by omega) _) nA (by omega) _) nA (by omega) _
theorem bl_set6 {w W : World} (B : Bl w W) (v0 v1 v2 v3 v4 v5 : Value) :
    Bl w ((((((W.setCell ⟨w.heap.size, 0, none⟩ v0).setCell ⟨w.heap.size, 1, none⟩ v1).setCell ⟨w.heap.size, 2, none⟩ v2).setCell ⟨w.heap.size + 1, 0, none⟩ v3).setCell ⟨w.heap.size + 1, 1, none⟩ v4).setCell ⟨w.heap.size + 1, 2, none⟩ v5) :=
  bl_set (bl_set (bl_set (bl_set (bl_set (bl_set B (by simp) _) (by simp) _) (by simp) _) (by simp) _) (by simp) _) (by simp) _
set_option maxRecDepth 100000 in
set_option maxHeartbeats 6400000 in
theorem dcomp_any {w : World} {v : Value} {bs : List Int} (h : SlB w v bs) (hl : bs.length ≤ 4096) :
    Calls Try.prog 6 #[v] w (TwO w) := by
  obtain ⟨av, cv, rfl, hcv⟩ := h.form
  have HS := Lib.hid h
  clear h
  go_enter Try.func6, Try.ntmps6
  go_wp2_with fail
  have xR1 : Bx ((w.alloc (.cells #[.slice none 0 0, .slice none 0 0, .slice none 0 0] 26)).alloc (.cells #[.slice none 0 0, .slice none 0 0, .slice none 0 0] 26)) w.heap.size #[.slice none 0 0, .slice none 0 0, .slice none 0 0] := (Bx.new (b := w.heap.size) w _ 26 rfl).alloc _
  have xR2 : Bx ((w.alloc (.cells #[.slice none 0 0, .slice none 0 0, .slice none 0 0] 26)).alloc (.cells #[.slice none 0 0, .slice none 0 0, .slice none 0 0] 26)) (w.heap.size + 1) #[.slice none 0 0, .slice none 0 0, .slice none 0 0] := Bx.new (b := w.heap.size + 1) (w.alloc (.cells #[.slice none 0 0, .slice none 0 0, .slice none 0 0] 26)) _ 26 (by simp)
  have hA : Bl w ((w.alloc (.cells #[.slice none 0 0, .slice none 0 0, .slice none 0 0] 26)).alloc (.cells #[.slice none 0 0, .slice none 0 0, .slice none 0 0] 26)) := bl_alloc (bl_alloc (bl_refl w) _) _
  have zA : ((w.alloc (.cells #[.slice none 0 0, .slice none 0 0, .slice none 0 0] 26)).alloc (.cells #[.slice none 0 0, .slice none 0 0, .slice none 0 0] 26)).heap.size = w.heap.size + 2 := by simp
  generalize ((w.alloc (.cells #[.slice none 0 0, .slice none 0 0, .slice none 0 0] 26)).alloc (.cells #[.slice none 0 0, .slice none 0 0, .slice none 0 0] 26)) = wa at *
  refine (dfrom_any (HS.out.below hA) (by omega)).mono ?_
  rintro e w1 ⟨p, rfl, hD, hb1⟩
  have hp := hD.out
  have zb := hb1.size
  have x1 := xR1.below hb1
  have x2 := xR2.below hb1
  have L1 : Bl w w1 := bl_call hA hb1
  clear xR1 xR2 hb1 hA
  go_wp2_with fail
  refine (stwo17_any hD (by omega)).mono ?_
  rintro e w2 ⟨ha, pa, ga, sa, hb, pb, gb, sb, rfl, A, B, nA, nB, hS2, hU2⟩
  obtain ⟨⟨b1, m1, k1, rfl⟩, ⟨b2, m2, k2, rfl⟩, ⟨b3, m3, k3, rfl⟩⟩ := slS_shape A
  obtain ⟨⟨d1, o1, q1, rfl⟩, ⟨d2, o2, q2, rfl⟩, ⟨d3, o3, q3, rfl⟩⟩ := slS_shape B
  have zu : w1.heap.size ≤ w2.heap.size := hU2.size
  have x1 := x1.upd hU2 (by omega)
  have x2 := x2.upd hU2 (by omega)
  have L2 : Bl w w2 := bl_of_upd L1 hU2 (by omega)
  have nA : ∀ k, blks (.slice b1 m1 k1) (.slice b2 m2 k2) (.slice b3 m3 k3) k → w.heap.size + 2 ≤ k ∧ k ≠ p := fun k hk => by have := nA k hk; omega
  have nB : ∀ k, blks (.slice d1 o1 q1) (.slice d2 o2 q2) (.slice d3 o3 q3) k → w.heap.size + 2 ≤ k ∧ k ≠ p := fun k hk => by have := nB k hk; omega
  have W3 : Bl w2 ((w2.alloc (.cells #[.slice b1 m1 k1, .slice b2 m2 k2, .slice b3 m3 k3] 26)).alloc (.cells #[.slice d1 o1 q1, .slice d2 o2 q2, .slice d3 o3 q3] 26)) := bl_alloc (bl_alloc (bl_refl w2) _) _
  have xA : Bx ((w2.alloc (.cells #[.slice b1 m1 k1, .slice b2 m2 k2, .slice b3 m3 k3] 26)).alloc (.cells #[.slice d1 o1 q1, .slice d2 o2 q2, .slice d3 o3 q3] 26)) w2.heap.size #[.slice b1 m1 k1, .slice b2 m2 k2, .slice b3 m3 k3] := (Bx.new (b := w2.heap.size) w2 _ 26 rfl).alloc _
  have xB : Bx ((w2.alloc (.cells #[.slice b1 m1 k1, .slice b2 m2 k2, .slice b3 m3 k3] 26)).alloc (.cells #[.slice d1 o1 q1, .slice d2 o2 q2, .slice d3 o3 q3] 26)) (w2.heap.size + 1) #[.slice d1 o1 q1, .slice d2 o2 q2, .slice d3 o3 q3] := Bx.new (b := w2.heap.size + 1) (w2.alloc (.cells #[.slice b1 m1 k1, .slice b2 m2 k2, .slice b3 m3 k3] 26)) _ 26 (by simp)
  have T3 : Tz w ((w2.alloc (.cells #[.slice b1 m1 k1, .slice b2 m2 k2, .slice b3 m3 k3] 26)).alloc (.cells #[.slice d1 o1 q1, .slice d2 o2 q2, .slice d3 o3 q3] 26)) p w2.heap.size (w2.heap.size + 1) (.slice b1 m1 k1) (.slice b2 m2 k2) (.slice b3 m3 k3) sa (.slice d1 o1 q1) (.slice d2 o2 q2) (.slice d3 o3 q3) sb :=
    ⟨x1.below W3, x2.below W3, xA, xB, A.below W3, B.below W3, nA, nB, bl_call L2 W3, by omega, by omega, by omega⟩
  have S3 := hS2.below W3
  clear x1 x2 xA xB A B nA nB L1 L2 W3 hS2 hU2
  go_wp2_with fail
  generalize (w2.alloc (.cells #[.slice b1 m1 k1, .slice b2 m2 k2, .slice b3 m3 k3] 26)).alloc (.cells #[.slice d1 o1 q1, .slice d2 o2 q2, .slice d3 o3 q3] 26) = w3 at *
  have ne1 : w2.heap.size ≠ w.heap.size := by omega
  have ne2 : w2.heap.size ≠ w.heap.size + 1 := by omega
  have ne3 : w2.heap.size + 1 ≠ w.heap.size := by omega
  clear zu hp zb
  obtain ⟨cR1, fR1, zR1⟩ := T3.R1.out
  obtain ⟨cR2, fR2, zR2⟩ := T3.R2.out
  obtain ⟨cA, fA, zA1⟩ := T3.XA.out
  obtain ⟨cB, fB, zB1⟩ := T3.XB.out
  go_region_law ((first | (go_simp; go_at_call 38; go_must (refine (smost_any (S3.below (bl_drew (bl_refl _))) (by omega)).mono ?_; rintro e w4 ⟨m, rfl, hS4, hU4⟩; have T4 := (T3.bl (bl_drew (bl_refl _))).upd hU4; clear cR1 fR1 zR1 cR2 fR2 zR2 cA fA zA1 cB fB zB1; obtain ⟨cR1, fR1, zR1⟩ := T4.R1.out; obtain ⟨cR2, fR2, zR2⟩ := T4.R2.out; obtain ⟨cA, fA, zA1⟩ := T4.XA.out; obtain ⟨cB, fB, zB1⟩ := T4.XB.out); go_wp2_with fail)))
  all_goals
    go_wp2
    refine bodyPost_ret (v := .tuple #[.agg #[.slice b1 m1 k1, .slice b2 m2 k2, .slice b3 m3 k3], .agg #[.slice d1 o1 q1, .slice d2 o2 q2, .slice d3 o3 q3], .int .i64 m]) (by simp only [results, Try.results6]; go_simp) rfl ?_
    exact ⟨_, _, _, sa, _, _, _, sb, m, rfl, tz_set6 T4.A (fun k hk => (T4.nA k hk).1) _ _ _ _ _ _, tz_set6 T4.B (fun k hk => (T4.nB k hk).1) _ _ _ _ _ _, bl_set6 T4.L _ _ _ _ _ _⟩
set_option maxRecDepth 100000 in
set_option maxHeartbeats 6400000 in
theorem dsame_any {w : World} {v : Value} {bs : List Int} (h : SlB w v bs) (hl : bs.length ≤ 4096) :
    Calls Try.prog 17 #[v] w (TwO w) := by
  obtain ⟨av, cv, rfl, hcv⟩ := h.form
  have HS := Lib.hid h
  clear h
  go_enter Try.func17, Try.ntmps17
  go_wp2_with fail
  have xR1 : Bx ((w.alloc (.cells #[.slice none 0 0, .slice none 0 0, .slice none 0 0] 26)).alloc (.cells #[.slice none 0 0, .slice none 0 0, .slice none 0 0] 26)) w.heap.size #[.slice none 0 0, .slice none 0 0, .slice none 0 0] := (Bx.new (b := w.heap.size) w _ 26 rfl).alloc _
  have xR2 : Bx ((w.alloc (.cells #[.slice none 0 0, .slice none 0 0, .slice none 0 0] 26)).alloc (.cells #[.slice none 0 0, .slice none 0 0, .slice none 0 0] 26)) (w.heap.size + 1) #[.slice none 0 0, .slice none 0 0, .slice none 0 0] := Bx.new (b := w.heap.size + 1) (w.alloc (.cells #[.slice none 0 0, .slice none 0 0, .slice none 0 0] 26)) _ 26 (by simp)
  have hA : Bl w ((w.alloc (.cells #[.slice none 0 0, .slice none 0 0, .slice none 0 0] 26)).alloc (.cells #[.slice none 0 0, .slice none 0 0, .slice none 0 0] 26)) := bl_alloc (bl_alloc (bl_refl w) _) _
  have zA : ((w.alloc (.cells #[.slice none 0 0, .slice none 0 0, .slice none 0 0] 26)).alloc (.cells #[.slice none 0 0, .slice none 0 0, .slice none 0 0] 26)).heap.size = w.heap.size + 2 := by simp
  generalize ((w.alloc (.cells #[.slice none 0 0, .slice none 0 0, .slice none 0 0] 26)).alloc (.cells #[.slice none 0 0, .slice none 0 0, .slice none 0 0] 26)) = wa at *
  refine (dfrom_any (HS.out.below hA) (by omega)).mono ?_
  rintro e w1 ⟨p, rfl, hD, hb1⟩
  have hp := hD.out
  have zb := hb1.size
  have x1 := xR1.below hb1
  have x2 := xR2.below hb1
  have L1 : Bl w w1 := bl_call hA hb1
  clear xR1 xR2 hb1 hA
  go_wp2_with fail
  refine (stwo17_any hD (by omega)).mono ?_
  rintro e w2 ⟨ha, pa, ga, sa, hb, pb, gb, sb, rfl, A, B, nA, nB, hS2, hU2⟩
  obtain ⟨⟨b1, m1, k1, rfl⟩, ⟨b2, m2, k2, rfl⟩, ⟨b3, m3, k3, rfl⟩⟩ := slS_shape A
  obtain ⟨⟨d1, o1, q1, rfl⟩, ⟨d2, o2, q2, rfl⟩, ⟨d3, o3, q3, rfl⟩⟩ := slS_shape B
  have zu : w1.heap.size ≤ w2.heap.size := hU2.size
  have x1 := x1.upd hU2 (by omega)
  have x2 := x2.upd hU2 (by omega)
  have L2 : Bl w w2 := bl_of_upd L1 hU2 (by omega)
  have nA : ∀ k, blks (.slice b1 m1 k1) (.slice b2 m2 k2) (.slice b3 m3 k3) k → w.heap.size + 2 ≤ k ∧ k ≠ p := fun k hk => by have := nA k hk; omega
  have nB : ∀ k, blks (.slice d1 o1 q1) (.slice d2 o2 q2) (.slice d3 o3 q3) k → w.heap.size + 2 ≤ k ∧ k ≠ p := fun k hk => by have := nB k hk; omega
  have W3 : Bl w2 ((w2.alloc (.cells #[.slice b1 m1 k1, .slice b2 m2 k2, .slice b3 m3 k3] 26)).alloc (.cells #[.slice d1 o1 q1, .slice d2 o2 q2, .slice d3 o3 q3] 26)) := bl_alloc (bl_alloc (bl_refl w2) _) _
  have xA : Bx ((w2.alloc (.cells #[.slice b1 m1 k1, .slice b2 m2 k2, .slice b3 m3 k3] 26)).alloc (.cells #[.slice d1 o1 q1, .slice d2 o2 q2, .slice d3 o3 q3] 26)) w2.heap.size #[.slice b1 m1 k1, .slice b2 m2 k2, .slice b3 m3 k3] := (Bx.new (b := w2.heap.size) w2 _ 26 rfl).alloc _
  have xB : Bx ((w2.alloc (.cells #[.slice b1 m1 k1, .slice b2 m2 k2, .slice b3 m3 k3] 26)).alloc (.cells #[.slice d1 o1 q1, .slice d2 o2 q2, .slice d3 o3 q3] 26)) (w2.heap.size + 1) #[.slice d1 o1 q1, .slice d2 o2 q2, .slice d3 o3 q3] := Bx.new (b := w2.heap.size + 1) (w2.alloc (.cells #[.slice b1 m1 k1, .slice b2 m2 k2, .slice b3 m3 k3] 26)) _ 26 (by simp)
  have T3 : Tz w ((w2.alloc (.cells #[.slice b1 m1 k1, .slice b2 m2 k2, .slice b3 m3 k3] 26)).alloc (.cells #[.slice d1 o1 q1, .slice d2 o2 q2, .slice d3 o3 q3] 26)) p w2.heap.size (w2.heap.size + 1) (.slice b1 m1 k1) (.slice b2 m2 k2) (.slice b3 m3 k3) sa (.slice d1 o1 q1) (.slice d2 o2 q2) (.slice d3 o3 q3) sb :=
    ⟨x1.below W3, x2.below W3, xA, xB, A.below W3, B.below W3, nA, nB, bl_call L2 W3, by omega, by omega, by omega⟩
  have S3 := hS2.below W3
  clear x1 x2 xA xB A B nA nB L1 L2 W3 hS2 hU2
  go_wp2_with fail
  generalize (w2.alloc (.cells #[.slice b1 m1 k1, .slice b2 m2 k2, .slice b3 m3 k3] 26)).alloc (.cells #[.slice d1 o1 q1, .slice d2 o2 q2, .slice d3 o3 q3] 26) = w3 at *
  have ne1 : w2.heap.size ≠ w.heap.size := by omega
  have ne2 : w2.heap.size ≠ w.heap.size + 1 := by omega
  have ne3 : w2.heap.size + 1 ≠ w.heap.size := by omega
  clear zu hp zb
  obtain ⟨cR1, fR1, zR1⟩ := T3.R1.out
  obtain ⟨cR2, fR2, zR2⟩ := T3.R2.out
  obtain ⟨cA, fA, zA1⟩ := T3.XA.out
  obtain ⟨cB, fB, zB1⟩ := T3.XB.out
  go_region_law ((first | (go_simp; go_at_call 38; go_must (refine (smost_any (S3.below (bl_drew (bl_refl _))) (by omega)).mono ?_; rintro e w4 ⟨m, rfl, hS4, hU4⟩; have T4 := (T3.bl (bl_drew (bl_refl _))).upd hU4; clear cR1 fR1 zR1 cR2 fR2 zR2 cA fA zA1 cB fB zB1; obtain ⟨cR1, fR1, zR1⟩ := T4.R1.out; obtain ⟨cR2, fR2, zR2⟩ := T4.R2.out; obtain ⟨cA, fA, zA1⟩ := T4.XA.out; obtain ⟨cB, fB, zB1⟩ := T4.XB.out); go_wp2_with fail)))
  all_goals
    go_wp2
    refine bodyPost_ret (v := .tuple #[.agg #[.slice b1 m1 k1, .slice b2 m2 k2, .slice b3 m3 k3], .agg #[.slice d1 o1 q1, .slice d2 o2 q2, .slice d3 o3 q3], .int .i64 m]) (by simp only [results, Try.results17]; go_simp) rfl ?_
    exact ⟨_, _, _, sa, _, _, _, sb, m, rfl, tz_set6 T4.A (fun k hk => (T4.nA k hk).1) _ _ _ _ _ _, tz_set6 T4.B (fun k hk => (T4.nB k hk).1) _ _ _ _ _ _, bl_set6 T4.L _ _ _ _ _ _⟩
set_option maxRecDepth 100000 in
set_option maxHeartbeats 6400000 in
theorem dequ_any {w : World} {v : Value} {bs : List Int} (h : SlB w v bs) (hl : bs.length ≤ 4096) :
    Calls Try.prog 14 #[v] w (TeO w) := by
  obtain ⟨av, cv, rfl, hcv⟩ := h.form
  have HS := Lib.hid h
  clear h
  go_enter Try.func14, Try.ntmps14
  go_wp2_with fail
  have xR1 : Bx ((w.alloc (.cells #[.slice none 0 0, .slice none 0 0, .slice none 0 0] 26)).alloc (.cells #[.slice none 0 0, .slice none 0 0, .slice none 0 0] 26)) w.heap.size #[.slice none 0 0, .slice none 0 0, .slice none 0 0] := (Bx.new (b := w.heap.size) w _ 26 rfl).alloc _
  have xR2 : Bx ((w.alloc (.cells #[.slice none 0 0, .slice none 0 0, .slice none 0 0] 26)).alloc (.cells #[.slice none 0 0, .slice none 0 0, .slice none 0 0] 26)) (w.heap.size + 1) #[.slice none 0 0, .slice none 0 0, .slice none 0 0] := Bx.new (b := w.heap.size + 1) (w.alloc (.cells #[.slice none 0 0, .slice none 0 0, .slice none 0 0] 26)) _ 26 (by simp)
  have hA : Bl w ((w.alloc (.cells #[.slice none 0 0, .slice none 0 0, .slice none 0 0] 26)).alloc (.cells #[.slice none 0 0, .slice none 0 0, .slice none 0 0] 26)) := bl_alloc (bl_alloc (bl_refl w) _) _
  have zA : ((w.alloc (.cells #[.slice none 0 0, .slice none 0 0, .slice none 0 0] 26)).alloc (.cells #[.slice none 0 0, .slice none 0 0, .slice none 0 0] 26)).heap.size = w.heap.size + 2 := by simp
  generalize ((w.alloc (.cells #[.slice none 0 0, .slice none 0 0, .slice none 0 0] 26)).alloc (.cells #[.slice none 0 0, .slice none 0 0, .slice none 0 0] 26)) = wa at *
  refine (dfrom_any (HS.out.below hA) (by omega)).mono ?_
  rintro e w1 ⟨p, rfl, hD, hb1⟩
  have hp := hD.out
  have zb := hb1.size
  have x1 := xR1.below hb1
  have x2 := xR2.below hb1
  have L1 : Bl w w1 := bl_call hA hb1
  clear xR1 xR2 hb1 hA
  go_wp2_with fail
  refine (stwo17_any hD (by omega)).mono ?_
  rintro e w2 ⟨ha, pa, ga, sa, hb, pb, gb, sb, rfl, A, B, nA, nB, hS2, hU2⟩
  obtain ⟨⟨b1, m1, k1, rfl⟩, ⟨b2, m2, k2, rfl⟩, ⟨b3, m3, k3, rfl⟩⟩ := slS_shape A
  obtain ⟨⟨d1, o1, q1, rfl⟩, ⟨d2, o2, q2, rfl⟩, ⟨d3, o3, q3, rfl⟩⟩ := slS_shape B
  have zu : w1.heap.size ≤ w2.heap.size := hU2.size
  have x1 := x1.upd hU2 (by omega)
  have x2 := x2.upd hU2 (by omega)
  have L2 : Bl w w2 := bl_of_upd L1 hU2 (by omega)
  have nA : ∀ k, blks (.slice b1 m1 k1) (.slice b2 m2 k2) (.slice b3 m3 k3) k → w.heap.size + 2 ≤ k ∧ k ≠ p := fun k hk => by have := nA k hk; omega
  have nB : ∀ k, blks (.slice d1 o1 q1) (.slice d2 o2 q2) (.slice d3 o3 q3) k → w.heap.size + 2 ≤ k ∧ k ≠ p := fun k hk => by have := nB k hk; omega
  obtain ⟨cR1, fR1, zR1⟩ := x1.out
  obtain ⟨cR2, fR2, zR2⟩ := x2.out
  go_wp2
  refine bodyPost_ret (v := .tuple #[.agg #[.slice b1 m1 k1, .slice b2 m2 k2, .slice b3 m3 k3], .agg #[.slice d1 o1 q1, .slice d2 o2 q2, .slice d3 o3 q3]]) (by simp only [results, Try.results14]; go_simp) rfl ?_
  exact ⟨_, _, _, sa, _, _, _, sb, rfl, tz_set6 A (fun k hk => (nA k hk).1) _ _ _ _ _ _, tz_set6 B (fun k hk => (nB k hk).1) _ _ _ _ _ _, bl_set6 L2 _ _ _ _ _ _⟩
set_option maxRecDepth 100000 in
set_option maxHeartbeats 6400000 in
theorem dsort_any {w : World} {v : Value} {bs : List Int} (h : SlB w v bs) (hl : bs.length ≤ 4096) :
    Calls Try.prog 9 #[v] w (SomeO w) := by
  obtain ⟨av, cv, rfl, hcv⟩ := h.form
  have HS := Lib.hid h
  clear h
  go_enter Try.func9, Try.ntmps9
  go_wp2_with fail
  refine (lsome_any HS.out hl).mono ?_
  rintro e w1 ⟨va, ss, m, rfl, hL, hb⟩
  obtain ⟨a1, c1, rfl, _⟩ := hL.form
  go_wp2
  refine bodyPost_ret (v := .tuple #[.slice a1 ss.length c1, .int .i64 m]) (by simp only [results, Try.results9]; go_simp) rfl ?_
  exact ⟨_, ss, m, rfl, hL, hb⟩

end Go.Proofs.Ytgkelemfbmmgnaa
