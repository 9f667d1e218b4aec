/- Draws of two sources that often begin with the same terms. Each theorem names its conditions. -/
import Derived.Test.YtgkelemfbmmgnaaMO2
import Derived.Test.YtgkelemfbmmgnaaMO3
namespace Go.Proofs.Ytgkelemfbmmgnaa
open Go.RowKit
set_option linter.unusedVariables false
set_option linter.unusedSimpArgs false

theorem SlS.only {w w' : World} {h p g : Value} {s : Src} {S : Nat → Prop} (x : SlS w h p g s) (ho : Only w w' S) (hn : ∀ k, blks h p g k → ¬ S k) : SlS w' h p g s :=
  ⟨x.1.only ho (fun k _ e => hn k (.inl e)), x.2.1.only ho (fun k _ e => hn k (.inr (.inl e))), x.2.2.only ho (fun k _ e => hn k (.inr (.inr e)))⟩
/-- Within a call that began at w: a source of choices p, two result boxes, a source in block bA, and a box bB. -/
structure T2 (w0 w wr : World) (p N bA bB : Nat) (ha pa ga : Value) (sa : Src) (cs : Array Value) : Prop where
  S : SrcD w0 wr p N
  U : Upd w wr p
  R1 : Bx wr w.heap.size #[.slice none 0 0, .slice none 0 0, .slice none 0 0]
  R2 : Bx wr (w.heap.size + 1) #[.slice none 0 0, .slice none 0 0, .slice none 0 0]
  XA : Bx wr bA #[ha, pa, ga]
  XB : Bx wr bB cs
  A : SlS wr ha pa ga sa
  nA : ∀ k, blks ha pa ga k → w.heap.size + 2 ≤ k ∧ k < bB
  ab : bA < bB
  ba : w.heap.size + 2 ≤ bA
  bb : w.heap.size + 2 ≤ bB
  pw : p < w.heap.size
  w0w : w0.heap.size ≤ w.heap.size
theorem T2.only {w0 w wr wn : World} {p N bA bB : Nat} {ha pa ga : Value} {sa : Src} {cs : Array Value} {S : Nat → Prop} (T : T2 w0 w wr p N bA bB ha pa ga sa cs) (ho : Only wr wn S) (h1 : ∀ k, S k → w.heap.size + 2 ≤ k ∧ k ≠ bA ∧ k ≠ bB ∧ ¬ blks ha pa ga k) : T2 w0 w wn p N bA bB ha pa ga sa cs :=
  ⟨T.S.only ho (fun e => by have := (h1 _ e).1; have := T.pw; omega) (fun k e => by have := (h1 _ e).1; have := T.w0w; omega), upd_only T.U ho (fun k e => by have := (h1 _ e).1; omega), T.R1.only ho (fun e => by have := (h1 _ e).1; omega), T.R2.only ho (fun e => by have := (h1 _ e).1; omega), T.XA.only ho (fun e => (h1 _ e).2.1 rfl), T.XB.only ho (fun e => (h1 _ e).2.2.1 rfl), T.A.only ho (fun k e q => (h1 k q).2.2.2 e), T.nA, T.ab, T.ba, T.bb, T.pw, T.w0w⟩
theorem T2.bl {w0 w wr wn : World} {p N bA bB : Nat} {ha pa ga : Value} {sa : Src} {cs : Array Value} (T : T2 w0 w wr p N bA bB ha pa ga sa cs) (hb : Bl wr wn) : T2 w0 w wn p N bA bB ha pa ga sa cs :=
  ⟨T.S.below hb, upd_bl T.U hb, T.R1.below hb, T.R2.below hb, T.XA.below hb, T.XB.below hb, T.A.below hb, T.nA, T.ab, T.ba, T.bb, T.pw, T.w0w⟩
theorem T2.upd {w0 w wr wn : World} {p N M bA bB : Nat} {ha pa ga : Value} {sa : Src} {cs : Array Value} (T : T2 w0 w wr p N bA bB ha pa ga sa cs) (hS : SrcD w0 wn p M) (hU : Upd wr wn p) : T2 w0 w wn p M bA bB ha pa ga sa cs :=
  ⟨hS, upd_trans T.U hU, T.R1.upd hU (by have := T.pw; omega), T.R2.upd hU (by have := T.pw; omega), T.XA.upd hU (by have := T.pw; have := T.ba; omega), T.XB.upd hU (by have := T.pw; have := T.bb; omega), T.A.only (only_upd hU) (fun k e q => by have := (T.nA k e).1; have := T.pw; omega), T.nA, T.ab, T.ba, T.bb, T.pw, T.w0w⟩
theorem T2.setB {w0 w wr : World} {p N bA bB : Nat} {ha pa ga : Value} {sa : Src} {cs : Array Value} (T : T2 w0 w wr p N bA bB ha pa ga sa cs) (j : Nat) (v : Value) : T2 w0 w (wr.setCell ⟨bB, j, none⟩ v) p N bA bB ha pa ga sa (cs.setIfInBounds j v) := by
  have ho := only_set wr ⟨bB, j, none⟩ v
  have hb := T.bb
  have hp := T.pw
  have hw := T.w0w
  exact ⟨T.S.only ho (by simp; omega) (fun k e => by simp at e; omega), upd_only T.U ho (fun k e => by simp at e; omega), T.R1.only ho (by simp; omega), T.R2.only ho (by simp; omega), T.XA.only ho (by have := T.ab; simp; omega), T.XB.set j v, T.A.only ho (fun k e q => by simp at q; have := (T.nA k e).2; omega), T.nA, T.ab, T.ba, T.bb, T.pw, T.w0w⟩
def TwB (w0 w : World) (p N : Nat) (e : Ending) (w' : World) : Prop := ∃ ha pa ga sa hb pb gb sb, e = .returned (.tuple #[.agg #[ha, pa, ga], .agg #[hb, pb, gb]]) ∧ SlS w' ha pa ga sa ∧ SlS w' hb pb gb sb ∧ (∀ k, blks ha pa ga k → w.heap.size + 2 ≤ k) ∧ (∀ k, blks hb pb gb k → w.heap.size + 2 ≤ k) ∧ SrcD w0 w' p (N + 800) ∧ Upd w w' p
structure Tq (w0 w W : World) (p M : Nat) (ha pa ga : Value) (sa : Src) (hb pb gb : Value) (sb : Src) : Prop where
  A : SlS W ha pa ga sa
  B : SlS W hb pb gb sb
  nA : ∀ k, blks ha pa ga k → w.heap.size + 2 ≤ k
  nB : ∀ k, blks hb pb gb k → w.heap.size + 2 ≤ k
  S : SrcD w0 W p M
  U : Upd w W p
  pw : p < w.heap.size
  w0w : w0.heap.size ≤ w.heap.size
theorem Tq.set {w0 w W : World} {p M : Nat} {ha pa ga : Value} {sa : Src} {hb pb gb : Value} {sb : Src} (x : Tq w0 w W p M ha pa ga sa hb pb gb sb) (b j : Nat) (v : Value) (h1 : w.heap.size ≤ b) (h2 : b < w.heap.size + 2) : Tq w0 w (W.setCell ⟨b, j, none⟩ v) p M ha pa ga sa hb pb gb sb :=
  ⟨x.A.only (only_set _ _ _) (fun k hk e => by have := x.nA k hk; simp at e; omega), x.B.only (only_set _ _ _) (fun k hk e => by have := x.nB k hk; simp at e; omega), x.nA, x.nB, x.S.far (q := ⟨b, j, none⟩) (by have := x.w0w; simp; omega) (by have := x.pw; simp; omega) v, upd_far x.U (q := ⟨b, j, none⟩) (by simp; omega) v, x.pw, x.w0w⟩
theorem Tq.bl {w0 w W W' : World} {p M : Nat} {ha pa ga : Value} {sa : Src} {hb pb gb : Value} {sb : Src} (x : Tq w0 w W p M ha pa ga sa hb pb gb sb) (h : Bl W W') : Tq w0 w W' p M ha pa ga sa hb pb gb sb :=
  ⟨x.A.below h, x.B.below h, x.nA, x.nB, x.S.below h, upd_bl x.U h, x.pw, x.w0w⟩
theorem Tq.twb {w0 w W : World} {p M N : Nat} {ha pa ga : Value} {sa : Src} {hb pb gb : Value} {sb : Src} (x : Tq w0 w W p M ha pa ga sa hb pb gb sb) (hM : M ≤ N + 800) : TwB w0 w p N (.returned (.tuple #[.agg #[ha, pa, ga], .agg #[hb, pb, gb]])) W :=
  ⟨_, _, _, _, _, _, _, _, rfl, x.A, x.B, x.nA, x.nB, x.S.more hM, x.U⟩
theorem twb_set {w0 w w1 : World} {p N M bA bB : Nat} {ha pa ga hb pb gb : Value} {sa sb : Src} (T : T2 w0 w w1 p M bA bB ha pa ga sa #[hb, pb, gb]) (B : SlS w1 hb pb gb sb) (nB : ∀ k, blks hb pb gb k → w.heap.size + 2 ≤ k) (hM : M ≤ N + 800) :
    TwB w0 w p N (.returned (.tuple #[.agg #[ha, pa, ga], .agg #[hb, pb, gb]])) ((((((w1.setCell ⟨w.heap.size, 0, none⟩ ha).setCell ⟨w.heap.size, 1, none⟩ pa).setCell ⟨w.heap.size, 2, none⟩ ga).setCell ⟨w.heap.size + 1, 0, none⟩ hb).setCell ⟨w.heap.size + 1, 1, none⟩ pb).setCell ⟨w.heap.size + 1, 2, none⟩ gb).drew := by
  have x0 : Tq w0 w w1 p M ha pa ga sa hb pb gb sb := ⟨T.A, B, fun k e => (T.nA k e).1, nB, T.S, T.U, T.pw, T.w0w⟩
  have x1 := x0.set w.heap.size 0 ha (by omega) (by omega)
  have x2 := x1.set w.heap.size 1 pa (by omega) (by omega)
  have x3 := x2.set w.heap.size 2 ga (by omega) (by omega)
  have x4 := x3.set (w.heap.size + 1) 0 hb (by omega) (by omega)
  have x5 := x4.set (w.heap.size + 1) 1 pb (by omega) (by omega)
  have x6 := x5.set (w.heap.size + 1) 2 gb (by omega) (by omega)
  exact (x6.bl (bl_drew (bl_refl _))).twb hM
theorem own_capT {w : World} {B : Nat} {a : Option Addr} {n c : Nat} {xs : List Int} (h : Own w B (.slice a n c) xs) : xs.length ≤ c := by
  obtain ⟨a', c', e, h1⟩ := h.form
  have e2 : c = c' := by injection e
  omega
theorem T2.grow {w0 w wr WX wn : World} {p N bA bB : Nat} {ha pa ga : Value} {sa : Src} {cs : Array Value} {r : Option Nat} (T : T2 w0 w wr p N bA bB ha pa ga sa cs) (hb : Bl wr WX) (hg : WX.grownBy wn r) (h1 : ∀ k, r = some k → w.heap.size + 2 ≤ k ∧ k ≠ bA ∧ k ≠ bB ∧ ¬ blks ha pa ga k) : T2 w0 w wn p N bA bB ha pa ga sa cs :=
  (T.bl hb).only (Only.of_grown (S := fun k => r = some k) hg (fun k e => e)) h1
theorem Own.growT {w WX wn : World} {B : Nat} {v : Value} {xs : List Int} {r : Option Nat} (x : Own w B v xs) (hb : Bl w WX) (hg : WX.grownBy wn r) (hne : ∀ k, r = some k → v.ownBlock ≠ some k) : Own wn B v xs :=
  (x.below hb).only (Only.of_grown (S := fun k => r = some k) hg (fun k e => e)) (fun k e q => hne k q e)
theorem Sl.growT {w WX wn : World} {v : Value} {xs : List Int} {r : Option Nat} (x : Sl w v xs) (hb : Bl w WX) (hg : WX.grownBy wn r) (hne : ∀ k, r = some k → v.ownBlock ≠ some k) : Sl wn v xs :=
  (x.below hb).only (Only.of_grown (S := fun k => r = some k) hg (fun k e => e)) (fun k _ e q => hne k q e)
theorem r64_w64 (x : Int) : R64 (wrap64 x) := by unfold R64 wrap64; omega
theorem r64_wrap (x : Int) : R64 (IntKind.i64.wrap x) := by unfold R64; rw [IntKind.wrap_i64]; omega
theorem svalid_eqT {h p g : Value} {s : Src} {b : Bool} (e : okSrc s = b) (w : World) (x : Nat) (ha : SlS w h p g s) (hx : Bx w x #[h, p, g]) : Calls Try.prog 50 #[.pointer (some ⟨x, 0, none⟩)] w fun e w' => e = .returned (.bool b) ∧ Bl w w' := e ▸ svalid_any h p g s w x ha hx
theorem okSrc_Hbd {s : Src} (h : OkSrc s) : ∀ y ∈ s.H, y ≤ 2000000000 := fun y hy => by
  obtain ⟨i, hi⟩ := List.getElem?_of_mem hy
  have := (h.hd i y hi).2
  omega
theorem plain_lenT {s : Src} (ok : OkSrc s) : (plainS s).H.length ≤ 31 ∧ (plainS s).P.length ≤ 30 ∧ (plainS s).G.length = (plainS s).P.length := by
  unfold plainS
  split
  · have := shortL_len s.H; have := ok.h30; exact ⟨by simp only; omega, by simp, rfl⟩
  · exact ⟨by have := ok.h30; omega, ok.p30, ok.gp⟩
set_option maxRecDepth 100000 in
set_option maxHeartbeats 25600000 in
theorem stwo17_any {w0 w : World} {p N : Nat} (h0 : SrcD w0 w p N) (hN : N ≤ 300000000) :
    Calls Try.prog 37 #[.pointer (some ⟨p, 0, none⟩)] w (TwB w0 w p N) := by
  have hp := h0.out.2.1
  have hw0 : w0.heap.size ≤ w.heap.size := by have := h0.out; omega
  go_enter Try.func37, Try.ntmps37
  go_wp2_with fail
  have xR1 : Bx ((w.alloc (.cells #[.slice none 0 0, .slice none 0 0, .slice none 0 0] 26)).alloc (.cells #[.slice none 0 0, .slice none 0 0, .slice none 0 0] 26)) w.heap.size #[.slice none 0 0, .slice none 0 0, .slice none 0 0] := (Bx.new (b := w.heap.size) w _ 26 rfl).alloc _
  have xR2 : Bx ((w.alloc (.cells #[.slice none 0 0, .slice none 0 0, .slice none 0 0] 26)).alloc (.cells #[.slice none 0 0, .slice none 0 0, .slice none 0 0] 26)) (w.heap.size + 1) #[.slice none 0 0, .slice none 0 0, .slice none 0 0] := Bx.new (b := w.heap.size + 1) (w.alloc (.cells #[.slice none 0 0, .slice none 0 0, .slice none 0 0] 26)) _ 26 (by simp)
  have hA : Bl w ((w.alloc (.cells #[.slice none 0 0, .slice none 0 0, .slice none 0 0] 26)).alloc (.cells #[.slice none 0 0, .slice none 0 0, .slice none 0 0] 26)) := bl_alloc (bl_alloc (bl_refl w) _) _
  have S := h0.below hA
  have U : Upd w ((w.alloc (.cells #[.slice none 0 0, .slice none 0 0, .slice none 0 0] 26)).alloc (.cells #[.slice none 0 0, .slice none 0 0, .slice none 0 0] 26)) p := upd_bl (upd_refl _ _) hA
  have zA : ((w.alloc (.cells #[.slice none 0 0, .slice none 0 0, .slice none 0 0] 26)).alloc (.cells #[.slice none 0 0, .slice none 0 0, .slice none 0 0] 26)).heap.size = w.heap.size + 2 := by simp
  generalize ((w.alloc (.cells #[.slice none 0 0, .slice none 0 0, .slice none 0 0] 26)).alloc (.cells #[.slice none 0 0, .slice none 0 0, .slice none 0 0] 26)) = wa at *
  refine (sbent15_any S (by omega)).mono ?_
  rintro e w1 ⟨h1, p1, g1, sa, rfl, hO1, _, hS1, hU1⟩
  obtain ⟨⟨b1, m1, k1, rfl⟩, ⟨b2, m2, k2, rfl⟩, ⟨b3, m3, k3, rfl⟩⟩ := hO1.shape
  have hz1 := hU1.size
  have zz1 : wa.heap.size ≤ w1.heap.size := hz1
  have xR1 := (xR1.upd hU1 (by omega)).alloc (.cells #[.slice b1 m1 k1, .slice b2 m2 k2, .slice b3 m3 k3] 26)
  have xR2 := (xR2.upd hU1 (by omega)).alloc (.cells #[.slice b1 m1 k1, .slice b2 m2 k2, .slice b3 m3 k3] 26)
  have xA : Bx (w1.alloc (.cells #[.slice b1 m1 k1, .slice b2 m2 k2, .slice b3 m3 k3] 26)) w1.heap.size #[.slice b1 m1 k1, .slice b2 m2 k2, .slice b3 m3 k3] := Bx.new (b := w1.heap.size) w1 _ 26 rfl
  have U := upd_bl (upd_trans U hU1) (bl_alloc (bl_refl w1) (.cells #[.slice b1 m1 k1, .slice b2 m2 k2, .slice b3 m3 k3] 26))
  have S := hS1.below (bl_alloc (bl_refl w1) (.cells #[.slice b1 m1 k1, .slice b2 m2 k2, .slice b3 m3 k3] 26))
  have A := hO1.alloc (.cells #[.slice b1 m1 k1, .slice b2 m2 k2, .slice b3 m3 k3] 26)
  have hAl : ∀ k, blks (.slice b1 m1 k1) (.slice b2 m2 k2) (.slice b3 m3 k3) k → w.heap.size + 2 ≤ k ∧ k < w1.heap.size := fun k hk => by have := hO1.blk k hk; omega
  have z2 : (w1.alloc (.cells #[.slice b1 m1 k1, .slice b2 m2 k2, .slice b3 m3 k3] 26)).heap.size = w1.heap.size + 1 := by simp
  clear hO1 hS1 hU1 hA
  go_wp2_with fail
  generalize w1.alloc (.cells #[.slice b1 m1 k1, .slice b2 m2 k2, .slice b3 m3 k3] 26) = w2 at *
  refine (sbent15_any S (by omega)).mono ?_
  rintro e w3 ⟨h2, p2, g2, sb, rfl, hO2, _, hS3, hU3⟩
  obtain ⟨⟨d1, o1, q1, rfl⟩, ⟨d2, o2, q2, rfl⟩, ⟨d3, o3, q3, rfl⟩⟩ := hO2.shape
  have hz3 : w2.heap.size ≤ w3.heap.size := hU3.size
  have hBl : ∀ k, blks (.slice d1 o1 q1) (.slice d2 o2 q2) (.slice d3 o3 q3) k → w.heap.size + 2 ≤ k ∧ k < w3.heap.size := fun k hk => by have := hO2.blk k hk; omega
  have T : T2 w0 w (w3.alloc (.cells #[.slice d1 o1 q1, .slice d2 o2 q2, .slice d3 o3 q3] 26)) p (N + 300 + 300) w1.heap.size w3.heap.size (.slice b1 m1 k1) (.slice b2 m2 k2) (.slice b3 m3 k3) sa #[.slice d1 o1 q1, .slice d2 o2 q2, .slice d3 o3 q3] :=
    ⟨hS3.below (bl_alloc (bl_refl w3) _), upd_bl (upd_trans U hU3) (bl_alloc (bl_refl w3) _), (xR1.upd hU3 (by omega)).alloc _, (xR2.upd hU3 (by omega)).alloc _, (xA.upd hU3 (by omega)).alloc _, Bx.new (b := w3.heap.size) w3 _ 26 rfl, (((A.sl).only (only_upd hU3) (fun k hk e => by have := hAl k hk; omega))).below (bl_alloc (bl_refl w3) _), fun k hk => by have := hAl k hk; omega, by omega, by omega, by omega, hp, hw0⟩
  have BS : SlS (w3.alloc (.cells #[.slice d1 o1 q1, .slice d2 o2 q2, .slice d3 o3 q3] 26)) (.slice d1 o1 q1) (.slice d2 o2 q2) (.slice d3 o3 q3) sb := (hO2.alloc _).sl
  have nB : ∀ k, blks (.slice d1 o1 q1) (.slice d2 o2 q2) (.slice d3 o3 q3) k → w.heap.size + 2 ≤ k := fun k hk => (hBl k hk).1
  obtain ⟨bA, hbA⟩ : ∃ bA, bA = w1.heap.size := ⟨_, rfl⟩
  obtain ⟨bB, hbB⟩ : ∃ bB, bB = w3.heap.size := ⟨_, rfl⟩
  have zB : bB < (w3.alloc (.cells #[.slice d1 o1 q1, .slice d2 o2 q2, .slice d3 o3 q3] 26)).heap.size := by rw [hbB]; simp
  rw [← hbA, ← hbB] at T
  clear xR1 xR2 xA U S A hAl hBl hO2 hS3 hU3
  go_wp2_with fail
  rw [← hbA, ← hbB]
  generalize w3.alloc (.cells #[.slice d1 o1 q1, .slice d2 o2 q2, .slice d3 o3 q3] 26) = w4 at *
  clear hbA hbB z2 hz3 hz1 zz1 zA
  cases ho : okSrc sa with
  | false =>
    have HO := Lib.hid ho
    clear ho
    refine (svalid_eqT HO.out _ _ T.A T.XA).mono ?_
    rintro e w6 ⟨rfl, hb6⟩
    have T := T.bl hb6
    have BS := BS.below hb6
    go_wp2_with fail
    obtain ⟨cA, fA, zA⟩ := T.XA.out
    obtain ⟨cB, fB, zB⟩ := T.XB.out
    obtain ⟨cR1, fR1, zR1⟩ := T.R1.out
    obtain ⟨cR2, fR2, zR2⟩ := T.R2.out
    have ne1 : bB ≠ w.heap.size := by have := T.bb; omega
    have ne2 : bB ≠ w.heap.size + 1 := by have := T.bb; omega
    have ne3 : bA ≠ w.heap.size := by have := T.ba; omega
    have ne4 : bA ≠ w.heap.size + 1 := by have := T.ba; omega
    go_region
    all_goals
      go_wp2
      refine bodyPost_ret (v := .tuple #[.agg #[.slice b1 m1 k1, .slice b2 m2 k2, .slice b3 m3 k3], .agg #[.slice d1 o1 q1, .slice d2 o2 q2, .slice d3 o3 q3]]) (by simp only [results, Try.results37]; go_simp) rfl ?_
      exact twb_set T BS nB (by omega)
  | true =>
    have HO := Lib.hid ho
    clear ho
    refine (svalid_eqT HO.out _ _ T.A T.XA).mono ?_
    rintro e w6 ⟨rfl, hb6⟩
    have T := T.bl hb6
    have BS := BS.below hb6
    have zB := Nat.lt_of_lt_of_le zB hb6.size
    go_wp2_with fail
    refine (done_any T.S (by omega) (by omega)).mono ?_
    rintro e w7 ⟨bb, rfl, hS7, hU7⟩
    have zB := Nat.lt_of_lt_of_le zB hU7.size
    have BS := BS.only (only_upd hU7) (fun k hk e => by have := nB k hk; omega)
    have T := T.upd hS7 hU7
    clear hS7 hU7 hb6
    cases bb with
    | false =>
      go_wp2_with fail
      obtain ⟨cA, fA, zA⟩ := T.XA.out
      obtain ⟨cB, fB, zB⟩ := T.XB.out
      obtain ⟨cR1, fR1, zR1⟩ := T.R1.out
      obtain ⟨cR2, fR2, zR2⟩ := T.R2.out
      have ne1 : bB ≠ w.heap.size := by have := T.bb; omega
      have ne2 : bB ≠ w.heap.size + 1 := by have := T.bb; omega
      have ne3 : bA ≠ w.heap.size := by have := T.ba; omega
      have ne4 : bA ≠ w.heap.size + 1 := by have := T.ba; omega
      go_region
      all_goals
        go_wp2
        refine bodyPost_ret (v := .tuple #[.agg #[.slice b1 m1 k1, .slice b2 m2 k2, .slice b3 m3 k3], .agg #[.slice d1 o1 q1, .slice d2 o2 q2, .slice d3 o3 q3]]) (by simp only [results, Try.results37]; go_simp) rfl ?_
        exact twb_set T BS nB (by omega)
    | true =>
      clear BS nB
      have hA7 : bA < w7.heap.size := T.XA.out.2.2
      have hAk : ∀ k, blks (.slice b1 m1 k1) (.slice b2 m2 k2) (.slice b3 m3 k3) k → k < bB := fun k hk => (T.nA k hk).2
      have OK := okSrc_iff.1 HO.out
      go_wp2_with fail
      refine (plainOwn_any _ _ _ sa _ bA T.A T.XA OK.okPer (okSrc_Hbd OK)).mono ?_
      rintro e w8 ⟨a1, n1, c1, a2, n2, c2, a3, n3, c3, rfl, OB, hb8⟩
      have hpl := plain_lenT OK
      obtain ⟨⟨PH, PP, PG⟩, hps⟩ : ∃ x, plainS sa = x := ⟨_, rfl⟩
      rw [hps] at OB hpl
      simp only at hpl
      clear hps
      obtain ⟨hpl1, hpl2, hpg⟩ := hpl
      have hpl3 : PG.length ≤ 30 := by omega
      have HPG := Lib.hid hpg
      clear hpg
      obtain ⟨a1', c1', e1, _⟩ := OB.1.form
      obtain ⟨a2', c2', e2, _⟩ := OB.2.1.form
      obtain ⟨a3', c3', e3, _⟩ := OB.2.2.1.form
      injection e1 with e1a e1b e1c; subst e1a; subst e1b; subst e1c
      injection e2 with e2a e2b e2c; subst e2a; subst e2b; subst e2c
      injection e3 with e3a e3b e3c; subst e3a; subst e3b; subst e3c
      simp only at OB
      have T := T.bl hb8
      obtain ⟨cB8, fB8, zB8⟩ := T.XB.out
      have hb7 : bB < w7.heap.size := zB
      have hbk := OB.blk
      have T := ((T.setB 0 (.slice a1 PH.length c1)).setB 1 (.slice a2 PP.length c2)).setB 2 (.slice a3 PG.length c3)
      have OB := ownS_set3 (b := bB) (OB.mono (B' := w.heap.size + 2) (by have := T.bb; omega)) (fun k hk => by have := (hbk k hk).1; omega) (.slice a1 PH.length c1) (.slice a2 PP.length c2) (.slice a3 PG.length c3)
      have T : T2 w0 w (((w8.setCell ⟨bB, 0, none⟩ (.slice a1 PH.length c1)).setCell ⟨bB, 1, none⟩ (.slice a2 PP.length c2)).setCell ⟨bB, 2, none⟩ (.slice a3 PG.length c3)) p (N + 300 + 300 + 2) bA bB (.slice b1 m1 k1) (.slice b2 m2 k2) (.slice b3 m3 k3) sa #[.slice a1 PH.length c1, .slice a2 PP.length c2, .slice a3 PG.length c3] := T
      have nb : ∀ k, blks (.slice a1 PH.length c1) (.slice a2 PP.length c2) (.slice a3 PG.length c3) k → k ≠ bA ∧ k ≠ bB ∧ ¬ blks (.slice b1 m1 k1) (.slice b2 m2 k2) (.slice b3 m3 k3) k := fun k hk => by
        have q1 := (hbk k hk).1
        have := T.XA
        refine ⟨?_, by omega, fun q => ?_⟩
        · intro e; have := hA7; omega
        · have := hAk k q; omega
      clear hbk
      go_wp2_with fail
      generalize ((w8.setCell ⟨bB, 0, none⟩ (.slice a1 PH.length c1)).setCell ⟨bB, 1, none⟩ (.slice a2 PP.length c2)).setCell ⟨bB, 2, none⟩ (.slice a3 PG.length c3) = w9 at *
      clear cB8 fB8 zB8 hb8
      refine (dpick_any T.S (by omega) (by omega)).mono ?_
      rintro e w10 ⟨x, rfl, x0, x1, hS10, hU10⟩
      have OB := OB.only2 (only_upd hU10) (fun k hk e => by have := (OB.blk k hk).1; omega)
      have T := T.upd hS10 hU10
      have nB : ∀ k, blks (.slice a1 PH.length c1) (.slice a2 PP.length c2) (.slice a3 PG.length c3) k → w.heap.size + 2 ≤ k := fun k hk => (OB.blk k hk).1
      have PK : ∀ k, blks (.slice a1 PH.length c1) (.slice a2 PP.length c2) (.slice a3 PG.length c3) k → w.heap.size + 2 ≤ k ∧ k ≠ bA ∧ k ≠ bB ∧ ¬ blks (.slice b1 m1 k1) (.slice b2 m2 k2) (.slice b3 m3 k3) k := fun k hk => ⟨nB k hk, nb k hk⟩
      clear hS10 hU10
      by_cases c0 : x = 0
      · subst c0
        by_cases hP : 0 < PP.length
        · obtain ⟨gP, rfl, hgP, hgPz⟩ := OB.2.1.addr hP
          have hG : 0 < PG.length := by rw [HPG.out]; exact hP
          obtain ⟨gG, rfl, hgG, hgGz⟩ := OB.2.2.1.addr hG
          have nPG : gP ≠ gG := fun e => OB.2.2.2.2.2 gP rfl (by rw [e]; rfl)
          have nP := PK gP (.inr (.inl rfl))
          have nG := PK gG (.inr (.inr rfl))
          obtain ⟨y0, hy0, cy0, fy0, ry0⟩ := OB.2.1.cellAt (j := 0) hP
          obtain ⟨z0, hz0, cz0, fz0, rz0⟩ := OB.2.2.1.cellAt (j := 0) hG
          have HY0 := Lib.hid hy0
          have HZ0 := Lib.hid hz0
          clear hy0 hz0
          obtain ⟨cB, fB, zB⟩ := T.XB.out
          go_wp2_with fail
          go_cut [31] (fun s31 wx => ∃ a9 c9, T2 w0 w wx p (N + 300 + 300 + 2 + 2) bA bB (.slice b1 m1 k1) (.slice b2 m2 k2) (.slice b3 m3 k3) sa #[.slice a9 (PH.length + 1) c9, .slice (some ⟨gP, 0, none⟩) PP.length c2, .slice (some ⟨gG, 0, none⟩) PG.length c3] ∧ Sl wx (.slice a9 (PH.length + 1) c9) (PH ++ [y0]) ∧ Own wx (w.heap.size + 2) (.slice (some ⟨gP, 0, none⟩) PP.length c2) PP ∧ Own wx (w.heap.size + 2) (.slice (some ⟨gG, 0, none⟩) PG.length c3) PG ∧ Hid (∀ k, (Value.slice a9 (PH.length + 1) c9).ownBlock = some k → w.heap.size + 2 ≤ k ∧ k ≠ bB ∧ k ≠ gP ∧ k ≠ gG))
          case first =>
            go_region_law ((first | (refine step_append_i1 (by rfl) _ _ (by rfl) (w.heap.size + 2) _ PH (by rfl) (by first | exact (OB.1.alloc _).drew | exact (OB.1.drew).alloc _) w10.heap.size y0 ry0 (by rfl) (by first | exact (Bx.new (b := w10.heap.size) w10 #[.int .i64 (y0)] 2 rfl).drew | exact Bx.new (b := w10.heap.size) w10.drew #[.int .i64 (y0)] 2 rfl) (by omega) (by have := T.bb; simp; omega) ?_; intro v' wn ho hg hloc; obtain ⟨a9, c9, rfl, _⟩ := ho.form; have Tn := T.grow (by first | exact bl_drew (bl_alloc (bl_refl _) _) | exact bl_alloc (bl_drew (bl_refl _)) _) hg (fun k e => PK k (.inl e)); have OPn := OB.2.1.growT (by first | exact bl_drew (bl_alloc (bl_refl _) _) | exact bl_alloc (bl_drew (bl_refl _)) _) hg (fun k e q => OB.2.2.2.1 k e q); have OGn := OB.2.2.1.growT (by first | exact bl_drew (bl_alloc (bl_refl _) _) | exact bl_alloc (bl_drew (bl_refl _)) _) hg (fun k e q => OB.2.2.2.2.1 k e q); have hlc : ∀ k, (Value.slice a9 (PH ++ [y0]).length c9).ownBlock = some k → w.heap.size + 2 ≤ k ∧ k ≠ bB ∧ k ≠ gP ∧ k ≠ gG := (fun k e => by (have q1 := (ho.lt k e).1; refine ⟨q1, ?_⟩; rcases hloc with q | q; (· rw [q] at e; exact ⟨(PK k (.inl e)).2.2.1, fun e2 => OB.2.2.2.1 k e (by rw [e2]; rfl), fun e2 => OB.2.2.2.2.1 k e (by rw [e2]; rfl)⟩); (· rw [q] at e; injection e with e; simp at e; refine ⟨by omega, by omega, by omega⟩))); clear cB fB zB cy0 fy0 cz0 fz0; obtain ⟨cB, fB, zB⟩ := Tn.XB.out; obtain ⟨cy0, fy0⟩ : wn.cell? ⟨gP, 0, none⟩ = some (.int .i64 y0) ∧ True := ⟨by obtain ⟨q, h1, h2, _⟩ := OPn.cellAt (j := 0) hP; rw [HY0.out] at h1; injection h1 with h1; rw [h1]; exact h2, trivial⟩)))
            all_goals
              have hln : (PH ++ [y0]).length = PH.length + 1 := by simp
              rw [hln] at ho hlc
              have T8 := Tn.setB 0 (.slice a9 (PH.length + 1) c9)
              have SH := ho.sl.far (p := ⟨bB, 0, none⟩) (fun k e => (hlc k e).2.1) (.slice a9 (PH.length + 1) c9)
              have OP := own_farU OPn (p := ⟨bB, 0, none⟩) (fun k e => by have := (PK k (.inr (.inl e))).2.2.1; exact this) (.slice a9 (PH.length + 1) c9)
              have OG := own_farU OGn (p := ⟨bB, 0, none⟩) (fun k e => by have := (PK k (.inr (.inr e))).2.2.1; exact this) (.slice a9 (PH.length + 1) c9)
              clear hg hloc ho hln OPn OGn Tn OB T cy0
              go_wp2_with fail
              go_meet
              exact ⟨a9, c9, T8, SH, OP, OG, Lib.hid hlc⟩
          case rest =>
            obtain ⟨a9, c9, T8, SH, OP, OG, HLC⟩ := hcut
            obtain ⟨w11, rfl⟩ : ∃ x : World, x = wc := ⟨_, rfl⟩
            clear cB fB zB cy0 fy0 cz0 fz0 OB T hgPz hgGz
            obtain ⟨q0, hq0, cy0, fy0, _⟩ := OP.cellAt (j := 0) hP
            have e0 : q0 = y0 := Option.some.inj (hq0.symm.trans HY0.out)
            rw [e0] at cy0
            obtain ⟨q0', hq0', cz0, fz0, _⟩ := OG.cellAt (j := 0) hG
            have e0' : q0' = z0 := Option.some.inj (hq0'.symm.trans HZ0.out)
            rw [e0'] at cz0
            clear hq0 hq0' e0 e0'
            have hc2 : PP.length ≤ c2 := own_capT OP
            have hc3 : PG.length ≤ c3 := own_capT OG
            have zg1 : gP < w11.heap.size := cell_lt cy0
            have zg2 : gG < w11.heap.size := cell_lt cz0
            have hPi : (1 : Int) ≤ (PP.length : Int) := by omega
            have hPn : 1 ≤ PP.length := hP
            go_wp2_with fail
            go_cut [46] (fun s46 wx => ∃ aP cP, T2 w0 w wx p (N + 300 + 300 + 2 + 2) bA bB (.slice b1 m1 k1) (.slice b2 m2 k2) (.slice b3 m3 k3) sa #[.slice a9 (PH.length + 1) c9, .slice aP PP.length cP, .slice (some ⟨gG, 0, none⟩) PG.length c3] ∧ Sl wx (.slice a9 (PH.length + 1) c9) (PH ++ [y0]) ∧ Sl wx (.slice aP PP.length cP) (PP.tail ++ [IntKind.i64.wrap (y0 + z0)]) ∧ Own wx (w.heap.size + 2) (.slice (some ⟨gG, 0, none⟩) PG.length c3) PG ∧ Hid (∀ k, (Value.slice aP PP.length cP).ownBlock = some k → w.heap.size + 2 ≤ k ∧ k ≠ bB ∧ k ≠ gG))
            case first =>
              by_cases hcap : c2 = 1
              · have h1 : PP.length = 1 := by omega
                rw [h1] at T8 OP
                rw [hcap] at T8 OP
                obtain ⟨cB, fB, zB⟩ := T8.XB.out
                clear hPi hPn hc2
                go_region_law ((first | (refine step_append_tl (by rfl) _ _ (by rfl) (w.heap.size + 2) gP 1 1 PP (by first | exact (OP.alloc _).drew | exact (OP.drew).alloc _) (by omega) (by rw [tailV, if_pos rfl]; rfl) w11.heap.size (IntKind.i64.wrap (y0 + z0)) (by first | exact r64_wrap _ | exact r64_w64 _) (by rfl) (by first | exact (Bx.new (b := w11.heap.size) w11 #[.int .i64 (IntKind.i64.wrap (y0 + z0))] 2 rfl).drew | exact Bx.new (b := w11.heap.size) w11.drew #[.int .i64 (IntKind.i64.wrap (y0 + z0))] 2 rfl) (by omega) ?_; intro v' wn hsl hg hbl; obtain ⟨aP, cP, rfl, _⟩ := hsl.form; have hln : (PP.tail ++ [IntKind.i64.wrap (y0 + z0)]).length = 1 := (by simp [h1]); rw [hln] at hsl hbl ⊢; clear hln; have Tn := T8.grow (by first | exact bl_drew (bl_alloc (bl_refl _) _) | exact bl_alloc (bl_drew (bl_refl _)) _) hg (fun k e => by injection e with e; rw [← e]; exact nP); have SHn := SH.growT (by first | exact bl_drew (bl_alloc (bl_refl _) _) | exact bl_alloc (bl_drew (bl_refl _)) _) hg (fun k e q => by injection e with e; exact (HLC.out _ q).2.2.1 e.symm); have OGn := OG.growT (by first | exact bl_drew (bl_alloc (bl_refl _) _) | exact bl_alloc (bl_drew (bl_refl _)) _) hg (fun k e q => by injection e with e; simp [Value.ownBlock] at q; omega); have hpc : ∀ k, (Value.slice aP 1 cP).ownBlock = some k → w.heap.size + 2 ≤ k ∧ k ≠ bB ∧ k ≠ gG := (fun k e => by (rcases hbl k e with q | q; (· rw [q]; exact ⟨nP.1, nP.2.2.1, nPG⟩); (· simp at q; refine ⟨by omega, by omega, by omega⟩))); have HPC := Lib.hid hpc; have HSL := Lib.hid hsl; have OGn := Lib.hid OGn; have SHn := Lib.hid SHn; clear hpc hsl hbl hg cB fB zB cy0 fy0 cz0 fz0; obtain ⟨cB, fB, zB⟩ := Tn.XB.out)))
                all_goals
                  have T9 := Tn.setB 1 (.slice aP 1 cP)
                  have SH9 := SHn.out.far (p := ⟨bB, 1, none⟩) (fun k e => (HLC.out k e).2.1) (.slice aP 1 cP)
                  have SP9 := HSL.out.far (p := ⟨bB, 1, none⟩) (fun k e => (HPC.out k e).2.1) (.slice aP 1 cP)
                  have OG9 := own_farU OGn.out (p := ⟨bB, 1, none⟩) (fun k e => by simp [Value.ownBlock] at e; rw [← e]; exact nG.2.2.1) (.slice aP 1 cP)
                  clear HSL OGn Tn SHn SH OP OG T8
                  go_wp2_with fail
                  go_meet
                  try simp only [h1]
                  exact ⟨aP, cP, T9, SH9, SP9, OG9, HPC⟩
              · obtain ⟨cB, fB, zB⟩ := T8.XB.out
                have hcapi : (1 : Int) ≤ (c2 : Int) := by omega
                have hcap1 : 1 ≤ c2 := by omega
                have hcap2 : ¬ ((c2 : Int) = 1) := by omega
                go_region_law ((first | (refine step_append_tl (by rfl) _ _ (by rfl) (w.heap.size + 2) gP PP.length c2 PP (by first | exact (OP.alloc _).drew | exact (OP.drew).alloc _) hP (by rw [tailV, if_neg hcap]; rfl) w11.heap.size (IntKind.i64.wrap (y0 + z0)) (by first | exact r64_wrap _ | exact r64_w64 _) (by rfl) (by first | exact (Bx.new (b := w11.heap.size) w11 #[.int .i64 (IntKind.i64.wrap (y0 + z0))] 2 rfl).drew | exact Bx.new (b := w11.heap.size) w11.drew #[.int .i64 (IntKind.i64.wrap (y0 + z0))] 2 rfl) (by omega) ?_; intro v' wn hsl hg hbl; obtain ⟨aP, cP, rfl, _⟩ := hsl.form; have hln : (PP.tail ++ [IntKind.i64.wrap (y0 + z0)]).length = PP.length := (by simp; omega); rw [hln] at hsl hbl ⊢; clear hln; have Tn := T8.grow (by first | exact bl_drew (bl_alloc (bl_refl _) _) | exact bl_alloc (bl_drew (bl_refl _)) _) hg (fun k e => by injection e with e; rw [← e]; exact nP); have SHn := SH.growT (by first | exact bl_drew (bl_alloc (bl_refl _) _) | exact bl_alloc (bl_drew (bl_refl _)) _) hg (fun k e q => by injection e with e; exact (HLC.out _ q).2.2.1 e.symm); have OGn := OG.growT (by first | exact bl_drew (bl_alloc (bl_refl _) _) | exact bl_alloc (bl_drew (bl_refl _)) _) hg (fun k e q => by injection e with e; simp [Value.ownBlock] at q; omega); have hpc : ∀ k, (Value.slice aP PP.length cP).ownBlock = some k → w.heap.size + 2 ≤ k ∧ k ≠ bB ∧ k ≠ gG := (fun k e => by (rcases hbl k e with q | q; (· rw [q]; exact ⟨nP.1, nP.2.2.1, nPG⟩); (· simp at q; refine ⟨by omega, by omega, by omega⟩))); have HPC := Lib.hid hpc; have HSL := Lib.hid hsl; have OGn := Lib.hid OGn; have SHn := Lib.hid SHn; clear hpc hsl hbl hg cB fB zB cy0 fy0 cz0 fz0; obtain ⟨cB, fB, zB⟩ := Tn.XB.out)))
                all_goals
                  have T9 := Tn.setB 1 (.slice aP PP.length cP)
                  have SH9 := SHn.out.far (p := ⟨bB, 1, none⟩) (fun k e => (HLC.out k e).2.1) (.slice aP PP.length cP)
                  have SP9 := HSL.out.far (p := ⟨bB, 1, none⟩) (fun k e => (HPC.out k e).2.1) (.slice aP PP.length cP)
                  have OG9 := own_farU OGn.out (p := ⟨bB, 1, none⟩) (fun k e => by simp [Value.ownBlock] at e; rw [← e]; exact nG.2.2.1) (.slice aP PP.length cP)
                  clear HSL OGn Tn SHn SH OP OG T8
                  go_wp2_with fail
                  go_meet
                  exact ⟨aP, cP, T9, SH9, SP9, OG9, HPC⟩
            case rest =>
              obtain ⟨aP, cP, T9, SH9, SP9, OG9, HPC⟩ := hcut
              obtain ⟨w12, rfl⟩ : ∃ x : World, x = wc := ⟨_, rfl⟩
              clear T8 SH OP OG cy0 fy0 cz0 fz0 hc2 hc3 zg1 zg2 hPi hPn HY0
              obtain ⟨q0, hq0, cz0, fz0, _⟩ := OG9.cellAt (j := 0) hG
              have e0 : q0 = z0 := Option.some.inj (hq0.symm.trans HZ0.out)
              rw [e0] at cz0
              clear hq0 e0 HZ0
              have hc3 : PG.length ≤ c3 := own_capT OG9
              have zg2 : gG < w12.heap.size := cell_lt cz0
              have hGi : (1 : Int) ≤ (PG.length : Int) := by omega
              have hGn : 1 ≤ PG.length := hG
              go_wp2_with fail
              by_cases hcap : c3 = 1
              · have h1 : PG.length = 1 := by omega
                rw [h1] at T9 OG9
                rw [hcap] at T9 OG9
                obtain ⟨cB, fB, zB⟩ := T9.XB.out
                clear hGi hGn hc3
                go_region_law ((first | (refine step_append_tl (by rfl) _ _ (by rfl) (w.heap.size + 2) gG 1 1 PG (by first | exact (OG9.alloc _).drew | exact (OG9.drew).alloc _) (by omega) (by rw [tailV, if_pos rfl]; rfl) w12.heap.size (z0) rz0 (by rfl) (by first | exact (Bx.new (b := w12.heap.size) w12 #[.int .i64 (z0)] 2 rfl).drew | exact Bx.new (b := w12.heap.size) w12.drew #[.int .i64 (z0)] 2 rfl) (by omega) ?_; intro v' wn hsl hg hbl; obtain ⟨aG, cG, rfl, _⟩ := hsl.form; have hln : (PG.tail ++ [z0]).length = 1 := (by simp [h1]); rw [hln] at hsl hbl ⊢; clear hln; have Tn := T9.grow (by first | exact bl_drew (bl_alloc (bl_refl _) _) | exact bl_alloc (bl_drew (bl_refl _)) _) hg (fun k e => by injection e with e; rw [← e]; exact nG); have SHn := SH9.growT (by first | exact bl_drew (bl_alloc (bl_refl _) _) | exact bl_alloc (bl_drew (bl_refl _)) _) hg (fun k e q => by injection e with e; exact (HLC.out _ q).2.2.2 e.symm); have SPn := SP9.growT (by first | exact bl_drew (bl_alloc (bl_refl _) _) | exact bl_alloc (bl_drew (bl_refl _)) _) hg (fun k e q => by injection e with e; exact (HPC.out _ q).2.2 e.symm); have hpc : ∀ k, (Value.slice aG 1 cG).ownBlock = some k → w.heap.size + 2 ≤ k ∧ k ≠ bB := (fun k e => by (rcases hbl k e with q | q; (· rw [q]; exact ⟨nG.1, nG.2.2.1⟩); (· simp at q; refine ⟨by omega, by omega⟩))); have HGC := Lib.hid hpc; have HSL := Lib.hid hsl; have SPn := Lib.hid SPn; have SHn := Lib.hid SHn; clear hpc hsl hbl hg cB fB zB cz0 fz0; obtain ⟨cB, fB, zB⟩ := Tn.XB.out)))
                all_goals
                  have T10 := Tn.setB 2 (.slice aG 1 cG)
                  have SH10 := SHn.out.far (p := ⟨bB, 2, none⟩) (fun k e => (HLC.out k e).2.1) (.slice aG 1 cG)
                  have SP10 := SPn.out.far (p := ⟨bB, 2, none⟩) (fun k e => (HPC.out k e).2.1) (.slice aG 1 cG)
                  have SG10 := HSL.out.far (p := ⟨bB, 2, none⟩) (fun k e => (HGC.out k e).2) (.slice aG 1 cG)
                  have HB10 := Lib.hid (show ∀ k, blks (.slice a9 (PH.length + 1) c9) (.slice aP PP.length cP) (.slice aG 1 cG) k → w.heap.size + 2 ≤ k from fun k hk => by
                    rcases hk with e | e | e
                    · exact (HLC.out k e).1
                    · exact (HPC.out k e).1
                    · exact (HGC.out k e).1)
                  clear HSL Tn SHn SPn SH9 SP9 OG9 T9 cB fB zB zg2 hP hG HPG
                  have B10 := Lib.hid (show SlS _ _ _ _ (⟨PH ++ [y0], PP.tail ++ [IntKind.i64.wrap (y0 + z0)], PG.tail ++ [z0]⟩ : Src) from ⟨SH10, SP10, SG10⟩)
                  clear SH10 SP10 SG10
                  go_wp2_with fail
                  obtain ⟨cA, fA, zA⟩ := T10.XA.out
                  obtain ⟨cB, fB, zB⟩ := T10.XB.out
                  obtain ⟨cR1, fR1, zR1⟩ := T10.R1.out
                  obtain ⟨cR2, fR2, zR2⟩ := T10.R2.out
                  have ne1 : bB ≠ w.heap.size := by have := T10.bb; omega
                  have ne2 : bB ≠ w.heap.size + 1 := by have := T10.bb; omega
                  have ne3 : bA ≠ w.heap.size := by have := T10.ba; omega
                  have ne4 : bA ≠ w.heap.size + 1 := by have := T10.ba; omega
                  go_region
                  all_goals
                    go_wp2
                    refine bodyPost_ret (v := .tuple #[.agg #[.slice b1 m1 k1, .slice b2 m2 k2, .slice b3 m3 k3], .agg #[.slice a9 (PH.length + 1) c9, .slice aP PP.length cP, .slice aG 1 cG]]) (by simp only [results, Try.results37]; go_simp) rfl ?_
                    exact twb_set T10 B10.out HB10.out (by omega)
              · obtain ⟨cB, fB, zB⟩ := T9.XB.out
                have hcapi : (1 : Int) ≤ (c3 : Int) := by omega
                have hcap1 : 1 ≤ c3 := by omega
                have hcap2 : ¬ ((c3 : Int) = 1) := by omega
                go_region_law ((first | (refine step_append_tl (by rfl) _ _ (by rfl) (w.heap.size + 2) gG PG.length c3 PG (by first | exact (OG9.alloc _).drew | exact (OG9.drew).alloc _) hG (by rw [tailV, if_neg hcap]; rfl) w12.heap.size (z0) rz0 (by rfl) (by first | exact (Bx.new (b := w12.heap.size) w12 #[.int .i64 (z0)] 2 rfl).drew | exact Bx.new (b := w12.heap.size) w12.drew #[.int .i64 (z0)] 2 rfl) (by omega) ?_; intro v' wn hsl hg hbl; obtain ⟨aG, cG, rfl, _⟩ := hsl.form; have hln : (PG.tail ++ [z0]).length = PG.length := (by simp; omega); rw [hln] at hsl hbl ⊢; clear hln; have Tn := T9.grow (by first | exact bl_drew (bl_alloc (bl_refl _) _) | exact bl_alloc (bl_drew (bl_refl _)) _) hg (fun k e => by injection e with e; rw [← e]; exact nG); have SHn := SH9.growT (by first | exact bl_drew (bl_alloc (bl_refl _) _) | exact bl_alloc (bl_drew (bl_refl _)) _) hg (fun k e q => by injection e with e; exact (HLC.out _ q).2.2.2 e.symm); have SPn := SP9.growT (by first | exact bl_drew (bl_alloc (bl_refl _) _) | exact bl_alloc (bl_drew (bl_refl _)) _) hg (fun k e q => by injection e with e; exact (HPC.out _ q).2.2 e.symm); have hpc : ∀ k, (Value.slice aG PG.length cG).ownBlock = some k → w.heap.size + 2 ≤ k ∧ k ≠ bB := (fun k e => by (rcases hbl k e with q | q; (· rw [q]; exact ⟨nG.1, nG.2.2.1⟩); (· simp at q; refine ⟨by omega, by omega⟩))); have HGC := Lib.hid hpc; have HSL := Lib.hid hsl; have SPn := Lib.hid SPn; have SHn := Lib.hid SHn; clear hpc hsl hbl hg cB fB zB cz0 fz0; obtain ⟨cB, fB, zB⟩ := Tn.XB.out)))
                all_goals
                  have T10 := Tn.setB 2 (.slice aG PG.length cG)
                  have SH10 := SHn.out.far (p := ⟨bB, 2, none⟩) (fun k e => (HLC.out k e).2.1) (.slice aG PG.length cG)
                  have SP10 := SPn.out.far (p := ⟨bB, 2, none⟩) (fun k e => (HPC.out k e).2.1) (.slice aG PG.length cG)
                  have SG10 := HSL.out.far (p := ⟨bB, 2, none⟩) (fun k e => (HGC.out k e).2) (.slice aG PG.length cG)
                  have HB10 := Lib.hid (show ∀ k, blks (.slice a9 (PH.length + 1) c9) (.slice aP PP.length cP) (.slice aG PG.length cG) k → w.heap.size + 2 ≤ k from fun k hk => by
                    rcases hk with e | e | e
                    · exact (HLC.out k e).1
                    · exact (HPC.out k e).1
                    · exact (HGC.out k e).1)
                  clear HSL Tn SHn SPn SH9 SP9 OG9 T9 cB fB zB zg2 hP hG HPG
                  have B10 := Lib.hid (show SlS _ _ _ _ (⟨PH ++ [y0], PP.tail ++ [IntKind.i64.wrap (y0 + z0)], PG.tail ++ [z0]⟩ : Src) from ⟨SH10, SP10, SG10⟩)
                  clear SH10 SP10 SG10
                  go_wp2_with fail
                  obtain ⟨cA, fA, zA⟩ := T10.XA.out
                  obtain ⟨cB, fB, zB⟩ := T10.XB.out
                  obtain ⟨cR1, fR1, zR1⟩ := T10.R1.out
                  obtain ⟨cR2, fR2, zR2⟩ := T10.R2.out
                  have ne1 : bB ≠ w.heap.size := by have := T10.bb; omega
                  have ne2 : bB ≠ w.heap.size + 1 := by have := T10.bb; omega
                  have ne3 : bA ≠ w.heap.size := by have := T10.ba; omega
                  have ne4 : bA ≠ w.heap.size + 1 := by have := T10.ba; omega
                  go_region
                  all_goals
                    go_wp2
                    refine bodyPost_ret (v := .tuple #[.agg #[.slice b1 m1 k1, .slice b2 m2 k2, .slice b3 m3 k3], .agg #[.slice a9 (PH.length + 1) c9, .slice aP PP.length cP, .slice aG PG.length cG]]) (by simp only [results, Try.results37]; go_simp) rfl ?_
                    exact twb_set T10 B10.out HB10.out (by omega)
        · obtain ⟨cB, fB, zB⟩ := T.XB.out
          go_wp2_with fail
          obtain ⟨cA, fA, zA⟩ := T.XA.out
          obtain ⟨cB, fB, zB⟩ := T.XB.out
          obtain ⟨cR1, fR1, zR1⟩ := T.R1.out
          obtain ⟨cR2, fR2, zR2⟩ := T.R2.out
          have ne1 : bB ≠ w.heap.size := by have := T.bb; omega
          have ne2 : bB ≠ w.heap.size + 1 := by have := T.bb; omega
          have ne3 : bA ≠ w.heap.size := by have := T.ba; omega
          have ne4 : bA ≠ w.heap.size + 1 := by have := T.ba; omega
          go_region
          all_goals
            go_wp2
            refine bodyPost_ret (v := .tuple #[.agg #[.slice b1 m1 k1, .slice b2 m2 k2, .slice b3 m3 k3], .agg #[.slice a1 PH.length c1, .slice a2 PP.length c2, .slice a3 PG.length c3]]) (by simp only [results, Try.results37]; go_simp) rfl ?_
            exact twb_set T OB.sl nB (by omega)
      · have e0 : (x == 0) = false := by simp [c0]
        by_cases cc1 : x = 1
        · subst cc1
          by_cases hP : 0 < PP.length
          · obtain ⟨g, rfl, hgB, hgz⟩ := OB.2.1.addr hP
            obtain ⟨cB, fB, zB⟩ := T.XB.out
            go_wp2_with fail
            go_region_with
              ((go_at_call 79; go_must (refine (dpick_any (n := (PP.length : Int)) (T.S.below (bl_drew (bl_refl _))) (by omega) (by omega)).mono ?_; rintro e w11 ⟨r, rfl, r0, r1, hS11, hU11⟩; have T11 := (T.bl (bl_drew (bl_refl _))).upd hS11 hU11; have OB11 := OB.drew.only2 (only_upd hU11) (fun k hk e => by have := nB k hk; omega); obtain ⟨rn, rfl⟩ := Int.eq_ofNat_of_zero_le r0; have hrn : rn < PP.length := (by omega); obtain ⟨y1, hy1, cy, fy, ry⟩ := OB11.2.1.cellAt (j := rn) hrn; clear cB fB zB; obtain ⟨cB, fB, zB⟩ := T11.XB.out)))
            all_goals
              have hs1 := only_set w11 ⟨g, rn, none⟩ (.int .i64 (IntKind.i64.wrap (y1 + 1)))
              have hr1 : R64 (IntKind.i64.wrap (y1 + 1)) := r64_wrap _
              have T12 := T11.only hs1 (fun k e => by have e2 : k = g := (by simpa using e); rw [e2]; exact PK g (.inr (.inl rfl)))
              have B12 : SlS (w11.setCell ⟨g, rn, none⟩ (.int .i64 (IntKind.i64.wrap (y1 + 1)))) (.slice a1 PH.length c1) (.slice (some ⟨g, 0, none⟩) PP.length c2) (.slice a3 PG.length c3) ⟨PH, PP.set rn (IntKind.i64.wrap (y1 + 1)), PG⟩ :=
                ⟨(OB11.1.only hs1 (fun k e q => by have e2 : k = g := (by simpa using q); rw [e2] at e; exact OB11.2.2.2.1 g e rfl)).sl, by have := (OB11.2.1.stored rn _ hr1).1.sl; exact this, (OB11.2.2.1.only hs1 (fun k e q => by have e2 : k = g := (by simpa using q); rw [e2] at e; exact OB11.2.2.2.2.2 g rfl e)).sl⟩
              go_wp2_with fail
              obtain ⟨cA, fA, zA⟩ := T12.XA.out
              obtain ⟨cB, fB, zB⟩ := T12.XB.out
              obtain ⟨cR1, fR1, zR1⟩ := T12.R1.out
              obtain ⟨cR2, fR2, zR2⟩ := T12.R2.out
              have ne1 : bB ≠ w.heap.size := by have := T12.bb; omega
              have ne2 : bB ≠ w.heap.size + 1 := by have := T12.bb; omega
              have ne3 : bA ≠ w.heap.size := by have := T12.ba; omega
              have ne4 : bA ≠ w.heap.size + 1 := by have := T12.ba; omega
              go_region
              all_goals
                go_wp2
                refine bodyPost_ret (v := .tuple #[.agg #[.slice b1 m1 k1, .slice b2 m2 k2, .slice b3 m3 k3], .agg #[.slice a1 PH.length c1, .slice (some ⟨g, 0, none⟩) PP.length c2, .slice a3 PG.length c3]]) (by simp only [results, Try.results37]; go_simp) rfl ?_
                exact twb_set T12 B12 nB (by omega)
          · obtain ⟨cB, fB, zB⟩ := T.XB.out
            go_wp2_with fail
            obtain ⟨cA, fA, zA⟩ := T.XA.out
            obtain ⟨cB, fB, zB⟩ := T.XB.out
            obtain ⟨cR1, fR1, zR1⟩ := T.R1.out
            obtain ⟨cR2, fR2, zR2⟩ := T.R2.out
            have ne1 : bB ≠ w.heap.size := by have := T.bb; omega
            have ne2 : bB ≠ w.heap.size + 1 := by have := T.bb; omega
            have ne3 : bA ≠ w.heap.size := by have := T.ba; omega
            have ne4 : bA ≠ w.heap.size + 1 := by have := T.ba; omega
            go_region
            all_goals
              go_wp2
              refine bodyPost_ret (v := .tuple #[.agg #[.slice b1 m1 k1, .slice b2 m2 k2, .slice b3 m3 k3], .agg #[.slice a1 PH.length c1, .slice a2 PP.length c2, .slice a3 PG.length c3]]) (by simp only [results, Try.results37]; go_simp) rfl ?_
              exact twb_set T OB.sl nB (by omega)
        · have e1 : (x == 1) = false := by simp [cc1]
          by_cases cc2 : x = 2
          · subst cc2
            by_cases hP : 0 < PH.length
            · obtain ⟨g, rfl, hgB, hgz⟩ := OB.1.addr hP
              obtain ⟨j, hj⟩ : ∃ j, PH.length = j + 1 := ⟨PH.length - 1, (Nat.succ_pred_eq_of_pos hP).symm⟩
              have hjl2 : j < PH.length := by omega
              obtain ⟨y1, hy1, cy, fy, ry⟩ := OB.1.cellAt (j := j) hjl2
              obtain ⟨cB, fB, zB⟩ := T.XB.out
              have hs1 := only_set w10 ⟨g, j, none⟩ (.int .i64 (wrap64 (y1 + 1)))
              have hr1 : R64 (wrap64 (y1 + 1)) := r64_w64 _
              have T12 := T.only hs1 (fun k e => by have e2 : k = g := (by simpa using e); rw [e2]; exact PK g (.inl rfl))
              have B12 : SlS (w10.setCell ⟨g, j, none⟩ (.int .i64 (wrap64 (y1 + 1)))) (.slice (some ⟨g, 0, none⟩) PH.length c1) (.slice a2 PP.length c2) (.slice a3 PG.length c3) ⟨PH.set j (wrap64 (y1 + 1)), PP, PG⟩ :=
                ⟨by have := (OB.1.stored j _ hr1).1.sl; exact this, (OB.2.1.only hs1 (fun k e q => by have e2 : k = g := (by simpa using q); rw [e2] at e; exact OB.2.2.2.1 g rfl e)).sl, (OB.2.2.1.only hs1 (fun k e q => by have e2 : k = g := (by simpa using q); rw [e2] at e; exact OB.2.2.2.2.1 g rfl e)).sl⟩
              have hw1 : IntKind.i64.wrap ((PH.length : Int) - 1) = (j : Int) := by rw [IntKind.wrap_i64]; omega
              have hw2 : ((PH.length : Int) - 1) = (j : Int) := by omega
              have hjl : (j : Int) < (PH.length : Int) := by omega
              have hj0 : (0 : Int) ≤ (j : Int) := by omega
              clear hj hs1 OB PK hy1
              go_wp2_with fail
              obtain ⟨cA, fA, zA⟩ := T12.XA.out
              obtain ⟨cB, fB, zB⟩ := T12.XB.out
              obtain ⟨cR1, fR1, zR1⟩ := T12.R1.out
              obtain ⟨cR2, fR2, zR2⟩ := T12.R2.out
              have ne1 : bB ≠ w.heap.size := by have := T12.bb; omega
              have ne2 : bB ≠ w.heap.size + 1 := by have := T12.bb; omega
              have ne3 : bA ≠ w.heap.size := by have := T12.ba; omega
              have ne4 : bA ≠ w.heap.size + 1 := by have := T12.ba; omega
              go_region
              all_goals
                go_wp2
                refine bodyPost_ret (v := .tuple #[.agg #[.slice b1 m1 k1, .slice b2 m2 k2, .slice b3 m3 k3], .agg #[.slice (some ⟨g, 0, none⟩) PH.length c1, .slice a2 PP.length c2, .slice a3 PG.length c3]]) (by simp only [results, Try.results37]; go_simp) rfl ?_
                exact twb_set T12 B12 nB (by omega)
            · obtain ⟨cB, fB, zB⟩ := T.XB.out
              go_wp2_with fail
              obtain ⟨cA, fA, zA⟩ := T.XA.out
              obtain ⟨cB, fB, zB⟩ := T.XB.out
              obtain ⟨cR1, fR1, zR1⟩ := T.R1.out
              obtain ⟨cR2, fR2, zR2⟩ := T.R2.out
              have ne1 : bB ≠ w.heap.size := by have := T.bb; omega
              have ne2 : bB ≠ w.heap.size + 1 := by have := T.bb; omega
              have ne3 : bA ≠ w.heap.size := by have := T.ba; omega
              have ne4 : bA ≠ w.heap.size + 1 := by have := T.ba; omega
              go_region
              all_goals
                go_wp2
                refine bodyPost_ret (v := .tuple #[.agg #[.slice b1 m1 k1, .slice b2 m2 k2, .slice b3 m3 k3], .agg #[.slice a1 PH.length c1, .slice a2 PP.length c2, .slice a3 PG.length c3]]) (by simp only [results, Try.results37]; go_simp) rfl ?_
                exact twb_set T OB.sl nB (by omega)
          · have e2 : (x == 2) = false := by simp [cc2]
            by_cases cc3 : x = 3
            · subst cc3
              obtain ⟨cB, fB, zB⟩ := T.XB.out
              have zBB := T.XB.out.2.2
              go_wp2_with (at_builtin; refine wpList_append_one rfl _ _ rfl (w.heap.size + 2) _ PH (by rfl) OB.1 1 (by unfold R64; omega) (by first | rfl | simp [Act.eval]) (by omega) (by have := T.bb; omega) ?_; intro v' wn ho hg hloc; obtain ⟨a9, c9, rfl, _⟩ := ho.form; have ho1 := Only.of_grown (S := fun k => (Value.slice a1 PH.length c1).ownBlock = some k) hg (fun k e => e); have Tn := T.only ho1 (fun k e => PK k (.inl e)); clear cB fB zB; obtain ⟨cB, fB, zB⟩ := Tn.XB.out)
              have hln : (PH ++ [1]).length = PH.length + 1 := by simp
              rw [hln] at ho hloc
              have Tf := Tn.setB 0 (.slice a9 (PH.length + 1) c9)
              have n9 : ∀ k, (Value.slice a9 (PH.length + 1) c9).ownBlock = some k → w.heap.size + 2 ≤ k ∧ k ≠ bB := fun k e => by
                have q1 := (ho.lt k e).1
                refine ⟨q1, ?_⟩
                rcases hloc with q | q
                · rw [q] at e; exact (PK k (.inl e)).2.2.1
                · rw [q] at e; injection e with e; omega
              have Bn : SlS wn (.slice a9 (PH.length + 1) c9) (.slice a2 PP.length c2) (.slice a3 PG.length c3) ⟨PH ++ [1], PP, PG⟩ :=
                ⟨by have := ho.sl; exact this, (OB.2.1.only ho1 (fun k e q => OB.2.2.2.1 k q e)).sl, (OB.2.2.1.only ho1 (fun k e q => OB.2.2.2.2.1 k q e)).sl⟩
              have n10 : ∀ k, blks (.slice a9 (PH.length + 1) c9) (.slice a2 PP.length c2) (.slice a3 PG.length c3) k → w.heap.size + 2 ≤ k ∧ k ≠ bB := fun k hk => by
                rcases hk with e | e | e
                · exact n9 k e
                · exact ⟨nB k (.inr (.inl e)), (PK k (.inr (.inl e))).2.2.1⟩
                · exact ⟨nB k (.inr (.inr e)), (PK k (.inr (.inr e))).2.2.1⟩
              have Bf := Bn.only (only_set wn ⟨bB, 0, none⟩ (.slice a9 (PH.length + 1) c9)) (fun k hk e => (n10 k hk).2 (by simpa using e))
              clear hg hloc ho1 ho hln
              go_wp2_with fail
              obtain ⟨cA, fA, zA⟩ := Tf.XA.out
              obtain ⟨cB, fB, zB⟩ := Tf.XB.out
              obtain ⟨cR1, fR1, zR1⟩ := Tf.R1.out
              obtain ⟨cR2, fR2, zR2⟩ := Tf.R2.out
              have ne1 : bB ≠ w.heap.size := by have := Tf.bb; omega
              have ne2 : bB ≠ w.heap.size + 1 := by have := Tf.bb; omega
              have ne3 : bA ≠ w.heap.size := by have := Tf.ba; omega
              have ne4 : bA ≠ w.heap.size + 1 := by have := Tf.ba; omega
              go_region
              all_goals
                go_wp2
                refine bodyPost_ret (v := .tuple #[.agg #[.slice b1 m1 k1, .slice b2 m2 k2, .slice b3 m3 k3], .agg #[.slice a9 (PH.length + 1) c9, .slice a2 PP.length c2, .slice a3 PG.length c3]]) (by simp only [results, Try.results37]; go_simp) rfl ?_
                exact twb_set Tf Bf (fun k hk => (n10 k hk).1) (by omega)
            · have e3 : (x == 3) = false := by simp [cc3]
              clear c0 cc1 cc2 cc3
              obtain ⟨cB, fB, zB⟩ := T.XB.out
              go_wp2_with fail
              obtain ⟨cA, fA, zA⟩ := T.XA.out
              obtain ⟨cB, fB, zB⟩ := T.XB.out
              obtain ⟨cR1, fR1, zR1⟩ := T.R1.out
              obtain ⟨cR2, fR2, zR2⟩ := T.R2.out
              have ne1 : bB ≠ w.heap.size := by have := T.bb; omega
              have ne2 : bB ≠ w.heap.size + 1 := by have := T.bb; omega
              have ne3 : bA ≠ w.heap.size := by have := T.ba; omega
              have ne4 : bA ≠ w.heap.size + 1 := by have := T.ba; omega
              go_region
              all_goals
                go_wp2
                refine bodyPost_ret (v := .tuple #[.agg #[.slice b1 m1 k1, .slice b2 m2 k2, .slice b3 m3 k3], .agg #[.slice a1 PH.length c1, .slice a2 PP.length c2, .slice a3 PG.length c3]]) (by simp only [results, Try.results37]; go_simp) rfl ?_
                exact twb_set T OB.sl nB (by omega)

end Go.Proofs.Ytgkelemfbmmgnaa
