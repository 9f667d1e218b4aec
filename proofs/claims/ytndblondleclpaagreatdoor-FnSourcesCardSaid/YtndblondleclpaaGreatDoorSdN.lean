/- A draw of two sources. Each theorem names its conditions. -/
import Derived.Test.YtndblondleclpaaGreatDoorSdK
import Derived.Test.YtndblondleclpaaGreatDoorClone
namespace Go.Proofs.YtndblondleclpaaGreatDoor
open Go.RowKit
set_option linter.unusedVariables false
set_option linter.unusedSimpArgs false

theorem SlS.onlyN {w w' : World} {h p g : Value} {s : Src} {S : Nat → Prop} (x : SlS w h p g s) (ho : Only w w' S) (hn : ∀ k, blks h p g k → ¬ S k) : SlS w' h p g s :=
  ⟨x.1.only ho (fun k _ e => hn k (.inl e)), x.2.1.only ho (fun k _ e => hn k (.inr (.inl e))), x.2.2.only ho (fun k _ e => hn k (.inr (.inr e)))⟩
def SmO (w : World) (e : Ending) (w' : World) : Prop := ∃ ha pa ga sa hb pb gb sb, e = .returned (.tuple #[.agg #[ha, pa, ga], .agg #[hb, pb, gb]]) ∧ SlS w' ha pa ga sa ∧ SlS w' hb pb gb sb ∧ Bl w w'
/-- Two sources behind the boxes bA, bB; what is written lies at m and behind. -/
structure Sm (w W : World) (m bA bB : Nat) (ha pa ga : Value) (sa : Src) (hb pb gb : Value) (sb : Src) : Prop where
  R1 : Bx W w.heap.size #[.slice none 0 0, .slice none 0 0, .slice none 0 0]
  R2 : Bx W (w.heap.size + 1) #[.slice none 0 0, .slice none 0 0, .slice none 0 0]
  XA : Bx W bA #[ha, pa, ga]
  XB : Bx W bB #[hb, pb, gb]
  A : SlS W ha pa ga sa
  nA : ∀ k, blks ha pa ga k → w.heap.size + 2 ≤ k ∧ k < m
  B : SlS W hb pb gb sb
  nB : ∀ k, blks hb pb gb k → m ≤ k
  ba : bA < m
  bb : m ≤ bB
  wm : w.heap.size + 2 ≤ m
  L : Bl w W
structure Sq (w W : World) (ha pa ga : Value) (sa : Src) (hb pb gb : Value) (sb : Src) : Prop where
  A : SlS W ha pa ga sa
  nA : ∀ k, blks ha pa ga k → w.heap.size + 2 ≤ k
  B : SlS W hb pb gb sb
  nB : ∀ k, blks hb pb gb k → w.heap.size + 2 ≤ k
  L : Bl w W
theorem Sq.set {w W : World} {ha pa ga : Value} {sa : Src} {hb pb gb : Value} {sb : Src} (x : Sq w W ha pa ga sa hb pb gb sb) (b j : Nat) (v : Value) (h1 : w.heap.size ≤ b) (h2 : b < w.heap.size + 2) : Sq w (W.setCell ⟨b, j, none⟩ v) ha pa ga sa hb pb gb sb :=
  ⟨x.A.onlyN (only_set _ _ _) (fun k hk e => by have := x.nA k hk; simp at e; omega), x.nA, x.B.onlyN (only_set _ _ _) (fun k hk e => by have := x.nB k hk; simp at e; omega), x.nB, bl_set x.L (by simpa using h1) _⟩
theorem Sq.smo {w W : World} {ha pa ga : Value} {sa : Src} {hb pb gb : Value} {sb : Src} (x : Sq w W ha pa ga sa hb pb gb sb) : SmO w (.returned (.tuple #[.agg #[ha, pa, ga], .agg #[hb, pb, gb]])) W := ⟨_, _, _, _, _, _, _, _, rfl, x.A, x.B, x.L⟩
theorem Sm.end {w W : World} {m bA bB : Nat} {ha pa ga : Value} {sa : Src} {hb pb gb : Value} {sb : Src} (T : Sm w W m bA bB ha pa ga sa hb pb gb sb) :
    SmO w (.returned (.tuple #[.agg #[ha, pa, ga], .agg #[hb, pb, gb]])) ((((((W.setCell ⟨w.heap.size, 0, none⟩ ha).setCell ⟨w.heap.size, 1, none⟩ pa).setCell ⟨w.heap.size, 2, none⟩ ga).setCell ⟨w.heap.size + 1, 0, none⟩ hb).setCell ⟨w.heap.size + 1, 1, none⟩ pb).setCell ⟨w.heap.size + 1, 2, none⟩ gb) := by
  have wm := T.wm
  have x0 : Sq w W ha pa ga sa hb pb gb sb := ⟨T.A, fun k e => (T.nA k e).1, T.B, fun k e => by have := T.nB k e; omega, T.L⟩
  exact ((((((x0.set w.heap.size 0 ha (by omega) (by omega)).set w.heap.size 1 pa (by omega) (by omega)).set w.heap.size 2 ga (by omega) (by omega)).set (w.heap.size + 1) 0 hb (by omega) (by omega)).set (w.heap.size + 1) 1 pb (by omega) (by omega)).set (w.heap.size + 1) 2 gb (by omega) (by omega)).smo
theorem SmO.drewN {w W : World} {e : Ending} (h : SmO w e W) : SmO w e W.drew := by
  obtain ⟨ha, pa, ga, sa, hb, pb, gb, sb, rfl, A, B, L⟩ := h
  exact ⟨_, _, _, _, _, _, _, _, rfl, A, B, bl_drew L⟩
/-- What is written at m and behind, the second source given anew. -/
theorem Sm.write {w W W' : World} {m bA bB : Nat} {ha pa ga : Value} {sa : Src} {hb pb gb : Value} {sb : Src} {hb' pb' gb' : Value} {sb' : Src} (T : Sm w W m bA bB ha pa ga sa hb pb gb sb) (ho : Only W W' (fun k => m ≤ k)) (hX : Bx W' bB #[hb', pb', gb']) (hB : SlS W' hb' pb' gb' sb') (hn : ∀ k, blks hb' pb' gb' k → m ≤ k) : Sm w W' m bA bB ha pa ga sa hb' pb' gb' sb' := by
  have wm := T.wm
  have ba := T.ba
  refine ⟨T.R1.only ho (by omega), T.R2.only ho (by omega), T.XA.only ho (by omega), hX, T.A.onlyN ho (fun k hk e => by have := (T.nA k hk).2; omega), T.nA, hB, hn, T.ba, T.bb, T.wm, ?_⟩
  exact Below.only T.L ho T.L.size (fun k hk => by omega)
theorem only_moreN {W W' : World} {S S' : Nat → Prop} (h : Only W W' S) (hs : ∀ k, S k → S' k) : Only W W' S' := ⟨h.os, h.tape, h.output, h.size, fun k hk hn => h.block k hk (fun e => hn (hs k e))⟩
/-- One number more at the head of the second. -/
theorem Sm.push {w W wn : World} {m bA bB : Nat} {ha pa ga : Value} {sa : Src} {hb pb gb v' : Value} {sb : Src} {ys : List Int} (T : Sm w W m bA bB ha pa ga sa hb pb gb sb) (O : OwnS W m hb pb gb sb) (q : ∀ k, blks hb pb gb k → k ≠ bB) (ho : Own wn m v' ys) (hg : W.grownBy wn hb.ownBlock) :
    Bx wn bB #[hb, pb, gb] ∧ ((∀ k, v'.ownBlock = some k → k ≠ bB) → Sm w (wn.setCell ⟨bB, 0, none⟩ v') m bA bB ha pa ga sa v' pb gb ⟨ys, sb.P, sb.G⟩) := by
  have ho1 : Only W wn (fun k => hb.ownBlock = some k) := Only.of_grown hg (fun k e => e)
  have xb := T.XB.only ho1 (fun e => q bB (.inl e) rfl)
  refine ⟨xb, fun hv => ?_⟩
  have hm : ∀ k, hb.ownBlock = some k → m ≤ k := fun k e => (O.1.lt k e).1
  have hbb := T.bb
  have ho2 := (only_moreN ho1 hm).trans (only_moreN (only_set wn ⟨bB, 0, none⟩ v') (fun k e => by simp at e; omega))
  have oP := (O.2.1.only ho1 (fun k e e' => O.2.2.2.1 k e' e))
  have oG := (O.2.2.1.only ho1 (fun k e e' => O.2.2.2.2.1 k e' e))
  refine T.write ho2 (xb.set 0 _) ⟨(own_farU ho (fun k e => hv k e) _).sl, (own_farU oP (fun k e => q k (.inr (.inl e))) _).sl, (own_farU oG (fun k e => q k (.inr (.inr e))) _).sl⟩ (fun k hk => ?_)
  rcases hk with e | e | e
  · exact (ho.lt k e).1
  · exact (O.2.1.lt k e).1
  · exact (O.2.2.1.lt k e).1
/-- The first number of a list of the second, anew. -/
theorem Sm.stG {w W : World} {m bA bB gb n c : Nat} {ha pa ga : Value} {sa : Src} {hb pb : Value} {sb : Src} (T : Sm w W m bA bB ha pa ga sa hb pb (.slice (some ⟨gb, 0, none⟩) n c) sb) (O : OwnS W m hb pb (.slice (some ⟨gb, 0, none⟩) n c) sb) (q : ∀ k, blks hb pb (.slice (some ⟨gb, 0, none⟩) n c) k → k ≠ bB) (y : Int) (hy : R64 y) :
    Sm w (W.setCell ⟨gb, 0, none⟩ (.int .i64 y)) m bA bB ha pa ga sa hb pb (.slice (some ⟨gb, 0, none⟩) n c) ⟨sb.H, sb.P, sb.G.set 0 y⟩ := by
  have hm := (O.2.2.1.lt gb rfl).1
  have ho := only_set W ⟨gb, 0, none⟩ (.int .i64 y)
  have nH : ∀ k, hb.ownBlock = some k → k ≠ gb := fun k e e2 => by subst e2; exact O.2.2.2.2.1 k e rfl
  have nP : ∀ k, pb.ownBlock = some k → k ≠ gb := fun k e e2 => by subst e2; exact O.2.2.2.2.2 k e rfl
  exact T.write (only_moreN ho (fun k e => by simp at e; omega)) (T.XB.only ho (fun e => q gb (.inr (.inr rfl)) (by simpa using e.symm))) ⟨(own_farU O.1 (p := ⟨gb, 0, none⟩) nH _).sl, (own_farU O.2.1 (p := ⟨gb, 0, none⟩) nP _).sl, (O.2.2.1.stored 0 y hy).1.sl⟩ T.nB
theorem Sm.stP {w W : World} {m bA bB gb n c : Nat} {ha pa ga : Value} {sa : Src} {hb g' : Value} {sb : Src} (T : Sm w W m bA bB ha pa ga sa hb (.slice (some ⟨gb, 0, none⟩) n c) g' sb) (O : OwnS W m hb (.slice (some ⟨gb, 0, none⟩) n c) g' sb) (q : ∀ k, blks hb (.slice (some ⟨gb, 0, none⟩) n c) g' k → k ≠ bB) (y : Int) (hy : R64 y) :
    Sm w (W.setCell ⟨gb, 0, none⟩ (.int .i64 y)) m bA bB ha pa ga sa hb (.slice (some ⟨gb, 0, none⟩) n c) g' ⟨sb.H, sb.P.set 0 y, sb.G⟩ := by
  have hm := (O.2.1.lt gb rfl).1
  have ho := only_set W ⟨gb, 0, none⟩ (.int .i64 y)
  have nH : ∀ k, hb.ownBlock = some k → k ≠ gb := fun k e e2 => by subst e2; exact O.2.2.2.1 k e rfl
  have nG : ∀ k, g'.ownBlock = some k → k ≠ gb := fun k e e2 => by subst e2; exact O.2.2.2.2.2 k rfl e
  exact T.write (only_moreN ho (fun k e => by simp at e; omega)) (T.XB.only ho (fun e => q gb (.inr (.inl rfl)) (by simpa using e.symm))) ⟨(own_farU O.1 (p := ⟨gb, 0, none⟩) nH _).sl, (O.2.1.stored 0 y hy).1.sl, (own_farU O.2.2.1 (p := ⟨gb, 0, none⟩) nG _).sl⟩ T.nB
theorem Own.farN {w : World} {B : Nat} {v : Value} {xs : List Int} (h : Own w B v xs) {p : Addr} (hp : ∀ k, v.ownBlock = some k → k ≠ p.block) (u : Value) : Own (w.setCell p u) B v xs := own_farU h hp u
theorem Sm.upd {w W W' : World} {m bA bB p : Nat} {ha pa ga : Value} {sa : Src} {hb pb gb : Value} {sb : Src} (T : Sm w W m bA bB ha pa ga sa hb pb gb sb) (hU : Upd W W' p) (hp : w.heap.size + 2 ≤ p) (h1 : p ≠ bA) (h2 : p < m) (h3 : ∀ k, blks ha pa ga k → k ≠ p) : Sm w W' m bA bB ha pa ga sa hb pb gb sb := by
  have bb := T.bb
  have ho := only_upd hU
  refine ⟨T.R1.upd hU (by omega), T.R2.upd hU (by omega), T.XA.upd hU (fun e => h1 e.symm), T.XB.upd hU (by omega), T.A.onlyN ho (fun k hk e => h3 k hk e), T.nA, T.B.onlyN ho (fun k hk e => by have := T.nB k hk; omega), T.nB, T.ba, T.bb, T.wm, bl_of_upd T.L hU (by omega)⟩
theorem Sm.bl {w W W' : World} {m bA bB : Nat} {ha pa ga : Value} {sa : Src} {hb pb gb : Value} {sb : Src} (T : Sm w W m bA bB ha pa ga sa hb pb gb sb) (h : Bl W W') : Sm w W' m bA bB ha pa ga sa hb pb gb sb :=
  ⟨T.R1.below h, T.R2.below h, T.XA.below h, T.XB.below h, T.A.below h, T.nA, T.B.below h, T.nB, T.ba, T.bb, T.wm, bl_call T.L h⟩
set_option maxRecDepth 100000 in
set_option maxHeartbeats 25600000 in
theorem dsame_any {w : World} {v : Value} {bs : List Int} (h : SlB w v bs) (hl : bs.length ≤ 4096) :
    Calls Tryz.prog 20 #[v] w (SmO w) := by
  obtain ⟨av, cv, rfl, hcv⟩ := h.form
  have HS := Lib.hid h
  clear h
  go_enter Tryz.func20, Tryz.ntmps20
  go_wp2_with fail
  have y0 : Bx ((w.alloc (.cells #[.slice none 0 0, .slice none 0 0, .slice none 0 0] 26)).alloc (.cells #[.slice none 0 0, .slice none 0 0, .slice none 0 0] 26)) w.heap.size #[.slice none 0 0, .slice none 0 0, .slice none 0 0] := (Bx.new (b := w.heap.size) w #[.slice none 0 0, .slice none 0 0, .slice none 0 0] 26 rfl).alloc _
  have y1 : Bx ((w.alloc (.cells #[.slice none 0 0, .slice none 0 0, .slice none 0 0] 26)).alloc (.cells #[.slice none 0 0, .slice none 0 0, .slice none 0 0] 26)) (w.heap.size + 1) #[.slice none 0 0, .slice none 0 0, .slice none 0 0] := Bx.new (b := w.heap.size + 1) _ _ _ (by simp)
  have hA : Bl w ((w.alloc (.cells #[.slice none 0 0, .slice none 0 0, .slice none 0 0] 26)).alloc (.cells #[.slice none 0 0, .slice none 0 0, .slice none 0 0] 26)) := bl_alloc (bl_alloc (bl_refl w) _) _
  have hsz : ((w.alloc (.cells #[.slice none 0 0, .slice none 0 0, .slice none 0 0] 26)).alloc (.cells #[.slice none 0 0, .slice none 0 0, .slice none 0 0] 26)).heap.size = w.heap.size + 2 := by simp
  generalize (w.alloc (.cells #[.slice none 0 0, .slice none 0 0, .slice none 0 0] 26)).alloc (.cells #[.slice none 0 0, .slice none 0 0, .slice none 0 0] 26) = wa at *
  refine (dfrom_any (HS.out.below hA) (by omega)).mono ?_
  rintro e w1 ⟨p, rfl, hD, hb1⟩
  have hp := hD.out
  have x0 := y0.below hb1
  have x1 := y1.below hb1
  go_wp2_with fail
  refine (sdraw15_any hD (by omega)).mono ?_
  rintro e w2 ⟨h, pp, g, s, rfl, hO, hL, hS2, hU2⟩
  obtain ⟨⟨b1, m1, k1, rfl⟩, ⟨b2, m2, k2, rfl⟩, ⟨b3, m3, k3, rfl⟩⟩ := hO.shape
  obtain ⟨l1, l2, l3, _⟩ := hL
  have B2 := bl_of_upd (bl_call hA hb1) hU2 (by omega)
  have zz2 := hU2.size
  have xR1' := (x0.upd hU2 (by omega)).alloc (.cells #[.slice b1 m1 k1, .slice b2 m2 k2, .slice b3 m3 k3] 26)
  have xR2' := (x1.upd hU2 (by omega)).alloc (.cells #[.slice b1 m1 k1, .slice b2 m2 k2, .slice b3 m3 k3] 26)
  have hx : Bx (w2.alloc (.cells #[.slice b1 m1 k1, .slice b2 m2 k2, .slice b3 m3 k3] 26)) w2.heap.size #[.slice b1 m1 k1, .slice b2 m2 k2, .slice b3 m3 k3] := Bx.new (b := w2.heap.size) _ _ _ rfl
  have S3 := hS2.below (bl_alloc (bl_refl w2) (.cells #[.slice b1 m1 k1, .slice b2 m2 k2, .slice b3 m3 k3] 26))
  have O3 := hO.below (bl_alloc (bl_refl w2) (.cells #[.slice b1 m1 k1, .slice b2 m2 k2, .slice b3 m3 k3] 26))
  have hblk := hO.blk
  have B3 : Bl w (w2.alloc (.cells #[.slice b1 m1 k1, .slice b2 m2 k2, .slice b3 m3 k3] 26)) := bl_alloc B2 _
  have zz3 : (w2.alloc (.cells #[.slice b1 m1 k1, .slice b2 m2 k2, .slice b3 m3 k3] 26)).heap.size = w2.heap.size + 1 := by simp
  clear hO hS2 B2 hU2 x0 x1 y0 y1 hD hb1 hA
  go_wp2_with fail
  obtain ⟨bA, hbA⟩ : ∃ bA, bA = w2.heap.size := ⟨_, rfl⟩
  rw [← hbA] at hx hblk zz2 zz3 ⊢
  generalize w2.alloc (.cells #[.slice b1 m1 k1, .slice b2 m2 k2, .slice b3 m3 k3] 26) = w3 at *
  clear hbA
  have hblk := Lib.hid hblk
  have zz4 : bA < w3.heap.size := by omega
  clear zz3
  have hs := O3.sl
  obtain ⟨cx, fx, zx⟩ := hx.out
  go_cut [6] (fun s6 wx => ∃ q a1 c1 a2 c2 a3 c3, s6 = .pointer (some ⟨q, 0, none⟩) ∧ Bx wx q #[.slice a1 s.H.length c1, .slice a2 s.P.length c2, .slice a3 s.G.length c3] ∧ Own wx w3.heap.size (.slice a1 s.H.length c1) s.H ∧ Own wx w3.heap.size (.slice a2 s.P.length c2) s.P ∧ Own wx w3.heap.size (.slice a3 s.G.length c3) s.G ∧ w3.heap.size ≤ q ∧ ((∀ k, (Value.slice a1 s.H.length c1).ownBlock = some k → (Value.slice a2 s.P.length c2).ownBlock ≠ some k) ∧ (∀ k, (Value.slice a1 s.H.length c1).ownBlock = some k → (Value.slice a3 s.G.length c3).ownBlock ≠ some k) ∧ (∀ k, (Value.slice a2 s.P.length c2).ownBlock = some k → (Value.slice a3 s.G.length c3).ownBlock ≠ some k) ∧ (∀ k, (Value.slice a1 s.H.length c1).ownBlock = some k → k ≠ q) ∧ (∀ k, (Value.slice a2 s.P.length c2).ownBlock = some k → k ≠ q) ∧ (∀ k, (Value.slice a3 s.G.length c3).ownBlock = some k → k ≠ q)) ∧ Bl w3 wx)
  case first =>
    have BB := bl_refl w3
    have BB := bl_drew BB
    go_region_held3 (fun w' => w'.cell? ⟨bA, 0, none⟩ = some (.slice b1 m1 k1) ∧ w'.cell? ⟨bA, 1, none⟩ = some (.slice b2 m2 k2) ∧ w'.cell? ⟨bA, 2, none⟩ = some (.slice b3 m3 k3)) (first | (simp [*]; done) | (go_simp; done) | go_keep)
      (first | (go_at_call_of 55 (Value.slice b1 m1 k1); go_must (refine (own_any (.slice b1 m1 k1) s.H _ (by first | exact hs.1.below BB | exact hs.1.below (bl_alloc BB _)) (by omega)).mono ?_; rintro e v1 ⟨a1, c1, rfl, o1, hb1⟩; have r1 := Lib.hid o1.lt; have z1 := hb1.size; have BB : Bl w3 v1 := bl_call (by first | exact BB | exact bl_alloc BB _) hb1; obtain ⟨cx, fx, zx⟩ := (hx.below BB).out; (first | (have o2 := o2.below hb1) | (have o2 := (o2.alloc _).below hb1) | skip); (first | (have o3 := o3.below hb1) | (have o3 := (o3.alloc _).below hb1) | skip); (first | (have nb := nb.below hb1; obtain ⟨cn, fn, zn⟩ := nb.out) | (have nb := (Bx.new _ #[.slice none 0 0, .slice none 0 0, .slice none 0 0] 26 rfl).below hb1; obtain ⟨cn, fn, zn⟩ := nb.out) | (have nb := (Bx.new w3 #[.slice none 0 0, .slice none 0 0, .slice none 0 0] 26 rfl).drew.below hb1; obtain ⟨cn, fn, zn⟩ := nb.out) | skip))) | (go_at_call_of 55 (Value.slice b2 m2 k2); go_must (refine (own_any (.slice b2 m2 k2) s.P _ (by first | exact hs.2.1.below BB | exact hs.2.1.below (bl_alloc BB _)) (by omega)).mono ?_; rintro e v2 ⟨a2, c2, rfl, o2, hb2⟩; have r2 := Lib.hid o2.lt; have z2 := hb2.size; have BB : Bl w3 v2 := bl_call (by first | exact BB | exact bl_alloc BB _) hb2; obtain ⟨cx, fx, zx⟩ := (hx.below BB).out; (first | (have o1 := o1.below hb2) | (have o1 := (o1.alloc _).below hb2) | skip); (first | (have o3 := o3.below hb2) | (have o3 := (o3.alloc _).below hb2) | skip); (first | (have nb := nb.below hb2; obtain ⟨cn, fn, zn⟩ := nb.out) | (have nb := (Bx.new _ #[.slice none 0 0, .slice none 0 0, .slice none 0 0] 26 rfl).below hb2; obtain ⟨cn, fn, zn⟩ := nb.out) | (have nb := (Bx.new w3 #[.slice none 0 0, .slice none 0 0, .slice none 0 0] 26 rfl).drew.below hb2; obtain ⟨cn, fn, zn⟩ := nb.out) | skip))) | (go_at_call_of 55 (Value.slice b3 m3 k3); go_must (refine (own_any (.slice b3 m3 k3) s.G _ (by first | exact hs.2.2.below BB | exact hs.2.2.below (bl_alloc BB _)) (by omega)).mono ?_; rintro e v3 ⟨a3, c3, rfl, o3, hb3⟩; have r3 := Lib.hid o3.lt; have z3 := hb3.size; have BB : Bl w3 v3 := bl_call (by first | exact BB | exact bl_alloc BB _) hb3; obtain ⟨cx, fx, zx⟩ := (hx.below BB).out; (first | (have o1 := o1.below hb3) | (have o1 := (o1.alloc _).below hb3) | skip); (first | (have o2 := o2.below hb3) | (have o2 := (o2.alloc _).below hb3) | skip); (first | (have nb := nb.below hb3; obtain ⟨cn, fn, zn⟩ := nb.out) | (have nb := (Bx.new _ #[.slice none 0 0, .slice none 0 0, .slice none 0 0] 26 rfl).below hb3; obtain ⟨cn, fn, zn⟩ := nb.out) | (have nb := (Bx.new w3 #[.slice none 0 0, .slice none 0 0, .slice none 0 0] 26 rfl).drew.below hb3; obtain ⟨cn, fn, zn⟩ := nb.out) | skip))))
    all_goals (go_wp2_with fail; go_meet)
    all_goals (first
      | (refine ⟨_, a1, c1, a2, c2, a3, c3, rfl, ((nb.set 0 _).set 1 _).set 2 _, ?_, ?_, ?_, ?_, ⟨(fun k e1 e2 => by have q1 := r1.out k e1; have q2 := r2.out k e2; (try simp at q1 q2 z1 z2 z3); omega), (fun k e1 e2 => by have q1 := r1.out k e1; have q2 := r3.out k e2; (try simp at q1 q2 z1 z2 z3); omega), (fun k e1 e2 => by have q1 := r2.out k e1; have q2 := r3.out k e2; (try simp at q1 q2 z1 z2 z3); omega), (fun k e1 => by first | (have q1 := r1.out k e1; (try simp at q1 z1 z2 z3); (try simp); omega) | (have q1 := (o1.lt k e1).2; (try simp at q1 ⊢); omega)), (fun k e1 => by first | (have q1 := r2.out k e1; (try simp at q1 z1 z2 z3); (try simp); omega) | (have q1 := (o2.lt k e1).2; (try simp at q1 ⊢); omega)), (fun k e1 => by first | (have q1 := r3.out k e1; (try simp at q1 z1 z2 z3); (try simp); omega) | (have q1 := (o3.lt k e1).2; (try simp at q1 ⊢); omega))⟩, ?_⟩
         · exact (((o1.farN (fun k hk => by have q := r1.out k hk; (try simp at q z1 z2 z3); simp; omega) _).farN (fun k hk => by have q := r1.out k hk; (try simp at q z1 z2 z3); simp; omega) _).farN (fun k hk => by have q := r1.out k hk; (try simp at q z1 z2 z3); simp; omega) _).mono (by first | exact Nat.le_refl _ | ((try simp at z1 z2 z3); have h5 := hb1.size; (try simp at h5); first | omega | (simp; done) | (simp; omega)))
         · exact (((o2.farN (fun k hk => by have q := r2.out k hk; (try simp at q z1 z2 z3); simp; omega) _).farN (fun k hk => by have q := r2.out k hk; (try simp at q z1 z2 z3); simp; omega) _).farN (fun k hk => by have q := r2.out k hk; (try simp at q z1 z2 z3); simp; omega) _).mono (by ((try simp at z1 z2 z3); have h5 := hb1.size; (try simp at h5); first | omega | (simp; done) | (simp; omega)))
         · exact (((o3.farN (fun k hk => by have q := r3.out k hk; (try simp at q z1 z2 z3); simp; omega) _).farN (fun k hk => by have q := r3.out k hk; (try simp at q z1 z2 z3); simp; omega) _).farN (fun k hk => by have q := r3.out k hk; (try simp at q z1 z2 z3); simp; omega) _).mono (by ((try simp at z1 z2 z3); have h5 := hb1.size; (try simp at h5); first | omega | (simp; done) | (simp; omega)))
         · ((try simp at z1 z2 z3); have h5 := hb1.size; (try simp at h5); first | omega | (simp; done) | (simp; omega))
         · exact bl_set (bl_set (bl_set BB (by ((try simp at z1 z2 z3); have h5 := hb1.size; (try simp at h5); first | omega | (simp; done) | (simp; omega))) _) (by ((try simp at z1 z2 z3); have h5 := hb1.size; (try simp at h5); first | omega | (simp; done) | (simp; omega))) _) (by ((try simp at z1 z2 z3); have h5 := hb1.size; (try simp at h5); first | omega | (simp; done) | (simp; omega))) _)
      | exact ⟨_, a1, c1, a2, c2, a3, c3, rfl, Bx.new _ _ _ rfl, (o1.alloc _).mono (by first | exact Nat.le_refl _ | ((try simp at z1 z2 z3); have h5 := hb1.size; (try simp at h5); first | omega | (simp; done) | (simp; omega))), (o2.alloc _).mono (by ((try simp at z1 z2 z3); have h5 := hb1.size; (try simp at h5); first | omega | (simp; done) | (simp; omega))), (o3.alloc _).mono (by ((try simp at z1 z2 z3); have h5 := hb1.size; (try simp at h5); first | omega | (simp; done) | (simp; omega))), BB.size, ⟨(fun k e1 e2 => by have q1 := r1.out k e1; have q2 := r2.out k e2; (try simp at q1 q2 z1 z2 z3); omega), (fun k e1 e2 => by have q1 := r1.out k e1; have q2 := r3.out k e2; (try simp at q1 q2 z1 z2 z3); omega), (fun k e1 e2 => by have q1 := r2.out k e1; have q2 := r3.out k e2; (try simp at q1 q2 z1 z2 z3); omega), (fun k e1 => by first | (have q1 := r1.out k e1; (try simp at q1 z1 z2 z3); (try simp); omega) | (have q1 := (o1.lt k e1).2; (try simp at q1 ⊢); omega)), (fun k e1 => by first | (have q1 := r2.out k e1; (try simp at q1 z1 z2 z3); (try simp); omega) | (have q1 := (o2.lt k e1).2; (try simp at q1 ⊢); omega)), (fun k e1 => by first | (have q1 := r3.out k e1; (try simp at q1 z1 z2 z3); (try simp); omega) | (have q1 := (o3.lt k e1).2; (try simp at q1 ⊢); omega))⟩, bl_alloc BB _⟩)
  case rest =>
    obtain ⟨q, a1, c1, a2, c2, a3, c3, rfl, xq, o1, o2, o3, hq, hap, hj⟩ := hcut
    obtain ⟨w4, rfl⟩ : ∃ x : World, x = wc := ⟨_, rfl⟩
    have OB : OwnS w4 w3.heap.size (.slice a1 s.H.length c1) (.slice a2 s.P.length c2) (.slice a3 s.G.length c3) s := ⟨o1, o2, o3, hap.1, hap.2.1, hap.2.2.1⟩
    have hqB : ∀ k, blks (.slice a1 s.H.length c1) (.slice a2 s.P.length c2) (.slice a3 s.G.length c3) k → k ≠ q := fun k hk => by
      rcases hk with e | e | e
      · exact hap.2.2.2.1 k e
      · exact hap.2.2.2.2.1 k e
      · exact hap.2.2.2.2.2 k e
    have T4 : Sm w w4 w3.heap.size bA q (.slice b1 m1 k1) (.slice b2 m2 k2) (.slice b3 m3 k3) s (.slice a1 s.H.length c1) (.slice a2 s.P.length c2) (.slice a3 s.G.length c3) s :=
      ⟨xR1'.below hj, xR2'.below hj, hx.below hj, xq, hs.below hj, fun k hk => by have := hblk.out k hk; omega, OB.sl, fun k hk => (OB.blk k hk).1, by omega, hq, by omega, bl_call B3 hj⟩
    have S4 := S3.below hj
    have HQB := Lib.hid hqB
    clear xq o1 o2 o3 hap hj xR1' xR2' hx S3 O3 hs B3 cx fx zx hqB
    go_wp2_with fail
    refine (dpick_any S4 (by omega) (by omega)).mono ?_
    rintro e w5 ⟨r, rfl, r0, r1, hS5, hU5⟩
    have T5 := T4.upd hU5 (by omega) (by omega) (by omega) (fun k hk => by have := hblk.out k hk; omega)
    have OB5 := OB.only2 (only_upd hU5) (fun k hk e => by have := (OB.blk k hk).1; omega)
    clear T4 OB S4 hS5 hU5
    have hqlt := T5.XB.out.2.2
    by_cases hc0 : r = 0
    · subst hc0
      obtain ⟨cR1, fR1, zR1⟩ := T5.R1.out
      obtain ⟨cR2, fR2, zR2⟩ := T5.R2.out
      obtain ⟨cA, fA, zA⟩ := T5.XA.out
      obtain ⟨cB, fB, zB⟩ := T5.XB.out
      go_wp2_with (at_builtin; refine wpList_append_one rfl _ _ rfl w3.heap.size _ s.H (by rfl) OB5.1 1 (by unfold R64; omega) (by first | rfl | simp [Act.eval]) (by omega) (by omega) ?_; intro v' wn ho hg hloc; obtain ⟨H2, hH2⟩ : ∃ z, z = s.H ++ [1] := ⟨_, rfl⟩; rw [← hH2] at ho; clear hH2; obtain ⟨xN, hT⟩ := T5.push OB5 HQB.out ho hg; have T6 := hT (fun k e => by rcases hloc with e2 | e2; exact HQB.out k (.inl (e2 ▸ e)); rw [e2] at e; injection e with e; omega); obtain ⟨a9, c9, rfl, _⟩ := ho.form; clear cR1 fR1 zR1 cR2 fR2 zR2 cA fA zA cB fB zB; obtain ⟨cB, fB, zB⟩ := xN.out; obtain ⟨cR1, fR1, zR1⟩ := T6.R1.out; obtain ⟨cR2, fR2, zR2⟩ := T6.R2.out; obtain ⟨cA, fA, zA⟩ := T6.XA.out; obtain ⟨cC, fC, zC⟩ := T6.XB.out; clear ho hg hloc hT)
      have ne1 : q ≠ w.heap.size := by have := T6.bb; have := T6.wm; omega
      have ne2 : q ≠ w.heap.size + 1 := by have := T6.bb; have := T6.wm; omega
      have ne3 : bA ≠ w.heap.size := by omega
      have ne4 : bA ≠ w.heap.size + 1 := by omega
      go_region
      all_goals
        go_wp2
        refine bodyPost_ret (v := .tuple #[.agg #[.slice b1 m1 k1, .slice b2 m2 k2, .slice b3 m3 k3], .agg #[.slice a9 H2.length c9, .slice a2 s.P.length c2, .slice a3 s.G.length c3]]) (by simp only [results, Tryz.results20]; go_simp) rfl ?_
        first | (with_reducible exact T6.end.drewN) | (with_reducible exact T6.end) | (with_reducible exact (T6.bl (bl_drew (bl_refl _))).end)
    · have e0 : (r == 0) = false := by simp [hc0]
      clear hc0
      by_cases hc1 : r = 1
      · subst hc1
        by_cases hz : 0 < s.G.length
        · have hz2 : (0 : Int) < (s.G.length : Int) := by omega
          obtain ⟨gb, e3, hgb⟩ := OB5.2.2.1.addr hz
          subst e3
          obtain ⟨y, hy, cH, fH, _⟩ := OB5.2.2.1.cellAt hz
          obtain ⟨z, hwz⟩ : ∃ z, IntKind.i64.wrap (y + 1) = z := ⟨_, rfl⟩
          have T6 := T5.stG OB5 HQB.out z (by rw [← hwz]; unfold R64; rw [IntKind.wrap_i64]; omega)
          clear hy
          obtain ⟨cR1, fR1, zR1⟩ := T5.R1.out
          obtain ⟨cR2, fR2, zR2⟩ := T5.R2.out
          obtain ⟨cA, fA, zA⟩ := T5.XA.out
          obtain ⟨cB, fB, zB⟩ := T5.XB.out
          obtain ⟨dR1, gR1, yR1⟩ := T6.R1.out
          obtain ⟨dR2, gR2, yR2⟩ := T6.R2.out
          obtain ⟨dA, gA, yA⟩ := T6.XA.out
          obtain ⟨dB, gB, yB⟩ := T6.XB.out
          go_wp2_with fail
          have ne1 : q ≠ w.heap.size := by have := T6.bb; have := T6.wm; omega
          have ne2 : q ≠ w.heap.size + 1 := by have := T6.bb; have := T6.wm; omega
          have ne3 : bA ≠ w.heap.size := by omega
          have ne4 : bA ≠ w.heap.size + 1 := by omega
          go_region
          all_goals
            go_wp2
            refine bodyPost_ret (v := .tuple #[.agg #[.slice b1 m1 k1, .slice b2 m2 k2, .slice b3 m3 k3], .agg #[.slice a1 s.H.length c1, .slice a2 s.P.length c2, .slice (some ⟨gb, 0, none⟩) s.G.length c3]]) (by simp only [results, Tryz.results20]; go_simp) rfl ?_
            first | (with_reducible exact T6.end.drewN) | (with_reducible exact T6.end) | (with_reducible exact (T6.bl (bl_drew (bl_refl _))).end)
        · have hz2 : ¬ (0 : Int) < (s.G.length : Int) := by omega
          obtain ⟨cR1, fR1, zR1⟩ := T5.R1.out
          obtain ⟨cR2, fR2, zR2⟩ := T5.R2.out
          obtain ⟨cA, fA, zA⟩ := T5.XA.out
          obtain ⟨cB, fB, zB⟩ := T5.XB.out
          go_wp2_with fail
          have ne1 : q ≠ w.heap.size := by have := T5.bb; have := T5.wm; omega
          have ne2 : q ≠ w.heap.size + 1 := by have := T5.bb; have := T5.wm; omega
          have ne3 : bA ≠ w.heap.size := by omega
          have ne4 : bA ≠ w.heap.size + 1 := by omega
          go_region
          all_goals
            go_wp2
            refine bodyPost_ret (v := .tuple #[.agg #[.slice b1 m1 k1, .slice b2 m2 k2, .slice b3 m3 k3], .agg #[.slice a1 s.H.length c1, .slice a2 s.P.length c2, .slice a3 s.G.length c3]]) (by simp only [results, Tryz.results20]; go_simp) rfl ?_
            first | (with_reducible exact T5.end.drewN) | (with_reducible exact T5.end) | (with_reducible exact (T5.bl (bl_drew (bl_refl _))).end)
      · have e1 : (r == 1) = false := by simp [hc1]
        clear hc1
        by_cases hc2 : r = 2
        · subst hc2
          by_cases hz : 0 < s.P.length
          · have hz2 : (0 : Int) < (s.P.length : Int) := by omega
            obtain ⟨gb, e3, hgb⟩ := OB5.2.1.addr hz
            subst e3
            obtain ⟨y, hy, cH, fH, _⟩ := OB5.2.1.cellAt hz
            obtain ⟨z, hwz⟩ : ∃ z, IntKind.i64.wrap (y + 1) = z := ⟨_, rfl⟩
            have T6 := T5.stP OB5 HQB.out z (by rw [← hwz]; unfold R64; rw [IntKind.wrap_i64]; omega)
            clear hy
            obtain ⟨cR1, fR1, zR1⟩ := T5.R1.out
            obtain ⟨cR2, fR2, zR2⟩ := T5.R2.out
            obtain ⟨cA, fA, zA⟩ := T5.XA.out
            obtain ⟨cB, fB, zB⟩ := T5.XB.out
            obtain ⟨dR1, gR1, yR1⟩ := T6.R1.out
            obtain ⟨dR2, gR2, yR2⟩ := T6.R2.out
            obtain ⟨dA, gA, yA⟩ := T6.XA.out
            obtain ⟨dB, gB, yB⟩ := T6.XB.out
            go_wp2_with fail
            have ne1 : q ≠ w.heap.size := by have := T6.bb; have := T6.wm; omega
            have ne2 : q ≠ w.heap.size + 1 := by have := T6.bb; have := T6.wm; omega
            have ne3 : bA ≠ w.heap.size := by omega
            have ne4 : bA ≠ w.heap.size + 1 := by omega
            go_region
            all_goals
              go_wp2
              refine bodyPost_ret (v := .tuple #[.agg #[.slice b1 m1 k1, .slice b2 m2 k2, .slice b3 m3 k3], .agg #[.slice a1 s.H.length c1, .slice (some ⟨gb, 0, none⟩) s.P.length c2, .slice a3 s.G.length c3]]) (by simp only [results, Tryz.results20]; go_simp) rfl ?_
              first | (with_reducible exact T6.end.drewN) | (with_reducible exact T6.end) | (with_reducible exact (T6.bl (bl_drew (bl_refl _))).end)
          · have hz2 : ¬ (0 : Int) < (s.P.length : Int) := by omega
            obtain ⟨cR1, fR1, zR1⟩ := T5.R1.out
            obtain ⟨cR2, fR2, zR2⟩ := T5.R2.out
            obtain ⟨cA, fA, zA⟩ := T5.XA.out
            obtain ⟨cB, fB, zB⟩ := T5.XB.out
            go_wp2_with fail
            have ne1 : q ≠ w.heap.size := by have := T5.bb; have := T5.wm; omega
            have ne2 : q ≠ w.heap.size + 1 := by have := T5.bb; have := T5.wm; omega
            have ne3 : bA ≠ w.heap.size := by omega
            have ne4 : bA ≠ w.heap.size + 1 := by omega
            go_region
            all_goals
              go_wp2
              refine bodyPost_ret (v := .tuple #[.agg #[.slice b1 m1 k1, .slice b2 m2 k2, .slice b3 m3 k3], .agg #[.slice a1 s.H.length c1, .slice a2 s.P.length c2, .slice a3 s.G.length c3]]) (by simp only [results, Tryz.results20]; go_simp) rfl ?_
              first | (with_reducible exact T5.end.drewN) | (with_reducible exact T5.end) | (with_reducible exact (T5.bl (bl_drew (bl_refl _))).end)
        · have e2 : (r == 2) = false := by simp [hc2]
          clear hc2
          obtain ⟨cR1, fR1, zR1⟩ := T5.R1.out
          obtain ⟨cR2, fR2, zR2⟩ := T5.R2.out
          obtain ⟨cA, fA, zA⟩ := T5.XA.out
          obtain ⟨cB, fB, zB⟩ := T5.XB.out
          go_wp2_with fail
          have ne1 : q ≠ w.heap.size := by have := T5.bb; have := T5.wm; omega
          have ne2 : q ≠ w.heap.size + 1 := by have := T5.bb; have := T5.wm; omega
          have ne3 : bA ≠ w.heap.size := by omega
          have ne4 : bA ≠ w.heap.size + 1 := by omega
          go_region
          all_goals
            go_wp2
            refine bodyPost_ret (v := .tuple #[.agg #[.slice b1 m1 k1, .slice b2 m2 k2, .slice b3 m3 k3], .agg #[.slice a1 s.H.length c1, .slice a2 s.P.length c2, .slice a3 s.G.length c3]]) (by simp only [results, Tryz.results20]; go_simp) rfl ?_
            first | (with_reducible exact T5.end.drewN) | (with_reducible exact T5.end) | (with_reducible exact (T5.bl (bl_drew (bl_refl _))).end)

end Go.Proofs.YtndblondleclpaaGreatDoor
