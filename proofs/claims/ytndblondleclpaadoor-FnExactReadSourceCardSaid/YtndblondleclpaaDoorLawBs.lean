/- The laws' own helpers on sources (structs of three slices): equal, copy, sizes, marks, held. -/
import Derived.Test.YtndblondleclpaaDoorLawI
import Derived.Test.YtndblondleclpaaDoorOnly
import Derived.Test.YtndblondleclpaaDoorLawF
namespace Go.Proofs.YtndblondleclpaaDoor
open Go.RowKit
set_option linter.unusedVariables false
set_option linter.unusedSimpArgs false

/-- A source as data. -/
structure Src where
  H : List Int
  P : List Int
  G : List Int
deriving DecidableEq

def SlS (w : World) (h p g : Value) (s : Src) : Prop := Sl w h s.H ∧ Sl w p s.P ∧ Sl w g s.G
theorem SlS.below {w w' : World} {h p g : Value} {s : Src} (x : SlS w h p g s) (hb : Below w.heap.size w w') : SlS w' h p g s := ⟨x.1.below hb, x.2.1.below hb, x.2.2.below hb⟩
theorem SlS.alloc {w : World} {h p g : Value} {s : Src} (x : SlS w h p g s) (o : Obj) : SlS (w.alloc o) h p g s := ⟨x.1.alloc o, x.2.1.alloc o, x.2.2.alloc o⟩
theorem SlS.drew {w : World} {h p g : Value} {s : Src} (x : SlS w h p g s) : SlS w.drew h p g s := x

theorem src_eq {s t : Src} : s = t ↔ s.H = t.H ∧ s.P = t.P ∧ s.G = t.G := by
  cases s; cases t; simp

set_option maxHeartbeats 400000 in
theorem eqS_any (h p g h' p' g' : Value) (s t : Src) (w : World) (ha : SlS w h p g s) (hb : SlS w h' p' g' t) :
    Calls Tryd.prog 15 #[.agg #[h, p, g], .agg #[h', p', g']] w fun e w' => e = .returned (.bool (decide (s = t))) ∧ Below w.heap.size w w' := by
  obtain ⟨a1, a2, a3⟩ := ha
  obtain ⟨b1, b2, b3⟩ := hb
  have HE := Lib.hid (@src_eq s t)
  go_enter Tryd.func15, Tryd.ntmps15
  go_wp2_with fail
  refine (eqI_any _ _ _ _ _ ((a1.alloc _).alloc _) ((b1.alloc _).alloc _)).mono ?_
  rintro e w1 ⟨rfl, hb1⟩
  have hB1 := ((Below.refl w.heap.size w).alloc (Nat.le_refl _) (.cells #[h, p, g] 31)).alloc (by simp) (.cells #[h', p', g'] 31)
  have k1 := bcell hb1
  by_cases e1 : s.H = t.H
  case neg =>
    have d1 : decide (s.H = t.H) = false := decide_eq_false e1
    go_wp2
    go_ret
    exact ⟨ret_bool (decide_eq_false (fun q => e1 (HE.out.1 q).1)).symm, hB1.trans (hb1.mono (by simp; omega))⟩
  have d1 : decide (s.H = t.H) = true := decide_eq_true e1
  have E1 := Lib.hid e1
  clear e1
  obtain ⟨k1, k2⟩ := k1
  go_wp2_with fail
  refine (eqI_any _ _ _ _ _ (((a2.alloc _).alloc _).below hb1) (((b2.alloc _).alloc _).below hb1)).mono ?_
  rintro e w2 ⟨rfl, hb2⟩
  have z2 : w.heap.size + 1 < w1.heap.size := by have := hb1.size; simp at this; omega
  have z2' : w.heap.size < w1.heap.size := by omega
  have k3 := bcell hb2
  by_cases e2 : s.P = t.P
  case neg =>
    have d2 : decide (s.P = t.P) = false := decide_eq_false e2
    go_wp2
    go_ret
    exact ⟨ret_bool (decide_eq_false (fun q => e2 (HE.out.1 q).2.1)).symm, (hB1.trans (hb1.mono (by simp; omega))).trans (hb2.mono (by omega))⟩
  have d2 : decide (s.P = t.P) = true := decide_eq_true e2
  have E2 := Lib.hid e2
  clear e2
  obtain ⟨k3, k4⟩ := k3
  go_wp2_with fail
  refine (eqI_any _ _ _ _ _ ((((a3.alloc _).alloc _).below hb1).below hb2) ((((b3.alloc _).alloc _).below hb1).below hb2)).mono ?_
  rintro e w3 ⟨rfl, hb3⟩
  have z3 : w.heap.size + 1 < w2.heap.size := by have := hb2.size; omega
  by_cases e3 : s.G = t.G
  case neg =>
    have d3 : decide (s.G = t.G) = false := decide_eq_false e3
    go_wp2
    go_ret
    exact ⟨ret_bool (decide_eq_false (fun q => e3 (HE.out.1 q).2.2)).symm, ((hB1.trans (hb1.mono (by simp; omega))).trans (hb2.mono (by omega))).trans (hb3.mono (by omega))⟩
  have d3 : decide (s.G = t.G) = true := decide_eq_true e3
  have E3 := Lib.hid e3
  clear e3
  go_wp2
  go_ret
  exact ⟨ret_bool (decide_eq_true (HE.out.2 ⟨E1.out, E2.out, E3.out⟩)).symm, ((hB1.trans (hb1.mono (by simp; omega))).trans (hb2.mono (by omega))).trans (hb3.mono (by omega))⟩


/-- What is left of n behind a source, or -1. -/
def szS (n : Int) (s : Src) : Int := if n < s.H.length then -1 else if n - s.H.length < s.P.length then -1 else if n - s.H.length - s.P.length < s.G.length then -1 else n - s.H.length - s.P.length - s.G.length

set_option maxHeartbeats 400000 in
theorem szS_any (h p g : Value) (s : Src) (n : Int) (w : World) (ha : SlS w h p g s) (h0 : 0 ≤ n) (h1 : n ≤ 4611686018427387904) :
    Calls Tryd.prog 11 #[.agg #[h, p, g], .int .i64 n] w fun e w' => e = .returned (.int .i64 (szS n s)) ∧ Below w.heap.size w w' := by
  obtain ⟨a1, a2, a3⟩ := ha
  go_enter Tryd.func11, Tryd.ntmps11
  go_wp2_with fail
  refine (szI_any _ _ _ _ (a1.alloc _) h0 (by omega)).mono ?_
  rintro e w1 ⟨rfl, hb1⟩
  have hB1 := ((Below.refl w.heap.size w).alloc (Nat.le_refl _) (.cells #[h, p, g] 28))
  obtain ⟨k1, k2⟩ := bcell hb1
  by_cases e1 : n < s.H.length
  case pos =>
    simp only [if_pos e1]
    go_wp2
    go_ret
    exact ⟨ret_int (by rw [szS, if_pos e1]), hB1.trans (hb1.mono (by simp))⟩
  simp only [if_neg e1]
  go_wp2_with fail
  refine (szI_any _ _ _ _ ((a2.alloc _).below hb1) (by omega) (by omega)).mono ?_
  rintro e w2 ⟨rfl, hb2⟩
  have z2 : w.heap.size < w1.heap.size := by have := hb1.size; simp at this; omega
  obtain ⟨k3, k4⟩ := bcell hb2
  by_cases e2 : n - s.H.length < s.P.length
  case pos =>
    simp only [if_pos e2]
    go_wp2
    go_ret
    exact ⟨ret_int (by rw [szS, if_neg (by omega), if_pos e2]), (hB1.trans (hb1.mono (by simp))).trans (hb2.mono (by omega))⟩
  simp only [if_neg e2]
  go_wp2_with fail
  refine (szI_any _ _ _ _ (((a3.alloc _).below hb1).below hb2) (by omega) (by omega)).mono ?_
  rintro e w3 ⟨rfl, hb3⟩
  have z3 : w.heap.size < w2.heap.size := by have := hb2.size; omega
  by_cases e3 : n - s.H.length - s.P.length < s.G.length
  case pos =>
    simp only [if_pos e3]
    go_wp2
    go_ret
    exact ⟨ret_int (by rw [szS, if_neg (by omega), if_neg (by omega), if_pos e3]), ((hB1.trans (hb1.mono (by simp))).trans (hb2.mono (by omega))).trans (hb3.mono (by omega))⟩
  simp only [if_neg e3]
  go_wp2
  go_ret
  exact ⟨ret_int (by rw [szS, if_neg (by omega), if_neg (by omega), if_neg (by omega)]), ((hB1.trans (hb1.mono (by simp))).trans (hb2.mono (by omega))).trans (hb3.mono (by omega))⟩


/-- Two slices lie in different blocks. -/
def Apart (a b : Value) : Prop := ∀ k, a.ownBlock = some k → b.ownBlock ≠ some k
theorem Apart.symm {a b : Value} (h : Apart a b) : Apart b a := fun k hb ha => h k ha hb

def OwnS (w : World) (B : Nat) (h p g : Value) (s : Src) : Prop :=
  Own w B h s.H ∧ Own w B p s.P ∧ Own w B g s.G ∧ Apart h p ∧ Apart h g ∧ Apart p g
theorem OwnS.sl {w : World} {B : Nat} {h p g : Value} {s : Src} (x : OwnS w B h p g s) : SlS w h p g s := ⟨x.1.sl, x.2.1.sl, x.2.2.1.sl⟩
theorem Own.shape {w : World} {B : Nat} {v : Value} {xs : List Int} (h : Own w B v xs) : ∃ a n c, v = .slice a n c := by
  rcases h.1.2 with ⟨rfl, _⟩ | ⟨g, cap, cur, rfl, _⟩
  · exact ⟨_, _, _, rfl⟩
  · exact ⟨_, _, _, rfl⟩
theorem OwnS.shape {w : World} {B : Nat} {h p g : Value} {s : Src} (x : OwnS w B h p g s) : (∃ a n c, h = .slice a n c) ∧ (∃ a n c, p = .slice a n c) ∧ (∃ a n c, g = .slice a n c) := ⟨x.1.shape, x.2.1.shape, x.2.2.1.shape⟩
theorem OwnS.alloc {w : World} {B : Nat} {h p g : Value} {s : Src} (x : OwnS w B h p g s) (o : Obj) : OwnS (w.alloc o) B h p g s := ⟨x.1.alloc o, x.2.1.alloc o, x.2.2.1.alloc o, x.2.2.2⟩
theorem OwnS.mono {w : World} {B B' : Nat} {h p g : Value} {s : Src} (x : OwnS w B h p g s) (hB : B' ≤ B) : OwnS w B' h p g s := ⟨x.1.mono hB, x.2.1.mono hB, x.2.2.1.mono hB, x.2.2.2⟩
theorem OwnS.below {w w' : World} {B : Nat} {h p g : Value} {s : Src} (x : OwnS w B h p g s) (hb : Below w.heap.size w w') : OwnS w' B h p g s := ⟨x.1.below hb, x.2.1.below hb, x.2.2.1.below hb, x.2.2.2⟩
theorem Own.setCell {w : World} {B : Nat} {v : Value} {xs : List Int} (h : Own w B v xs) {a : Addr} (ha : a.block < B) (u : Value) : Own (w.setCell a u) B v xs := ⟨ownsRow_setCell_below h.1 ha u, h.2⟩

theorem blk_ne {w w' : World} {B B' : Nat} {v v' : Value} {xs ys : List Int} (h : Own w B v xs) (h' : Own w' B' v' ys) (hB : w.heap.size ≤ B') : Apart v v' := by
  intro k e q
  have h1 := (h.lt k e).2
  have h2 := (h'.lt k q).1
  omega

set_option maxHeartbeats 400000 in
theorem toS_any (h p g : Value) (s : Src) (w : World) (ha : SlS w h p g s) (h0 : s.H.length ≤ 1048576 ∧ s.P.length ≤ 1048576 ∧ s.G.length ≤ 1048576) :
    Calls Tryd.prog 13 #[.agg #[h, p, g]] w fun e w' => ∃ h' p' g', e = .returned (.agg #[h', p', g']) ∧ OwnS w' w.heap.size h' p' g' s ∧ Below w.heap.size w w' := by
  obtain ⟨a1, a2, a3⟩ := ha
  obtain ⟨n1, n2, n3⟩ := h0
  have hB0 := (((Below.refl w.heap.size w).alloc (Nat.le_refl _) (.cells #[h, p, g] 28)).alloc (by simp) (.cells #[.slice none 0 0, .slice none 0 0, .slice none 0 0] 31)).alloc (by simp; omega) (.cells #[.slice none 0 0, .slice none 0 0, .slice none 0 0] 31)
  go_enter Tryd.func13, Tryd.ntmps13
  go_wp2_with fail
  refine (toI_any _ _ _ (a1.below hB0) (by omega)).mono ?_
  rintro e w1 ⟨p1, q1, r1, rfl, o1, hb1⟩
  obtain ⟨k1, k2⟩ := bcell hb1
  have hB1 := hB0.trans (hb1.mono (by simp; omega))
  have z1 : w.heap.size + 1 + 1 < w1.heap.size := by have := hb1.size; simp at this; omega
  have z1' : w.heap.size + 1 < w1.heap.size := by omega
  have z1'' : w.heap.size < w1.heap.size := by omega
  have hB1' := hB1.setCell (p := ⟨w.heap.size + 2, 0, none⟩) (by simp) (.slice p1 q1 r1)
  simp only [World.size_alloc] at o1
  have o1' := o1.setCell (a := ⟨w.heap.size + 2, 0, none⟩) (by simp) (.slice p1 q1 r1)
  go_wp2_with fail
  refine (toI_any _ _ _ (a2.below hB1') (by omega)).mono ?_
  rintro e w2 ⟨p2, q2, r2, rfl, o2, hb2⟩
  obtain ⟨k3, k4⟩ := bcell hb2
  have hs1 : (w1.setCell ⟨w.heap.size + 2, 0, none⟩ (.slice p1 q1 r1)).heap.size = w1.heap.size := by simp [World.setCell]
  have hB2 := hB1'.trans (hb2.mono (by omega))
  have z2 : w.heap.size + 1 + 1 < w2.heap.size := by have := hb2.size; omega
  have z2' : w.heap.size + 1 < w2.heap.size := by omega
  have z2'' : w.heap.size < w2.heap.size := by omega
  rw [hs1] at o2 k3 k4
  clear hs1
  have hB2' := hB2.setCell (p := ⟨w.heap.size + 2, 1, none⟩) (by simp) (.slice p2 q2 r2)
  have o2' := o2.setCell (a := ⟨w.heap.size + 2, 1, none⟩) (by simp; omega) (.slice p2 q2 r2)
  have o12 := (o1'.below hb2).setCell (a := ⟨w.heap.size + 2, 1, none⟩) (by simp) (.slice p2 q2 r2)
  go_wp2_with fail
  refine (toI_any _ _ _ (a3.below hB2') (by omega)).mono ?_
  rintro e w3 ⟨p3, q3, r3, rfl, o3, hb3⟩
  obtain ⟨k5, k6⟩ := bcell hb3
  have hs2 : (w2.setCell ⟨w.heap.size + 2, 1, none⟩ (.slice p2 q2 r2)).heap.size = w2.heap.size := by simp [World.setCell]
  have hB3 := hB2'.trans (hb3.mono (by omega))
  have z3 : w.heap.size + 1 + 1 < w3.heap.size := by have := hb3.size; omega
  have z3' : w.heap.size + 1 < w3.heap.size := by omega
  have z3'' : w.heap.size < w3.heap.size := by omega
  have o123 := o12.below hb3
  have o23 := o2'.below hb3
  rw [hs2] at o3 k5 k6
  clear hs2 hB0 hB1 hB1' hB2 hB2'
  go_wp2
  refine bodyPost_ret (v := .agg #[.slice p1 q1 r1, .slice p2 q2 r2, .slice p3 q3 r3]) (by simp only [results, Tryd.results13]; go_simp) rfl ⟨_, _, _, rfl, ⟨?_, ?_, ?_, ?_, ?_, ?_⟩, ?_⟩
  · exact ((((o123.setCell (by simp) _).setCell (by simp) _).setCell (by simp) _).setCell (by simp) _).mono (by omega)
  · exact ((((o23.setCell (by simp; omega) _).setCell (by simp; omega) _).setCell (by simp; omega) _).setCell (by simp; omega) _).mono (by omega)
  · exact ((((o3.setCell (by simp; omega) _).setCell (by simp; omega) _).setCell (by simp; omega) _).setCell (by simp; omega) _).mono (by omega)
  · exact blk_ne o1 o2 (Nat.le_refl _)
  · exact blk_ne o12 o3 (by simp)
  · exact blk_ne o2' o3 (by simp)
  · exact (((hB3.setCell (by simp; omega) _).setCell (by simp) _).setCell (by simp) _).setCell (by simp) _

/-- The blocks of a source. -/
def blks (h p g : Value) (k : Nat) : Prop := h.ownBlock = some k ∨ p.ownBlock = some k ∨ g.ownBlock = some k
set_option maxHeartbeats 400000 in
theorem markS_any (h p g : Value) (s : Src) (k : Int) (B : Nat) (w : World) (ha : OwnS w B h p g s) (h0 : 0 ≤ k) (h1 : k + s.H.length + s.P.length + s.G.length ≤ 4611686018427387904) :
    Calls Tryd.prog 22 #[.agg #[h, p, g], .int .i64 k] w fun e w' => e = .returned (.int .i64 (k + s.H.length + s.P.length + s.G.length)) ∧
      OwnS w' B h p g ⟨marks k s.H.length, marks (k + s.H.length) s.P.length, marks (k + s.H.length + s.P.length) s.G.length⟩ ∧ Only w w' (blks h p g) := by
  obtain ⟨a1, a2, a3, n12, n13, n23⟩ := ha
  have hO0 : Only w (w.alloc (.cells #[h, p, g] 31)) (blks h p g) := Only.of_below ((Below.refl _ _).alloc (Nat.le_refl _) _) _
  have b1 : ∀ j, h.ownBlock = some j → j < w.heap.size := fun j hj => (a1.lt j hj).2
  have b2 : ∀ j, p.ownBlock = some j → j < w.heap.size := fun j hj => (a2.lt j hj).2
  have b3 : ∀ j, g.ownBlock = some j → j < w.heap.size := fun j hj => (a3.lt j hj).2
  have hnb : ¬ blks h p g w.heap.size := by
    rintro (e | e | e)
    · have := b1 _ e; omega
    · have := b2 _ e; omega
    · have := b3 _ e; omega
  have hbl : ∀ j, blks h p g j → j < w.heap.size := by
    rintro j (e | e | e)
    · exact b1 _ e
    · exact b2 _ e
    · exact b3 _ e
  have HBL := Lib.hid hbl
  clear b1 b2 b3 hbl
  go_enter Tryd.func22, Tryd.ntmps22
  go_wp2_with fail
  refine (markI_any _ _ _ B _ (a1.alloc _) h0 (by omega)).mono ?_
  rintro e w1 ⟨rfl, o1, g1⟩
  have P1 := Only.of_grown (S := fun k => h.ownBlock = some k) g1 (fun _ e => e)
  have O1 := Only.of_grown (S := blks h p g) g1 (fun _ e => .inl e)
  have z1 : w.heap.size < w1.heap.size := by have := O1.size; simp at this; omega
  have c1 := cell_only O1 (b := w.heap.size) (by simp) hnb
  have p1 := (a2.alloc (.cells #[h, p, g] 31)).only P1 (fun k hk hk' => n12 k hk' hk)
  have q1 := (a3.alloc (.cells #[h, p, g] 31)).only P1 (fun k hk hk' => n13 k hk' hk)
  clear g1
  go_wp2_with fail
  refine (markI_any _ _ _ B _ p1 (by omega) (by omega)).mono ?_
  rintro e w2 ⟨rfl, o2, g2⟩
  have P2 := Only.of_grown (S := fun k => p.ownBlock = some k) g2 (fun _ e => e)
  have O2 := Only.of_grown (S := blks h p g) g2 (fun _ e => .inr (.inl e))
  have z2 : w.heap.size < w2.heap.size := by have := O2.size; omega
  have c2 := cell_only O2 (b := w.heap.size) z1 hnb
  have o1' := o1.only P2 (fun k hk hk' => n12 k hk hk')
  have q2 := q1.only P2 (fun k hk hk' => n23 k hk' hk)
  clear g2
  go_wp2_with fail
  refine (markI_any _ _ _ B _ q2 (by omega) (by omega)).mono ?_
  rintro e w3 ⟨rfl, o3, g3⟩
  have P3 := Only.of_grown (S := fun k => g.ownBlock = some k) g3 (fun _ e => e)
  have O3 := Only.of_grown (S := blks h p g) g3 (fun _ e => .inr (.inr e))
  have o1'' := o1'.only P3 (fun k hk hk' => n13 k hk hk')
  have o2' := o2.only P3 (fun k hk hk' => n23 k hk hk')
  clear g3
  go_wp2
  go_ret
  exact ⟨rfl, ⟨o1'', o2', o3, n12, n13, n23⟩, ((hO0.trans O1).trans O2).trans O3⟩

set_option maxHeartbeats 400000 in
theorem heldS_yes (h p g : Value) (a b c : Nat) (k : Int) (w : World) (ha : SlS w h p g ⟨marks k a, marks (k + a) b, marks (k + a + b) c⟩) (h0 : 0 ≤ k) (h1 : k + a + b + c ≤ 4611686018427387904) :
    Calls Tryd.prog 23 #[.agg #[h, p, g], .int .i64 k] w fun e w' => e = .returned (.int .i64 (k + a + b + c)) ∧ Below w.heap.size w w' := by
  obtain ⟨a1, a2, a3⟩ := ha
  have hB0 := ((Below.refl w.heap.size w).alloc (Nat.le_refl _) (.cells #[h, p, g] 31))
  go_enter Tryd.func23, Tryd.ntmps23
  go_wp2_with fail
  refine (heldI_yes _ a _ _ (a1.below hB0) h0 (by omega)).mono ?_
  rintro e w1 ⟨rfl, hb1⟩
  obtain ⟨k1, k2⟩ := bcell hb1
  have hB1 := hB0.trans (hb1.mono (by simp))
  have z1 : w.heap.size < w1.heap.size := by have := hb1.size; simp at this; omega
  go_wp2_with fail
  refine (heldI_yes _ b _ _ (a2.below hB1) (by omega) (by omega)).mono ?_
  rintro e w2 ⟨rfl, hb2⟩
  obtain ⟨k3, k4⟩ := bcell hb2
  have hB2 := hB1.trans (hb2.mono (by omega))
  have z2 : w.heap.size < w2.heap.size := by have := hb2.size; omega
  go_wp2_with fail
  refine (heldI_yes _ c _ _ (a3.below hB2) (by omega) (by omega)).mono ?_
  rintro e w3 ⟨rfl, hb3⟩
  have hB3 := hB2.trans (hb3.mono (by omega))
  go_wp2
  go_ret
  exact ⟨rfl, hB3⟩

theorem OwnS.only {w w' : World} {B : Nat} {h p g : Value} {s : Src} {S : Nat → Prop} (x : OwnS w B h p g s) (ho : Only w w' S) (hn : ∀ k, k < w.heap.size → B ≤ k → ¬ S k) : OwnS w' B h p g s :=
  ⟨x.1.only ho fun k hk => hn k (x.1.lt k hk).2 (x.1.lt k hk).1, x.2.1.only ho fun k hk => hn k (x.2.1.lt k hk).2 (x.2.1.lt k hk).1, x.2.2.1.only ho fun k hk => hn k (x.2.2.1.lt k hk).2 (x.2.2.1.lt k hk).1, x.2.2.2⟩
theorem OwnS.drew {w : World} {B : Nat} {h p g : Value} {s : Src} (x : OwnS w B h p g s) : OwnS w.drew B h p g s := ⟨x.1.drew, x.2.1.drew, x.2.2.1.drew, x.2.2.2⟩
theorem OwnS.blk {w : World} {B : Nat} {h p g : Value} {s : Src} (x : OwnS w B h p g s) : ∀ k, blks h p g k → B ≤ k ∧ k < w.heap.size := by
  rintro k (e | e | e)
  · exact x.1.lt k e
  · exact x.2.1.lt k e
  · exact x.2.2.1.lt k e

theorem szS_nonneg (n : Int) (s : Src) (h : 0 ≤ szS n s) : s.H.length ≤ n ∧ s.P.length ≤ n ∧ s.G.length ≤ n ∧ szS n s ≤ n ∧ s.H.length + s.P.length + s.G.length ≤ n - szS n s := by
  unfold szS at *
  split at h
  · omega
  · split at h
    · omega
    · split at h
      · omega
      · rename_i h1 h2 h3
        rw [if_neg h1, if_neg h2, if_neg h3]
        omega


theorem OwnS.only2 {w w' : World} {B : Nat} {h p g : Value} {s : Src} {S : Nat → Prop} (x : OwnS w B h p g s) (ho : Only w w' S) (hn : ∀ k, blks h p g k → ¬ S k) : OwnS w' B h p g s :=
  ⟨x.1.only ho fun k hk => hn k (.inl hk), x.2.1.only ho fun k hk => hn k (.inr (.inl hk)), x.2.2.1.only ho fun k hk => hn k (.inr (.inr hk)), x.2.2.2⟩
end Go.Proofs.YtndblondleclpaaDoor
