/- The laws' own helpers on sources (structs of three slices): equal, copy, sizes, marks, held. -/
import Derived.Test.YtndblondleclpaaGreatDoorLawI
import Derived.Test.YtndblondleclpaaGreatDoorOnly
import Derived.Test.YtndblondleclpaaGreatDoorLawF
namespace Go.Proofs.YtndblondleclpaaGreatDoor
open Go.RowKit
set_option linter.unusedVariables false
set_option linter.unusedSimpArgs false

/-- A source as data. -/
structure Src where
  H : List Int
  P : List Int
  G : List Int
deriving DecidableEq

def SlS (w : World) (h p g : Value) (s : Src) : Prop := Sl w h s.H ∧ Sl w p s.P ∧ Sl w g s.G
theorem SlS.below {w w' : World} {h p g : Value} {s : Src} (x : SlS w h p g s) (hb : Below w.heap.size w w') : SlS w' h p g s := ⟨x.1.below hb, x.2.1.below hb, x.2.2.below hb⟩
theorem SlS.alloc {w : World} {h p g : Value} {s : Src} (x : SlS w h p g s) (o : Obj) : SlS (w.alloc o) h p g s := ⟨x.1.alloc o, x.2.1.alloc o, x.2.2.alloc o⟩
theorem SlS.drew {w : World} {h p g : Value} {s : Src} (x : SlS w h p g s) : SlS w.drew h p g s := x

theorem src_eq {s t : Src} : s = t ↔ s.H = t.H ∧ s.P = t.P ∧ s.G = t.G := by
  cases s; cases t; simp

/-- What is left of n behind a source, or -1. -/
def szS (n : Int) (s : Src) : Int := if n < s.H.length then -1 else if n - s.H.length < s.P.length then -1 else if n - s.H.length - s.P.length < s.G.length then -1 else n - s.H.length - s.P.length - s.G.length

/-- Two slices lie in different blocks. -/
def Apart (a b : Value) : Prop := ∀ k, a.ownBlock = some k → b.ownBlock ≠ some k
theorem Apart.symm {a b : Value} (h : Apart a b) : Apart b a := fun k hb ha => h k ha hb

def OwnS (w : World) (B : Nat) (h p g : Value) (s : Src) : Prop :=
  Own w B h s.H ∧ Own w B p s.P ∧ Own w B g s.G ∧ Apart h p ∧ Apart h g ∧ Apart p g
theorem OwnS.sl {w : World} {B : Nat} {h p g : Value} {s : Src} (x : OwnS w B h p g s) : SlS w h p g s := ⟨x.1.sl, x.2.1.sl, x.2.2.1.sl⟩
theorem Own.shape {w : World} {B : Nat} {v : Value} {xs : List Int} (h : Own w B v xs) : ∃ a n c, v = .slice a n c := by
  rcases h.1.2 with ⟨rfl, _⟩ | ⟨g, cap, cur, rfl, _⟩
  · exact ⟨_, _, _, rfl⟩
  · exact ⟨_, _, _, rfl⟩
theorem OwnS.shape {w : World} {B : Nat} {h p g : Value} {s : Src} (x : OwnS w B h p g s) : (∃ a n c, h = .slice a n c) ∧ (∃ a n c, p = .slice a n c) ∧ (∃ a n c, g = .slice a n c) := ⟨x.1.shape, x.2.1.shape, x.2.2.1.shape⟩
theorem OwnS.alloc {w : World} {B : Nat} {h p g : Value} {s : Src} (x : OwnS w B h p g s) (o : Obj) : OwnS (w.alloc o) B h p g s := ⟨x.1.alloc o, x.2.1.alloc o, x.2.2.1.alloc o, x.2.2.2⟩
theorem OwnS.mono {w : World} {B B' : Nat} {h p g : Value} {s : Src} (x : OwnS w B h p g s) (hB : B' ≤ B) : OwnS w B' h p g s := ⟨x.1.mono hB, x.2.1.mono hB, x.2.2.1.mono hB, x.2.2.2⟩
theorem OwnS.below {w w' : World} {B : Nat} {h p g : Value} {s : Src} (x : OwnS w B h p g s) (hb : Below w.heap.size w w') : OwnS w' B h p g s := ⟨x.1.below hb, x.2.1.below hb, x.2.2.1.below hb, x.2.2.2⟩
theorem Own.setCell {w : World} {B : Nat} {v : Value} {xs : List Int} (h : Own w B v xs) {a : Addr} (ha : a.block < B) (u : Value) : Own (w.setCell a u) B v xs := ⟨ownsRow_setCell_below h.1 ha u, h.2⟩

theorem blk_ne {w w' : World} {B B' : Nat} {v v' : Value} {xs ys : List Int} (h : Own w B v xs) (h' : Own w' B' v' ys) (hB : w.heap.size ≤ B') : Apart v v' := by
  intro k e q
  have h1 := (h.lt k e).2
  have h2 := (h'.lt k q).1
  omega

/-- The blocks of a source. -/
def blks (h p g : Value) (k : Nat) : Prop := h.ownBlock = some k ∨ p.ownBlock = some k ∨ g.ownBlock = some k
theorem OwnS.only {w w' : World} {B : Nat} {h p g : Value} {s : Src} {S : Nat → Prop} (x : OwnS w B h p g s) (ho : Only w w' S) (hn : ∀ k, k < w.heap.size → B ≤ k → ¬ S k) : OwnS w' B h p g s :=
  ⟨x.1.only ho fun k hk => hn k (x.1.lt k hk).2 (x.1.lt k hk).1, x.2.1.only ho fun k hk => hn k (x.2.1.lt k hk).2 (x.2.1.lt k hk).1, x.2.2.1.only ho fun k hk => hn k (x.2.2.1.lt k hk).2 (x.2.2.1.lt k hk).1, x.2.2.2⟩
theorem OwnS.drew {w : World} {B : Nat} {h p g : Value} {s : Src} (x : OwnS w B h p g s) : OwnS w.drew B h p g s := ⟨x.1.drew, x.2.1.drew, x.2.2.1.drew, x.2.2.2⟩
theorem OwnS.blk {w : World} {B : Nat} {h p g : Value} {s : Src} (x : OwnS w B h p g s) : ∀ k, blks h p g k → B ≤ k ∧ k < w.heap.size := by
  rintro k (e | e | e)
  · exact x.1.lt k e
  · exact x.2.1.lt k e
  · exact x.2.2.1.lt k e

theorem szS_nonneg (n : Int) (s : Src) (h : 0 ≤ szS n s) : s.H.length ≤ n ∧ s.P.length ≤ n ∧ s.G.length ≤ n ∧ szS n s ≤ n ∧ s.H.length + s.P.length + s.G.length ≤ n - szS n s := by
  unfold szS at *
  split at h
  · omega
  · split at h
    · omega
    · split at h
      · omega
      · rename_i h1 h2 h3
        rw [if_neg h1, if_neg h2, if_neg h3]
        omega


theorem OwnS.only2 {w w' : World} {B : Nat} {h p g : Value} {s : Src} {S : Nat → Prop} (x : OwnS w B h p g s) (ho : Only w w' S) (hn : ∀ k, blks h p g k → ¬ S k) : OwnS w' B h p g s :=
  ⟨x.1.only ho fun k hk => hn k (.inl hk), x.2.1.only ho fun k hk => hn k (.inr (.inl hk)), x.2.2.1.only ho fun k hk => hn k (.inr (.inr hk)), x.2.2.2⟩
end Go.Proofs.YtndblondleclpaaGreatDoor
