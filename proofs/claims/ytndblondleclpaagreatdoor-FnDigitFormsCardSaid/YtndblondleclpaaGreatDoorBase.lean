/- General words for all texts of this seat: what a slice of 64-bit integers reads as ('Sl'), what the call itself owns ('Own'), and how both are kept. No condition. -/
import Derived.Test.YtndblondleclpaaGreatDoorProg
import Derived.WalkKit
import Derived.WalkLawsBesides
import Derived.WalkSpells
import Derived.Lib.Hide
import Derived.Deep.QuietTactic
import Derived.BigQuiet
import Derived.Deep.RegionWith
import Derived.Deep.RegionHeld3
import Derived.Deep.DeepCutAuto
namespace Go.Proofs.YtndblondleclpaaGreatDoor
open Go.RowKit

def R64 (x : Int) : Prop := -9223372036854775808 ≤ x ∧ x ≤ 9223372036854775807

theorem ret_int {k : IntKind} {a b : Int} (h : a = b) : Ending.returned (.int k a) = .returned (.int k b) := by rw [h]
theorem ret_bool {a b : Bool} (h : a = b) : Ending.returned (.bool a) = .returned (.bool b) := by rw [h]
theorem ret_2int {k : IntKind} {a b c d : Int} (h : a = b) (h' : c = d) : Ending.returned (.tuple #[.int k a, .int k c]) = .returned (.tuple #[.int k b, .int k d]) := by rw [h, h']

theorem bcell {W w1 : World} (hb : Below W.heap.size W w1) : (∀ b o, b < W.heap.size → w1.cell? ⟨b, o, none⟩ = W.cell? ⟨b, o, none⟩) ∧ (∀ b o, b < W.heap.size → w1.frozen? ⟨b, o, none⟩ = W.frozen? ⟨b, o, none⟩) :=
  ⟨fun b o h => hb.cell (p := ⟨b, o, none⟩) h, fun b o h => hb.frozen (p := ⟨b, o, none⟩) h⟩

theorem cell_lt {w : World} {b o : Nat} {v : Value} (h : w.cell? ⟨b, o, none⟩ = some v) : b < w.heap.size := by
  rcases Nat.lt_or_ge b w.heap.size with hl | hl
  · exact hl
  · simp [World.cell?, Array.getElem?_eq_none hl] at h

/-- The slice value v reads, in the world w, as the numbers xs. -/
def Sl (w : World) (v : Value) (xs : List Int) : Prop :=
  ∃ a cap, v = .slice a xs.length cap ∧ xs.length ≤ cap ∧ cap ≤ maxLen ∧ (∀ x ∈ xs, R64 x) ∧ (a = none → cap = 0) ∧
    (xs = [] ∨ ∃ b off, a = some ⟨b, off, none⟩ ∧ ∀ i x, xs[i]? = some x → w.cell? ⟨b, off + i, none⟩ = some (.int .i64 x))

theorem Sl.grown {w w' : World} {v : Value} {xs : List Int} {row : Option Nat} (h : Sl w v xs) (hg : w.grownBy w' row) (hne : xs = [] ∨ v.ownBlock ≠ row) : Sl w' v xs := by
  obtain ⟨a, cap, rfl, h1, h2, h3, h4, h5⟩ := h
  refine ⟨a, cap, rfl, h1, h2, h3, h4, ?_⟩
  rcases h5 with h5 | ⟨b, off, rfl, hc⟩
  · exact .inl h5
  · rcases hne with hne | hne
    · exact .inl hne
    · refine .inr ⟨b, off, rfl, fun i x hx => ?_⟩
      have hb := cell_lt (hc i x hx)
      have := hg.block b hb (by simpa [Value.ownBlock] using hne)
      rw [← hc i x hx]
      exact World.cell?_of_block (w := w) this

theorem Sl.below {w w' : World} {v : Value} {xs : List Int} (h : Sl w v xs) (hb : Below w.heap.size w w') : Sl w' v xs := by
  obtain ⟨a, cap, rfl, h1, h2, h3, h4, h5⟩ := h
  refine ⟨a, cap, rfl, h1, h2, h3, h4, ?_⟩
  rcases h5 with h5 | ⟨b, off, rfl, hc⟩
  · exact .inl h5
  · exact .inr ⟨b, off, rfl, fun i x hx => (hb.cell (p := ⟨b, off + i, none⟩) (cell_lt (hc i x hx))).trans (hc i x hx)⟩

theorem Sl.alloc {w : World} {v : Value} {xs : List Int} (h : Sl w v xs) (o : Obj) : Sl (w.alloc o) v xs := h.below ((Below.refl _ _).alloc (Nat.le_refl _) o)
theorem Sl.drew {w : World} {v : Value} {xs : List Int} (h : Sl w v xs) : Sl w.drew v xs := h
theorem Sl.nil (w : World) : Sl w (.slice none 0 0) [] := ⟨none, 0, rfl, Nat.le_refl _, by simp [maxLen], by simp, fun _ => rfl, .inl rfl⟩
theorem Sl.len {w : World} {v : Value} {xs : List Int} (h : Sl w v xs) : xs.length ≤ 9223372036854775807 := by
  obtain ⟨a, cap, rfl, h1, h2, _⟩ := h; unfold maxLen at h2; omega
theorem Sl.rng {w : World} {v : Value} {xs : List Int} (h : Sl w v xs) : ∀ x ∈ xs, R64 x := by
  obtain ⟨a, cap, rfl, h1, h2, h3, _⟩ := h; exact h3

/-- What the call owns, from block B on: the slice value v, whose numbers are xs. -/
def Own (w : World) (B : Nat) (v : Value) (xs : List Int) : Prop :=
  w.ownsRow B 2 1 v xs.length (xs.map (Value.int .i64)) ∧ ∀ x ∈ xs, R64 x

theorem Own.nil (w : World) (B : Nat) : Own w B (.slice none 0 0) [] := ⟨World.ownsRow_nil _ _ _ _, by simp⟩
theorem Own.mono {w : World} {B B' : Nat} {v : Value} {xs : List Int} (h : Own w B v xs) (hB : B' ≤ B) : Own w B' v xs := by
  obtain ⟨⟨h1, h2⟩, h3⟩ := h
  refine ⟨⟨h1, ?_⟩, h3⟩
  rcases h2 with h2 | ⟨g, cap, cur, hv, hg, r⟩
  · exact .inl h2
  · exact .inr ⟨g, cap, cur, hv, Nat.le_trans hB hg, r⟩

theorem Own.sl {w : World} {B : Nat} {v : Value} {xs : List Int} (h : Own w B v xs) : Sl w v xs := by
  obtain ⟨hown, h3⟩ := h
  rcases hown.2 with ⟨rfl, h2⟩ | ⟨g, cap, cur, rfl, hg, hh, hn, hm, hs, ht⟩
  · obtain rfl := List.eq_nil_of_length_eq_zero h2
    exact Sl.nil w
  · refine ⟨_, cap, rfl, hn, hm, h3, by simp, .inr ⟨g, 0, rfl, fun i x hx => ?_⟩⟩
    have hi : i < xs.length := (List.getElem?_eq_some_iff.1 hx).1
    rw [Nat.zero_add, hown.cellAt i (by omega)]
    simp [hx]

/-- The block of an owned slice: from B on, and there. -/
theorem Own.lt {w : World} {B : Nat} {v : Value} {xs : List Int} (h : Own w B v xs) : ∀ k, v.ownBlock = some k → B ≤ k ∧ k < w.heap.size := h.1.lt

theorem Own.grown {w w' : World} {B : Nat} {v : Value} {xs : List Int} {row : Option Nat} (h : Own w B v xs) (hg : w.grownBy w' row) (hne : v.ownBlock = none ∨ v.ownBlock ≠ row) : Own w' B v xs :=
  ⟨h.1.kept hg hne, h.2⟩
theorem grown_of_below {w w' : World} (hb : Below w.heap.size w w') (row : Option Nat) : w.grownBy w' row := ⟨hb.os, hb.tape, hb.output, hb.size, fun k hk _ => hb.block k hk⟩
theorem below_of_grown {w w' : World} (hb : w.grownBy w' none) : Below w.heap.size w w' := ⟨hb.os, hb.tape, hb.output, hb.size, fun k hk => hb.block k hk (by simp)⟩
theorem Own.below {w w' : World} {B : Nat} {v : Value} {xs : List Int} (h : Own w B v xs) (hb : Below w.heap.size w w') : Own w' B v xs := by
  refine h.grown (grown_of_below hb none) ?_
  cases v.ownBlock <;> simp
theorem Own.alloc {w : World} {B : Nat} {v : Value} {xs : List Int} (h : Own w B v xs) (o : Obj) : Own (w.alloc o) B v xs := h.below ((Below.refl _ _).alloc (Nat.le_refl _) o)
theorem Own.drew {w : World} {B : Nat} {v : Value} {xs : List Int} (h : Own w B v xs) : Own w.drew B v xs := h

/-- Behind a call the caller's own 'Below': its world at the call, W, lies above w. -/
theorem Below.call {B : Nat} {w W w' : World} (h : Below B w W) (h' : Below W.heap.size W w') (hB : B ≤ W.heap.size) : Below B w w' := h.trans (h'.mono hB)

/-! Below the heap of the start: no side condition. -/
abbrev Bl (w w' : World) : Prop := Below w.heap.size w w'
theorem bl_refl (w : World) : Bl w w := Below.refl _ _
theorem bl_alloc {w w' : World} (h : Bl w w') (o : Obj) : Bl w (w'.alloc o) := h.alloc h.size o
theorem bl_drew {w w' : World} (h : Bl w w') : Bl w w'.drew := h.drew
theorem bl_call {w W w' : World} (h : Bl w W) (h' : Bl W w') : Bl w w' := h.trans (h'.mono h.size)
theorem bl_set {w w' : World} (h : Bl w w') {p : Addr} (hp : w.heap.size ≤ p.block) (u : Value) : Bl w (w'.setCell p u) := h.setCell hp u

/-- A block of the call's own, known whole: its cells; none is frozen. -/
def Bx (w : World) (b : Nat) (cs : Array Value) : Prop := ∃ t, w.heap[b]? = some (.cells cs t (0, 0))
theorem Bx.out {w : World} {b : Nat} {cs : Array Value} (h : Bx w b cs) : (∀ o, w.cell? ⟨b, o, none⟩ = cs[o]?) ∧ (∀ o, w.frozen? ⟨b, o, none⟩ = false) ∧ b < w.heap.size := by
  obtain ⟨t, h⟩ := h
  exact ⟨fun o => cell_of_row w b o cs t (0, 0) h, fun o => frozen_of_row w b o cs t h, (Array.getElem?_eq_some_iff.1 h).1⟩
theorem Bx.below {w w' : World} {b : Nat} {cs : Array Value} (h : Bx w b cs) (hb : Bl w w') : Bx w' b cs := by
  have hl := h.out.2.2
  obtain ⟨t, h⟩ := h
  exact ⟨t, (hb.block b hl).trans h⟩
theorem Bx.alloc {w : World} {b : Nat} {cs : Array Value} (h : Bx w b cs) (o : Obj) : Bx (w.alloc o) b cs := h.below (bl_alloc (bl_refl _) o)
theorem Bx.drew {w : World} {b : Nat} {cs : Array Value} (h : Bx w b cs) : Bx w.drew b cs := h
theorem Bx.new (w : World) (cs : Array Value) (t : TypeId) {b : Nat} (hb : b = w.heap.size) : Bx (w.alloc (.cells cs t)) b cs := by
  subst hb
  exact ⟨t, heap_alloc_new w _⟩
theorem Bx.set {w : World} {b : Nat} {cs : Array Value} (h : Bx w b cs) (j : Nat) (v : Value) : Bx (w.setCell ⟨b, j, none⟩ v) b (cs.setIfInBounds j v) := by
  obtain ⟨t, h⟩ := h
  exact ⟨t, heap_setCell_same w b j cs t v h⟩
theorem Bx.far {w : World} {b : Nat} {cs : Array Value} (h : Bx w b cs) {p : Addr} (hp : p.block ≠ b) (v : Value) : Bx (w.setCell p v) b cs := by
  obtain ⟨t, h⟩ := h
  exact ⟨t, (Below.heap_setCell w p v b (Ne.symm hp)).trans h⟩

end Go.Proofs.YtndblondleclpaaGreatDoor
