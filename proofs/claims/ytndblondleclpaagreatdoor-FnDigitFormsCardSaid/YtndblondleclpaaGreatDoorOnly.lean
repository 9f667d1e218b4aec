/- What a mark of a slice's own numbers leaves as it was. No condition but what each theorem names. -/
import Derived.Test.YtndblondleclpaaGreatDoorLawI
namespace Go.Proofs.YtndblondleclpaaGreatDoor
open Go.RowKit
set_option linter.unusedVariables false
set_option linter.unusedSimpArgs false


/-- w' is w with new blocks, and with writes to the blocks of S alone. -/
structure Only (w w' : World) (S : Nat → Prop) : Prop where
  os : w'.os = w.os
  tape : w'.tape = w.tape
  output : w'.output = w.output
  size : w.heap.size ≤ w'.heap.size
  block : ∀ k, k < w.heap.size → ¬ S k → w'.heap[k]? = w.heap[k]?

theorem Only.trans {a b c : World} {S : Nat → Prop} (h : Only a b S) (k : Only b c S) : Only a c S :=
  ⟨k.os.trans h.os, k.tape.trans h.tape, k.output.trans h.output, Nat.le_trans h.size k.size, fun i hi hs => (k.block i (Nat.lt_of_lt_of_le hi h.size) hs).trans (h.block i hi hs)⟩
theorem Only.of_below {w w' : World} (h : Below w.heap.size w w') (S : Nat → Prop) : Only w w' S := ⟨h.os, h.tape, h.output, h.size, fun k hk _ => h.block k hk⟩
theorem Only.of_grown {w w' : World} {row : Option Nat} (h : w.grownBy w' row) {S : Nat → Prop} (hs : ∀ k, row = some k → S k) : Only w w' S :=
  ⟨h.os, h.tape, h.output, h.size, fun k hk n => h.block k hk fun e => n (hs k e.symm)⟩
theorem Own.only {w w' : World} {B : Nat} {v : Value} {xs : List Int} {S : Nat → Prop} (h : Own w B v xs) (ho : Only w w' S) (hn : ∀ k, v.ownBlock = some k → ¬ S k) : Own w' B v xs := by
  obtain ⟨⟨h1, h2⟩, h3⟩ := h
  refine ⟨⟨h1, ?_⟩, h3⟩
  rcases h2 with h2 | ⟨g, cap, cur, rfl, hg, hh, r⟩
  · exact .inl h2
  · exact .inr ⟨g, cap, cur, rfl, hg, by rw [ho.block g (Array.getElem?_eq_some_iff.1 hh).1 (hn g rfl)]; exact hh, r⟩
theorem Sl.only {w w' : World} {v : Value} {xs : List Int} {S : Nat → Prop} (h : Sl w v xs) (ho : Only w w' S) (hn : ∀ k, k < w.heap.size → v.ownBlock = some k → ¬ S k) : Sl w' v xs := by
  obtain ⟨a, cap, rfl, h1, h2, h3, h4, h5⟩ := h
  refine ⟨a, cap, rfl, h1, h2, h3, h4, ?_⟩
  rcases h5 with h5 | ⟨b, off, rfl, hc⟩
  · exact .inl h5
  · refine .inr ⟨b, off, rfl, fun i x hx => ?_⟩
    have hb := cell_lt (hc i x hx)
    rw [← hc i x hx]
    exact World.cell?_of_block (w := w) (ho.block b hb (hn b hb rfl))
theorem Below.only {B : Nat} {a w w' : World} {S : Nat → Prop} (h : Below B a w) (ho : Only w w' S) (hB : B ≤ w.heap.size) (hs : ∀ k, S k → B ≤ k) : Below B a w' :=
  h.trans ⟨ho.os, ho.tape, ho.output, ho.size, fun k hk => ho.block k (by omega) fun e => by have := hs k e; omega⟩
theorem cell_only {w w' : World} {S : Nat → Prop} (ho : Only w w' S) {b : Nat} (hb : b < w.heap.size) (hn : ¬ S b) (o : Nat) : w'.cell? ⟨b, o, none⟩ = w.cell? ⟨b, o, none⟩ :=
  World.cell?_of_block (w := w) (a := ⟨b, o, none⟩) (ho.block b hb hn)

theorem Bx.only {w w' : World} {b : Nat} {cs : Array Value} {S : Nat → Prop} (h : Bx w b cs) (ho : Only w w' S) (hn : ¬ S b) : Bx w' b cs := by
  have hl := h.out.2.2
  obtain ⟨t, h⟩ := h
  exact ⟨t, (ho.block b hl hn).trans h⟩


end Go.Proofs.YtndblondleclpaaGreatDoor
