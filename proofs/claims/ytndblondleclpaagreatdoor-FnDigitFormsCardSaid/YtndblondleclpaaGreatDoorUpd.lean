/- What a call leaves that writes to one block, known by its number. No condition but what each theorem names. -/
import Derived.Test.YtndblondleclpaaGreatDoorNum
import Derived.Test.YtndblondleclpaaGreatDoorOnly
namespace Go.Proofs.YtndblondleclpaaGreatDoor
open Go.RowKit
set_option linter.unusedVariables false
set_option linter.unusedSimpArgs false

/-- w' is w with new blocks, and with writes to block p alone. -/
abbrev Upd (w w' : World) (p : Nat) : Prop := w.grownBy w' (some p)
theorem upd_set {w w' : World} {p : Nat} (h : Upd w w' p) (o : Nat) (v : Value) : Upd w (w'.setCell ⟨p, o, none⟩ v) p :=
  ⟨h.os, h.tape, h.output, by simpa using h.size, fun k hk hne => (Below.heap_setCell w' ⟨p, o, none⟩ v k (fun e => hne (by rw [e]))).trans (h.block k hk hne)⟩
theorem upd_refl (w : World) (p : Nat) : Upd w w p := World.grownBy.refl _ _
theorem upd_drew {w w' : World} {p : Nat} (h : Upd w w' p) : Upd w w'.drew p := ⟨h.os, h.tape, h.output, h.size, h.block⟩
theorem upd_bl {w w' w2 : World} {p : Nat} (h : Upd w w' p) (hb : Bl w' w2) : Upd w w2 p :=
  ⟨hb.os.trans h.os, hb.tape.trans h.tape, hb.output.trans h.output, Nat.le_trans h.size hb.size, fun k hk hne => (hb.block k (Nat.lt_of_lt_of_le hk h.size)).trans (h.block k hk hne)⟩
theorem upd_drewN {w w' : World} {p : Nat} (h : Upd w w' p) (n : Nat) : Upd w (w'.drewN n) p := upd_bl h (Drawn.below ⟨n, rfl⟩ _)
theorem upd_trans {w w' w2 : World} {p : Nat} (h : Upd w w' p) (h' : Upd w' w2 p) : Upd w w2 p :=
  ⟨h'.os.trans h.os, h'.tape.trans h.tape, h'.output.trans h.output, Nat.le_trans h.size h'.size, fun k hk hne => (h'.block k (Nat.lt_of_lt_of_le hk h.size) hne).trans (h.block k hk hne)⟩
theorem bl_upd {w0 w w' : World} {p : Nat} (h : Bl w0 w) (hu : Upd w w' p) (hp : w0.heap.size ≤ p) : Bl w0 w' :=
  h.trans ⟨hu.os, hu.tape, hu.output, Nat.le_trans h.size (Nat.le_trans hu.size (Nat.le_refl _)) |> fun _ => hu.size, fun k hk => hu.block k (Nat.lt_of_lt_of_le hk h.size) (fun e => by injection e with e; omega)⟩
theorem Bx.upd {w w' : World} {b p : Nat} {cs : Array Value} (h : Bx w b cs) (hu : Upd w w' p) (hn : b ≠ p) : Bx w' b cs := by
  have hl := h.out.2.2
  obtain ⟨t, h⟩ := h
  exact ⟨t, (hu.block b hl (fun e => hn (by injection e))).trans h⟩

theorem bl_dN {w w' : World} (h : Bl w w') (n : Nat) : Bl w (w'.drewN n) := h.trans (Drawn.below ⟨n, rfl⟩ _)
theorem bx_dN {w : World} {b : Nat} {cs : Array Value} (h : Bx w b cs) (n : Nat) : Bx (w.drewN n) b cs := h

theorem upd_far {w w' : World} {p : Nat} (h : Upd w w' p) {q : Addr} (hq : w.heap.size ≤ q.block) (v : Value) : Upd w (w'.setCell q v) p :=
  ⟨h.os, h.tape, h.output, by simpa using h.size, fun k hk hne => (Below.heap_setCell w' q v k (by omega)).trans (h.block k hk hne)⟩
theorem bl_of_upd {w w1 w' : World} {p : Nat} (hb : Bl w w1) (hu : Upd w1 w' p) (hp : w.heap.size ≤ p) : Bl w w' := bl_upd hb hu hp

theorem Own.upd {w w' : World} {B p : Nat} {v : Value} {xs : List Int} (h : Own w B v xs) (hu : Upd w w' p) (hn : v.ownBlock ≠ some p) : Own w' B v xs := h.grown hu (.inr hn)
theorem Sl.upd {w w' : World} {p : Nat} {v : Value} {xs : List Int} (h : Sl w v xs) (hu : Upd w w' p) (hn : v.ownBlock ≠ some p) : Sl w' v xs := h.grown hu (.inr hn)
/-- w' is w with new blocks, and with writes to block p and to the row of v. -/
def Upv (w w' : World) (p : Nat) (v : Value) : Prop := Only w w' fun k => k = p ∨ v.ownBlock = some k
theorem upv_refl (w : World) (p : Nat) (v : Value) : Upv w w p v := ⟨rfl, rfl, rfl, Nat.le_refl _, fun _ _ _ => rfl⟩
theorem upv_upd {w w1 w2 : World} {p : Nat} {v : Value} (h : Upv w w1 p v) (hu : Upd w1 w2 p) : Upv w w2 p v :=
  ⟨hu.os.trans h.os, hu.tape.trans h.tape, hu.output.trans h.output, Nat.le_trans h.size hu.size, fun k hk hn => (hu.block k (Nat.lt_of_lt_of_le hk h.size) (fun e => hn (.inl (by injection e)))).trans (h.block k hk hn)⟩
theorem upv_bl {w w1 w2 : World} {p : Nat} {v : Value} (h : Upv w w1 p v) (hb : Bl w1 w2) : Upv w w2 p v :=
  ⟨hb.os.trans h.os, hb.tape.trans h.tape, hb.output.trans h.output, Nat.le_trans h.size hb.size, fun k hk hn => (hb.block k (Nat.lt_of_lt_of_le hk h.size)).trans (h.block k hk hn)⟩
/-- A write to the row of v', which is v's row or new. -/
theorem upv_row {w w1 w2 : World} {p : Nat} {v v' : Value} (h : Upv w w1 p v) (hg : w1.grownBy w2 v'.ownBlock) (hv : ∀ k, v'.ownBlock = some k → v.ownBlock = some k ∨ w.heap.size ≤ k) : Upv w w2 p v :=
  ⟨hg.os.trans h.os, hg.tape.trans h.tape, hg.output.trans h.output, Nat.le_trans h.size hg.size, fun k hk hn => (hg.block k (Nat.lt_of_lt_of_le hk h.size) (fun e => by rcases hv k e.symm with q | q; exact hn (.inr q); omega)).trans (h.block k hk hn)⟩
/-- The same on from a world in which the row may have turned. -/
theorem upv_upv {w w1 w2 : World} {p : Nat} {v v' : Value} (h : Upv w w1 p v) (hg : Upv w1 w2 p v') (hv : ∀ k, v'.ownBlock = some k → v.ownBlock = some k ∨ w.heap.size ≤ k) : Upv w w2 p v :=
  ⟨hg.os.trans h.os, hg.tape.trans h.tape, hg.output.trans h.output, Nat.le_trans h.size hg.size, fun k hk hn => (hg.block k (Nat.lt_of_lt_of_le hk h.size) (fun e => by rcases e with e | e; exact hn (.inl e); rcases hv k e with q | q; exact hn (.inr q); omega)).trans (h.block k hk hn)⟩
theorem Bx.upv {w w' : World} {b p : Nat} {v : Value} {cs : Array Value} (h : Bx w b cs) (hu : Upv w w' p v) (hn : b ≠ p) (hv : v.ownBlock ≠ some b) : Bx w' b cs := h.only hu (fun e => by rcases e with e | e; exact hn e; exact hv e)
theorem bl_upv {w0 w w' : World} {p : Nat} {v : Value} (h : Bl w0 w) (hu : Upv w w' p v) (hp : w0.heap.size ≤ p) (hv : ∀ k, v.ownBlock = some k → w0.heap.size ≤ k) : Bl w0 w' :=
  Below.only h hu h.size (fun k e => by rcases e with e | e; omega; exact hv k e)

end Go.Proofs.YtndblondleclpaaGreatDoor
