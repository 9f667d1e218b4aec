/- The laws' own helpers on lists of fractions: equal, marks, held. No condition but what each theorem names. -/
import Derived.Test.YtgmofofokhlhnaaAppF
import Derived.Test.YtgmofofokhlhnaaLawF
import Derived.Test.YtgmofofokhlhnaaOnly
namespace Go.Proofs.Ytgmofofokhlhnaa
open Go.RowKit
set_option linter.unusedVariables false
set_option linter.unusedSimpArgs false

theorem SlF.atR {w w' : World} {p o n c k : Nat} {fs : List (Int × Int)} {x y : Int} (h : SlF w (.slice (some ⟨p, o, none⟩) n c) fs) (hb : Bl w w') (hx : fs[k]? = some (x, y)) :
    w'.cell? ⟨p, o + k * 2, none⟩ = some (.int .i64 x) ∧ w'.cell? ⟨p, o + k * 2 + 1, none⟩ = some (.int .i64 y) := by
  obtain ⟨p', o', e, x', y', hx', c1, c2⟩ := h.cellAt hb (List.getElem?_eq_some_iff.1 hx).1
  rw [hx] at hx'
  injection hx' with hx'
  injection hx' with h1 h2
  injection e with e
  injection e with e1 e2
  subst h1 h2 e1 e2
  exact ⟨c1, c2⟩
theorem take_pair {α : Type} {xs ys : List α} {k : Nat} {x y : α} (h : xs.take k = ys.take k) (hx : xs[k]? = some x) (hy : ys[k]? = some y) (e : x = y) : xs.take (k + 1) = ys.take (k + 1) := by
  rw [List.take_add_one, List.take_add_one, h, hx, hy, e]
theorem ne_of_at {α : Type} {xs ys : List α} {k : Nat} {x y : α} (hx : xs[k]? = some x) (hy : ys[k]? = some y) (e : x ≠ y) : xs ≠ ys := by
  intro h
  rw [h, hy] at hx
  exact e (Option.some.inj hx).symm

/-- The marks that a list of n fractions gets: (k, k + 1), (k + 2, k + 3), .. -/
def marksF (k : Int) (n : Nat) : List (Int × Int) := (List.range n).map fun (i : Nat) => (k + 2 * (i : Int), k + 2 * (i : Int) + 1)
theorem marksF_len (k : Int) (n : Nat) : (marksF k n).length = n := by simp [marksF]
theorem marksF_get (k : Int) (n i : Nat) (h : i < n) : (marksF k n)[i]? = some (k + 2 * i, k + 2 * i + 1) := by simp [marksF, h]

/-- Behind j rounds: the first j fractions are marks, the others are as they were. -/
def halfF (k : Int) (fs : List (Int × Int)) (j : Nat) : List (Int × Int) := marksF k j ++ fs.drop j
theorem cellsF_set : ∀ (fs : List (Int × Int)) (j : Nat) (a b : Int), j < fs.length → ((cellsF fs).set (j * 2) (.int .i64 a)).set (j * 2 + 1) (.int .i64 b) = cellsF (fs.set j (a, b))
  | [], j, a, b, h => by simp at h
  | f :: fs, 0, a, b, h => by simp [cellsF]
  | f :: fs, j + 1, a, b, h => by
    have := cellsF_set fs j a b (by simpa using h)
    rw [show (j + 1) * 2 = j * 2 + 1 + 1 by omega]
    simp only [cellsF, List.set_cons_succ]
    rw [this]
theorem halfF_len (k : Int) (fs : List (Int × Int)) (j : Nat) (h : j ≤ fs.length) : (halfF k fs j).length = fs.length := by simp [halfF, marksF_len]; omega
theorem halfF_set (k : Int) (fs : List (Int × Int)) (j : Nat) (h : j < fs.length) : (halfF k fs j).set j (k + 2 * j, k + 2 * j + 1) = halfF k fs (j + 1) := by
  rw [halfF, halfF, List.set_append_right _ _ (by simp [marksF_len]), marksF_len, Nat.sub_self, List.drop_eq_getElem_cons h, List.set_cons_zero, marksF, marksF, List.range_succ]
  simp
theorem grown_step {w wr w' : World} {row : Option Nat} (hG : w.grownBy wr row) (h : wr.grownBy w' row) : w.grownBy w' row :=
  ⟨h.os.trans hG.os, h.tape.trans hG.tape, h.output.trans hG.output, Nat.le_trans hG.size h.size, fun b hb hne => (h.block b (Nat.lt_of_lt_of_le hb hG.size) hne).trans (hG.block b hb hne)⟩

theorem OwnF.sl {w : World} {B : Nat} {v : Value} {fs : List (Int × Int)} (h : OwnF w B v fs) : SlF w v fs := h.slF
theorem OwnF.only {w w' : World} {B : Nat} {v : Value} {fs : List (Int × Int)} {S : Nat → Prop} (h : OwnF w B v fs) (ho : Only w w' S) (hn : ∀ k, v.ownBlock = some k → ¬ S k) : OwnF w' B v fs := by
  refine ⟨h.1, ?_⟩
  rcases h.2 with h2 | ⟨g, cap, cur, hv, hg, hh, r⟩
  · exact .inl h2
  · refine .inr ⟨g, cap, cur, hv, hg, ?_, r⟩
    exact (ho.block g (Array.getElem?_eq_some_iff.1 hh).1 (hn g (by rw [hv]; rfl))).trans hh

end Go.Proofs.Ytgmofofokhlhnaa
