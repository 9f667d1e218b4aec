/- Lists of fractions of the call's own, and append. Each theorem names its conditions. -/
import Derived.Test.YtndblondleclpaaDoorChk
import Derived.Laws.AppendOwnNone
import Derived.Maps.AppendAt
import Derived.OwnWalk
namespace Go.Proofs.YtndblondleclpaaDoor
open Go.RowKit
set_option linter.unusedVariables false
set_option linter.unusedSimpArgs false


/-- The cells of a list of fractions. -/
def cellsF : List (Int × Int) → List Value
  | [] => []
  | f :: fs => .int .i64 f.1 :: .int .i64 f.2 :: cellsF fs
theorem cellsF_len (fs : List (Int × Int)) : (cellsF fs).length = fs.length * 2 := by
  induction fs with
  | nil => rfl
  | cons f fs ih => simp [cellsF, ih]; omega
theorem cellsF_app (fs gs : List (Int × Int)) : cellsF (fs ++ gs) = cellsF fs ++ cellsF gs := by
  induction fs with
  | nil => rfl
  | cons f fs ih => simp [cellsF, ih]
theorem cellsF_get (fs : List (Int × Int)) : ∀ (i : Nat) (n d : Int), fs[i]? = some (n, d) → (cellsF fs)[i * 2]? = some (.int .i64 n) ∧ (cellsF fs)[i * 2 + 1]? = some (.int .i64 d) := by
  induction fs with
  | nil => intro i n d h; simp at h
  | cons f fs ih =>
    intro i n d h
    cases i with
    | zero => simp at h; subst h; exact ⟨rfl, rfl⟩
    | succ i =>
      have := ih i n d (by simpa using h)
      rw [show (i + 1) * 2 = i * 2 + 1 + 1 by omega]
      exact this
theorem cellsF_one (fs : List (Int × Int)) : ∀ u ∈ cellsF fs, u.oneCell' = true := by
  induction fs with
  | nil => simp [cellsF]
  | cons f fs ih =>
    intro u hu
    simp only [cellsF, List.mem_cons] at hu
    rcases hu with rfl | rfl | hu
    · rfl
    · rfl
    · exact ih u hu
theorem Bx.grownApartF {w w' : World} {b : Nat} {cs : Array Value} {row : Option Nat} (h : Bx w b cs) (hg : w.grownBy w' row) (hn : row ≠ some b) : Bx w' b cs := by
  have hl := h.out.2.2
  obtain ⟨t, h⟩ := h
  exact ⟨t, (hg.block b hl (fun e => hn e.symm)).trans h⟩
/-- Behind an append to a row that was made since B, what lay below B is as it was. -/
theorem bl_grown {w0 w w' : World} {row : Option Nat} (h : Bl w0 w) (hg : w.grownBy w' row) (hr : ∀ k, row = some k → w0.heap.size ≤ k) : Bl w0 w' :=
  Below.trans h ⟨hg.os, hg.tape, hg.output, hg.size, fun k hk => hg.block k (Nat.lt_of_lt_of_le hk h.size) (fun e => by have := hr k e.symm; omega)⟩


end Go.Proofs.YtndblondleclpaaDoor
