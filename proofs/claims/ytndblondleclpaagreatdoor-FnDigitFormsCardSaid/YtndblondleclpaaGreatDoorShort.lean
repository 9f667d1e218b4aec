/- The short form of terms: the program's and the reference's. Each theorem names its conditions. -/
import Derived.Test.YtndblondleclpaaGreatDoorClone
import Derived.Test.YtndblondleclpaaGreatDoorApp
namespace Go.Proofs.YtndblondleclpaaGreatDoor
open Go.RowKit
set_option linter.unusedVariables false
set_option linter.unusedSimpArgs false

/-- Terms with the same value of which the last one is not 1, unless it is the only one. -/
def shortL (xs : List Int) : List Int :=
  if 1 < xs.length ∧ xs[xs.length - 1]? = some 1 then (xs.take (xs.length - 1)).set (xs.length - 2) (xs.getD (xs.length - 2) 0 + 1) else xs
theorem shortL_len (xs : List Int) : (shortL xs).length ≤ xs.length := by unfold shortL; split <;> simp
theorem shortL_pos (xs : List Int) (h : 0 < xs.length) : 0 < (shortL xs).length := by
  unfold shortL
  split
  · simp; omega
  · exact h

/-- The first elements of a list, as a slice expression gives them. -/
theorem Sl.cellAt {w w' : World} {a : Option Addr} {n c : Nat} {xs : List Int} (h : Sl w (.slice a n c) xs) (hb : Bl w w') {k : Nat} (hk : k < xs.length) :
    ∃ b o, a = some ⟨b, o, none⟩ ∧ ∃ x, xs[k]? = some x ∧ w'.cell? ⟨b, o + k, none⟩ = some (.int .i64 x) ∧ R64 x := by
  obtain ⟨a', cap, e, h1, h2, h3, h4, h5⟩ := h
  simp only [Value.slice.injEq] at e
  obtain ⟨rfl, rfl, rfl⟩ := e
  rcases h5 with h5 | ⟨b, off, rfl, hc⟩
  · rw [h5] at hk; simp at hk
  · have hx : xs[k]? = some xs[k] := List.getElem?_eq_getElem hk
    exact ⟨b, off, rfl, _, hx, (hb.cell (p := ⟨b, off + k, none⟩) (cell_lt (hc k _ hx))).trans (hc k _ hx), h3 _ (List.getElem_mem hk)⟩
theorem Sl.take {w : World} {a : Option Addr} {n c : Nat} {xs : List Int} (h : Sl w (.slice a n c) xs) (k : Nat) (hk : k ≤ xs.length) : Sl w (.slice a k c) (xs.take k) := by
  obtain ⟨a', cap, e, h1, h2, h3, h4, h5⟩ := h
  simp only [Value.slice.injEq] at e
  obtain ⟨rfl, rfl, rfl⟩ := e
  have hl : (xs.take k).length = k := by simp; omega
  refine ⟨_, _, by rw [hl], by omega, h2, fun x hx => h3 x (List.mem_of_mem_take hx), h4, ?_⟩
  rcases h5 with h5 | ⟨b, off, rfl, hc⟩
  · subst h5; exact .inl (by simp)
  · refine .inr ⟨b, off, rfl, fun i x hx => hc i x ?_⟩
    rw [List.getElem?_take] at hx
    split at hx
    · exact hx
    · cases hx
theorem Own.take {w : World} {B : Nat} {a : Option Addr} {n c : Nat} {xs : List Int} (h : Own w B (.slice a n c) xs) (k : Nat) (hk : k ≤ xs.length) (ha : a ≠ none) : Own w B (.slice a k c) (xs.take k) := by
  obtain ⟨⟨h1, h2⟩, h3⟩ := h
  have hl : (xs.take k).length = k := by simp; omega
  refine ⟨⟨by simp, ?_⟩, fun x hx => h3 x (List.mem_of_mem_take hx)⟩
  rcases h2 with ⟨e, _⟩ | ⟨g, cap, cur, e, hg, hh, hn, hm, hs, ht⟩
  · simp only [Value.slice.injEq] at e; exact absurd e.1 ha
  · simp only [Value.slice.injEq] at e
    obtain ⟨rfl, rfl, rfl⟩ := e
    refine .inr ⟨g, _, cur, by rw [hl], hg, hh, by omega, hm, hs, ?_⟩
    rw [hl, Nat.mul_one, List.map_take, ← ht, List.take_take, Nat.mul_one, Nat.min_eq_left hk]
theorem Own.addr {w : World} {B : Nat} {a : Option Addr} {n c : Nat} {xs : List Int} (h : Own w B (.slice a n c) xs) (hx : 0 < xs.length) : ∃ g, a = some ⟨g, 0, none⟩ ∧ B ≤ g ∧ g < w.heap.size := by
  rcases h.1.2 with ⟨e, h0⟩ | ⟨g, cap, cur, e, hg, hh, hn, hm, hs, ht⟩
  · omega
  · simp only [Value.slice.injEq] at e
    obtain ⟨rfl, rfl, rfl⟩ := e
    exact ⟨g, rfl, hg, (Array.getElem?_eq_some_iff.1 hh).1⟩
theorem Own.num {w : World} {B : Nat} {a : Option Addr} {n c : Nat} {xs : List Int} (h : Own w B (.slice a n c) xs) : n = xs.length := by
  obtain ⟨a', c', e, _⟩ := h.form
  simp only [Value.slice.injEq] at e
  exact e.2.1
/-- A store into a list of the call's own. -/
theorem Own.stored {w : World} {B : Nat} {g n c : Nat} {xs : List Int} (h : Own w B (.slice (some ⟨g, 0, none⟩) n c) xs) (j : Nat) (y : Int) (hy : R64 y) :
    Own (w.setCell ⟨g, j, none⟩ (.int .i64 y)) B (.slice (some ⟨g, 0, none⟩) n c) (xs.set j y) ∧ w.grownBy (w.setCell ⟨g, j, none⟩ (.int .i64 y)) (some g) := by
  have hn := h.num
  subst hn
  have hS := h.1.stored j (.int .i64 y)
  refine ⟨⟨by rw [List.length_set, List.map_set]; exact hS.1, fun x hx => ?_⟩, hS.2⟩
  rcases List.mem_or_eq_of_mem_set hx with h1 | h1
  · exact h.2 x h1
  · exact h1 ▸ hy
theorem Own.cellAt {w : World} {B : Nat} {g n c : Nat} {xs : List Int} (h : Own w B (.slice (some ⟨g, 0, none⟩) n c) xs) {j : Nat} (hj : j < xs.length) :
    ∃ x, xs[j]? = some x ∧ w.cell? ⟨g, j, none⟩ = some (.int .i64 x) ∧ w.frozen? ⟨g, j, none⟩ = false ∧ R64 x := by
  have hx : xs[j]? = some xs[j] := List.getElem?_eq_getElem hj
  have hn := h.num
  subst hn
  have h1 := h.1.cellAt j (by omega)
  rw [List.getElem?_map, hx] at h1
  exact ⟨_, hx, h1, h.1.frozenAt j, h.2 _ (List.getElem_mem hj)⟩

theorem shortL_no {xs : List Int} (h : ¬ (1 < xs.length ∧ xs[xs.length - 1]? = some 1)) : shortL xs = xs := if_neg h
theorem shortL_yes {xs : List Int} {x : Int} (h : 1 < xs.length ∧ xs[xs.length - 1]? = some 1) (hx : (xs.take (xs.length - 1))[xs.length - 2]? = some x) : shortL xs = (xs.take (xs.length - 1)).set (xs.length - 2) (x + 1) := by
  rw [shortL, if_pos h]
  congr 1
  rw [List.getElem?_take] at hx
  split at hx
  · simp [hx]
  · cases hx

end Go.Proofs.YtndblondleclpaaGreatDoor
