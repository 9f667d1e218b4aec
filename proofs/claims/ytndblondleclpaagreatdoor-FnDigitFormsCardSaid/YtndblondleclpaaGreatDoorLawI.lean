/- The laws' own helpers on slices of 64-bit integers: equal, copy, sizes, marks, held. No condition but what each theorem names. -/
import Derived.Test.YtndblondleclpaaGreatDoorBase
namespace Go.Proofs.YtndblondleclpaaGreatDoor
open Go.RowKit
set_option linter.unusedVariables false
set_option linter.unusedSimpArgs false

/-- The marks that a list of n numbers gets: k, k + 1, .. -/
def marks (k : Int) (n : Nat) : List Int := (List.range n).map fun (i : Nat) => k + (i : Int)
theorem marks_len (k : Int) (n : Nat) : (marks k n).length = n := by simp [marks]
theorem marks_get (k : Int) (n i : Nat) (h : i < n) : (marks k n)[i]? = some (k + i) := by simp [marks, h]

theorem marks_rng (k : Int) (n : Nat) (h0 : 0 ≤ k) (h1 : k + n ≤ 4611686018427387904) : ∀ x ∈ marks k n, R64 x := by
  intro x hx
  simp only [marks, List.mem_map, List.mem_range] at hx
  obtain ⟨i, hi, rfl⟩ := hx
  unfold R64
  omega

/-- Behind j rounds: the first j numbers are marks, the others are as they were. -/
def half (k : Int) (xs : List Int) (j : Nat) : List Int := marks k j ++ xs.drop j
theorem half_len (k : Int) (xs : List Int) (j : Nat) (h : j ≤ xs.length) : (half k xs j).length = xs.length := by simp [half, marks_len]; omega
theorem half_get (k : Int) (xs : List Int) (j : Nat) (h : j < xs.length) : (half k xs j)[j]? = xs[j]? := by
  rw [half, List.getElem?_append_right (by simp [marks_len]), marks_len, List.getElem?_drop]; simp
theorem half_set (k : Int) (xs : List Int) (j : Nat) (h : j < xs.length) : (half k xs j).set j (k + j) = half k xs (j + 1) := by
  rw [half, half, List.set_append_right _ _ (by simp [marks_len]), marks_len, Nat.sub_self, List.drop_eq_getElem_cons h, List.set_cons_zero, marks, marks, List.range_succ]
  simp

theorem info_i64 : (Tryz.prog.info? 2).map (fun i => (i.zero, i.size, i.bytes)) = some (some (.int .i64 0), 1, 8) := by kernel_rfl

/-- Behind j rounds of a copy: the first j numbers are there, the others are 0. -/
def part (xs : List Int) (j : Nat) : List Int := xs.take j ++ List.replicate (xs.length - j) 0
theorem part_get (xs : List Int) (j : Nat) (h : j < xs.length) : (part xs j)[j]? = some 0 := by
  rw [part, List.getElem?_append_right (by simp; omega)]
  simp [Nat.min_eq_left (Nat.le_of_lt h), List.getElem?_replicate]
  omega
theorem part_set (xs : List Int) (j : Nat) (x : Int) (h : xs[j]? = some x) : (part xs j).set j x = part xs (j + 1) := by
  have hj := (List.getElem?_eq_some_iff.1 h).1
  have e : xs.length - j = (xs.length - (j + 1)) + 1 := by omega
  rw [part, part, List.set_append_right _ _ (by simp; omega), List.take_add_one, h, e, List.replicate_succ]
  simp [Nat.min_eq_left (Nat.le_of_lt hj)]

theorem Sl.form {w : World} {v : Value} {xs : List Int} (h : Sl w v xs) : ∃ a c, v = .slice a xs.length c ∧ xs.length ≤ c := by
  obtain ⟨a, cap, rfl, h1, _⟩ := h
  exact ⟨a, cap, rfl, h1⟩

end Go.Proofs.YtndblondleclpaaGreatDoor
