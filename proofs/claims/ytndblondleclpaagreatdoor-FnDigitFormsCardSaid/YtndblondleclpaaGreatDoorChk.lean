/- The tests of fractions of the chapter on best approximations. Conditions: each theorem names its own. -/
import Derived.Test.YtndblondleclpaaGreatDoorOff
namespace Go.Proofs.YtndblondleclpaaGreatDoor
open Go.RowKit
set_option linter.unusedVariables false
set_option linter.unusedSimpArgs false

/-- The slice value v reads, in the world w, as the fractions fs. -/
def SlF (w : World) (v : Value) (fs : List (Int × Int)) : Prop :=
  ∃ a cap, v = .slice a fs.length cap ∧ fs.length ≤ cap ∧ cap ≤ maxLen ∧ (a = none → cap = 0) ∧
    (fs = [] ∨ ∃ b off, a = some ⟨b, off, none⟩ ∧ ∀ i n d, fs[i]? = some (n, d) → w.cell? ⟨b, off + i * 2, none⟩ = some (.int .i64 n) ∧ w.cell? ⟨b, off + i * 2 + 1, none⟩ = some (.int .i64 d))
theorem SlF.below {w w' : World} {v : Value} {fs : List (Int × Int)} (h : SlF w v fs) (hb : Bl w w') : SlF w' v fs := by
  obtain ⟨a, cap, rfl, h1, h2, h4, h5⟩ := h
  refine ⟨a, cap, rfl, h1, h2, h4, ?_⟩
  rcases h5 with h5 | ⟨b, off, rfl, hc⟩
  · exact .inl h5
  · exact .inr ⟨b, off, rfl, fun i n d hx => ⟨(hb.cell (p := ⟨b, off + i * 2, none⟩) (cell_lt (hc i n d hx).1)).trans (hc i n d hx).1, (hb.cell (p := ⟨b, off + i * 2 + 1, none⟩) (cell_lt (hc i n d hx).2)).trans (hc i n d hx).2⟩⟩
theorem SlF.len {w : World} {v : Value} {fs : List (Int × Int)} (h : SlF w v fs) : fs.length ≤ 9223372036854775807 := by
  obtain ⟨a, cap, rfl, h1, h2, _⟩ := h; unfold maxLen at h2; omega
theorem SlF.form {w : World} {v : Value} {fs : List (Int × Int)} (h : SlF w v fs) : ∃ a c, v = .slice a fs.length c ∧ fs.length ≤ c := by
  obtain ⟨a, cap, rfl, h1, _⟩ := h
  exact ⟨a, cap, rfl, h1⟩
theorem SlF.cellAt {w w' : World} {a : Option Addr} {n c : Nat} {fs : List (Int × Int)} (h : SlF w (.slice a n c) fs) (hb : Bl w w') {k : Nat} (hk : k < fs.length) :
    ∃ b o, a = some ⟨b, o, none⟩ ∧ ∃ n d, fs[k]? = some (n, d) ∧ w'.cell? ⟨b, o + k * 2, none⟩ = some (.int .i64 n) ∧ w'.cell? ⟨b, o + k * 2 + 1, none⟩ = some (.int .i64 d) := by
  obtain ⟨a', cap, e, h1, h2, h4, h5⟩ := h
  simp only [Value.slice.injEq] at e
  obtain ⟨rfl, rfl, rfl⟩ := e
  rcases h5 with h5 | ⟨b, off, rfl, hc⟩
  · rw [h5] at hk; simp at hk
  · have hx : fs[k]? = some (fs[k].1, fs[k].2) := List.getElem?_eq_getElem hk
    obtain ⟨g1, g2⟩ := hc k _ _ hx
    exact ⟨b, off, rfl, _, _, hx, (hb.cell (p := ⟨b, off + k * 2, none⟩) (cell_lt g1)).trans g1, (hb.cell (p := ⟨b, off + k * 2 + 1, none⟩) (cell_lt g2)).trans g2⟩
/-- A slice of fractions that is written out. -/
theorem SlF.lit {w : World} {b : Nat} {cs : Array Value} {fs : List (Int × Int)} {n c : Nat} (hx : Bx w b cs) (hn : n = fs.length) (hc : n ≤ c) (hm : c ≤ maxLen) (h : ∀ i n d, fs[i]? = some (n, d) → cs[i * 2]? = some (.int .i64 n) ∧ cs[i * 2 + 1]? = some (.int .i64 d)) :
    SlF w (.slice (some ⟨b, 0, none⟩) n c) fs := by
  subst hn
  refine ⟨_, c, rfl, hc, hm, by simp, .inr ⟨b, 0, rfl, fun i n d hi => ?_⟩⟩
  rw [Nat.zero_add, hx.out.1, hx.out.1]
  exact h i n d hi

def okP (f : Int × Int) : Bool := okF f.1 f.2
def smP (f : Int × Int) : Bool := inB f.1 (-1000000) 1000000 && decide (f.2 ≤ 1000000)
/-- The code for fractions, where the other arguments are in range or not. -/
def bestC (fits : Bool) (fs : List (Int × Int)) : Int := if fs.all okP then (if fits && fs.all smP then 0 else 2) else 1
theorem all_take_succ {p : Int × Int → Bool} {fs : List (Int × Int)} {k : Nat} {n d : Int} (h : fs[k]? = some (n, d)) : (fs.take (k + 1)).all p = ((fs.take k).all p && p (n, d)) := by
  rw [List.take_add_one, h]; simp
theorem all_false {p : Int × Int → Bool} {fs : List (Int × Int)} {k : Nat} {n d : Int} (h : fs[k]? = some (n, d)) (hp : p (n, d) = false) : fs.all p = false := by
  rw [List.all_eq_false]
  exact ⟨(n, d), List.mem_of_getElem? h, by simp [hp]⟩

end Go.Proofs.YtndblondleclpaaGreatDoor
