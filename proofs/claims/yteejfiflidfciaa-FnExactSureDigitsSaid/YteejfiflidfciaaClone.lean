/- Copies of lists of numbers: slices.Clone and the reference's own; the short form of terms. Each theorem names its conditions. -/
import Derived.Test.YteejfiflidfciaaApp
import Derived.Test.YteejfiflidfciaaNum
namespace Go.Proofs.Yteejfiflidfciaa
open Go.RowKit
set_option linter.unusedVariables false
set_option linter.unusedSimpArgs false

set_option maxHeartbeats 400000 in
theorem own_any (va : Value) (xs : List Int) (w : World) (ha : Sl w va xs) (hl : xs.length ≤ 1000000) :
    Calls Try.prog 101 #[va] w fun e w' => ∃ a c, e = .returned (.slice a xs.length c) ∧ Own w' w.heap.size (.slice a xs.length c) xs ∧ Bl w w' := by
  obtain ⟨a, c, rfl, hc⟩ : ∃ a c, va = .slice a xs.length c ∧ xs.length ≤ c := by obtain ⟨a, c, e, h, _⟩ := ha; exact ⟨a, c, e, h⟩
  go_enter Try.func101, Try.ntmps101
  go_wp2_with (at_builtin; refine wpList_append_sl rfl _ _ rfl w.heap.size _ [] (by rfl) (own_made w (Nat.le_refl _)) _ xs (by rfl) (ha.alloc _) (by simp; omega) (by simp) ?_; intro v' w1 ho hg _)
  have HB := bl_grown (bl_alloc (bl_refl w) (.cells #[] 2)) hg (fun k hk => by simp [Value.ownBlock] at hk; omega)
  clear hg
  obtain ⟨a1, c1, rfl, _⟩ := ho.form
  go_wp2
  go_ret
  exact ⟨_, _, rfl, ho, HB⟩

set_option maxRecDepth 100000 in
set_option maxHeartbeats 400000 in
theorem clone_any (va : Value) (xs : List Int) (w : World) (ha : Sl w va xs) (hl : xs.length ≤ 1000000) :
    Calls Try.prog 105 #[va] w fun e w' => ∃ a c, e = .returned (.slice a xs.length c) ∧ Own w' w.heap.size (.slice a xs.length c) xs ∧ Bl w w' := by
  obtain ⟨a, c, rfl, hc, hz⟩ : ∃ a c, va = .slice a xs.length c ∧ xs.length ≤ c ∧ (a = none → c = 0) := by obtain ⟨a, c, e, h, _, _, h4, _⟩ := ha; exact ⟨a, c, e, h, h4⟩
  cases a with
  | none =>
    have hc0 := hz rfl
    subst hc0
    have hx : xs = [] := List.eq_nil_of_length_eq_zero (by omega)
    subst hx
    have hq := fun (w : World) (a : Option Addr) (n c n' c' : Nat) => Lib.run_eql_slice_nil (P := Try.prog) w 41 2 a n c n' c' Try.underlying41
    go_enter Try.func105, Try.ntmps105
    go_wp2
    go_ret
    exact ⟨_, _, rfl, Own.nil _ _, bl_refl _⟩
  | some ad =>
    clear hz
    have hq := fun (w : World) (a : Option Addr) (n c n' c' : Nat) => Lib.run_eql_slice_nil (P := Try.prog) w 41 2 a n c n' c' Try.underlying41
    go_enter Try.func105, Try.ntmps105
    go_wp2_with (at_builtin; refine wpList_append_sl rfl _ _ rfl w.heap.size _ [] (by rfl) (own_made w (Nat.le_refl _)) _ xs (by rfl) (ha.alloc _) (by simp; omega) (by simp) ?_; intro v' w1 ho hg _)
    have HB := bl_grown (bl_alloc (bl_refl w) (.cells #[] 2)) hg (fun k hk => by simp [Value.ownBlock] at hk; omega)
    clear hg
    obtain ⟨a1, c1, rfl, _⟩ := ho.form
    go_wp2
    go_ret
    exact ⟨_, _, rfl, ho, HB⟩

theorem Own.addr {w : World} {B : Nat} {a : Option Addr} {n c : Nat} {xs : List Int} (h : Own w B (.slice a n c) xs) (hx : 0 < xs.length) : ∃ g, a = some ⟨g, 0, none⟩ ∧ B ≤ g ∧ g < w.heap.size := by
  rcases h.1.2 with ⟨e, h0⟩ | ⟨g, cap, cur, e, hg, hh, hn, hm, hs, ht⟩
  · omega
  · simp only [Value.slice.injEq] at e
    obtain ⟨rfl, rfl, rfl⟩ := e
    exact ⟨g, rfl, hg, (Array.getElem?_eq_some_iff.1 hh).1⟩
theorem Own.num {w : World} {B : Nat} {a : Option Addr} {n c : Nat} {xs : List Int} (h : Own w B (.slice a n c) xs) : n = xs.length := by
  obtain ⟨a', c', e, _⟩ := h.form
  simp only [Value.slice.injEq] at e
  exact e.2.1
/-- A store into a list of the call's own. -/
theorem Own.stored {w : World} {B : Nat} {g n c : Nat} {xs : List Int} (h : Own w B (.slice (some ⟨g, 0, none⟩) n c) xs) (j : Nat) (y : Int) (hy : R64 y) :
    Own (w.setCell ⟨g, j, none⟩ (.int .i64 y)) B (.slice (some ⟨g, 0, none⟩) n c) (xs.set j y) ∧ w.grownBy (w.setCell ⟨g, j, none⟩ (.int .i64 y)) (some g) := by
  have hn := h.num
  subst hn
  have hS := h.1.stored j (.int .i64 y)
  refine ⟨⟨by rw [List.length_set, List.map_set]; exact hS.1, fun x hx => ?_⟩, hS.2⟩
  rcases List.mem_or_eq_of_mem_set hx with h1 | h1
  · exact h.2 x h1
  · exact h1 ▸ hy
theorem Own.cellAt {w : World} {B : Nat} {g n c : Nat} {xs : List Int} (h : Own w B (.slice (some ⟨g, 0, none⟩) n c) xs) {j : Nat} (hj : j < xs.length) :
    ∃ x, xs[j]? = some x ∧ w.cell? ⟨g, j, none⟩ = some (.int .i64 x) ∧ w.frozen? ⟨g, j, none⟩ = false ∧ R64 x := by
  have hx : xs[j]? = some xs[j] := List.getElem?_eq_getElem hj
  have hn := h.num
  subst hn
  have h1 := h.1.cellAt j (by omega)
  rw [List.getElem?_map, hx] at h1
  exact ⟨_, hx, h1, h.1.frozenAt j, h.2 _ (List.getElem_mem hj)⟩


end Go.Proofs.Yteejfiflidfciaa
