/- Copies of lists of numbers: slices.Clone and the reference's own; the short form of terms. Each theorem names its conditions. -/
import Derived.Test.YtndblondleclpaaGreatDoorApp
import Derived.Test.YtndblondleclpaaGreatDoorNum
namespace Go.Proofs.YtndblondleclpaaGreatDoor
open Go.RowKit
set_option linter.unusedVariables false
set_option linter.unusedSimpArgs false

set_option maxHeartbeats 400000 in
theorem own_any (va : Value) (xs : List Int) (w : World) (ha : Sl w va xs) (hl : xs.length ≤ 1000000) :
    Calls Tryz.prog 55 #[va] w fun e w' => ∃ a c, e = .returned (.slice a xs.length c) ∧ Own w' w.heap.size (.slice a xs.length c) xs ∧ Bl w w' := by
  obtain ⟨a, c, rfl, hc⟩ : ∃ a c, va = .slice a xs.length c ∧ xs.length ≤ c := by obtain ⟨a, c, e, h, _⟩ := ha; exact ⟨a, c, e, h⟩
  go_enter Tryz.func55, Tryz.ntmps55
  go_wp2_with (at_builtin; refine wpList_append_sl rfl _ _ rfl w.heap.size _ [] (by rfl) (own_made w (Nat.le_refl _)) _ xs (by rfl) (ha.alloc _) (by simp; omega) (by simp) ?_; intro v' w1 ho hg _)
  have HB := bl_grown (bl_alloc (bl_refl w) (.cells #[] 2)) hg (fun k hk => by simp [Value.ownBlock] at hk; omega)
  clear hg
  obtain ⟨a1, c1, rfl, _⟩ := ho.form
  go_wp2
  go_ret
  exact ⟨_, _, rfl, ho, HB⟩

set_option maxRecDepth 100000 in
set_option maxHeartbeats 400000 in
theorem clone_any (va : Value) (xs : List Int) (w : World) (ha : Sl w va xs) (hl : xs.length ≤ 1000000) :
    Calls Tryz.prog 53 #[va] w fun e w' => ∃ a c, e = .returned (.slice a xs.length c) ∧ Own w' w.heap.size (.slice a xs.length c) xs ∧ Bl w w' := by
  obtain ⟨a, c, rfl, hc, hz⟩ : ∃ a c, va = .slice a xs.length c ∧ xs.length ≤ c ∧ (a = none → c = 0) := by obtain ⟨a, c, e, h, _, _, h4, _⟩ := ha; exact ⟨a, c, e, h, h4⟩
  cases a with
  | none =>
    have hc0 := hz rfl
    subst hc0
    have hx : xs = [] := List.eq_nil_of_length_eq_zero (by omega)
    subst hx
    have hq := fun (w : World) (a : Option Addr) (n c n' c' : Nat) => Lib.run_eql_slice_nil (P := Tryz.prog) w 24 2 a n c n' c' Tryz.underlying24
    go_enter Tryz.func53, Tryz.ntmps53
    go_wp2
    go_ret
    exact ⟨_, _, rfl, Own.nil _ _, bl_refl _⟩
  | some ad =>
    clear hz
    have hq := fun (w : World) (a : Option Addr) (n c n' c' : Nat) => Lib.run_eql_slice_nil (P := Tryz.prog) w 24 2 a n c n' c' Tryz.underlying24
    go_enter Tryz.func53, Tryz.ntmps53
    go_wp2_with (at_builtin; refine wpList_append_sl rfl _ _ rfl w.heap.size _ [] (by rfl) (own_made w (Nat.le_refl _)) _ xs (by rfl) (ha.alloc _) (by simp; omega) (by simp) ?_; intro v' w1 ho hg _)
    have HB := bl_grown (bl_alloc (bl_refl w) (.cells #[] 2)) hg (fun k hk => by simp [Value.ownBlock] at hk; omega)
    clear hg
    obtain ⟨a1, c1, rfl, _⟩ := ho.form
    go_wp2
    go_ret
    exact ⟨_, _, rfl, ho, HB⟩

end Go.Proofs.YtndblondleclpaaGreatDoor
