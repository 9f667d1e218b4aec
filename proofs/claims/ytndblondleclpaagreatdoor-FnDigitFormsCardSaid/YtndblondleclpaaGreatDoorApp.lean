/- append to a list of the call's own: a list of numbers, one number. Copies of lists. Each theorem names its conditions. -/
import Derived.Test.YtndblondleclpaaGreatDoorLawI
import Derived.Test.YtndblondleclpaaGreatDoorAppF
import Derived.Laws.AppendOwnNone
import Derived.Maps.AppendAt
import Derived.OwnWalk
namespace Go.Proofs.YtndblondleclpaaGreatDoor
open Go.RowKit
set_option linter.unusedVariables false
set_option linter.unusedSimpArgs false

theorem Own.form {w : World} {B : Nat} {v : Value} {xs : List Int} (h : Own w B v xs) : ∃ a c, v = .slice a xs.length c ∧ xs.length ≤ c := by
  obtain ⟨a, cap, rfl, h1, _⟩ := h.sl
  exact ⟨a, cap, rfl, h1⟩

theorem add_lit (b o j : Nat) : (⟨b, o, none⟩ : Addr).add j = ⟨b, o + j, none⟩ := by unfold Addr.add; split <;> simp_all

theorem own_of_row {w : World} {B : Nat} {v : Value} {xs ys : List Int} (hx : ∀ x ∈ xs, R64 x) (hy : ∀ x ∈ ys, R64 x) (h : w.ownsRow B 2 1 v (xs.length + ys.length) (xs.map (Value.int .i64) ++ ys.map (Value.int .i64))) : Own w B v (xs ++ ys) :=
  ⟨by rw [List.length_append, List.map_append]; exact h, fun x hx' => (List.mem_append.1 hx').elim (hx x) (hy x)⟩

/-- append(s, x...): s the call's own, x whatever reads as a list. -/
theorem wpList_append_sl {w : World} {ops : Array Oper} {rest : List Oper} {o : Oper} {a : Act} {Q : Exit → Act → World → Prop} (hgd : o.guard = none) (s x : Operand)
    (ho : o.op = .call { callee := .builtin .append, args := #[s, x], argTypes := #[24, 24] })
    (B : Nat) (v : Value) (xs : List Int) (hs : a.eval s = v) (hown : Own w B v xs) (va : Value) (ys : List Int) (hx : a.eval x = va) (hsl : Sl w va ys)
    (hl : xs.length + ys.length ≤ 1000000000) (hB : B ≤ w.heap.size)
    (h : ∀ v' w', Own w' B v' (xs ++ ys) → w.grownBy w' v.ownBlock → (v'.ownBlock = v.ownBlock ∨ v'.ownBlock = some w.heap.size) → wpList Tryz.prog ops Q rest (a.put o.dst v') w') :
    wpList Tryz.prog ops Q (o :: rest) a w := by
  obtain ⟨i0, hi, hz0, hz1, hz2⟩ := info_parts info_i64
  obtain ⟨av, cap, rfl, h1, h2, h3, h4, h5⟩ := hsl
  have go : ∀ ad, av = some ad → (∀ j u, (ys.map (Value.int .i64))[j]? = some u → w.cell? (ad.add j) = some u) → wpList Tryz.prog ops Q (o :: rest) a w := by
    intro ad e hc
    subst e
    refine wpList_append_own_at w hgd s x 24 ho B 2 i0 (.int .i64 0) 1 8 Tryz.underlying24 hi hz0 hz1 hz2 rfl (by decide) v xs.length (xs.map (Value.int .i64)) hs hown.1 ad ys.length cap (ys.map (Value.int .i64)) hx (by simp) hc ?_ (by unfold maxLen; omega) (by omega) hB ?_
    · intro u hu
      obtain ⟨y, _, rfl⟩ := List.mem_map.1 hu
      rfl
    · intro v' w' a1 a2 _ a4
      exact h v' w' (own_of_row hown.2 h3 a1) a2 a4
  rcases av with _ | ad
  · have hc := h4 rfl
    subst hc
    have hy : ys = [] := List.eq_nil_of_length_eq_zero (by omega)
    subst hy
    refine wpList_append_own_none hgd s x 24 ho B 2 i0 1 Tryz.underlying24 hi v xs.length (xs.map (Value.int .i64)) hs hown.1 hx ?_
    exact h v w (by rw [List.append_nil]; exact hown) (World.grownBy.refl _ _) (.inl rfl)
  · rcases h5 with hy | ⟨b, off, e, hc⟩
    · subst hy
      exact go ad rfl (fun j u hu => by simp at hu)
    · refine go ad rfl (fun j u hu => ?_)
      obtain rfl : ad = ⟨b, off, none⟩ := Option.some.inj e
      rw [List.getElem?_map] at hu
      obtain ⟨y, hy, rfl⟩ := Option.map_eq_some_iff.1 hu
      rw [add_lit]
      exact hc j y hy
/-- append(s, x): one number. -/
theorem wpList_append_one {w : World} {ops : Array Oper} {rest : List Oper} {o : Oper} {a : Act} {Q : Exit → Act → World → Prop} (hgd : o.guard = none) (s x : Operand)
    (ho : o.op = .call { callee := .builtin .append, args := #[s, x], argTypes := #[24, 24] })
    (B : Nat) (v : Value) (xs : List Int) (hs : a.eval s = v) (hown : Own w B v xs) (y : Int) (hy : R64 y)
    (hx : a.eval x = .slice (some ⟨w.heap.size, 0, none⟩) 1 1) (hl : xs.length < 1000000000) (hB : B ≤ w.heap.size)
    (h : ∀ v' w', Own w' B v' (xs ++ [y]) → w.grownBy w' v.ownBlock → (v'.ownBlock = v.ownBlock ∨ v'.ownBlock = some (w.heap.size + 1)) → wpList Tryz.prog ops Q rest (a.put o.dst v') w') :
    wpList Tryz.prog ops Q (o :: rest) a (w.alloc (.cells #[.int .i64 y] 2)) := by
  refine wpList_append_sl hgd s x ho B v xs hs (hown.alloc _) _ [y] hx ⟨_, 1, rfl, Nat.le_refl _, by simp [maxLen], by simpa using hy, by simp, .inr ⟨w.heap.size, 0, rfl, fun i z hz => ?_⟩⟩ (by simp; omega) (by simp; omega) (fun v' w' h1 h2 h3 => ?_)
  · match i, hz with
    | 0, hz => simp at hz; subst hz; simp
  · refine h v' w' h1 ?_ (by simpa using h3)
    exact ⟨h2.os, h2.tape, h2.output, Nat.le_trans (by simp) h2.size, fun k hk hne => (h2.block k (by simp; omega) hne).trans (heap_alloc_old w _ hk)⟩

/-- An empty list of the call's own. -/
theorem own_made (w : World) {B : Nat} (hB : B ≤ w.heap.size) : Own (w.alloc (.cells #[] 2)) B (.slice (some ⟨w.heap.size, 0, none⟩) 0 0) [] :=
  ⟨World.ownsRow_made w #[] 0 hB (by simp [maxLen]) (by simp), by simp⟩
end Go.Proofs.YtndblondleclpaaGreatDoor
