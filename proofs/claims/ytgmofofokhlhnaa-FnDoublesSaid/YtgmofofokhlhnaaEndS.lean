/- The end of a stream: the reference. Each theorem names its conditions. -/
import Derived.Test.YtgmofofokhlhnaaEndI
import Derived.Deep.AppendLies
import Derived.Deep.RegionLaw
import Derived.Test.YtgmofofokhlhnaaApp
namespace Go.Proofs.Ytgmofofokhlhnaa
open Go.RowKit
set_option linter.unusedVariables false
set_option linter.unusedSimpArgs false

theorem termsF_posE {n d : Int} (h : 1 ≤ d) : 0 < (termsF n d).length := by
  rw [termsF, termsN, if_neg (by omega)]
  simp

/-- append(s, x...) at a step of a region that draws: x is not empty. -/
theorem step_append_sl {w : World} {ops : Array Oper} {o : Oper} {a : Act} {K : Act → World → Prop} {Q : Exit → Act → World → Prop} {E : Prop} (hgd : o.guard = none) (s x : Operand)
    (ho : o.op = .call { callee := .builtin .append, args := #[s, x], argTypes := #[24, 24] })
    (B : Nat) (v : Value) (xs : List Int) (hs : a.eval s = v) (hown : Own w B v xs) (va : Value) (ys : List Int) (hx : a.eval x = va) (hsl : Sl w va ys) (hne : 0 < ys.length)
    (hl : xs.length + ys.length ≤ 1000000000) (hB : B ≤ w.heap.size)
    (h : ∀ v' w', Own w' B v' (xs ++ ys) → w.grownBy w' v.ownBlock → K (a.put o.dst v') w') :
    if Region.wanted o (yielded ops a.tmps) = true then Oper.wp Try.prog o a w K Q else E := by
  obtain ⟨i0, hi, hz0, hz1, hz2⟩ := info_parts info_i64
  obtain ⟨av, cap, rfl, h1, h2, h3, h4, h5⟩ := hsl
  rcases h5 with hy | ⟨b, off, rfl, hc⟩
  · rw [hy] at hne; simp at hne
  · refine step_append_lies w hgd s x 24 ho B 2 i0 (.int .i64 0) 1 8 Try.underlying24 hi hz0 hz1 hz2 rfl (by decide) v xs.length (xs.map (Value.int .i64)) hs hown.1 ⟨b, off, none⟩ ys.length cap (ys.map (Value.int .i64)) hx (by simp) (fun j u hu => ?_) ?_ hne (by unfold maxLen; omega) (by omega) hB _ rfl ?_
    · rw [List.getElem?_map] at hu
      obtain ⟨y, hy, rfl⟩ := Option.map_eq_some_iff.1 hu
      rw [add_lit]
      exact hc j y hy
    · intro u hu
      obtain ⟨y, _, rfl⟩ := List.mem_map.1 hu
      rfl
    · intro g c w' a1 a2 a3 a4
      exact h _ w' (own_of_row hown.2 h3 a1) a2
/-- What the end of the reference's stream leaves. -/
def EndS (w : World) (p : Nat) (ov : Value) (s : St) (out : List Int) (e : Ending) (w' : World) : Prop :=
  e = .returned (.tuple #[]) ∧ Upv w w' p ov ∧ ∃ v1 : Value, Bx w' p #[.int .i64 s.a, .int .i64 s.b, .int .i64 s.c, .int .i64 s.d, v1, .int .i64 (endF s out).2] ∧ ((endF s out).2 = 0 → ∃ a k c, v1 = .slice a k c ∧ Own w' w.heap.size v1 (endF s out).1)
theorem ends_no {w w' : World} {p : Nat} {ov v1 : Value} {s : St} {out l : List Int} {c : Int} (h : endF s out = (l, c)) (hc : c ≠ 0) (hu : Upv w w' p ov) (hx : Bx w' p #[.int .i64 s.a, .int .i64 s.b, .int .i64 s.c, .int .i64 s.d, v1, .int .i64 c]) : EndS w p ov s out (.returned (.tuple #[])) w' := by
  unfold EndS; rw [h]; exact ⟨rfl, hu, v1, hx, fun q => absurd q hc⟩
theorem ends_yes {w w' : World} {p k n : Nat} {ov : Value} {s : St} {out l : List Int} {a : Option Addr} (h : endF s out = (l, 0)) (hu : Upv w w' p ov) (hx : Bx w' p #[.int .i64 s.a, .int .i64 s.b, .int .i64 s.c, .int .i64 s.d, .slice a k n, .int .i64 0]) (ho : Own w' w.heap.size (.slice a k n) l) : EndS w p ov s out (.returned (.tuple #[])) w' := by
  unfold EndS; rw [h]; exact ⟨rfl, hu, _, hx, fun _ => ⟨a, k, n, rfl, ho⟩⟩

end Go.Proofs.Ytgmofofokhlhnaa
