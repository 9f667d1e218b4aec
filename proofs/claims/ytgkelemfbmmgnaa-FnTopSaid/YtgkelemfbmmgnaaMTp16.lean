/- Some of the texts of this claim, joined in one file: EndS, Run. -/
import Derived.Test.YtgkelemfbmmgnaaMTp15
import Derived.Deep.AppendLies
import Derived.Deep.RegionLaw
import Derived.Test.YtgkelemfbmmgnaaMTp9
import Derived.Test.YtgkelemfbmmgnaaMTp12
import Derived.Test.YtgkelemfbmmgnaaMTp6
/- The end of a stream: the reference. Each theorem names its conditions. -/
namespace Go.Proofs.Ytgkelemfbmmgnaa
open Go.RowKit
set_option linter.unusedVariables false
set_option linter.unusedSimpArgs false

theorem termsF_posE {n d : Int} (h : 1 ≤ d) : 0 < (termsF n d).length := by
  rw [termsF, termsN, if_neg (by omega)]
  simp

/-- append(s, x...) at a step of a region that draws: x is not empty. -/
theorem step_append_sl {w : World} {ops : Array Oper} {o : Oper} {a : Act} {K : Act → World → Prop} {Q : Exit → Act → World → Prop} {E : Prop} (hgd : o.guard = none) (s x : Operand)
    (ho : o.op = .call { callee := .builtin .append, args := #[s, x], argTypes := #[24, 24] })
    (B : Nat) (v : Value) (xs : List Int) (hs : a.eval s = v) (hown : Own w B v xs) (va : Value) (ys : List Int) (hx : a.eval x = va) (hsl : Sl w va ys) (hne : 0 < ys.length)
    (hl : xs.length + ys.length ≤ 1000000000) (hB : B ≤ w.heap.size)
    (h : ∀ v' w', Own w' B v' (xs ++ ys) → w.grownBy w' v.ownBlock → K (a.put o.dst v') w') :
    if Region.wanted o (yielded ops a.tmps) = true then Oper.wp Try.prog o a w K Q else E := by
  obtain ⟨i0, hi, hz0, hz1, hz2⟩ := info_parts info_i64
  obtain ⟨av, cap, rfl, h1, h2, h3, h4, h5⟩ := hsl
  rcases h5 with hy | ⟨b, off, rfl, hc⟩
  · rw [hy] at hne; simp at hne
  · refine step_append_lies w hgd s x 24 ho B 2 i0 (.int .i64 0) 1 8 Try.underlying24 hi hz0 hz1 hz2 rfl (by decide) v xs.length (xs.map (Value.int .i64)) hs hown.1 ⟨b, off, none⟩ ys.length cap (ys.map (Value.int .i64)) hx (by simp) (fun j u hu => ?_) ?_ hne (by unfold maxLen; omega) (by omega) hB _ rfl ?_
    · rw [List.getElem?_map] at hu
      obtain ⟨y, hy, rfl⟩ := Option.map_eq_some_iff.1 hu
      rw [add_lit]
      exact hc j y hy
    · intro u hu
      obtain ⟨y, _, rfl⟩ := List.mem_map.1 hu
      rfl
    · intro g c w' a1 a2 a3 a4
      exact h _ w' (own_of_row hown.2 h3 a1) a2
/-- What the end of the reference's stream leaves. -/
def EndS (w : World) (p : Nat) (ov : Value) (s : St) (out : List Int) (e : Ending) (w' : World) : Prop :=
  e = .returned (.tuple #[]) ∧ Upv w w' p ov ∧ ∃ v1 : Value, Bx w' p #[.int .i64 s.a, .int .i64 s.b, .int .i64 s.c, .int .i64 s.d, v1, .int .i64 (endF s out).2] ∧ ((endF s out).2 = 0 → ∃ a k c, v1 = .slice a k c ∧ Own w' w.heap.size v1 (endF s out).1)
theorem ends_no {w w' : World} {p : Nat} {ov v1 : Value} {s : St} {out l : List Int} {c : Int} (h : endF s out = (l, c)) (hc : c ≠ 0) (hu : Upv w w' p ov) (hx : Bx w' p #[.int .i64 s.a, .int .i64 s.b, .int .i64 s.c, .int .i64 s.d, v1, .int .i64 c]) : EndS w p ov s out (.returned (.tuple #[])) w' := by
  unfold EndS; rw [h]; exact ⟨rfl, hu, v1, hx, fun q => absurd q hc⟩
theorem ends_yes {w w' : World} {p k n : Nat} {ov : Value} {s : St} {out l : List Int} {a : Option Addr} (h : endF s out = (l, 0)) (hu : Upv w w' p ov) (hx : Bx w' p #[.int .i64 s.a, .int .i64 s.b, .int .i64 s.c, .int .i64 s.d, .slice a k n, .int .i64 0]) (ho : Own w' w.heap.size (.slice a k n) l) : EndS w p ov s out (.returned (.tuple #[])) w' := by
  unfold EndS; rw [h]; exact ⟨rfl, hu, _, hx, fun _ => ⟨a, k, n, rfl, ho⟩⟩

end Go.Proofs.Ytgkelemfbmmgnaa

/- RunState: the program and the reference give the same. Each theorem names its conditions. -/
namespace Go.Proofs.Ytgkelemfbmmgnaa
open Go.RowKit
set_option linter.unusedVariables false
set_option linter.unusedSimpArgs false

/-- What a run gives when all terms have been fed, or one could not be. -/
noncomputable def runR : Option (St × List Int) → List Int × Int
  | none => ([], 5)
  | some r => endF r.1 r.2
/-- RunState: terms, and a code. -/
noncomputable def runF (a b c d : Int) (xs : List Int) : List Int × Int :=
  if okS ⟨a, b, c, d⟩ then (if termsP xs then runR (runG xs ⟨a, b, c, d⟩ []) else ([], 1)) else ([], 1)
theorem run_end {xs : List Int} {n : Nat} {s : St} {out : List Int} (hn : ¬ n < xs.length) : runG (xs.drop n) s out = some (s, out) := by
  rw [List.drop_of_length_le (by omega), runG]
theorem run_none {t : Int} {xs : List Int} {n : Nat} {s : St} {out : List Int} (ht : xs[n]? = some t) (hr : feedR s out t = none) : runG (xs.drop n) s out = none := by
  rw [drop_at ht, runG, hr]
theorem run_some {t : Int} {xs : List Int} {n : Nat} {s s' : St} {out out' : List Int} (ht : xs[n]? = some t) (hr : feedR s out t = some (s', out')) : runG (xs.drop n) s out = runG (xs.drop (n + 1)) s' out' := by
  rw [drop_at ht, runG, hr]
theorem shortP_len {l : List Int} (h : termsP (shortL l) = true) : (shortL l).length ≤ 1048576 := by have := (termsP_iff.1 h).1.2; omega
theorem endF_len (s : St) (out : List Int) : (endF s out).1.length ≤ 1048576 := by
  unfold endF
  split
  · split
    · simp
    · split
      · rename_i h; exact shortP_len h
      · simp
  · split
    · split
      · rename_i h; exact shortP_len h
      · simp
    · simp
theorem endF_bad (s : St) (out : List Int) (h : (endF s out).2 ≠ 0) : (endF s out).1 = [] := by
  unfold endF at h ⊢
  split at h
  · rename_i h1
    rw [if_pos h1]
    split at h
    · rename_i h2; rw [if_pos h2]
    · rename_i h2
      rw [if_neg h2]
      split at h
      · exact absurd rfl h
      · rename_i h3; rw [if_neg h3]
  · rename_i h1
    rw [if_neg h1]
    split at h
    · rename_i h2
      rw [if_pos h2]
      split at h
      · exact absurd rfl h
      · rename_i h3; rw [if_neg h3]
    · rename_i h2; rw [if_neg h2]
theorem runF_len (a b c d : Int) (xs : List Int) : (runF a b c d xs).1.length ≤ 1048576 := by
  unfold runF
  split
  · split
    · cases runG xs ⟨a, b, c, d⟩ [] with
      | none => simp [runR]
      | some r => exact endF_len r.1 r.2
    · simp
  · simp
theorem EmJ.bds {s : St} {out : List Int} (h : EmJ s out) : ∀ x ∈ out, -1000000000 ≤ x ∧ x ≤ 1000000000 := fun x hx => by
  obtain ⟨i, hi, rfl⟩ := List.getElem_of_mem hx
  have := h.bd i _ (List.getElem?_eq_getElem hi)
  unfold lowT at this
  split at this <;> omega
theorem term_low {xs : List Int} {n : Nat} {t : Int} {o : List Int} (h : termsP xs = true) (ht : xs[n]? = some t) (h0 : n = 0 → o = []) : o = [] ∨ 1 ≤ t := by
  rcases Nat.eq_zero_or_pos n with e | e
  · exact .inl (h0 e)
  · right
    have := inB_iff.1 ((termsP_iff.1 h).2 n t ht)
    unfold lowT at this
    split at this <;> omega
/-- RunState's post. -/
def RunP (a b c d : Int) (xs : List Int) (w : World) (e : Ending) (w' : World) : Prop :=
  ∃ x n k, e = .returned (.tuple #[.slice x n k, .int .i64 (runF a b c d xs).2]) ∧ Own w' w.heap.size (.slice x n k) (runF a b c d xs).1 ∧ Bl w w'
theorem runp_no {a b c d q : Int} {xs : List Int} {w w' : World} (h : runF a b c d xs = ([], q)) (hb : Bl w w') : RunP a b c d xs w (.returned (.tuple #[.slice none 0 0, .int .i64 q])) w' := by
  unfold RunP; rw [h]; exact ⟨none, 0, 0, rfl, Own.nil _ _, hb⟩
theorem runp_end {a b c d : Int} {xs : List Int} {w w1 w' : World} {p : Nat} {ov : Value} {s : St} {out : List Int} {e : Ending} (h : runF a b c d xs = endF s out) (hs : w.heap.size ≤ w1.heap.size) (he : EndI w1 p ov s out e w') (hb : Bl w w') : RunP a b c d xs w e w' := by
  unfold RunP; rw [h]
  obtain ⟨x, n, k, h1, h2, _⟩ := he
  exact ⟨x, n, k, h1, h2.mono hs, hb⟩
theorem runp_yes {a b c d : Int} {xs l : List Int} {w w1 w' : World} {x : Option Addr} {n k : Nat} (h : runF a b c d xs = (l, 0)) (hs : w.heap.size ≤ w1.heap.size) (ho : Own w' w1.heap.size (.slice x n k) l) (hb : Bl w w') : RunP a b c d xs w (.returned (.tuple #[.slice x n k, .int .i64 0])) w' := by
  unfold RunP; rw [h]
  exact ⟨x, n, k, rfl, ho.mono hs, hb⟩

end Go.Proofs.Ytgkelemfbmmgnaa

