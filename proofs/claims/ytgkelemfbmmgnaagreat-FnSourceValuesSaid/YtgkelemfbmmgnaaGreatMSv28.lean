/- Some of the texts of this claim, joined in one file: Run, TmV. -/
import Derived.Test.YtgkelemfbmmgnaaGreatMSv25
import Derived.Test.YtgkelemfbmmgnaaGreatMSv26
import Derived.Test.YtgkelemfbmmgnaaGreatMSv27
import Derived.Test.YtgkelemfbmmgnaaGreatMSv17
import Derived.Test.YtgkelemfbmmgnaaGreatMSv10
import Derived.Test.YtgkelemfbmmgnaaGreatMSv4
/- RunState: the program and the reference give the same. Each theorem names its conditions. -/
namespace Go.Proofs.YtgkelemfbmmgnaaGreat
open Go.RowKit
set_option linter.unusedVariables false
set_option linter.unusedSimpArgs false

/-- What a run gives when all terms have been fed, or one could not be. -/
noncomputable def runR : Option (St × List Int) → List Int × Int
  | none => ([], 5)
  | some r => endF r.1 r.2
/-- RunState: terms, and a code. -/
noncomputable def runF (a b c d : Int) (xs : List Int) : List Int × Int :=
  if okS ⟨a, b, c, d⟩ then (if termsP xs then runR (runG xs ⟨a, b, c, d⟩ []) else ([], 1)) else ([], 1)
theorem run_end {xs : List Int} {n : Nat} {s : St} {out : List Int} (hn : ¬ n < xs.length) : runG (xs.drop n) s out = some (s, out) := by
  rw [List.drop_of_length_le (by omega), runG]
theorem run_none {t : Int} {xs : List Int} {n : Nat} {s : St} {out : List Int} (ht : xs[n]? = some t) (hr : feedR s out t = none) : runG (xs.drop n) s out = none := by
  rw [drop_at ht, runG, hr]
theorem run_some {t : Int} {xs : List Int} {n : Nat} {s s' : St} {out out' : List Int} (ht : xs[n]? = some t) (hr : feedR s out t = some (s', out')) : runG (xs.drop n) s out = runG (xs.drop (n + 1)) s' out' := by
  rw [drop_at ht, runG, hr]
theorem shortP_len {l : List Int} (h : termsP (shortL l) = true) : (shortL l).length ≤ 1048576 := by have := (termsP_iff.1 h).1.2; omega
theorem endF_len (s : St) (out : List Int) : (endF s out).1.length ≤ 1048576 := by
  unfold endF
  split
  · split
    · simp
    · split
      · rename_i h; exact shortP_len h
      · simp
  · split
    · split
      · rename_i h; exact shortP_len h
      · simp
    · simp
theorem endF_bad (s : St) (out : List Int) (h : (endF s out).2 ≠ 0) : (endF s out).1 = [] := by
  unfold endF at h ⊢
  split at h
  · rename_i h1
    rw [if_pos h1]
    split at h
    · rename_i h2; rw [if_pos h2]
    · rename_i h2
      rw [if_neg h2]
      split at h
      · exact absurd rfl h
      · rename_i h3; rw [if_neg h3]
  · rename_i h1
    rw [if_neg h1]
    split at h
    · rename_i h2
      rw [if_pos h2]
      split at h
      · exact absurd rfl h
      · rename_i h3; rw [if_neg h3]
    · rename_i h2; rw [if_neg h2]
theorem runF_len (a b c d : Int) (xs : List Int) : (runF a b c d xs).1.length ≤ 1048576 := by
  unfold runF
  split
  · split
    · cases runG xs ⟨a, b, c, d⟩ [] with
      | none => simp [runR]
      | some r => exact endF_len r.1 r.2
    · simp
  · simp
theorem EmJ.bds {s : St} {out : List Int} (h : EmJ s out) : ∀ x ∈ out, -1000000000 ≤ x ∧ x ≤ 1000000000 := fun x hx => by
  obtain ⟨i, hi, rfl⟩ := List.getElem_of_mem hx
  have := h.bd i _ (List.getElem?_eq_getElem hi)
  unfold lowT at this
  split at this <;> omega
theorem term_low {xs : List Int} {n : Nat} {t : Int} {o : List Int} (h : termsP xs = true) (ht : xs[n]? = some t) (h0 : n = 0 → o = []) : o = [] ∨ 1 ≤ t := by
  rcases Nat.eq_zero_or_pos n with e | e
  · exact .inl (h0 e)
  · right
    have := inB_iff.1 ((termsP_iff.1 h).2 n t ht)
    unfold lowT at this
    split at this <;> omega
/-- RunState's post. -/
def RunP (a b c d : Int) (xs : List Int) (w : World) (e : Ending) (w' : World) : Prop :=
  ∃ x n k, e = .returned (.tuple #[.slice x n k, .int .i64 (runF a b c d xs).2]) ∧ Own w' w.heap.size (.slice x n k) (runF a b c d xs).1 ∧ Bl w w'
theorem runp_no {a b c d q : Int} {xs : List Int} {w w' : World} (h : runF a b c d xs = ([], q)) (hb : Bl w w') : RunP a b c d xs w (.returned (.tuple #[.slice none 0 0, .int .i64 q])) w' := by
  unfold RunP; rw [h]; exact ⟨none, 0, 0, rfl, Own.nil _ _, hb⟩
theorem runp_end {a b c d : Int} {xs : List Int} {w w1 w' : World} {p : Nat} {ov : Value} {s : St} {out : List Int} {e : Ending} (h : runF a b c d xs = endF s out) (hs : w.heap.size ≤ w1.heap.size) (he : EndI w1 p ov s out e w') (hb : Bl w w') : RunP a b c d xs w e w' := by
  unfold RunP; rw [h]
  obtain ⟨x, n, k, h1, h2, _⟩ := he
  exact ⟨x, n, k, h1, h2.mono hs, hb⟩
theorem runp_yes {a b c d : Int} {xs l : List Int} {w w1 w' : World} {x : Option Addr} {n k : Nat} (h : runF a b c d xs = (l, 0)) (hs : w.heap.size ≤ w1.heap.size) (ho : Own w' w1.heap.size (.slice x n k) l) (hb : Bl w w') : RunP a b c d xs w (.returned (.tuple #[.slice x n k, .int .i64 0])) w' := by
  unfold RunP; rw [h]
  exact ⟨x, n, k, rfl, ho.mono hs, hb⟩

theorem send_bad {w : World} {p : Nat} {s : St} {v : Value} (hx : Bx w p #[.int .i64 s.a, .int .i64 s.b, .int .i64 s.c, .int .i64 s.d, v, .int .i64 5]) : Calls Tryz.prog 54 #[.pointer (some ⟨p, 0, none⟩)] w fun e w' => e = .returned (.tuple #[]) ∧ w = w' := by
  obtain ⟨c0, f0, _⟩ := hx.out
  go_enter Tryz.func54, Tryz.ntmps54
  go_wp2
  refine bodyPost_ret (results_none rfl _ _ _) rfl ?_
  exact ⟨rfl, rfl⟩

end Go.Proofs.YtgkelemfbmmgnaaGreat

/- The terms of a fraction: they are short and valid; a common factor changes nothing. Each theorem names its conditions. -/
namespace Go.Proofs.YtgkelemfbmmgnaaGreat
set_option linter.unusedVariables false
set_option linter.unusedSimpArgs false

theorem termsF_lastV (f : Nat) : ∀ (n d : Int), 0 < d → d < n → d < f → ∀ x, (termsF n d).getLast? = some x → 2 ≤ x := by
  induction f with
  | zero => intro n d h1 h2 h3; omega
  | succ f ih =>
    intro n d h1 h2 h3 x hx
    have hr := rest_lt (n := n) h1
    rw [termsF_step h1] at hx
    by_cases hz : n - n / d * d = 0
    · rw [hz, termsF_zero] at hx
      simp at hx
      subst hx
      have e : n = n / d * d := by omega
      rcases Int.lt_or_le (n / d) 2 with h | h
      · have := Int.mul_le_mul_of_nonneg_right (show n / d ≤ 1 by omega) (show 0 ≤ d by omega)
        omega
      · exact h
    · have hne : termsF d (n - n / d * d) ≠ [] := by
        have := termsF_pos (n := d) (d := n - n / d * d) (by omega)
        intro e; rw [e] at this; simp at this
      rw [List.getLast?_cons_of_ne_nil hne] at hx
      exact ih d _ (by omega) hr.2 (by omega) x hx
theorem shortL_termsV {n d : Int} (h1 : 0 < d) : shortL (termsF n d) = termsF n d := by
  refine shortL_no fun q => ?_
  obtain ⟨q1, q2⟩ := q
  rw [← List.getLast?_eq_getElem?] at q2
  have hr := rest_lt (n := n) h1
  rw [termsF_step h1] at q1 q2
  by_cases hz : n - n / d * d = 0
  · rw [hz, termsF_zero] at q1
    simp at q1
  · have hne : termsF d (n - n / d * d) ≠ [] := by
      have := termsF_pos (n := d) (d := n - n / d * d) (by omega)
      intro e; rw [e] at this; simp at this
    rw [List.getLast?_cons_of_ne_nil hne] at q2
    have := termsF_lastV (d.toNat + 1) d (n - n / d * d) (by omega) hr.2 (by omega) 1 q2
    omega
theorem terms_okV {n d : Int} (hn : -1000000000 ≤ n ∧ n ≤ 1000000000) (hd : 1 ≤ d ∧ d ≤ 1000000000) : termsP (termsF n d) = true := by
  refine termsP_iff.2 ⟨⟨termsF_pos (by omega), termsF_60 (by omega) (by omega)⟩, fun i x hx => inB_iff.2 ?_⟩
  have := termsF_bd (d.toNat + 1) n d (by omega) (by omega) (by omega) (by omega) i x hx
  unfold lowT
  split at this <;> split <;> omega
theorem termsF_scale (g : Int) (hg : 0 < g) (f : Nat) : ∀ n d : Int, 0 ≤ d → d < f → termsF (g * n) (g * d) = termsF n d := by
  induction f with
  | zero => intro n d h0 h1; omega
  | succ f ih =>
    intro n d h0 h1
    rcases Int.lt_or_le 0 d with h | h
    · have hgd : 0 < g * d := Int.mul_pos hg h
      rw [termsF_step hgd, termsF_step h, Int.mul_ediv_mul_of_pos _ _ hg]
      have hr := rest_lt (n := n) h
      have e : g * n - n / d * (g * d) = g * (n - n / d * d) := by
        rw [Int.mul_sub, Int.mul_left_comm (n / d) g d]
      rw [e, ih d _ (by omega) (by omega)]
    · have : d = 0 := by omega
      subst this
      rw [Int.mul_zero, termsF_zero, termsF_zero]
theorem termsF_low {n d : Int} (hd : 0 < d) : termsF (lowF n d).1 (lowF n d).2 = termsF n d := by
  have hg := gcdI_pos n d (by omega)
  show termsF (n / gcdI n d) (d / gcdI n d) = termsF n d
  obtain ⟨x, hx⟩ := gcdI_dvd_left n d
  obtain ⟨y, hy⟩ := gcdI_dvd_right n d
  generalize gcdI n d = g at hx hy hg ⊢
  subst hx hy
  have hy0 : 0 ≤ y := by
    rcases Int.lt_or_le y 0 with h | h
    · have := Int.mul_neg_of_pos_of_neg hg h
      omega
    · exact h
  rw [Int.mul_ediv_cancel_left _ (by omega), Int.mul_ediv_cancel_left _ (by omega), termsF_scale g hg (y.toNat + 1) x y hy0 (by omega)]

end Go.Proofs.YtgkelemfbmmgnaaGreat

