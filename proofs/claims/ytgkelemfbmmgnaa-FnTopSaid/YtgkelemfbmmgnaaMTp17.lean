/- Some of the texts of this claim, joined in one file: DbR, TmV. -/
import Derived.Test.YtgkelemfbmmgnaaMTp14
import Derived.Test.YtgkelemfbmmgnaaMTp16
import Derived.Test.YtgkelemfbmmgnaaMTp12
import Derived.Test.YtgkelemfbmmgnaaMTp6
import Derived.Test.YtgkelemfbmmgnaaMTp10
import Derived.Test.YtgkelemfbmmgnaaMTp4
/- A run of a function of two numbers, plain. No condition but what each theorem names. -/
namespace Go.Proofs.Ytgkelemfbmmgnaa
set_option linter.unusedVariables false
set_option linter.unusedSimpArgs false

/-- The rest of a run, when one of the two has ended. -/
noncomputable def restF (s : St) (out ts : List Int) : List Int × Int :=
  match emitF 1073741824 s out with
  | none => ([], 5)
  | some r => runR (runG ts r.1 r.2)
noncomputable def runDN (xs ys : List Int) : Nat → Nat → Db → List Int → List Int × Int
  | 0, _, _, _ => ([], 5)
  | f + 1, i, d, out =>
    let step (d' : Db) : List Int × Int :=
      if okD d' then (if i = 0 then runDN xs ys f (i + 1) d' out else match emitDF d' out with
        | none => ([], 5)
        | some r => if r.2.2 then (shortL r.2.1, 0) else runDN xs ys f (i + 1) r.1 r.2.1) else ([], 5)
    if i % 2 = 0 then (match xs[i / 2]? with | none => restF (leX d) out (ys.drop (i / 2)) | some t => step (fdX d t))
    else (match ys[i / 2]? with | none => restF (leY d) out (xs.drop (i / 2 + 1)) | some t => step (fdY d t))
noncomputable def runDF (xs ys : List Int) (i : Nat) (d : Db) (out : List Int) : List Int × Int := runDN xs ys (2 * xs.length + 1 - i) i d out
/-- What a turn does behind its feeding. -/
noncomputable def stepD (xs ys : List Int) (i : Nat) (d' : Db) (out : List Int) : List Int × Int :=
  if okD d' then (if i = 0 then runDF xs ys (i + 1) d' out else match emitDF d' out with
    | none => ([], 5)
    | some r => if r.2.2 then (shortL r.2.1, 0) else runDF xs ys (i + 1) r.1 r.2.1) else ([], 5)
theorem rund_x {xs ys : List Int} {i : Nat} {d : Db} {out : List Int} {t : Int} (hi : i ≤ 2 * xs.length) (h2 : i % 2 = 0) (ht : xs[i / 2]? = some t) : runDF xs ys i d out = stepD xs ys i (fdX d t) out := by
  unfold runDF stepD
  rw [show 2 * xs.length + 1 - i = (2 * xs.length + 1 - (i + 1)) + 1 by omega, runDN]
  simp only []
  rw [if_pos h2, ht]
  rfl
theorem rund_y {xs ys : List Int} {i : Nat} {d : Db} {out : List Int} {t : Int} (hi : i ≤ 2 * xs.length) (h2 : ¬ i % 2 = 0) (ht : ys[i / 2]? = some t) : runDF xs ys i d out = stepD xs ys i (fdY d t) out := by
  unfold runDF stepD
  rw [show 2 * xs.length + 1 - i = (2 * xs.length + 1 - (i + 1)) + 1 by omega, runDN]
  simp only []
  rw [if_neg h2, ht]
  rfl
theorem rund_xend {xs ys : List Int} {i : Nat} {d : Db} {out : List Int} (hi : i ≤ 2 * xs.length) (h2 : i % 2 = 0) (ht : ¬ i / 2 < xs.length) : runDF xs ys i d out = restF (leX d) out (ys.drop (i / 2)) := by
  unfold runDF
  rw [show 2 * xs.length + 1 - i = (2 * xs.length + 1 - (i + 1)) + 1 by omega, runDN]
  simp only []
  rw [if_pos h2, List.getElem?_eq_none (by omega)]
theorem rund_yend {xs ys : List Int} {i : Nat} {d : Db} {out : List Int} (hi : i ≤ 2 * xs.length) (h2 : ¬ i % 2 = 0) (ht : ¬ i / 2 < ys.length) : runDF xs ys i d out = restF (leY d) out (xs.drop (i / 2 + 1)) := by
  unfold runDF
  rw [show 2 * xs.length + 1 - i = (2 * xs.length + 1 - (i + 1)) + 1 by omega, runDN]
  simp only []
  rw [if_neg h2, List.getElem?_eq_none (by omega)]
theorem stepd_bad {xs ys : List Int} {i : Nat} {d' : Db} {out : List Int} (h : okD d' = false) : stepD xs ys i d' out = ([], 5) := by
  unfold stepD; rw [h, if_neg (by simp)]
theorem stepd_0 {xs ys : List Int} {i : Nat} {d' : Db} {out : List Int} (h : okD d' = true) (hi : i = 0) : stepD xs ys i d' out = runDF xs ys (i + 1) d' out := by
  unfold stepD; rw [if_pos h, if_pos hi]
theorem stepd_none {xs ys : List Int} {i : Nat} {d' : Db} {out : List Int} (h : okD d' = true) (hi : i ≠ 0) (he : emitDF d' out = none) : stepD xs ys i d' out = ([], 5) := by
  unfold stepD; rw [if_pos h, if_neg hi, he]
theorem stepd_done {xs ys : List Int} {i : Nat} {d' d2 : Db} {out o2 : List Int} (h : okD d' = true) (hi : i ≠ 0) (he : emitDF d' out = some (d2, o2, true)) : stepD xs ys i d' out = (shortL o2, 0) := by
  unfold stepD; rw [if_pos h, if_neg hi, he]; simp
theorem stepd_on {xs ys : List Int} {i : Nat} {d' d2 : Db} {out o2 : List Int} (h : okD d' = true) (hi : i ≠ 0) (he : emitDF d' out = some (d2, o2, false)) : stepD xs ys i d' out = runDF xs ys (i + 1) d2 o2 := by
  unfold stepD; rw [if_pos h, if_neg hi, he]; simp
/-- RunDouble: terms, and a code. -/
noncomputable def runDo (d : Db) (xs ys : List Int) : List Int × Int :=
  if okD d then (if termsP xs then (if termsP ys then runDF xs ys 0 d [] else ([], 1)) else ([], 1)) else ([], 1)

end Go.Proofs.Ytgkelemfbmmgnaa

/- The terms of a fraction: they are short and valid; a common factor changes nothing. Each theorem names its conditions. -/
namespace Go.Proofs.Ytgkelemfbmmgnaa
set_option linter.unusedVariables false
set_option linter.unusedSimpArgs false

theorem termsF_lastV (f : Nat) : ∀ (n d : Int), 0 < d → d < n → d < f → ∀ x, (termsF n d).getLast? = some x → 2 ≤ x := by
  induction f with
  | zero => intro n d h1 h2 h3; omega
  | succ f ih =>
    intro n d h1 h2 h3 x hx
    have hr := rest_lt (n := n) h1
    rw [termsF_step h1] at hx
    by_cases hz : n - n / d * d = 0
    · rw [hz, termsF_zero] at hx
      simp at hx
      subst hx
      have e : n = n / d * d := by omega
      rcases Int.lt_or_le (n / d) 2 with h | h
      · have := Int.mul_le_mul_of_nonneg_right (show n / d ≤ 1 by omega) (show 0 ≤ d by omega)
        omega
      · exact h
    · have hne : termsF d (n - n / d * d) ≠ [] := by
        have := termsF_pos (n := d) (d := n - n / d * d) (by omega)
        intro e; rw [e] at this; simp at this
      rw [List.getLast?_cons_of_ne_nil hne] at hx
      exact ih d _ (by omega) hr.2 (by omega) x hx
theorem shortL_termsV {n d : Int} (h1 : 0 < d) : shortL (termsF n d) = termsF n d := by
  refine shortL_no fun q => ?_
  obtain ⟨q1, q2⟩ := q
  rw [← List.getLast?_eq_getElem?] at q2
  have hr := rest_lt (n := n) h1
  rw [termsF_step h1] at q1 q2
  by_cases hz : n - n / d * d = 0
  · rw [hz, termsF_zero] at q1
    simp at q1
  · have hne : termsF d (n - n / d * d) ≠ [] := by
      have := termsF_pos (n := d) (d := n - n / d * d) (by omega)
      intro e; rw [e] at this; simp at this
    rw [List.getLast?_cons_of_ne_nil hne] at q2
    have := termsF_lastV (d.toNat + 1) d (n - n / d * d) (by omega) hr.2 (by omega) 1 q2
    omega
theorem terms_okV {n d : Int} (hn : -1000000000 ≤ n ∧ n ≤ 1000000000) (hd : 1 ≤ d ∧ d ≤ 1000000000) : termsP (termsF n d) = true := by
  refine termsP_iff.2 ⟨⟨termsF_pos (by omega), termsF_60 (by omega) (by omega)⟩, fun i x hx => inB_iff.2 ?_⟩
  have := termsF_bd (d.toNat + 1) n d (by omega) (by omega) (by omega) (by omega) i x hx
  unfold lowT
  split at this <;> split <;> omega
theorem termsF_scale (g : Int) (hg : 0 < g) (f : Nat) : ∀ n d : Int, 0 ≤ d → d < f → termsF (g * n) (g * d) = termsF n d := by
  induction f with
  | zero => intro n d h0 h1; omega
  | succ f ih =>
    intro n d h0 h1
    rcases Int.lt_or_le 0 d with h | h
    · have hgd : 0 < g * d := Int.mul_pos hg h
      rw [termsF_step hgd, termsF_step h, Int.mul_ediv_mul_of_pos _ _ hg]
      have hr := rest_lt (n := n) h
      have e : g * n - n / d * (g * d) = g * (n - n / d * d) := by
        rw [Int.mul_sub, Int.mul_left_comm (n / d) g d]
      rw [e, ih d _ (by omega) (by omega)]
    · have : d = 0 := by omega
      subst this
      rw [Int.mul_zero, termsF_zero, termsF_zero]
theorem termsF_low {n d : Int} (hd : 0 < d) : termsF (lowF n d).1 (lowF n d).2 = termsF n d := by
  have hg := gcdI_pos n d (by omega)
  show termsF (n / gcdI n d) (d / gcdI n d) = termsF n d
  obtain ⟨x, hx⟩ := gcdI_dvd_left n d
  obtain ⟨y, hy⟩ := gcdI_dvd_right n d
  generalize gcdI n d = g at hx hy hg ⊢
  subst hx hy
  have hy0 : 0 ≤ y := by
    rcases Int.lt_or_le y 0 with h | h
    · have := Int.mul_neg_of_pos_of_neg hg h
      omega
    · exact h
  rw [Int.mul_ediv_cancel_left _ (by omega), Int.mul_ediv_cancel_left _ (by omega), termsF_scale g hg (y.toNat + 1) x y hy0 (by omega)]

end Go.Proofs.Ytgkelemfbmmgnaa

