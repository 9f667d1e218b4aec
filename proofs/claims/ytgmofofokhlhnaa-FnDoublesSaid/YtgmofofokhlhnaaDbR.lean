/- A run of a function of two numbers, plain. No condition but what each theorem names. -/
import Derived.Test.YtgmofofokhlhnaaDbE
import Derived.Test.YtgmofofokhlhnaaRun
namespace Go.Proofs.Ytgmofofokhlhnaa
set_option linter.unusedVariables false
set_option linter.unusedSimpArgs false

/-- The rest of a run, when one of the two has ended. -/
noncomputable def restF (s : St) (out ts : List Int) : List Int × Int :=
  match emitF 1073741824 s out with
  | none => ([], 5)
  | some r => runR (runG ts r.1 r.2)
noncomputable def runDN (xs ys : List Int) : Nat → Nat → Db → List Int → List Int × Int
  | 0, _, _, _ => ([], 5)
  | f + 1, i, d, out =>
    let step (d' : Db) : List Int × Int :=
      if okD d' then (if i = 0 then runDN xs ys f (i + 1) d' out else match emitDF d' out with
        | none => ([], 5)
        | some r => if r.2.2 then (shortL r.2.1, 0) else runDN xs ys f (i + 1) r.1 r.2.1) else ([], 5)
    if i % 2 = 0 then (match xs[i / 2]? with | none => restF (leX d) out (ys.drop (i / 2)) | some t => step (fdX d t))
    else (match ys[i / 2]? with | none => restF (leY d) out (xs.drop (i / 2 + 1)) | some t => step (fdY d t))
noncomputable def runDF (xs ys : List Int) (i : Nat) (d : Db) (out : List Int) : List Int × Int := runDN xs ys (2 * xs.length + 1 - i) i d out
/-- What a turn does behind its feeding. -/
noncomputable def stepD (xs ys : List Int) (i : Nat) (d' : Db) (out : List Int) : List Int × Int :=
  if okD d' then (if i = 0 then runDF xs ys (i + 1) d' out else match emitDF d' out with
    | none => ([], 5)
    | some r => if r.2.2 then (shortL r.2.1, 0) else runDF xs ys (i + 1) r.1 r.2.1) else ([], 5)
theorem rund_x {xs ys : List Int} {i : Nat} {d : Db} {out : List Int} {t : Int} (hi : i ≤ 2 * xs.length) (h2 : i % 2 = 0) (ht : xs[i / 2]? = some t) : runDF xs ys i d out = stepD xs ys i (fdX d t) out := by
  unfold runDF stepD
  rw [show 2 * xs.length + 1 - i = (2 * xs.length + 1 - (i + 1)) + 1 by omega, runDN]
  simp only []
  rw [if_pos h2, ht]
  rfl
theorem rund_y {xs ys : List Int} {i : Nat} {d : Db} {out : List Int} {t : Int} (hi : i ≤ 2 * xs.length) (h2 : ¬ i % 2 = 0) (ht : ys[i / 2]? = some t) : runDF xs ys i d out = stepD xs ys i (fdY d t) out := by
  unfold runDF stepD
  rw [show 2 * xs.length + 1 - i = (2 * xs.length + 1 - (i + 1)) + 1 by omega, runDN]
  simp only []
  rw [if_neg h2, ht]
  rfl
theorem rund_xend {xs ys : List Int} {i : Nat} {d : Db} {out : List Int} (hi : i ≤ 2 * xs.length) (h2 : i % 2 = 0) (ht : ¬ i / 2 < xs.length) : runDF xs ys i d out = restF (leX d) out (ys.drop (i / 2)) := by
  unfold runDF
  rw [show 2 * xs.length + 1 - i = (2 * xs.length + 1 - (i + 1)) + 1 by omega, runDN]
  simp only []
  rw [if_pos h2, List.getElem?_eq_none (by omega)]
theorem rund_yend {xs ys : List Int} {i : Nat} {d : Db} {out : List Int} (hi : i ≤ 2 * xs.length) (h2 : ¬ i % 2 = 0) (ht : ¬ i / 2 < ys.length) : runDF xs ys i d out = restF (leY d) out (xs.drop (i / 2 + 1)) := by
  unfold runDF
  rw [show 2 * xs.length + 1 - i = (2 * xs.length + 1 - (i + 1)) + 1 by omega, runDN]
  simp only []
  rw [if_neg h2, List.getElem?_eq_none (by omega)]
theorem stepd_bad {xs ys : List Int} {i : Nat} {d' : Db} {out : List Int} (h : okD d' = false) : stepD xs ys i d' out = ([], 5) := by
  unfold stepD; rw [h, if_neg (by simp)]
theorem stepd_0 {xs ys : List Int} {i : Nat} {d' : Db} {out : List Int} (h : okD d' = true) (hi : i = 0) : stepD xs ys i d' out = runDF xs ys (i + 1) d' out := by
  unfold stepD; rw [if_pos h, if_pos hi]
theorem stepd_none {xs ys : List Int} {i : Nat} {d' : Db} {out : List Int} (h : okD d' = true) (hi : i ≠ 0) (he : emitDF d' out = none) : stepD xs ys i d' out = ([], 5) := by
  unfold stepD; rw [if_pos h, if_neg hi, he]
theorem stepd_done {xs ys : List Int} {i : Nat} {d' d2 : Db} {out o2 : List Int} (h : okD d' = true) (hi : i ≠ 0) (he : emitDF d' out = some (d2, o2, true)) : stepD xs ys i d' out = (shortL o2, 0) := by
  unfold stepD; rw [if_pos h, if_neg hi, he]; simp
theorem stepd_on {xs ys : List Int} {i : Nat} {d' d2 : Db} {out o2 : List Int} (h : okD d' = true) (hi : i ≠ 0) (he : emitDF d' out = some (d2, o2, false)) : stepD xs ys i d' out = runDF xs ys (i + 1) d2 o2 := by
  unfold stepD; rw [if_pos h, if_neg hi, he]; simp
/-- RunDouble: terms, and a code. -/
noncomputable def runDo (d : Db) (xs ys : List Int) : List Int × Int :=
  if okD d then (if termsP xs then (if termsP ys then runDF xs ys 0 d [] else ([], 1)) else ([], 1)) else ([], 1)

end Go.Proofs.Ytgmofofokhlhnaa
