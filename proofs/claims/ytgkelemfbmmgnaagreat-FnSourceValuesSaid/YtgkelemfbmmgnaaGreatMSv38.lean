/- Some of the texts of this claim, joined in one file: DbR, Db8. -/
import Derived.Test.YtgkelemfbmmgnaaGreatMSv37
import Derived.Test.YtgkelemfbmmgnaaGreatMSv28
/- A run of a function of two numbers, plain. No condition but what each theorem names. -/
namespace Go.Proofs.YtgkelemfbmmgnaaGreat
set_option linter.unusedVariables false
set_option linter.unusedSimpArgs false

/-- The rest of a run, when one of the two has ended. -/
noncomputable def restF (s : St) (out ts : List Int) : List Int × Int :=
  match emitF 1073741824 s out with
  | none => ([], 5)
  | some r => runR (runG ts r.1 r.2)
noncomputable def runDN (xs ys : List Int) : Nat → Nat → Db → List Int → List Int × Int
  | 0, _, _, _ => ([], 5)
  | f + 1, i, d, out =>
    let step (d' : Db) : List Int × Int :=
      if okD d' then (if i = 0 then runDN xs ys f (i + 1) d' out else match emitDF d' out with
        | none => ([], 5)
        | some r => if r.2.2 then (shortL r.2.1, 0) else runDN xs ys f (i + 1) r.1 r.2.1) else ([], 5)
    if i % 2 = 0 then (match xs[i / 2]? with | none => restF (leX d) out (ys.drop (i / 2)) | some t => step (fdX d t))
    else (match ys[i / 2]? with | none => restF (leY d) out (xs.drop (i / 2 + 1)) | some t => step (fdY d t))
noncomputable def runDF (xs ys : List Int) (i : Nat) (d : Db) (out : List Int) : List Int × Int := runDN xs ys (2 * xs.length + 1 - i) i d out
/-- What a turn does behind its feeding. -/
noncomputable def stepD (xs ys : List Int) (i : Nat) (d' : Db) (out : List Int) : List Int × Int :=
  if okD d' then (if i = 0 then runDF xs ys (i + 1) d' out else match emitDF d' out with
    | none => ([], 5)
    | some r => if r.2.2 then (shortL r.2.1, 0) else runDF xs ys (i + 1) r.1 r.2.1) else ([], 5)
theorem rund_x {xs ys : List Int} {i : Nat} {d : Db} {out : List Int} {t : Int} (hi : i ≤ 2 * xs.length) (h2 : i % 2 = 0) (ht : xs[i / 2]? = some t) : runDF xs ys i d out = stepD xs ys i (fdX d t) out := by
  unfold runDF stepD
  rw [show 2 * xs.length + 1 - i = (2 * xs.length + 1 - (i + 1)) + 1 by omega, runDN]
  simp only []
  rw [if_pos h2, ht]
  rfl
theorem rund_y {xs ys : List Int} {i : Nat} {d : Db} {out : List Int} {t : Int} (hi : i ≤ 2 * xs.length) (h2 : ¬ i % 2 = 0) (ht : ys[i / 2]? = some t) : runDF xs ys i d out = stepD xs ys i (fdY d t) out := by
  unfold runDF stepD
  rw [show 2 * xs.length + 1 - i = (2 * xs.length + 1 - (i + 1)) + 1 by omega, runDN]
  simp only []
  rw [if_neg h2, ht]
  rfl
theorem rund_xend {xs ys : List Int} {i : Nat} {d : Db} {out : List Int} (hi : i ≤ 2 * xs.length) (h2 : i % 2 = 0) (ht : ¬ i / 2 < xs.length) : runDF xs ys i d out = restF (leX d) out (ys.drop (i / 2)) := by
  unfold runDF
  rw [show 2 * xs.length + 1 - i = (2 * xs.length + 1 - (i + 1)) + 1 by omega, runDN]
  simp only []
  rw [if_pos h2, List.getElem?_eq_none (by omega)]
theorem rund_yend {xs ys : List Int} {i : Nat} {d : Db} {out : List Int} (hi : i ≤ 2 * xs.length) (h2 : ¬ i % 2 = 0) (ht : ¬ i / 2 < ys.length) : runDF xs ys i d out = restF (leY d) out (xs.drop (i / 2 + 1)) := by
  unfold runDF
  rw [show 2 * xs.length + 1 - i = (2 * xs.length + 1 - (i + 1)) + 1 by omega, runDN]
  simp only []
  rw [if_neg h2, List.getElem?_eq_none (by omega)]
theorem stepd_bad {xs ys : List Int} {i : Nat} {d' : Db} {out : List Int} (h : okD d' = false) : stepD xs ys i d' out = ([], 5) := by
  unfold stepD; rw [h, if_neg (by simp)]
theorem stepd_0 {xs ys : List Int} {i : Nat} {d' : Db} {out : List Int} (h : okD d' = true) (hi : i = 0) : stepD xs ys i d' out = runDF xs ys (i + 1) d' out := by
  unfold stepD; rw [if_pos h, if_pos hi]
theorem stepd_none {xs ys : List Int} {i : Nat} {d' : Db} {out : List Int} (h : okD d' = true) (hi : i ≠ 0) (he : emitDF d' out = none) : stepD xs ys i d' out = ([], 5) := by
  unfold stepD; rw [if_pos h, if_neg hi, he]
theorem stepd_done {xs ys : List Int} {i : Nat} {d' d2 : Db} {out o2 : List Int} (h : okD d' = true) (hi : i ≠ 0) (he : emitDF d' out = some (d2, o2, true)) : stepD xs ys i d' out = (shortL o2, 0) := by
  unfold stepD; rw [if_pos h, if_neg hi, he]; simp
theorem stepd_on {xs ys : List Int} {i : Nat} {d' d2 : Db} {out o2 : List Int} (h : okD d' = true) (hi : i ≠ 0) (he : emitDF d' out = some (d2, o2, false)) : stepD xs ys i d' out = runDF xs ys (i + 1) d2 o2 := by
  unfold stepD; rw [if_pos h, if_neg hi, he]; simp
/-- RunDouble: terms, and a code. -/
noncomputable def runDo (d : Db) (xs ys : List Int) : List Int × Int :=
  if okD d then (if termsP xs then (if termsP ys then runDF xs ys 0 d [] else ([], 1)) else ([], 1)) else ([], 1)

end Go.Proofs.YtgkelemfbmmgnaaGreat

/- The rest of a run of a function of two numbers, when one has ended. Each theorem names its conditions. -/
namespace Go.Proofs.YtgkelemfbmmgnaaGreat
open Go.RowKit
set_option linter.unusedVariables false
set_option linter.unusedSimpArgs false


theorem rest_none {s : St} {out ts : List Int} (h : emitF 1073741824 s out = none) : restF s out ts = ([], 5) := by rw [restF, h]
theorem rest_some {s s1 : St} {out o1 ts : List Int} (h : emitF 1073741824 s out = some (s1, o1)) : restF s out ts = runR (runG ts s1 o1) := by rw [restF, h]
/-- A list and a code, the list in a row of the call's own. -/
def FinP (R : List Int × Int) (w0 : World) (e : Ending) (w' : World) : Prop :=
  ∃ x n k, e = .returned (.tuple #[.slice x n k, .int .i64 R.2]) ∧ Own w' w0.heap.size (.slice x n k) R.1 ∧ Bl w0 w'
theorem finp_no {R : List Int × Int} {q : Int} {w0 w' : World} (h : R = ([], q)) (hb : Bl w0 w') : FinP R w0 (.returned (.tuple #[.slice none 0 0, .int .i64 q])) w' := by
  unfold FinP; rw [h]; exact ⟨none, 0, 0, rfl, Own.nil _ _, hb⟩
theorem finp_end {R : List Int × Int} {w0 w1 w' : World} {p : Nat} {ov : Value} {s : St} {out : List Int} {e : Ending} (h : R = endF s out) (hs : w0.heap.size ≤ w1.heap.size) (he : EndI w1 p ov s out e w') (hb : Bl w0 w') : FinP R w0 e w' := by
  unfold FinP; rw [h]
  obtain ⟨x, n, k, h1, h2, _⟩ := he
  exact ⟨x, n, k, h1, h2.mono hs, hb⟩
theorem finp_yes {R : List Int × Int} {l : List Int} {w0 w1 w' : World} {x : Option Addr} {n k : Nat} (h : R = (l, 0)) (hs : w0.heap.size ≤ w1.heap.size) (ho : Own w' w1.heap.size (.slice x n k) l) (hb : Bl w0 w') : FinP R w0 (.returned (.tuple #[.slice x n k, .int .i64 0])) w' := by
  unfold FinP; rw [h]
  exact ⟨x, n, k, rfl, ho.mono hs, hb⟩
theorem emitJ {s s' : St} {out out' : List Int} (hb : bdS s = true) (hj : EmJ s out) (h : emitF 1073741824 s out = some (s', out')) : bdS s' = true ∧ EmJ s' out' :=
  ⟨emit_bd (by omega) hj.len hb h, emit_pair (most := 1073741824) (by omega) EmJ (fun s out q h1 h2 h3 h4 => h4.em h1 h2 h3) hj.len hb hj h⟩
theorem mem_bd {ts : List Int} {i : Nat} {t : Int} (h : ∀ t ∈ ts, 1 ≤ t ∧ t ≤ 1000000000) (ht : ts[i]? = some t) : 1 ≤ t ∧ t ≤ 1000000000 := h t (List.mem_of_getElem? ht)

end Go.Proofs.YtgkelemfbmmgnaaGreat

