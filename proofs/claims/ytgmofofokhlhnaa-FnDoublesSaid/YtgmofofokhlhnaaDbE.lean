/- Functions of two numbers: emission, plain. No condition but what each theorem names. -/
import Derived.Test.YtgmofofokhlhnaaDbM
namespace Go.Proofs.Ytgmofofokhlhnaa
set_option linter.unusedVariables false
set_option linter.unusedSimpArgs false

/-- What knownDouble and l14Know answer. -/
def knR (d : Db) : Int × Bool := match knD d with | none => (0, false) | some q => (q, true)
/-- Emit all terms that are known: the function, the terms, whether nothing is left; or nothing, if it becomes too great. -/
def emitDN : Nat → Db → List Int → Option (Db × List Int × Bool)
  | 0, _, _ => none
  | f + 1, d, out => match knD d with
    | none => some (d, out, false)
    | some q => if out.length = 60 then none else if bdD (emD d q) then (if enD (emD d q) then some (emD d q, out ++ [q], true) else emitDN f (emD d q) (out ++ [q])) else none
def emitDF (d : Db) (out : List Int) : Option (Db × List Int × Bool) := emitDN (61 - out.length) d out
theorem emd_none {d : Db} {out : List Int} (hl : out.length ≤ 60) (h : knD d = none) : emitDF d out = some (d, out, false) := by
  unfold emitDF
  rw [show 61 - out.length = (60 - out.length) + 1 by omega, emitDN, h]
theorem emd_full {d : Db} {out : List Int} {q : Int} (hl : out.length = 60) (h : knD d = some q) : emitDF d out = none := by
  unfold emitDF
  rw [show 61 - out.length = (60 - out.length) + 1 by omega, emitDN, h]
  simp [hl]
theorem emd_big {d : Db} {out : List Int} {q : Int} (hl : out.length < 60) (h : knD d = some q) (hb : bdD (emD d q) = false) : emitDF d out = none := by
  unfold emitDF
  rw [show 61 - out.length = (60 - out.length) + 1 by omega, emitDN, h]
  simp only []
  rw [if_neg (by omega), hb, if_neg (by simp)]
theorem emd_done {d : Db} {out : List Int} {q : Int} (hl : out.length < 60) (h : knD d = some q) (hb : bdD (emD d q) = true) (he : enD (emD d q) = true) : emitDF d out = some (emD d q, out ++ [q], true) := by
  unfold emitDF
  rw [show 61 - out.length = (60 - out.length) + 1 by omega, emitDN, h]
  simp only []
  rw [if_neg (by omega), if_pos hb, if_pos he]
theorem emd_step {d : Db} {out : List Int} {q : Int} (hl : out.length < 60) (h : knD d = some q) (hb : bdD (emD d q) = true) (he : enD (emD d q) = false) : emitDF d out = emitDF (emD d q) (out ++ [q]) := by
  unfold emitDF
  rw [show 61 - out.length = (60 - out.length) + 1 by omega, emitDN, h]
  simp only []
  rw [if_neg (by omega), if_pos hb, if_neg (by rw [he]; simp)]
  simp only [List.length_append, List.length_singleton]
  rw [show 61 - (out.length + 1) = 60 - out.length by omega]
/-- Whatever emission leaves. -/
theorem emd_keeps {d d' : Db} {out out' : List Int} {b : Bool} : bdD d = true → EmD d out → emitDF d out = some (d', out', b) → bdD d' = true ∧ EmD d' out' ∧ (b = true → enD d' = true ∧ out' ≠ []) ∧ (b = false → enD d = false → enD d' = false) := by
  have key : ∀ f d out, bdD d = true → EmD d out → out.length ≤ 60 → emitDN f d out = some (d', out', b) → bdD d' = true ∧ EmD d' out' ∧ (b = true → enD d' = true ∧ out' ≠ []) ∧ (b = false → enD d = false → enD d' = false) := by
    intro f
    induction f with
    | zero => intro d out _ _ _ h; cases h
    | succ f ih =>
      intro d out hb hj hl h
      rw [emitDN] at h
      split at h
      · injection h with h; injection h with h1 h2; injection h2 with h2 h3; subst h1 h2 h3
        exact ⟨hb, hj, (fun q => by cases q), fun _ q => q⟩
      · rename_i q hq
        split at h
        · cases h
        · rename_i h60
          have hj2 := hj.em hb (by omega) hq
          split at h
          · rename_i hb2
            split at h
            · rename_i he
              injection h with h; injection h with h1 h2; injection h2 with h2 h3; subst h1 h2 h3
              exact ⟨hb2, hj2, fun _ => ⟨he, by simp⟩, (fun q => by cases q)⟩
            · rename_i he
              have := ih (emD d q) (out ++ [q]) hb2 hj2 (by simp; omega) h
              exact ⟨this.1, this.2.1, this.2.2.1, fun x _ => this.2.2.2 x (by cases e : enD (emD d q) with | true => exact absurd e he | false => rfl)⟩
          · cases h
  intro hb hj h
  exact key _ d out hb hj hj.len h

end Go.Proofs.Ytgmofofokhlhnaa
