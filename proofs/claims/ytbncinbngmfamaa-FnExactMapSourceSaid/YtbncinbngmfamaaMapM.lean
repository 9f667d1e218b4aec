/- MapSource: plain. No condition but what each theorem names. -/
import Derived.Test.YtbncinbngmfamaaDb8
import Derived.Test.YtbncinbngmfamaaTerm
import Derived.Test.YtbncinbngmfamaaSrcI
import Derived.Test.YtbncinbngmfamaaSrcS
namespace Go.Proofs.Ytbncinbngmfamaa
open Go.RowKit
set_option linter.unusedVariables false
set_option linter.unusedSimpArgs false


/-- What is told of the rest: terms, at most m of them, and a code. -/
def endC (r : List Int × Int) (m : Nat) : List Int × Int := if r.2 = 0 then (r.1.take m, 0) else ([], r.2)
noncomputable def mapN (src : Src) (m : Nat) : Nat → Nat → St → List Int → List Int × Int
  | 0, _, _, _ => ([], 10)
  | f + 1, k, s, out =>
    if (termP src k).2 then (if (termP src k).1 ≤ 1000000000 then (if bdS (fedF s (termP src k).1) then (match emitF m (fedF s (termP src k).1) out with
        | none => ([], 5)
        | some r => if m ≤ r.2.length then (r.2, 0) else mapN src m f (k + 1) r.1 r.2) else ([], 5)) else ([], 5))
    else endC (endF s out) m
noncomputable def mapR (src : Src) (m k : Nat) (s : St) (out : List Int) : List Int × Int := mapN src m (1000 - k) k s out
theorem map_open {src : Src} {m k : Nat} {s : St} {out : List Int} (h : k = 1000) : mapR src m k s out = ([], 10) := by
  subst h; rfl
theorem map_end {src : Src} {m k : Nat} {s : St} {out : List Int} (hk : k < 1000) (h : (termP src k).2 = false) : mapR src m k s out = endC (endF s out) m := by
  unfold mapR; rw [show 1000 - k = (999 - k) + 1 by omega, mapN, h]; rfl
theorem map_big {src : Src} {m k : Nat} {s : St} {out : List Int} {t : Int} (hk : k < 1000) (h : termP src k = (t, true)) (ht : ¬ t ≤ 1000000000) : mapR src m k s out = ([], 5) := by
  unfold mapR; rw [show 1000 - k = (999 - k) + 1 by omega, mapN, h]; simp [ht]
theorem map_unb {src : Src} {m k : Nat} {s : St} {out : List Int} {t : Int} (hk : k < 1000) (h : termP src k = (t, true)) (ht : t ≤ 1000000000) (hb : bdS (fedF s t) = false) : mapR src m k s out = ([], 5) := by
  unfold mapR; rw [show 1000 - k = (999 - k) + 1 by omega, mapN, h]; simp [ht, hb]
theorem map_none {src : Src} {m k : Nat} {s : St} {out : List Int} {t : Int} (hk : k < 1000) (h : termP src k = (t, true)) (ht : t ≤ 1000000000) (hb : bdS (fedF s t) = true) (he : emitF m (fedF s t) out = none) : mapR src m k s out = ([], 5) := by
  unfold mapR; rw [show 1000 - k = (999 - k) + 1 by omega, mapN, h]; simp [ht, hb, he]
theorem map_full {src : Src} {m k : Nat} {s s2 : St} {out o2 : List Int} {t : Int} (hk : k < 1000) (h : termP src k = (t, true)) (ht : t ≤ 1000000000) (hb : bdS (fedF s t) = true) (he : emitF m (fedF s t) out = some (s2, o2)) (hm : m ≤ o2.length) : mapR src m k s out = (o2, 0) := by
  unfold mapR; rw [show 1000 - k = (999 - k) + 1 by omega, mapN, h]; simp [ht, hb, he, hm]
theorem map_on {src : Src} {m k : Nat} {s s2 : St} {out o2 : List Int} {t : Int} (hk : k < 1000) (h : termP src k = (t, true)) (ht : t ≤ 1000000000) (hb : bdS (fedF s t) = true) (he : emitF m (fedF s t) out = some (s2, o2)) (hm : ¬ m ≤ o2.length) : mapR src m k s out = mapR src m (k + 1) s2 o2 := by
  unfold mapR; rw [show 1000 - k = (999 - k) + 1 by omega, mapN, h]; simp [ht, hb, he, hm, show 1000 - (k + 1) = 999 - k by omega]
/-- Emission that stops ahead of the count keeps what holds of a run. -/
theorem emitC {m : Nat} {s s' : St} {out out' : List Int} : out.length ≤ m → m ≤ 60 → bdS s = true → EmJ s out → Det s → emitF m s out = some (s', out') → out'.length ≤ m ∧ (out'.length < m → bdS s' = true ∧ EmJ s' out' ∧ Det s') := by
  have key : ∀ f s out, out.length ≤ m → m ≤ 60 → bdS s = true → EmJ s out → Det s → emitM m f s out = some (s', out') → out'.length ≤ m ∧ (out'.length < m → bdS s' = true ∧ EmJ s' out' ∧ Det s') := by
    intro f
    induction f with
    | zero => intro s out _ _ _ _ _ h; cases h
    | succ f ih =>
      intro s out hl hm hb hj hd h
      rw [emitM] at h
      split at h
      · injection h with h; injection h with h1 h2; subst h1 h2; exact ⟨hl, fun _ => ⟨hb, hj, hd⟩⟩
      · rename_i hml
        split at h
        · injection h with h; injection h with h1 h2; subst h1 h2; exact ⟨hl, fun _ => ⟨hb, hj, hd⟩⟩
        · rename_i q hq
          split at h
          · cases h
          · split at h
            · rename_i h60 hb2
              exact ih (emF s q) (out ++ [q]) (by simp; omega) hm hb2 (hj.em hb (by omega) hq) (hd.em q) h
            · split at h
              · injection h with h; injection h with h1 h2; subst h1 h2
                refine ⟨by simp; omega, fun q => ?_⟩
                simp at q
                omega
              · cases h
  intro hl hm hb hj hd h
  exact key _ s out hl hm hb hj hd h
/-- What the terms of a valid source are. -/
theorem term_ok {src : Src} (h : OkSrc src) {k : Nat} {t : Int} (ht : termP src k = (t, true)) : -1000000000 ≤ t ∧ (1 ≤ k → 1 ≤ t) := by
  unfold termP at ht
  split at ht
  · rename_i hk
    injection ht with h1 _
    have e : src.H[k]? = some t := by rw [List.getElem?_eq_getElem hk]; rw [List.getD_eq_getElem?_getD, List.getElem?_eq_getElem hk] at h1; simpa using h1
    have := h.hd k t e
    unfold lowAt at this
    split at this <;> constructor <;> omega
  · rename_i hk
    split at ht
    · cases ht
    · rename_i hp
      injection ht with h1 _
      have hm : (k - src.H.length) % src.P.length < src.P.length := Nat.mod_lt _ (by omega)
      have hm2 : (k - src.H.length) % src.P.length < src.G.length := by rw [h.gp]; exact hm
      have a1 := h.per _ _ (List.getElem?_eq_getElem hm)
      have a2 := h.gr _ _ (List.getElem?_eq_getElem hm2)
      rw [List.getD_eq_getElem?_getD, List.getD_eq_getElem?_getD, List.getElem?_eq_getElem hm, List.getElem?_eq_getElem hm2] at h1
      simp only [Option.getD_some] at h1
      generalize src.P[(k - src.H.length) % src.P.length] = x at a1 h1
      generalize src.G[(k - src.H.length) % src.P.length] = y at a2 h1
      generalize (k - src.H.length) / src.P.length = Q at h1
      have := Int.mul_nonneg (show (0 : Int) ≤ (Q : Int) by omega) a2.1
      constructor <;> omega
/-- A source without a term at a place has fewer than thirty-one. -/
theorem term_no {src : Src} (h : OkSrc src) (h2 : (termP src 1000).2 = false) : (termP src 999).2 = false := by
  have := h.h30
  unfold termP at h2 ⊢
  rw [if_neg (by omega)] at h2 ⊢
  split at h2
  · rename_i e; rw [if_pos e]
  · cases h2
/-- MapSource: terms, and a code. -/
noncomputable def mapF (a b c d : Int) (src : Src) (n : Int) : List Int × Int :=
  if okSrc src && okS ⟨a, b, c, d⟩ then (if inB n 1 60 then mapR src n.toNat 0 ⟨a, b, c, d⟩ [] else ([], 2)) else ([], 1)
theorem own_take {w : World} {B : Nat} {a : Option Addr} {n c k : Nat} {xs : List Int} (h : Own w B (.slice a n c) xs) (hk : k ≤ xs.length) (ha : a ≠ none) : Own w B (.slice a k c) (xs.take k) := h.take k hk ha

end Go.Proofs.Ytbncinbngmfamaa
