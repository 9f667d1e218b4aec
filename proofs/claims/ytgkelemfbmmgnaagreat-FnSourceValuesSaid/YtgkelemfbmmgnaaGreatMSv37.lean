/- Some of the texts of this claim, joined in one file: DbM, DbE. -/
import Derived.Test.YtgkelemfbmmgnaaGreatMSv26
/- Functions (a x y + b x + c y + d) / (e x y + f x + g y + h): plain functions. No condition but what each theorem names. -/
namespace Go.Proofs.YtgkelemfbmmgnaaGreat
set_option linter.unusedVariables false
set_option linter.unusedSimpArgs false

structure Db where
  a : Int
  b : Int
  c : Int
  d : Int
  e : Int
  f : Int
  g : Int
  h : Int
def fdX (d : Db) (t : Int) : Db := ⟨d.a * t + d.c, d.b * t + d.d, d.a, d.b, d.e * t + d.g, d.f * t + d.h, d.e, d.f⟩
def fdY (d : Db) (t : Int) : Db := ⟨d.a * t + d.b, d.a, d.c * t + d.d, d.c, d.e * t + d.f, d.e, d.g * t + d.h, d.g⟩
def emD (d : Db) (q : Int) : Db := ⟨d.e, d.f, d.g, d.h, d.a - q * d.e, d.b - q * d.f, d.c - q * d.g, d.d - q * d.h⟩
def leX (d : Db) : St := ⟨d.a, d.b, d.e, d.f⟩
def leY (d : Db) : St := ⟨d.a, d.c, d.e, d.g⟩
def bdD (d : Db) : Bool := bdN d.a && bdN d.b && bdN d.c && bdN d.d && bdN d.e && bdN d.f && bdN d.g && bdN d.h
def enD (d : Db) : Bool := decide (d.e = 0) && decide (d.f = 0) && decide (d.g = 0) && decide (d.h = 0)
def okD (d : Db) : Bool := bdD d && !enD d
theorem bdD_iff {d : Db} : bdD d = true ↔ (-1000000000 ≤ d.a ∧ d.a ≤ 1000000000) ∧ (-1000000000 ≤ d.b ∧ d.b ≤ 1000000000) ∧ (-1000000000 ≤ d.c ∧ d.c ≤ 1000000000) ∧ (-1000000000 ≤ d.d ∧ d.d ≤ 1000000000) ∧ (-1000000000 ≤ d.e ∧ d.e ≤ 1000000000) ∧ (-1000000000 ≤ d.f ∧ d.f ≤ 1000000000) ∧ (-1000000000 ≤ d.g ∧ d.g ≤ 1000000000) ∧ (-1000000000 ≤ d.h ∧ d.h ≤ 1000000000) := by
  simp only [bdD, Bool.and_eq_true, bdN_iff, and_assoc]
theorem enD_iff {d : Db} : enD d = true ↔ d.e = 0 ∧ d.f = 0 ∧ d.g = 0 ∧ d.h = 0 := by
  simp only [enD, Bool.and_eq_true, decide_eq_true_eq, and_assoc]
/-- The corners: tops and bottoms. -/
def topD (d : Db) : List Int := [d.a, d.a + d.b, d.a + d.c, d.a + d.b + d.c + d.d]
def botD (d : Db) : List Int := [d.e, d.e + d.f, d.e + d.g, d.e + d.f + d.g + d.h]
/-- Is nothing known, because bottoms vanish or have two signs? -/
def opD (d : Db) : Bool := (botD d).any fun b => decide (b = 0) || (decide (b < 0) != decide (d.e < 0))
def knD (d : Db) : Option Int :=
  if opD d then none
  else if fdv (d.a + d.b) (d.e + d.f) = fdv d.a d.e ∧ fdv (d.a + d.c) (d.e + d.g) = fdv d.a d.e ∧ fdv (d.a + d.b + d.c + d.d) (d.e + d.f + d.g + d.h) = fdv d.a d.e then some (fdv d.a d.e) else none
theorem opD_no {d : Db} (h : opD d = false) : d.e ≠ 0 ∧ (d.e + d.f ≠ 0 ∧ (d.e + d.f < 0 ↔ d.e < 0)) ∧ (d.e + d.g ≠ 0 ∧ (d.e + d.g < 0 ↔ d.e < 0)) ∧ (d.e + d.f + d.g + d.h ≠ 0 ∧ (d.e + d.f + d.g + d.h < 0 ↔ d.e < 0)) := by
  simp only [opD, botD, List.any_cons, List.any_nil, Bool.or_false, Bool.or_eq_false_iff, decide_eq_false_iff_not] at h
  obtain ⟨⟨h1, _⟩, ⟨h2, k2⟩, ⟨h3, k3⟩, ⟨h4, k4⟩⟩ := h
  have key : ∀ x : Int, (decide (x < 0) != decide (d.e < 0)) = false → (x < 0 ↔ d.e < 0) := by
    intro x hx
    by_cases p : x < 0 <;> by_cases q : d.e < 0 <;> simp [p, q] at hx ⊢
  exact ⟨h1, ⟨h2, key _ k2⟩, ⟨h3, key _ k3⟩, ⟨h4, key _ k4⟩⟩
theorem knD_some {d : Db} {q : Int} (h : knD d = some q) : opD d = false ∧ fdv d.a d.e = q ∧ fdv (d.a + d.b) (d.e + d.f) = q ∧ fdv (d.a + d.c) (d.e + d.g) = q ∧ fdv (d.a + d.b + d.c + d.d) (d.e + d.f + d.g + d.h) = q := by
  unfold knD at h
  cases e : opD d with
  | true => rw [e] at h; simp at h
  | false =>
    rw [e] at h
    simp only [Bool.false_eq_true, if_false] at h
    split at h
    · rename_i e2
      injection h with h
      exact ⟨rfl, h, by omega, by omega, by omega⟩
    · cases h
theorem knD_bd {d : Db} {q : Int} (hb : bdD d = true) (h : knD d = some q) : -1000000000 ≤ q ∧ q ≤ 1000000000 := by
  have hb := bdD_iff.1 hb
  obtain ⟨h1, h3, _⟩ := knD_some h
  have := fdv_bd (n := d.a) (d := d.e) (L := 1000000000) (opD_no h1).1 hb.1 (by omega)
  omega
/-- At all corners the value is greater than 1, or infinite. -/
def ConD (d : Db) : Prop :=
  (0 ≤ d.e ∧ 0 ≤ d.e + d.f ∧ 0 ≤ d.e + d.g ∧ 0 ≤ d.e + d.f + d.g + d.h ∧ d.e < d.a ∧ d.e + d.f < d.a + d.b ∧ d.e + d.g < d.a + d.c ∧ d.e + d.f + d.g + d.h < d.a + d.b + d.c + d.d) ∨
  (d.e ≤ 0 ∧ d.e + d.f ≤ 0 ∧ d.e + d.g ≤ 0 ∧ d.e + d.f + d.g + d.h ≤ 0 ∧ d.a < d.e ∧ d.a + d.b < d.e + d.f ∧ d.a + d.c < d.e + d.g ∧ d.a + d.b + d.c + d.d < d.e + d.f + d.g + d.h)
structure EmD (d : Db) (out : List Int) : Prop where
  len : out.length ≤ 60
  bd : ∀ (i : Nat) (x : Int), out[i]? = some x → lowT i ≤ x ∧ x ≤ 1000000000
  cone : out = [] ∨ ConD d
  last : 2 ≤ out.length → (∀ x, out[out.length - 1]? = some x → 2 ≤ x) ∨ (d.e ≠ 0 ∧ d.e + d.f ≠ 0 ∧ d.e + d.g ≠ 0 ∧ d.e + d.f + d.g + d.h ≠ 0)
theorem EmD.nil (d : Db) : EmD d [] := ⟨by simp, by simp, .inl rfl, by simp⟩
/-- x and y exchanged. -/
def swD (d : Db) : Db := ⟨d.a, d.c, d.b, d.d, d.e, d.g, d.f, d.h⟩
theorem ConD.sw {d : Db} (h : ConD d) : ConD (swD d) := by
  unfold ConD swD at *
  simp only
  rcases h with ⟨h1, h2, h3, h4, h5, h6, h7, h8⟩ | ⟨h1, h2, h3, h4, h5, h6, h7, h8⟩
  · left; refine ⟨h1, h3, h2, ?_, h5, h7, h6, ?_⟩ <;> omega
  · right; refine ⟨h1, h3, h2, ?_, h5, h7, h6, ?_⟩ <;> omega
theorem EmD.sw {d : Db} {out : List Int} (h : EmD d out) : EmD (swD d) out :=
  ⟨h.len, h.bd, h.cone.imp id ConD.sw, fun hl => (h.last hl).imp id fun ⟨h1, h2, h3, h4⟩ => by unfold swD; simp only; refine ⟨h1, h3, h2, ?_⟩; omega⟩
theorem fdY_sw (d : Db) (t : Int) : fdY d t = swD (fdX (swD d) t) := rfl
theorem ConD.fdX {d : Db} {t : Int} (h : ConD d) (ht : 1 ≤ t) : ConD (fdX d t) := by
  unfold ConD Go.Proofs.YtgkelemfbmmgnaaGreat.fdX at *
  simp only
  have e1 : (d.e + d.f) * t = d.e * t + d.f * t := Int.add_mul _ _ _
  have e2 : (d.a - d.e) * t = d.a * t - d.e * t := Int.sub_mul _ _ _
  have e3 : (d.a + d.b - (d.e + d.f)) * t = d.a * t + d.b * t - (d.e * t + d.f * t) := by rw [Int.sub_mul, Int.add_mul, Int.add_mul]
  rcases h with ⟨h1, h2, h3, h4, h5, h6, h7, h8⟩ | ⟨h1, h2, h3, h4, h5, h6, h7, h8⟩
  · left
    have a1 := mul_step h1 ht
    have a2 := mul_step h2 ht
    have a3 := mul_step (x := d.a - d.e) (by omega) ht
    have a4 := mul_step (x := d.a + d.b - (d.e + d.f)) (by omega) ht
    refine ⟨by omega, by omega, by omega, by omega, by omega, by omega, by omega, by omega⟩
  · right
    have a1 := mul_step (x := -d.e) (by omega) ht
    have a2 := mul_step (x := -(d.e + d.f)) (by omega) ht
    have a3 := mul_step (x := -(d.a - d.e)) (by omega) ht
    have a4 := mul_step (x := -(d.a + d.b - (d.e + d.f))) (by omega) ht
    rw [Int.neg_mul] at a1 a2 a3 a4
    refine ⟨by omega, by omega, by omega, by omega, by omega, by omega, by omega, by omega⟩
theorem EmD.fdX {d : Db} {out : List Int} {t : Int} (h : EmD d out) (ht : out = [] ∨ 1 ≤ t) : EmD (fdX d t) out := by
  rcases ht with rfl | ht
  · exact EmD.nil _
  refine ⟨h.len, h.bd, h.cone.imp id (fun hc => hc.fdX ht), fun hl => ?_⟩
  rcases h.last hl with h1 | ⟨h1, h2, h3, h4⟩
  · exact .inl h1
  · right
    have hc : ConD d := by
      rcases h.cone with e | e
      · subst e; simp at hl
      · exact e
    unfold Go.Proofs.YtgkelemfbmmgnaaGreat.fdX
    simp only
    have e1 : (d.e + d.f) * t = d.e * t + d.f * t := Int.add_mul _ _ _
    rcases hc with ⟨k1, k2, k3, k4, _⟩ | ⟨k1, k2, k3, k4, _⟩
    · have a1 := mul_step k1 ht
      have a2 := mul_step k2 ht
      refine ⟨by omega, by omega, by omega, by omega⟩
    · have a1 := mul_step (x := -d.e) (by omega) ht
      have a2 := mul_step (x := -(d.e + d.f)) (by omega) ht
      rw [Int.neg_mul] at a1 a2
      refine ⟨by omega, by omega, by omega, by omega⟩
theorem EmD.fdY {d : Db} {out : List Int} {t : Int} (h : EmD d out) (ht : out = [] ∨ 1 ≤ t) : EmD (fdY d t) out := by
  rw [fdY_sw]; exact (h.sw.fdX ht).sw
/-- What is left of it when x has ended. -/
theorem EmD.leX {d : Db} {out : List Int} (h : EmD d out) : EmJ (leX d) out :=
  ⟨h.len, h.bd, h.cone.imp id fun hc => hc.imp (fun ⟨h1, h2, _, _, h5, h6, _⟩ => ⟨h1, h2, h5, h6⟩) (fun ⟨h1, h2, _, _, h5, h6, _⟩ => ⟨h1, h2, h5, h6⟩), fun hl => (h.last hl).imp id fun ⟨h1, h2, _⟩ => ⟨h1, h2⟩⟩
theorem EmD.leY {d : Db} {out : List Int} (h : EmD d out) : EmJ (leY d) out := h.sw.leX
theorem EmD.em {d : Db} {out : List Int} {q : Int} (h : EmD d out) (hb : bdD d = true) (hl : out.length < 60) (hq : knD d = some q) : EmD (emD d q) (out ++ [q]) := by
  have hqb := knD_bd hb hq
  obtain ⟨o1, o2, o3, o4, o5⟩ := knD_some hq
  obtain ⟨c1, ⟨c2, s2⟩, ⟨c3, s3⟩, ⟨c4, s4⟩⟩ := opD_no o1
  have r1 := fdv_rest (n := d.a) c1
  have r2 := fdv_rest (n := d.a + d.b) c2
  have r3 := fdv_rest (n := d.a + d.c) c3
  have r4 := fdv_rest (n := d.a + d.b + d.c + d.d) c4
  rw [o2] at r1
  rw [o3] at r2
  rw [o4] at r3
  rw [o5] at r4
  have e2 : q * (d.e + d.f) = q * d.e + q * d.f := Int.mul_add _ _ _
  have e3 : q * (d.e + d.g) = q * d.e + q * d.g := Int.mul_add _ _ _
  have e4 : q * (d.e + d.f + d.g + d.h) = q * d.e + q * d.f + q * d.g + q * d.h := by rw [Int.mul_add, Int.mul_add, Int.mul_add]
  have hcone : ConD (emD d q) := by
    unfold ConD emD
    simp only
    rcases Int.lt_or_le d.e 0 with k | k
    · have r1 := r1.2 k
      have r2 := r2.2 (s2.2 k)
      have r3 := r3.2 (s3.2 k)
      have r4 := r4.2 (s4.2 k)
      right; refine ⟨by omega, by omega, by omega, by omega, by omega, by omega, by omega, by omega⟩
    · have r1 := r1.1 (by omega)
      have r2 := r2.1 (by omega)
      have r3 := r3.1 (by omega)
      have r4 := r4.1 (by omega)
      left; refine ⟨by omega, by omega, by omega, by omega, by omega, by omega, by omega, by omega⟩
  have hge : out ≠ [] → 1 ≤ q := by
    intro hne
    rcases h.cone.resolve_left hne with ⟨k1, _, _, _, k3, _⟩ | ⟨k1, _, _, _, k3, _⟩
    · have r1 := r1.1 (by omega)
      refine Classical.byContradiction fun hc => ?_
      have := Int.mul_le_mul_of_nonneg_right (show q ≤ 0 by omega) k1
      omega
    · have r1 := r1.2 (by omega)
      refine Classical.byContradiction fun hc => ?_
      have := Int.mul_le_mul_of_nonneg_right (show q ≤ 0 by omega) (show 0 ≤ -d.e by omega)
      have e2 : q * -d.e = -(q * d.e) := Int.mul_neg _ _
      omega
  refine ⟨by simp; omega, fun i x hx => ?_, .inr hcone, fun hl2 => ?_⟩
  · rcases Nat.lt_or_ge i out.length with k | k
    · rw [List.getElem?_append_left k] at hx
      exact h.bd i x hx
    · rw [List.getElem?_append_right k] at hx
      have hi : i - out.length = 0 := by
        rcases Nat.eq_zero_or_pos (i - out.length) with z | z
        · exact z
        · rw [List.getElem?_eq_none (by simp; omega)] at hx; cases hx
      rw [hi] at hx
      simp at hx
      subst hx
      unfold lowT
      split
      · exact hqb
      · exact ⟨hge (by intro e; subst e; simp at k hi; omega), hqb.2⟩
  · have hne : out ≠ [] := by intro e; subst e; simp at hl2
    rw [List.length_append, List.length_singleton, Nat.add_sub_cancel]
    have h1 := hge hne
    by_cases hq1 : q = 1
    · right
      subst hq1
      unfold emD
      simp only
      rcases h.cone.resolve_left hne with ⟨_, _, _, _, k5, k6, k7, k8⟩ | ⟨_, _, _, _, k5, k6, k7, k8⟩
      · refine ⟨by omega, by omega, by omega, by omega⟩
      · refine ⟨by omega, by omega, by omega, by omega⟩
    · left
      intro x hx
      rw [List.getElem?_append_right (Nat.le_refl _)] at hx
      simp at hx
      subst hx
      omega
/-- Where all is emitted, what has been emitted are terms in short form. -/
theorem EmD.done {d : Db} {out : List Int} (h : EmD d out) (he : enD d = true) (hne : out ≠ []) : termsP (shortL out) = true ∧ shortL out = out := by
  have he := enD_iff.1 he
  have e : shortL out = out := by
    refine shortL_no (fun ⟨h1, h2⟩ => ?_)
    rcases h.last (by omega) with k | k
    · have := k 1 h2; omega
    · exact k.1 he.1
  rw [e]
  refine ⟨termsP_iff.2 ⟨⟨?_, h.len⟩, fun i x hx => inB_iff.2 (h.bd i x hx)⟩, rfl⟩
  cases out with
  | nil => exact absurd rfl hne
  | cons a l => simp

end Go.Proofs.YtgkelemfbmmgnaaGreat

/- Functions of two numbers: emission, plain. No condition but what each theorem names. -/
namespace Go.Proofs.YtgkelemfbmmgnaaGreat
set_option linter.unusedVariables false
set_option linter.unusedSimpArgs false

/-- What knownDouble and l14Know answer. -/
def knR (d : Db) : Int × Bool := match knD d with | none => (0, false) | some q => (q, true)
/-- Emit all terms that are known: the function, the terms, whether nothing is left; or nothing, if it becomes too great. -/
def emitDN : Nat → Db → List Int → Option (Db × List Int × Bool)
  | 0, _, _ => none
  | f + 1, d, out => match knD d with
    | none => some (d, out, false)
    | some q => if out.length = 60 then none else if bdD (emD d q) then (if enD (emD d q) then some (emD d q, out ++ [q], true) else emitDN f (emD d q) (out ++ [q])) else none
def emitDF (d : Db) (out : List Int) : Option (Db × List Int × Bool) := emitDN (61 - out.length) d out
theorem emd_none {d : Db} {out : List Int} (hl : out.length ≤ 60) (h : knD d = none) : emitDF d out = some (d, out, false) := by
  unfold emitDF
  rw [show 61 - out.length = (60 - out.length) + 1 by omega, emitDN, h]
theorem emd_full {d : Db} {out : List Int} {q : Int} (hl : out.length = 60) (h : knD d = some q) : emitDF d out = none := by
  unfold emitDF
  rw [show 61 - out.length = (60 - out.length) + 1 by omega, emitDN, h]
  simp [hl]
theorem emd_big {d : Db} {out : List Int} {q : Int} (hl : out.length < 60) (h : knD d = some q) (hb : bdD (emD d q) = false) : emitDF d out = none := by
  unfold emitDF
  rw [show 61 - out.length = (60 - out.length) + 1 by omega, emitDN, h]
  simp only []
  rw [if_neg (by omega), hb, if_neg (by simp)]
theorem emd_done {d : Db} {out : List Int} {q : Int} (hl : out.length < 60) (h : knD d = some q) (hb : bdD (emD d q) = true) (he : enD (emD d q) = true) : emitDF d out = some (emD d q, out ++ [q], true) := by
  unfold emitDF
  rw [show 61 - out.length = (60 - out.length) + 1 by omega, emitDN, h]
  simp only []
  rw [if_neg (by omega), if_pos hb, if_pos he]
theorem emd_step {d : Db} {out : List Int} {q : Int} (hl : out.length < 60) (h : knD d = some q) (hb : bdD (emD d q) = true) (he : enD (emD d q) = false) : emitDF d out = emitDF (emD d q) (out ++ [q]) := by
  unfold emitDF
  rw [show 61 - out.length = (60 - out.length) + 1 by omega, emitDN, h]
  simp only []
  rw [if_neg (by omega), if_pos hb, if_neg (by rw [he]; simp)]
  simp only [List.length_append, List.length_singleton]
  rw [show 61 - (out.length + 1) = 60 - out.length by omega]
/-- Whatever emission leaves. -/
theorem emd_keeps {d d' : Db} {out out' : List Int} {b : Bool} : bdD d = true → EmD d out → emitDF d out = some (d', out', b) → bdD d' = true ∧ EmD d' out' ∧ (b = true → enD d' = true ∧ out' ≠ []) ∧ (b = false → enD d = false → enD d' = false) := by
  have key : ∀ f d out, bdD d = true → EmD d out → out.length ≤ 60 → emitDN f d out = some (d', out', b) → bdD d' = true ∧ EmD d' out' ∧ (b = true → enD d' = true ∧ out' ≠ []) ∧ (b = false → enD d = false → enD d' = false) := by
    intro f
    induction f with
    | zero => intro d out _ _ _ h; cases h
    | succ f ih =>
      intro d out hb hj hl h
      rw [emitDN] at h
      split at h
      · injection h with h; injection h with h1 h2; injection h2 with h2 h3; subst h1 h2 h3
        exact ⟨hb, hj, (fun q => by cases q), fun _ q => q⟩
      · rename_i q hq
        split at h
        · cases h
        · rename_i h60
          have hj2 := hj.em hb (by omega) hq
          split at h
          · rename_i hb2
            split at h
            · rename_i he
              injection h with h; injection h with h1 h2; injection h2 with h2 h3; subst h1 h2 h3
              exact ⟨hb2, hj2, fun _ => ⟨he, by simp⟩, (fun q => by cases q)⟩
            · rename_i he
              have := ih (emD d q) (out ++ [q]) hb2 hj2 (by simp; omega) h
              exact ⟨this.1, this.2.1, this.2.2.1, fun x _ => this.2.2.2 x (by cases e : enD (emD d q) with | true => exact absurd e he | false => rfl)⟩
          · cases h
  intro hb hj h
  exact key _ d out hb hj hj.len h

end Go.Proofs.YtgkelemfbmmgnaaGreat

