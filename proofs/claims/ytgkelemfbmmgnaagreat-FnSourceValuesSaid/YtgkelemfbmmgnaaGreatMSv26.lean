/- Some of the texts of this claim, joined in one file: Fneed, RunM. -/
import Derived.Test.YtgkelemfbmmgnaaGreatMSv25
import Derived.Test.YtgkelemfbmmgnaaGreatMSv23
import Derived.Test.YtgkelemfbmmgnaaGreatMSv10
import Derived.Test.YtgkelemfbmmgnaaGreatMSv17
/- FeedsNeeded: the program and the reference give the same. Each theorem names its conditions. -/
namespace Go.Proofs.YtgkelemfbmmgnaaGreat
open Go.RowKit
set_option linter.unusedVariables false
set_option linter.unusedSimpArgs false

/-- How many terms are needed for m terms of the value. -/
def feedsG (m : Int) : List Int → Nat → St → List Int → Int × Int
  | [], n, s, out => if (out.length : Int) < m then (0, 3) else ((n : Int), 0)
  | t :: ts, n, s, out => if (out.length : Int) < m then (match feedR s out t with | none => (0, 5) | some r => feedsG m ts (n + 1) r.1 r.2) else ((n : Int), 0)
theorem feeds_done {m : Int} {xs : List Int} {n : Nat} {s : St} {out : List Int} (h : ¬ (out.length : Int) < m) : feedsG m xs n s out = ((n : Int), 0) := by
  cases xs <;> rw [feedsG, if_neg h]
theorem drop_at {xs : List Int} {k : Nat} {t : Int} (h : xs[k]? = some t) : xs.drop k = t :: xs.drop (k + 1) := by
  obtain ⟨hk, rfl⟩ := List.getElem?_eq_some_iff.1 h
  exact List.drop_eq_getElem_cons hk
theorem feeds_end {m : Int} {xs : List Int} {n : Nat} {s : St} {out : List Int} (h : (out.length : Int) < m) (hn : n = xs.length) : feedsG m (xs.drop n) n s out = (0, 3) := by
  rw [List.drop_of_length_le (by omega), feedsG, if_pos h]
theorem feeds_none {m t : Int} {xs : List Int} {n : Nat} {s : St} {out : List Int} (h : (out.length : Int) < m) (ht : xs[n]? = some t) (hr : feedR s out t = none) : feedsG m (xs.drop n) n s out = (0, 5) := by
  rw [drop_at ht, feedsG, if_pos h, hr]
theorem feeds_some {m t : Int} {xs : List Int} {n : Nat} {s s' : St} {out out' : List Int} (h : (out.length : Int) < m) (ht : xs[n]? = some t) (hr : feedR s out t = some (s', out')) : feedsG m (xs.drop n) n s out = feedsG m (xs.drop (n + 1)) (n + 1) s' out' := by
  rw [drop_at ht, feedsG, if_pos h, hr]
/-- How many terms are needed, and a code. -/
def fneedF (a b c d : Int) (xs : List Int) (m : Int) : Int × Int :=
  if okS ⟨a, b, c, d⟩ then (if termsP xs then (if inB m 0 60 then feedsG m xs 0 ⟨a, b, c, d⟩ [] else (0, 2)) else (0, 1)) else (0, 1)
theorem feedR_inv {s s' : St} {out out' : List Int} {t : Int} (hl : out.length ≤ 60) (h : feedR s out t = some (s', out')) : bdS s' = true ∧ out'.length ≤ 60 ∧ out.length ≤ out'.length ∧ (Det s → Det s') := by
  unfold feedR at h
  split at h
  · rename_i hb
    have h1 := emit_bd (most := 1073741824) (by omega) hl hb h
    have h2 := emit_keeps (most := 1073741824) (fun _ => True) (fun _ _ _ => trivial) hl trivial h
    exact ⟨h1, h2.2.1, h2.2.2, fun hd => (emit_keeps (most := 1073741824) Det (fun _ q hq => hq.em q) hl (hd.fed t) h).1⟩
  · cases h
theorem termsP_bdT {xs : List Int} {n : Nat} {t : Int} (h : termsP xs = true) (ht : xs[n]? = some t) : -1000000000 ≤ t ∧ t ≤ 1000000000 := by
  have := (termsP_iff.1 h).2 n t ht
  have := inB_iff.1 this
  unfold lowT at this
  split at this <;> omega
theorem ret_iiN {r : Int × Int} {x b : Int} (h : r = (x, b)) : Ending.returned (.tuple #[.int .i64 x, .int .i64 b]) = .returned (.tuple #[.int .i64 r.1, .int .i64 r.2]) := by subst h; rfl
theorem iok_eq {s : St} {b : Bool} (h : okS s = b) (w : World) : Calls Tryz.prog 46 #[.agg #[.int .i64 s.a, .int .i64 s.b, .int .i64 s.c, .int .i64 s.d]] w fun e w' => e = .returned (.bool b) ∧ Bl w w' := h ▸ iok_any s w
theorem sok_eq {s : St} {b : Bool} (h : okS s = b) (w : World) : Calls Tryz.prog 52 #[.agg #[.int .i64 s.a, .int .i64 s.b, .int .i64 s.c, .int .i64 s.d]] w fun e w' => e = .returned (.bool b) ∧ Bl w w' := h ▸ sok_any s w
theorem ivalT_eqN {va : Value} {xs : List Int} {b : Bool} (h : termsP xs = b) (w : World) (ha : Sl w va xs) (hl : xs.length ≤ 1048576) : Calls Tryz.prog 85 #[va] w fun e w' => e = .returned (.bool b) ∧ Bl w w' := h ▸ ivalT_any va xs w ha hl
theorem svalT_eqN {va : Value} {xs : List Int} {b : Bool} (h : termsP xs = b) (w : World) (ha : Sl w va xs) (hl : xs.length ≤ 1048576) : Calls Tryz.prog 88 #[va] w fun e w' => e = .returned (.bool b) ∧ Bl w w' := h ▸ svalT_any va xs w ha hl

end Go.Proofs.YtgkelemfbmmgnaaGreat

/- RunState's plain law: what has been emitted are terms in short form, where nothing is left. No condition but what each theorem names. -/
namespace Go.Proofs.YtgkelemfbmmgnaaGreat
open Go.RowKit
set_option linter.unusedVariables false
set_option linter.unusedSimpArgs false

/-- At both ends the value is greater than 1, or infinite. -/
def Cone (s : St) : Prop := (0 ≤ s.c ∧ 0 ≤ s.c + s.d ∧ s.c < s.a ∧ s.c + s.d < s.a + s.b) ∨ (s.c ≤ 0 ∧ s.c + s.d ≤ 0 ∧ s.a < s.c ∧ s.a + s.b < s.c + s.d)
structure EmJ (s : St) (out : List Int) : Prop where
  len : out.length ≤ 60
  bd : ∀ (i : Nat) (x : Int), out[i]? = some x → lowT i ≤ x ∧ x ≤ 1000000000
  cone : out = [] ∨ Cone s
  last : 2 ≤ out.length → (∀ x, out[out.length - 1]? = some x → 2 ≤ x) ∨ (s.c ≠ 0 ∧ s.c + s.d ≠ 0)
theorem EmJ.nil (s : St) : EmJ s [] := ⟨by simp, by simp, .inl rfl, by simp⟩
theorem mul_step {x t : Int} (hx : 0 ≤ x) (ht : 1 ≤ t) : x ≤ x * t := by
  have := Int.mul_le_mul_of_nonneg_left ht hx
  omega
theorem cone_fed {s : St} {t : Int} (h : Cone s) (ht : 1 ≤ t) : Cone (fedF s t) := by
  unfold Cone fedF at *
  simp only
  rcases h with ⟨h1, h2, h3, h4⟩ | ⟨h1, h2, h3, h4⟩
  · left
    have a1 := mul_step h1 ht
    have a2 := mul_step (x := s.a - s.c) (by omega) ht
    have e : (s.a - s.c) * t = s.a * t - s.c * t := Int.sub_mul _ _ _
    refine ⟨by omega, by omega, by omega, by omega⟩
  · right
    have a1 := mul_step (x := -s.c) (by omega) ht
    have a2 := mul_step (x := s.c - s.a) (by omega) ht
    have e : (s.c - s.a) * t = s.c * t - s.a * t := Int.sub_mul _ _ _
    have e2 : -s.c * t = -(s.c * t) := Int.neg_mul _ _
    refine ⟨by omega, by omega, by omega, by omega⟩
theorem EmJ.fed {s : St} {out : List Int} {t : Int} (h : EmJ s out) (ht : out = [] ∨ 1 ≤ t) : EmJ (fedF s t) out := by
  rcases ht with rfl | ht
  · exact EmJ.nil _
  refine ⟨h.len, h.bd, h.cone.imp id (fun hc => cone_fed hc ht), fun hl => ?_⟩
  rcases h.last hl with h1 | ⟨h1, h2⟩
  · exact .inl h1
  · right
    have hc : Cone s := by
      rcases h.cone with e | e
      · subst e; simp at hl
      · exact e
    unfold fedF
    simp only
    rcases hc with ⟨k1, k2, k3, k4⟩ | ⟨k1, k2, k3, k4⟩
    · have a1 := mul_step k1 ht
      constructor <;> omega
    · have a1 := mul_step (x := -s.c) (by omega) ht
      have e2 : -s.c * t = -(s.c * t) := Int.neg_mul _ _
      constructor <;> omega
/-- The rest of a division with any divisor. -/
theorem fdv_rest {n d : Int} (hd : d ≠ 0) : (0 < d → 0 ≤ n - fdv n d * d ∧ n - fdv n d * d < d) ∧ (d < 0 → n - fdv n d * d ≤ 0 ∧ d < n - fdv n d * d) := by
  unfold fdv
  refine ⟨fun h => ?_, fun h => ?_⟩
  · rw [if_neg (by omega)]
    have h1 := Int.emod_nonneg n hd
    have h2 := Int.emod_lt_of_pos n h
    have h3 := Int.mul_ediv_add_emod n d
    have h4 : n / d * d = d * (n / d) := Int.mul_comm _ _
    omega
  · rw [if_pos h]
    have h1 := Int.emod_nonneg (-n) (show -d ≠ 0 by omega)
    have h2 := Int.emod_lt_of_pos (-n) (show 0 < -d by omega)
    have h3 := Int.mul_ediv_add_emod (-n) (-d)
    have h4 : -n / -d * d = -(-d * (-n / -d)) := by rw [Int.neg_mul, Int.neg_neg]; exact Int.mul_comm _ _
    omega
theorem EmJ.em {s : St} {out : List Int} {q : Int} (h : EmJ s out) (hb : bdS s = true) (hl : out.length < 60) (hq : knF s = some q) : EmJ (emF s q) (out ++ [q]) := by
  have hqb := kn_bd hb hq
  obtain ⟨o1, o2, o3⟩ := knF_some hq
  obtain ⟨c1, c2, c3⟩ := opS_no o1
  have r1 := fdv_rest (n := s.a) c1
  have r2 := fdv_rest (n := s.a + s.b) c2
  rw [o3] at r1
  rw [o2] at r2
  have e : q * (s.c + s.d) = q * s.c + q * s.d := Int.mul_add _ _ _
  have hcone : Cone (emF s q) := by
    unfold Cone emF
    simp only
    rcases Int.lt_or_le s.c 0 with k | k
    · have k2 := c3.1 k
      have r1 := r1.2 k
      have r2 := r2.2 k2
      right; omega
    · have r1 := r1.1 (by omega)
      have r2 := r2.1 (by omega)
      left; omega
  have hge : out ≠ [] → 1 ≤ q := by
    intro hne
    rcases h.cone.resolve_left hne with ⟨k1, k2, k3, k4⟩ | ⟨k1, k2, k3, k4⟩
    · have r1 := r1.1 (by omega)
      refine Classical.byContradiction fun hc => ?_
      have := Int.mul_le_mul_of_nonneg_right (show q ≤ 0 by omega) k1
      omega
    · have r1 := r1.2 (by omega)
      refine Classical.byContradiction fun hc => ?_
      have := Int.mul_le_mul_of_nonneg_right (show q ≤ 0 by omega) (show 0 ≤ -s.c by omega)
      have e2 : q * -s.c = -(q * s.c) := Int.mul_neg _ _
      omega
  refine ⟨by simp; omega, fun i x hx => ?_, .inr hcone, fun hl2 => ?_⟩
  · rcases Nat.lt_or_ge i out.length with k | k
    · rw [List.getElem?_append_left k] at hx
      exact h.bd i x hx
    · rw [List.getElem?_append_right k] at hx
      have hi : i - out.length = 0 := by
        rcases Nat.eq_zero_or_pos (i - out.length) with z | z
        · exact z
        · rw [List.getElem?_eq_none (by simp; omega)] at hx; cases hx
      rw [hi] at hx
      simp at hx
      subst hx
      unfold lowT
      split
      · exact hqb
      · exact ⟨hge (by intro e; subst e; simp at k hi; omega), hqb.2⟩
  · have hne : out ≠ [] := by intro e; subst e; simp at hl2
    rw [List.length_append, List.length_singleton, Nat.add_sub_cancel]
    by_cases hz : (emF s q).c ≠ 0 ∧ (emF s q).c + (emF s q).d ≠ 0
    · exact .inr hz
    · left
      intro x hx
      rw [List.getElem?_append_right (Nat.le_refl _)] at hx
      simp at hx
      subst hx
      have h1 := hge hne
      refine Classical.byContradiction fun hc => hz ?_
      have hq1 : q = 1 := by omega
      subst hq1
      unfold emF
      simp only
      rcases h.cone.resolve_left hne with ⟨k1, k2, k3, k4⟩ | ⟨k1, k2, k3, k4⟩
      · constructor <;> omega
      · constructor <;> omega
theorem emit_pair {most : Nat} {s s' : St} {out out' : List Int} (hm : 60 < most) (P : St → List Int → Prop) (hp : ∀ s out q, bdS s = true → out.length < 60 → knF s = some q → P s out → P (emF s q) (out ++ [q])) : out.length ≤ 60 → bdS s = true → P s out → emitF most s out = some (s', out') → P s' out' := by
  have key : ∀ f s out, out.length ≤ 60 → bdS s = true → P s out → emitM most f s out = some (s', out') → P s' out' := by
    intro f
    induction f with
    | zero => intro s out _ _ _ h; cases h
    | succ f ih =>
      intro s out hl hb hs h
      rw [emitM] at h
      split at h
      · injection h with h; injection h with h1 h2; subst h1 h2; exact hs
      · split at h
        · injection h with h; injection h with h1 h2; subst h1 h2; exact hs
        · rename_i q hq
          split at h
          · cases h
          · split at h
            · rename_i h60 hb2
              exact ih (emF s q) (out ++ [q]) (by simp; omega) hb2 (hp s out q hb (by omega) hq hs) h
            · split at h
              · omega
              · cases h
  intro hl hb hs h
  exact key _ s out hl hb hs h
/-- Feed all terms. -/
def runG : List Int → St → List Int → Option (St × List Int)
  | [], s, out => some (s, out)
  | t :: ts, s, out => match feedR s out t with | none => none | some r => runG ts r.1 r.2
theorem feedR_J {s s' : St} {out out' : List Int} {t : Int} (h : feedR s out t = some (s', out')) (hj : EmJ s out) (ht : out = [] ∨ 1 ≤ t) : EmJ s' out' := by
  unfold feedR at h
  split at h
  · rename_i hb
    exact emit_pair (most := 1073741824) (by omega) EmJ (fun s out q h1 h2 h3 h4 => h4.em h1 h2 h3) hj.len hb (hj.fed ht) h
  · cases h
/-- Where nothing is left, what has been emitted is a list of terms in short form. -/
theorem run_short {s : St} {out : List Int} (h : EmJ s out) (hc : s.c = 0) (hne : out ≠ []) : termsP (shortL out) = true ∧ shortL out = out := by
  have e : shortL out = out := by
    refine shortL_no (fun ⟨h1, h2⟩ => ?_)
    rcases h.last (by omega) with k | k
    · have := k 1 h2; omega
    · exact k.1 hc
  rw [e]
  refine ⟨termsP_iff.2 ⟨⟨?_, h.len⟩, fun i x hx => inB_iff.2 (h.bd i x hx)⟩, rfl⟩
  cases out with
  | nil => exact absurd rfl hne
  | cons a l => simp
/-- What is left when all terms have been fed: the terms, and a code. -/
noncomputable def endF (s : St) (out : List Int) : List Int × Int :=
  if s.c = 0 then (if s.a = 0 ∨ out.length = 0 then ([], 6) else (if termsP (shortL out) then (shortL out, 0) else ([], 5)))
  else if (fullF s.a s.c).2.2 = 0 then (if termsP (shortL (out ++ termsF (fullF s.a s.c).1 (fullF s.a s.c).2.1)) then (shortL (out ++ termsF (fullF s.a s.c).1 (fullF s.a s.c).2.1), 0) else ([], 5))
  else ([], (fullF s.a s.c).2.2)

end Go.Proofs.YtgkelemfbmmgnaaGreat

