/- Some of the texts of this claim, joined in one file: OpenB, StM. -/
import Derived.Test.YtgkelemfbmmgnaaRows
import Derived.Test.YtgkelemfbmmgnaaMTp4
import Derived.ProofKit
import Derived.OpenShut
import Derived.ShutString
import Derived.ChangeOld
import Derived.Lib.SmallJoins
import Derived.Test.YtgkelemfbmmgnaaMTp1
/- How a law's arguments are opened: slices of bytes. No condition. -/
namespace Go.Proofs.Ytgkelemfbmmgnaa
open Go.RowKit Go.ChangeShapes Go.WideShapes Go.ChangeAt
open Go.Joins (open_agg2)
set_option linter.unusedVariables false
set_option linter.unusedSimpArgs false
set_option maxRecDepth 100000

theorem own : ownKnob Try.prog.godebug = none := by kernel_rfl
theorem laidOut : laidOutB Try.prog = true := by kernel_rfl

theorem u8_of_wf {x : Int} (h : (Lit.int .u8 x).wf = true) : 0 ≤ x ∧ x ≤ 255 := by
  have := bounds_u8 h
  omega
theorem SlB.nil (w : World) : SlB w (.slice none 0 0) [] := ⟨none, 0, rfl, Nat.le_refl _, by simp [maxLen], by simp, fun _ => rfl, .inl rfl⟩

section
variable {H : Type} {enc : TypeId × Value → H} {W : World}

theorem slB_of_trod {fuel : Nat} {v : Value} {y : DataW H × List MemPlace} (h : DataW.trod enc Try.prog W 0 (fun _ => true) true fuel 22 [v] = some y) : ∃ xs, SlB W v xs := by
  rcases open_ints Try.underlying22 Try.underlying5 (by kernel_rfl) h with ⟨hcs, _⟩ | ⟨x, l, c, zs, hcs, _, hl, hm, hz, _, hcell, hwz⟩
  · simp at hcs
    subst hcs
    exact ⟨[], SlB.nil W⟩
  · simp at hcs
    subst hcs
    have hz' : zs.length = c := by simpa using hz
    have hlen : (zs.take l).length = l := by simp; omega
    refine ⟨zs.take l, some x, c, by rw [hlen], by omega, hm, fun n hn => u8_of_wf (hwz n (List.mem_of_mem_take hn)), by simp, ?_⟩
    by_cases h0 : l = 0
    · left; subst h0; simp
    · right
      obtain ⟨b, off, spot⟩ := x
      have hc := hcell 0 (by omega)
      have hspot : spot = none := by simpa [Addr.add] using World.cell?_spot hc
      subst hspot
      refine ⟨b, off, rfl, fun i n hi => ?_⟩
      have hil : i < l := by have := (List.getElem?_eq_some_iff.1 hi).1; omega
      have hc := hcell i (by omega)
      rw [List.getElem?_take, if_pos hil] at hi
      have e : zs.getD i 0 = n := by simp [hi]
      rw [e] at hc
      rw [← hc]
      unfold Addr.add
      split
      · rename_i hi0; subst hi0; rfl
      · rfl

theorem bytes_of_trod {v : Value} {d : DataW H} {p : List MemPlace} {r : Reach} {b0 : Nat} (hv : Value.okWide Try.prog W r b0 22 v) (h : DataW.Trod enc Try.prog W 0 (fun _ => true) true 22 v d p) :
    ∃ xs, SlB W v xs := by
  obtain ⟨a, l, c, rfl⟩ := okWide_slice Try.underlying22 hv
  obtain ⟨fuel, hf⟩ := h
  exact slB_of_trod (by simpa [Value.cells] using hf)

end

end Go.Proofs.Ytgkelemfbmmgnaa

/- States (a x + b) / (c x + d): plain functions. No condition but what each theorem names. -/
namespace Go.Proofs.Ytgkelemfbmmgnaa
set_option linter.unusedVariables false
set_option linter.unusedSimpArgs false

structure St where
  a : Int
  b : Int
  c : Int
  d : Int
def fedF (s : St) (t : Int) : St := ⟨s.a * t + s.b, s.a, s.c * t + s.d, s.c⟩
def emF (s : St) (q : Int) : St := ⟨s.c, s.d, s.a - q * s.c, s.b - q * s.d⟩
def bdN (n : Int) : Bool := inB n (-1000000000) 1000000000
def bdS (s : St) : Bool := bdN s.a && bdN s.b && bdN s.c && bdN s.d
def okS (s : St) : Bool := bdS s && (s.a * s.d != s.b * s.c)
theorem bdN_iff {n : Int} : bdN n = true ↔ -1000000000 ≤ n ∧ n ≤ 1000000000 := inB_iff
theorem bdS_iff {s : St} : bdS s = true ↔ (-1000000000 ≤ s.a ∧ s.a ≤ 1000000000) ∧ (-1000000000 ≤ s.b ∧ s.b ≤ 1000000000) ∧ (-1000000000 ≤ s.c ∧ s.c ≤ 1000000000) ∧ (-1000000000 ≤ s.d ∧ s.d ≤ 1000000000) := by
  simp only [bdS, Bool.and_eq_true, bdN_iff, and_assoc]
/-- The determinant is not nought. -/
def Det (s : St) : Prop := s.a * s.d ≠ s.b * s.c
theorem Det.fed {s : St} (h : Det s) (t : Int) : Det (fedF s t) := by
  unfold Det fedF at *
  simp only
  intro e
  apply h
  have e1 : (s.a * t + s.b) * s.c = s.a * t * s.c + s.b * s.c := Int.add_mul _ _ _
  have e2 : s.a * (s.c * t + s.d) = s.a * (s.c * t) + s.a * s.d := Int.mul_add _ _ _
  have e3 : s.a * t * s.c = s.a * (s.c * t) := by ac_rfl
  omega
theorem Det.em {s : St} (h : Det s) (q : Int) : Det (emF s q) := by
  unfold Det emF at *
  simp only
  intro e
  apply h
  have e1 : s.c * (s.b - q * s.d) = s.c * s.b - s.c * (q * s.d) := Int.mul_sub _ _ _
  have e2 : s.d * (s.a - q * s.c) = s.d * s.a - s.d * (q * s.c) := Int.mul_sub _ _ _
  have e3 : s.c * (q * s.d) = s.d * (q * s.c) := by ac_rfl
  have e4 : s.c * s.b = s.b * s.c := Int.mul_comm _ _
  have e5 : s.d * s.a = s.a * s.d := Int.mul_comm _ _
  omega
theorem okS_iff {s : St} : okS s = true ↔ bdS s = true ∧ Det s := by simp [okS, Det]

/-- The floor of a quotient, whatever the divisor's sign. -/
def fdv (n d : Int) : Int := if d < 0 then -n / -d else n / d
theorem fdv_bd {n d L : Int} (hd : d ≠ 0) (hn : -L ≤ n ∧ n ≤ L) (hL : 0 ≤ L) : -L ≤ fdv n d ∧ fdv n d ≤ L := by
  have key : ∀ x y : Int, 0 < y → -L ≤ x → x ≤ L → -L ≤ x / y ∧ x / y ≤ L := by
    intro x y hy h1 h2
    have a := Int.mul_le_mul_of_nonneg_left (show 1 ≤ y by omega) hL
    refine ⟨(Int.le_ediv_iff_mul_le hy).2 ?_, Int.ediv_le_of_le_mul hy (by omega)⟩
    rw [Int.neg_mul]; omega
  unfold fdv
  split
  · exact key _ _ (by omega) (by omega) (by omega)
  · exact key _ _ (by omega) hn.1 hn.2
/-- Is nothing known, because the denominators vanish or have two signs? -/
def opS (c d : Int) : Bool := decide (c = 0) || decide (c + d = 0) || (decide (c < 0) != decide (c + d < 0))
/-- The term that is known. -/
def knV (a b c d : Int) : Option Int := if opS c d then none else if fdv (a + b) (c + d) = fdv a c then some (fdv a c) else none
def knF (s : St) : Option Int := knV s.a s.b s.c s.d
theorem knF_some {s : St} {q : Int} (h : knF s = some q) : opS s.c s.d = false ∧ fdv (s.a + s.b) (s.c + s.d) = q ∧ fdv s.a s.c = q := by
  unfold knF knV at h
  cases e : opS s.c s.d with
  | true => rw [e] at h; simp at h
  | false =>
    rw [e] at h
    simp only [Bool.false_eq_true, if_false] at h
    split at h
    · rename_i e2
      injection h with h
      exact ⟨rfl, by omega, h⟩
    · cases h
theorem opS_no {c d : Int} (h : opS c d = false) : c ≠ 0 ∧ c + d ≠ 0 ∧ (c < 0 ↔ c + d < 0) := by
  unfold opS at h
  simp only [Bool.or_eq_false_iff, decide_eq_false_iff_not] at h
  obtain ⟨⟨h1, h2⟩, h3⟩ := h
  refine ⟨h1, h2, ?_⟩
  by_cases x : c < 0 <;> by_cases y : c + d < 0 <;> simp [x, y] at h3 ⊢
theorem kn_bd {s : St} {q : Int} (hb : bdS s = true) (h : knF s = some q) : -1000000000 ≤ q ∧ q ≤ 1000000000 := by
  have hb := bdS_iff.1 hb
  obtain ⟨h1, _, h3⟩ := knF_some h
  have := fdv_bd (n := s.a) (d := s.c) (L := 1000000000) (opS_no h1).1 hb.1 (by omega)
  omega

/-- Emit terms as long as one is known, up to some number in all: the state and the terms, or nothing if it becomes too great. -/
def emitM (most : Nat) : Nat → St → List Int → Option (St × List Int)
  | 0, _, _ => none
  | f + 1, s, out =>
    if most ≤ out.length then some (s, out)
    else match knF s with
      | none => some (s, out)
      | some q => if out.length = 60 then none else if bdS (emF s q) then emitM most f (emF s q) (out ++ [q]) else if most ≤ out.length + 1 then some (emF s q, out ++ [q]) else none
def emitF (most : Nat) (s : St) (out : List Int) : Option (St × List Int) := emitM most (61 - out.length) s out
theorem emit_most {most : Nat} {s : St} {out : List Int} (hl : out.length ≤ 60) (h : most ≤ out.length) : emitF most s out = some (s, out) := by
  unfold emitF
  rw [show 61 - out.length = (60 - out.length) + 1 by omega, emitM, if_pos h]
theorem emit_none {most : Nat} {s : St} {out : List Int} (hl : out.length ≤ 60) (h : knF s = none) : emitF most s out = some (s, out) := by
  unfold emitF
  rw [show 61 - out.length = (60 - out.length) + 1 by omega, emitM, h]
  split <;> rfl
theorem emit_full {most : Nat} {s : St} {out : List Int} {q : Int} (hl : out.length = 60) (hm : out.length < most) (h : knF s = some q) : emitF most s out = none := by
  unfold emitF
  rw [show 61 - out.length = (60 - out.length) + 1 by omega, emitM, if_neg (by omega), h]
  simp [hl]
theorem emit_step {most : Nat} {s : St} {out : List Int} {q : Int} (hl : out.length < 60) (hm : out.length < most) (h : knF s = some q) (hb : bdS (emF s q) = true) : emitF most s out = emitF most (emF s q) (out ++ [q]) := by
  unfold emitF
  rw [show 61 - out.length = (60 - out.length) + 1 by omega, emitM, if_neg (by omega), h]
  simp only []
  rw [if_neg (by omega), if_pos hb]
  simp only [List.length_append, List.length_singleton]
  rw [show 61 - (out.length + 1) = 60 - out.length by omega]
theorem emit_big {most : Nat} {s : St} {out : List Int} {q : Int} (hl : out.length < 60) (hm : out.length + 1 < most) (h : knF s = some q) (hb : bdS (emF s q) = false) : emitF most s out = none := by
  unfold emitF
  rw [show 61 - out.length = (60 - out.length) + 1 by omega, emitM, if_neg (by omega), h]
  simp only []
  rw [if_neg (by omega), hb, if_neg (by simp), if_neg (by omega)]
theorem emit_last {most : Nat} {s : St} {out : List Int} {q : Int} (hl : out.length < 60) (hm : out.length + 1 = most) (h : knF s = some q) (hb : bdS (emF s q) = false) : emitF most s out = some (emF s q, out ++ [q]) := by
  unfold emitF
  rw [show 61 - out.length = (60 - out.length) + 1 by omega, emitM, if_neg (by omega), h]
  simp only []
  rw [if_neg (by omega), hb, if_neg (by simp), if_pos (by omega)]
/-- Whatever emission leaves. -/
theorem emit_keeps {most : Nat} {s s' : St} {out out' : List Int} (P : St → Prop) (hp : ∀ s q, P s → P (emF s q)) : out.length ≤ 60 → P s → emitF most s out = some (s', out') → P s' ∧ out'.length ≤ 60 ∧ out.length ≤ out'.length := by
  have key : ∀ f s out, out.length ≤ 60 → P s → emitM most f s out = some (s', out') → P s' ∧ out'.length ≤ 60 ∧ out.length ≤ out'.length := by
    intro f
    induction f with
    | zero => intro s out _ _ h; cases h
    | succ f ih =>
      intro s out hl hs h
      rw [emitM] at h
      split at h
      · injection h with h; injection h with h1 h2; subst h1 h2; exact ⟨hs, hl, Nat.le_refl _⟩
      · split at h
        · injection h with h; injection h with h1 h2; subst h1 h2; exact ⟨hs, hl, Nat.le_refl _⟩
        · rename_i q _
          split at h
          · cases h
          · split at h
            · have := ih (emF s q) (out ++ [q]) (by simp; omega) (hp s q hs) h
              simp at this
              exact ⟨this.1, this.2.1, by omega⟩
            · split at h
              · injection h with h; injection h with h1 h2; subst h1 h2
                exact ⟨hp s q hs, by simp; omega, by simp⟩
              · cases h
  intro hl hs h
  exact key _ s out hl hs h
theorem emit_bd {most : Nat} {s s' : St} {out out' : List Int} (hm : 60 < most) : out.length ≤ 60 → bdS s = true → emitF most s out = some (s', out') → bdS s' = true := by
  have key : ∀ f s out, out.length ≤ 60 → bdS s = true → emitM most f s out = some (s', out') → bdS s' = true := by
    intro f
    induction f with
    | zero => intro s out _ _ h; cases h
    | succ f ih =>
      intro s out hl hs h
      rw [emitM] at h
      split at h
      · injection h with h; injection h with h1 h2; subst h1 h2; exact hs
      · split at h
        · injection h with h; injection h with h1 h2; subst h1 h2; exact hs
        · rename_i q _
          split at h
          · cases h
          · split at h
            · rename_i hb
              exact ih (emF s q) (out ++ [q]) (by simp; omega) hb h
            · split at h
              · omega
              · cases h
  intro hl hs h
  exact key _ s out hl hs h

end Go.Proofs.Ytgkelemfbmmgnaa

