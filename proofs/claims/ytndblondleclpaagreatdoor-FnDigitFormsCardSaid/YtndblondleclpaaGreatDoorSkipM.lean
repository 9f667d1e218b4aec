/- SkipTerms: plain. No condition but what each theorem names. -/
import Derived.Test.YtndblondleclpaaGreatDoorSkU
import Derived.Test.YtndblondleclpaaGreatDoorUpd
import Derived.Test.YtndblondleclpaaGreatDoorClone
namespace Go.Proofs.YtndblondleclpaaGreatDoor
open Go.RowKit
set_option linter.unusedVariables false
set_option linter.unusedSimpArgs false


/-- The growth that is told at a place behind K terms. -/
def grwF (s : Src) (K i : Nat) : Int := s.G.getD ((K - s.H.length + i) % s.P.length) 0
/-- A source without its first K terms. -/
def outF (s : Src) (K : Nat) : Src :=
  if K ≤ s.H.length then ⟨s.H.drop K, s.P, s.G⟩
  else ⟨[], (List.range s.P.length).map (fun i => (termP s (K + i)).1), (List.range s.P.length).map (grwF s K)⟩
noncomputable def skipF (s : Src) (c : Int) : Src × Int :=
  if okSrc s then (if inB c 0 1000 then (if (termP s c.toNat).2 then (if okSrc (outF s c.toNat) then (outF s c.toNat, 0) else (⟨[], [], []⟩, 5)) else (⟨[], [], []⟩, 3)) else (⟨[], [], []⟩, 2)) else (⟨[], [], []⟩, 1)
theorem out_ok {s : Src} {K : Nat} (h : OkSrc s) (hk : K < s.H.length ∨ K = s.H.length ∧ 0 < s.P.length) : okSrc (outF s K) = true := by
  have hle : K ≤ s.H.length := by omega
  rw [outF, if_pos hle]
  refine okSrc_iff.2 ⟨?_, h.p30, ?_, h.gp, fun i x hx => ?_, h.per, h.gr⟩
  · show (s.H.drop K).length ≤ 30
    rw [List.length_drop]
    have := h.h30
    omega
  · show 0 < (s.H.drop K).length + s.P.length
    rw [List.length_drop]
    omega
  · have hx : (s.H.drop K)[i]? = some x := hx
    rw [List.getElem?_drop] at hx
    have := h.hd (K + i) x hx
    unfold lowAt at *
    split at this <;> split <;> constructor <;> omega
theorem term_some {s : Src} {K : Nat} : (termP s K).2 = decide (K < s.H.length ∨ 0 < s.P.length) := by
  unfold termP
  by_cases c1 : K < s.H.length
  · rw [if_pos c1]; simp [c1]
  · rw [if_neg c1]
    by_cases c2 : s.P.length = 0
    · rw [if_pos c2]; simp [c1, c2]
    · rw [if_neg c2]
      have : 0 < s.P.length := by omega
      simp [this]
theorem skip_1 {s : Src} {c : Int} (h : okSrc s = false) : skipF s c = (⟨[], [], []⟩, 1) := by simp [skipF, h]
theorem skip_2 {s : Src} {c : Int} (h : okSrc s = true) (h2 : inB c 0 1000 = false) : skipF s c = (⟨[], [], []⟩, 2) := by simp [skipF, h, h2]
theorem skip_3 {s : Src} {K : Nat} (h : okSrc s = true) (h2 : inB (K : Int) 0 1000 = true) (h3 : (termP s K).2 = false) : skipF s (K : Int) = (⟨[], [], []⟩, 3) := by simp [skipF, h, h2, h3]
theorem skip_5 {s : Src} {K : Nat} (h : okSrc s = true) (h2 : inB (K : Int) 0 1000 = true) (h3 : (termP s K).2 = true) (h4 : okSrc (outF s K) = false) : skipF s (K : Int) = (⟨[], [], []⟩, 5) := by simp [skipF, h, h2, h3, h4]
theorem skip_0 {s : Src} {K : Nat} (h : okSrc s = true) (h2 : inB (K : Int) 0 1000 = true) (h3 : (termP s K).2 = true) (h4 : okSrc (outF s K) = true) : skipF s (K : Int) = (outF s K, 0) := by simp [skipF, h, h2, h3, h4]
/-- The first i of what a function tells. -/
def preF (f : Nat → Int) (i : Nat) : List Int := (List.range i).map f
theorem preF_succ (f : Nat → Int) (i : Nat) : preF f (i + 1) = preF f i ++ [f i] := by simp [preF, List.range_succ]
theorem preF_len (f : Nat → Int) (i : Nat) : (preF f i).length = i := by simp [preF]
theorem out_far {s : Src} {K : Nat} (h : s.H.length < K) : outF s K = ⟨[], preF (fun i => (termP s (K + i)).1) s.P.length, preF (grwF s K) s.P.length⟩ := by rw [outF, if_neg (by omega)]; rfl
/-- The list xs with its first i elements replaced by what a function tells. -/
def mixF (f : Nat → Int) (xs : List Int) (i : Nat) : List Int := preF f i ++ xs.drop i
theorem mixF_len {f : Nat → Int} {xs : List Int} {i : Nat} (h : i ≤ xs.length) : (mixF f xs i).length = xs.length := by simp [mixF, preF_len]; omega
theorem mixF_zero (f : Nat → Int) (xs : List Int) : mixF f xs 0 = xs := by simp [mixF, preF]
theorem mixF_all (f : Nat → Int) (xs : List Int) : mixF f xs xs.length = preF f xs.length := by simp [mixF]
theorem mixF_set {f : Nat → Int} {xs : List Int} {i : Nat} (h : i < xs.length) : (mixF f xs i).set i (f i) = mixF f xs (i + 1) := by
  unfold mixF
  rw [List.set_append_right _ _ (by rw [preF_len]; exact Nat.le_refl _), preF_len, Nat.sub_self, preF_succ, List.append_assoc]
  congr 1
  rw [List.drop_eq_getElem_cons h]
  rfl
/-- SkipTerms' post. -/
def SkP (F : Src × Int) (w : World) (e : Ending) (w' : World) : Prop := ∃ h p g, e = .returned (.tuple #[.agg #[h, p, g], .int .i64 F.2]) ∧ OwnS w' w.heap.size h p g F.1 ∧ Bl w w'
theorem ownS_nilK (w : World) (B : Nat) : OwnS w B (.slice none 0 0) (.slice none 0 0) (.slice none 0 0) ⟨[], [], []⟩ :=
  ⟨Own.nil _ _, Own.nil _ _, Own.nil _ _, fun k e => by simp [Value.ownBlock] at e, fun k e => by simp [Value.ownBlock] at e, fun k e => by simp [Value.ownBlock] at e⟩
theorem skp_no {F : Src × Int} {q : Int} {w w' : World} (h : F = (⟨[], [], []⟩, q)) (hb : Bl w w') : SkP F w (.returned (.tuple #[.agg #[.slice none 0 0, .slice none 0 0, .slice none 0 0], .int .i64 q])) w' := by
  unfold SkP; rw [h]; exact ⟨_, _, _, rfl, ownS_nilK _ _, hb⟩
theorem skp_yes {F : Src × Int} {s : Src} {h p g : Value} {w w' : World} (e : F = (s, 0)) (ho : OwnS w' w.heap.size h p g s) (hb : Bl w w') : SkP F w (.returned (.tuple #[.agg #[h, p, g], .int .i64 0])) w' := by
  unfold SkP; rw [e]; exact ⟨_, _, _, rfl, ho, hb⟩

end Go.Proofs.YtndblondleclpaaGreatDoor
