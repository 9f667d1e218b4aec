/- Texts of sources in the two programs' own steps. Each theorem names its conditions. -/
import Derived.Test.YtndblondleclpaaDoorSxM
import Derived.Test.YtndblondleclpaaDoorSrcA
import Derived.Lib.ItoaLen
namespace Go.Proofs.YtndblondleclpaaDoor
set_option linter.unusedVariables false
set_option linter.unusedSimpArgs false

theorem vs_ok {s : Src} : OkSrc s ↔ VS s.H s.P s.G :=
  ⟨fun k => ⟨k.h30, k.p30, k.pos, k.gp, fun i x h => by have := k.hd i x h; unfold lowAt at this; exact this, k.per, k.gr⟩,
   fun k => ⟨k.h30, k.p30, k.pos, k.gp, fun i x h => by have := k.hd i x h; unfold lowAt; exact this, k.per, k.gr⟩⟩
theorem stxt_ok {s : Src} (h : okSrc s = true) : stxt s.H s.P s.G = stext s.H s.P s.G := stxt_yes (vs_ok.1 (okSrc_iff.1 h))
theorem stxt_bad {s : Src} (h : okSrc s = false) : stxt s.H s.P s.G = [] := stxt_no (fun v => by rw [okSrc_iff.2 (vs_ok.2 v)] at h; cases h)

/-- The heads that are written; the words of the period without their marks. -/
def hws (H : List Int) (k : Nat) : List (List UInt8) := (H.take k).map Lib.itoa
def cws (P G : List Int) (k : Nat) : List (List UInt8) := (List.range k).map fun i => core (P.getD i 0) (G.getD i 0)
theorem hws_succ {H : List Int} {k : Nat} {x : Int} (h : H[k]? = some x) : hws H (k + 1) = hws H k ++ [Lib.itoa x] := by
  unfold hws; rw [List.take_add_one, h]; simp
theorem hws_len {H : List Int} {k : Nat} (h : k ≤ H.length) : (hws H k).length = k := by simp [hws]; omega
theorem hws_all (H : List Int) : hws H H.length = H.map Lib.itoa := by simp [hws]
theorem cws_succ {P G : List Int} {k : Nat} {x y : Int} (h : P[k]? = some x) (h' : G[k]? = some y) : cws P G (k + 1) = cws P G k ++ [core x y] := by
  unfold cws; rw [List.range_succ]; simp [List.getD, h, h']
theorem cws_len (P G : List Int) (k : Nat) : (cws P G k).length = k := by simp [cws]
/-- One word more. -/
theorem join_snoc {l : List (List UInt8)} (x : List UInt8) (c : UInt8) : Lib.join (l ++ [x]) [c] = if l = [] then x else Lib.join l [c] ++ c :: x := by
  by_cases h : l = []
  · subst h; rw [if_pos rfl, List.nil_append, join_one]
  · rw [if_neg h, join_app h (by simp), join_one]
theorem join_pwn {n : Nat} {P G : List Int} : ∀ {k : Nat}, 0 < k → k ≤ n → Lib.join (pwn n P G k) [32] = 40 :: (Lib.join (cws P G k) [32] ++ if k = n then [41] else [])
  | 0, h, _ => absurd h (by omega)
  | 1, _, hn => by
    simp only [pwn, cws, List.range_succ, List.range_zero, List.nil_append, List.map_cons, List.map_nil, join_one, pword]
    rw [if_pos trivial]
    by_cases h : 1 = n <;> simp [h]
  | k + 2, _, hn => by
    have e : pwn n P G (k + 1) ≠ [] := by intro q; have := congrArg List.length q; simp [pwn_length] at this
    have e2 : cws P G (k + 1) ≠ [] := by intro q; have := congrArg List.length q; simp [cws_len] at this
    have ih := join_pwn (n := n) (P := P) (G := G) (k := k + 1) (by omega) (by omega)
    rw [if_neg (by omega), List.append_nil] at ih
    rw [pwn_succ, join_snoc, if_neg e, ih]
    have hc : cws P G (k + 2) = cws P G (k + 1) ++ [core (P.getD (k + 1) 0) (G.getD (k + 1) 0)] := by simp [cws, List.range_succ]
    rw [hc, join_snoc, if_neg e2, pword, if_neg (by omega)]
    by_cases h : k + 1 + 1 = n
    · rw [if_pos h]; simp
    · rw [if_neg h]; simp
/-- The reference's text. -/
def sbase (H : List Int) : List UInt8 := if H = [] then [40] else Lib.join (H.map Lib.itoa) [32] ++ [32, 40]
theorem stext_none (H G : List Int) : stext H [] G = Lib.join (H.map Lib.itoa) [32] := by simp [stext, words, pwn]
theorem stext_some {H P G : List Int} (h : 0 < P.length) : stext H P G = sbase H ++ Lib.join (cws P G P.length) [32] ++ [41] := by
  unfold stext words sbase
  have e : pwn P.length P G P.length ≠ [] := by intro q; have := congrArg List.length q; rw [pwn_length, List.length_nil] at this; omega
  have hj := join_pwn (n := P.length) (P := P) (G := G) h (Nat.le_refl _)
  rw [if_pos rfl] at hj
  by_cases hH : H = []
  · subst hH; rw [if_pos rfl, List.map_nil, List.nil_append, hj]; simp
  · rw [if_neg hH, join_app (by simpa using hH) e, hj]; simp
theorem pwn_snoc {n : Nat} {P G : List Int} {k : Nat} {x y : Int} (h : P[k]? = some x) (h' : G[k]? = some y) : pwn n P G (k + 1) = pwn n P G k ++ [pword n k x y] := by
  rw [pwn_succ]; simp [List.getD, h, h']
/-- Lengths. -/
theorem itoa_len (n : Int) (h : -1000000000 ≤ n ∧ n ≤ 1000000000) : (Lib.itoa n).length ≤ 21 := Lib.itoa_length_le n (by omega) (by omega)
theorem core_len {p g : Int} (hp : -1000000000 ≤ p ∧ p ≤ 1000000000) (hg : -1000000000 ≤ g ∧ g ≤ 1000000000) : (core p g).length ≤ 43 := by
  unfold core gw
  have h1 := itoa_len p hp
  have h2 := itoa_len g hg
  rw [List.length_append]
  split
  · simp; omega
  · simp; omega
theorem pword_len {n i : Nat} {p g : Int} (hp : -1000000000 ≤ p ∧ p ≤ 1000000000) (hg : -1000000000 ≤ g ∧ g ≤ 1000000000) : (pword n i p g).length ≤ 45 := by
  have := core_len hp hg
  unfold pword
  simp only [List.length_append]
  split <;> split <;> simp <;> omega
theorem join_len (c : UInt8) (m : Nat) : ∀ (l : List (List UInt8)), (∀ w ∈ l, w.length ≤ m) → (Lib.join l [c]).length ≤ l.length * (m + 1)
  | [], _ => by rw [join_nil]; simp
  | a :: l, h => by
    have ha := h a (by simp)
    by_cases hl : l = []
    · subst hl; rw [join_one]; simp; omega
    · have := join_len c m l (fun w hw => h w (by simp [hw]))
      rw [join_cons a hl, List.length_append, List.length_cons, List.length_cons, Nat.add_mul]
      omega

end Go.Proofs.YtndblondleclpaaDoor
