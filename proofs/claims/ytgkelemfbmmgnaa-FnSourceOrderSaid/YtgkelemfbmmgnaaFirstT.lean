/- The first terms of a source: the program and the reference. Each theorem names its conditions. -/
import Derived.Test.YtgkelemfbmmgnaaTerm
import Derived.Test.YtgkelemfbmmgnaaApp
import Derived.Test.YtgkelemfbmmgnaaSrcI
import Derived.Test.YtgkelemfbmmgnaaSrcS
namespace Go.Proofs.Ytgkelemfbmmgnaa
open Go.RowKit
set_option linter.unusedVariables false
set_option linter.unusedSimpArgs false

/-- At most n terms from place k on. -/
def firstG (s : Src) : Nat → Nat → List Int
  | 0, _ => []
  | n + 1, k => if (termP s k).2 then (termP s k).1 :: firstG s n (k + 1) else []
/-- The first terms. -/
def firstL (s : Src) (n : Nat) : List Int := firstG s n 0
theorem firstG_no {s : Src} {n k : Nat} {x : Int} (h : termP s k = (x, false)) : firstG s n k = [] := by
  cases n with
  | zero => rfl
  | succ n => rw [firstG, h]; rfl
theorem firstG_yes {s : Src} {M k : Nat} {x : Int} {xs T : List Int} (h : termP s k = (x, true)) (hk : k < M) (e : xs ++ firstG s (M - k) k = T) : (xs ++ [x]) ++ firstG s (M - (k + 1)) (k + 1) = T := by
  rw [show M - k = (M - (k + 1)) + 1 by omega, firstG, h] at e
  rw [← e]
  simp
theorem firstG_len (s : Src) (n : Nat) : ∀ k, (firstG s n k).length ≤ n := by
  induction n with
  | zero => intro k; simp [firstG]
  | succ n ih =>
    intro k
    rw [firstG]
    split
    · simp [ih]
    · simp
theorem termP_bd {s : Src} (ok : OkSrc s) (k : Nat) (hk : k ≤ 1000000) : -1000000000 ≤ (termP s k).1 ∧ (termP s k).1 ≤ 1000001000000 := by
  unfold termP
  split
  · rename_i h
    have e : s.H[k]? = some s.H[k] := List.getElem?_eq_getElem h
    have := ok.hd k _ e
    unfold lowAt at this
    simp [e]
    split at this <;> omega
  · split
    · simp
    · rename_i h h2
      have hm : (k - s.H.length) % s.P.length < s.P.length := Nat.mod_lt _ (by omega)
      have hm2 : (k - s.H.length) % s.P.length < s.G.length := by rw [ok.gp]; exact hm
      have e1 : s.P[(k - s.H.length) % s.P.length]? = some s.P[(k - s.H.length) % s.P.length] := List.getElem?_eq_getElem hm
      have e2 : s.G[(k - s.H.length) % s.P.length]? = some s.G[(k - s.H.length) % s.P.length] := List.getElem?_eq_getElem hm2
      have b1 := ok.per _ _ e1
      have b2 := ok.gr _ _ e2
      have hq : (k - s.H.length) / s.P.length ≤ k := Nat.le_trans (Nat.div_le_self _ _) (by omega)
      simp only [List.getD_eq_getElem?_getD, e1, e2, Option.getD_some]
      generalize (k - s.H.length) / s.P.length = Q at *
      have hp := prod_bd (Q : Int) s.G[(k - s.H.length) % s.P.length] 1000000 1000000 (by omega) (by omega) b2.1 b2.2
      omega
theorem iterm_eqF {h p g : Value} {s : Src} {k : Nat} {x : Int} {o : Bool} (he : termP s k = (x, o)) (w : World) (ha : SlS w h p g s) (ok : OkPer s) (h1 : k ≤ 1000000) :
    Calls Try.prog 84 #[.agg #[h, p, g], .int .i64 k] w fun e w' => e = .returned (.tuple #[.int .i64 x, .bool o]) ∧ Bl w w' := by
  have := iterm_any h p g s k w ha ok (by omega) (by omega)
  rw [Int.toNat_natCast, he] at this
  exact this
theorem sterm_eqT {h p g : Value} {s : Src} {k : Nat} {x : Int} {o : Bool} (he : termP s k = (x, o)) (w : World) (b : Nat) (ha : SlS w h p g s) (hx : Bx w b #[h, p, g]) (ok : OkPer s) (h1 : k ≤ 1000000) :
    Calls Try.prog 52 #[.pointer (some ⟨b, 0, none⟩), .int .i64 k] w fun e w' => e = .returned (.tuple #[.int .i64 x, .bool o]) ∧ Bl w w' := by
  have := sterm_any h p g s k w b ha hx ok (by omega) (by omega)
  rw [Int.toNat_natCast, he] at this
  exact this
theorem lsizeB (a : Option Addr) (n c : Nat) (w : World) (hn : n ≤ 9223372036854775807) : Calls Try.prog 68 #[.slice a n c] w fun e w' => e = .returned (.int .i64 n) ∧ Bl w w' :=
  (lsize_any a n c w hn).mono (by rintro e w' ⟨h1, rfl⟩; exact ⟨h1, bl_refl _⟩)
theorem Bx.grownApart {w w' : World} {b : Nat} {cs : Array Value} {row : Option Nat} (h : Bx w b cs) (hg : w.grownBy w' row) (hn : row ≠ some b) : Bx w' b cs := by
  have hl := h.out.2.2
  obtain ⟨t, h⟩ := h
  exact ⟨t, (hg.block b hl (fun e => hn e.symm)).trans h⟩

end Go.Proofs.Ytgkelemfbmmgnaa
