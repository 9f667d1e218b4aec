/- Decimal texts: the reference's loop gives what strconv gives. Each theorem names its conditions. -/
import Derived.Lib.ItoaNum
namespace Go.Proofs.YtndblondleclpaaDoor
set_option linter.unusedVariables false

/-- The decimal digits; none for 0. -/
def decU (u : Nat) : List UInt8 := if u = 0 then [] else Lib.decDigits u
theorem decU_zero : decU 0 = [] := rfl
theorem decU_pos {u : Nat} (h : u ≠ 0) : decU u = Lib.decDigits u := if_neg h
theorem decU_step {u : Nat} (h : u ≠ 0) : decU u = decU (u / 10) ++ [UInt8.ofNat (48 + u % 10)] := by
  rw [decU_pos h, Lib.decDigits]
  by_cases h1 : u < 10
  · rw [dif_pos h1, show u / 10 = 0 by omega, decU_zero, show u % 10 = u by omega]; rfl
  · rw [dif_neg h1, decU_pos (by omega)]
/-- One round of the reference's loop: the digits that are left ahead of those that are written. -/
theorem dec_round {u : Nat} (h : u ≠ 0) (out : List UInt8) : decU u ++ out = decU (u / 10) ++ (UInt8.ofNat (48 + u % 10) :: out) := by
  rw [decU_step h, List.append_assoc]; rfl
theorem dec_abs (k : Int) : (k.tdiv 10).natAbs = k.natAbs / 10 ∧ (k.tmod 10).natAbs = k.natAbs % 10 := by
  constructor
  · rw [Int.natAbs_tdiv]; rfl
  · rw [Int.natAbs_tmod]; rfl
theorem ref_dec (n : Int) : (if n = 0 then [48] else if n < 0 then 45 :: decU n.natAbs else decU n.natAbs) = Lib.itoa n := by
  unfold Lib.itoa
  by_cases h0 : n = 0
  · subst h0
    rw [if_pos rfl, if_neg (by decide), Lib.decDigits, dif_pos (by decide)]; rfl
  · rw [if_neg h0]
    by_cases h1 : n < 0
    · rw [if_pos h1, if_pos h1, decU_pos (by omega)]
    · rw [if_neg h1, if_neg h1, decU_pos (by omega), show n.natAbs = n.toNat by omega]

end Go.Proofs.YtndblondleclpaaDoor
