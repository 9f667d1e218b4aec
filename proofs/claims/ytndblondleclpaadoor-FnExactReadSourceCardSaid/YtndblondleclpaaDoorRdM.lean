/- Decimal texts read back: the program's way and the reference's way give one function. Each theorem names its conditions. -/
import Derived.Lib.AtoiTie
import Derived.Lib.ParseIntBTie
import Derived.Lib.Strings
import Derived.Test.YtndblondleclpaaDoorDecM
namespace Go.Proofs.YtndblondleclpaaDoor
set_option linter.unusedVariables false

/-- What stands behind a sign, and the sign. -/
def tl : List UInt8 → List UInt8
  | [] => []
  | b :: r => if b = 45 then r else b :: r
def sg : List UInt8 → Nat → Int
  | [], m => m
  | b :: r, m => if b = 45 then -(m : Int) else m
/-- WHAT BOTH READ (as the reference goes). -/
def rdec (s : List UInt8) : Option Int :=
  if (tl s).length < 1 ∨ 18 < (tl s).length then none
  else match Lib.decFrom 0 (tl s) with
    | none => none
    | some m => if Lib.itoa (sg s m) = s then some (sg s m) else none
/-- As the program goes. -/
def rdI (s : List UInt8) : Option Int :=
  if 18 < (Lib.trimPrefix s [45]).length then none
  else match Lib.parseIntB 64 s with
    | .ok n => if Lib.itoa n = s then some n else none
    | _ => none

theorem trim_tl (s : List UInt8) : Lib.trimPrefix s [45] = tl s := by
  cases s with
  | nil => rfl
  | cons b r =>
    unfold Lib.trimPrefix Lib.hasPrefix tl
    by_cases h : b = 45
    · subst h; simp [List.isPrefixOf]
    · simp [List.isPrefixOf, h, Ne.symm h]

theorem digit_byte {d : Nat} (h : d < 10) : (UInt8.ofNat (48 + d)).toNat = 48 + d := by
  rw [UInt8.toNat_ofNat']; omega
theorem digitVal_byte {d : Nat} (h : d < 10) : Lib.digitVal (UInt8.ofNat (48 + d)) = some d := by
  unfold Lib.digitVal
  rw [digit_byte h, if_pos (by omega)]
  congr 1; omega
theorem decFrom_append : ∀ (l r : List UInt8) (acc : Nat), Lib.decFrom acc (l ++ r) = (Lib.decFrom acc l).bind fun a => Lib.decFrom a r
  | [], r, acc => rfl
  | b :: l, r, acc => by
    simp only [List.cons_append, Lib.decFrom]
    cases Lib.digitVal b with
    | none => rfl
    | some d => exact decFrom_append l r _
theorem decFrom_dec (u : Nat) : Lib.decFrom 0 (Lib.decDigits u) = some u := by
  induction u using Nat.strongRecOn with
  | _ u ih =>
    rw [Lib.decDigits]
    by_cases h : u < 10
    · rw [dif_pos h]
      simp only [Lib.decFrom, digitVal_byte h]
      congr 1; omega
    · rw [dif_neg h, decFrom_append, ih (u / 10) (by omega)]
      simp only [Option.bind, Lib.decFrom, digitVal_byte (Nat.mod_lt u (by decide))]
      congr 1; omega
theorem dec_digit (u : Nat) : ∀ b ∈ Lib.decDigits u, 48 ≤ b.toNat ∧ b.toNat ≤ 57 := by
  induction u using Nat.strongRecOn with
  | _ u ih =>
    intro b hb
    rw [Lib.decDigits] at hb
    by_cases h : u < 10
    · rw [dif_pos h] at hb
      simp only [List.mem_singleton] at hb
      subst hb; rw [digit_byte h]; omega
    · rw [dif_neg h] at hb
      rcases List.mem_append.1 hb with hb | hb
      · exact ih (u / 10) (by omega) b hb
      · simp only [List.mem_singleton] at hb
        subst hb; rw [digit_byte (Nat.mod_lt u (by decide))]; omega
theorem nDigits_le : ∀ (k u : Nat), u < 10 ^ (k + 1) → Lib.nDigits u ≤ k + 1
  | 0, u, h => by rw [Lib.nDigits_small (by simpa using h)]; omega
  | k + 1, u, h => by
    by_cases h1 : u < 10
    · rw [Lib.nDigits_small h1]; omega
    · rw [Lib.nDigits_big h1]
      have := nDigits_le k (u / 10) (by rw [Nat.pow_succ] at h; omega)
      omega
theorem dec_len18 {u : Nat} : (Lib.decDigits u).length ≤ 18 ↔ u < 1000000000000000000 := by
  rw [Lib.decDigits_length]
  constructor
  · intro h
    have h1 := Lib.lt_pow_nDigits u
    have h2 : 10 ^ Lib.nDigits u ≤ 10 ^ 18 := Nat.pow_le_pow_right (by decide) h
    have e18 : (10 : Nat) ^ 18 = 1000000000000000000 := by decide
    omega
  · intro h
    exact nDigits_le 17 u (by simpa using h)
theorem dec_pos (u : Nat) : 1 ≤ (Lib.decDigits u).length := by rw [Lib.decDigits_length]; exact Lib.nDigits_pos u
theorem dec_cons (u : Nat) : ∃ b r, Lib.decDigits u = b :: r ∧ b ≠ 45 ∧ b ≠ 43 ∧ b ≠ 40 := by
  have h := dec_digit u
  have hp := dec_pos u
  cases hd : Lib.decDigits u with
  | nil => rw [hd] at hp; simp at hp
  | cons b r =>
    have := h b (by rw [hd]; simp)
    refine ⟨b, r, rfl, ?_, ?_, ?_⟩ <;> (rintro rfl; revert this; decide)
theorem itoa_neg' {n : Int} (h : n < 0) : Lib.itoa n = 45 :: Lib.decDigits n.natAbs := if_pos h
theorem itoa_pos' {n : Int} (h : ¬ n < 0) : Lib.itoa n = Lib.decDigits n.toNat := if_neg h
theorem tl_itoa (n : Int) : tl (Lib.itoa n) = Lib.decDigits n.natAbs := by
  by_cases h : n < 0
  · rw [itoa_neg' h]; simp [tl]
  · rw [itoa_pos' h, show n.natAbs = n.toNat by omega]
    obtain ⟨b, r, e, hb, _⟩ := dec_cons n.toNat
    rw [e]; simp [tl, hb]
theorem sg_itoa (n : Int) : sg (Lib.itoa n) n.natAbs = n := by
  by_cases h : n < 0
  · rw [itoa_neg' h]; simp only [sg, if_true]; omega
  · rw [itoa_pos' h]
    obtain ⟨b, r, e, hb, _⟩ := dec_cons n.toNat
    rw [e]; simp only [sg, if_neg hb]; omega
/-- What is written is read. -/
theorem rdec_itoa {n : Int} (h0 : -1000000000000000000 < n) (h1 : n < 1000000000000000000) : rdec (Lib.itoa n) = some n := by
  unfold rdec
  rw [tl_itoa]
  have hp := dec_pos n.natAbs
  have hl := (dec_len18 (u := n.natAbs)).2 (by omega)
  rw [if_neg (by omega), decFrom_dec]
  simp only [sg_itoa, if_true]
/-- What is read is what is written. -/
theorem rdec_some {s : List UInt8} {n : Int} (h : rdec s = some n) : Lib.itoa n = s ∧ -1000000000000000000 < n ∧ n < 1000000000000000000 := by
  unfold rdec at h
  by_cases hl : (tl s).length < 1 ∨ 18 < (tl s).length
  · rw [if_pos hl] at h; cases h
  rw [if_neg hl] at h
  cases hd : Lib.decFrom 0 (tl s) with
  | none => rw [hd] at h; cases h
  | some m =>
    rw [hd] at h
    simp only at h
    by_cases he : Lib.itoa (sg s m) = s
    · rw [if_pos he] at h
      injection h with h
      have hm := Lib.decFrom_lt18 hd (by omega)
      rw [← h]
      refine ⟨he, ?_⟩
      cases s with
      | nil => simp only [sg]; omega
      | cons b r => simp only [sg]; split <;> omega
    · rw [if_neg he] at h; cases h
theorem rdec_nil : rdec [] = none := rfl
theorem rdec_none {s : List UInt8} (h : rdec s = none) {n : Int} (h0 : -1000000000000000000 < n) (h1 : n < 1000000000000000000) : Lib.itoa n ≠ s := by
  intro e; rw [← e, rdec_itoa h0 h1] at h; cases h
theorem rdec_iff {s : List UInt8} {n : Int} : rdec s = some n ↔ Lib.itoa n = s ∧ -1000000000000000000 < n ∧ n < 1000000000000000000 :=
  ⟨rdec_some, fun h => by rw [← h.1]; exact rdec_itoa h.2.1 h.2.2⟩

/-- The program's way gives the same. -/
theorem rdI_eq (s : List UInt8) : rdI s = rdec s := by
  unfold rdI
  rw [trim_tl]
  by_cases hl : 18 < (tl s).length
  · rw [if_pos hl]; unfold rdec; rw [if_pos (Or.inr hl)]
  rw [if_neg hl, Lib.parseIntB_64]
  cases s with
  | nil => rfl
  | cons c r =>
    by_cases h45 : c = 45
    · subst h45
      have ht : tl (45 :: r) = r := by simp [tl]
      rw [ht] at hl
      rw [Lib.atoiAll_minus, Lib.signed_short (by omega)]
      unfold rdec
      rw [ht]
      cases r with
      | nil => rfl
      | cons d r' =>
        rw [if_neg (by simp only [List.length_cons] at hl ⊢; omega)]
        simp only [Lib.decNat, List.isEmpty_cons, Bool.false_eq_true, if_false]
        cases Lib.decFrom 0 (d :: r') with
        | none => rfl
        | some m => simp [Lib.NumEnd.ofOption, sg]
    · by_cases h43 : c = 43
      · subst h43
        have ht : tl (43 :: r) = 43 :: r := by simp [tl]
        rw [Lib.atoiAll_plus]
        have hR : rdec (43 :: r) = none := by
          unfold rdec
          rw [ht]
          split
          · rfl
          · simp [Lib.decFrom, Lib.digitVal]
        rw [hR]
        cases Lib.signless (Lib.parseMag r) with
        | ok n =>
          simp only
          rw [if_neg]
          intro e
          by_cases hn : n < 0
          · rw [itoa_neg' hn] at e; simp at e
          · rw [itoa_pos' hn] at e
            obtain ⟨b, r', e', _, hb, _⟩ := dec_cons n.toNat
            rw [e'] at e
            exact hb (List.cons.inj e).1
        | _ => rfl
      · have ht : tl (c :: r) = c :: r := by simp [tl, h45]
        rw [ht] at hl
        rw [Lib.atoiAll_plain c r (fun e => h43 (UInt8.toNat_inj.1 e)) (fun e => h45 (UInt8.toNat_inj.1 e)), Lib.signless_short (by omega)]
        unfold rdec
        rw [ht, if_neg (by simp only [List.length_cons] at hl ⊢; omega)]
        simp only [Lib.decNat, List.isEmpty_cons, Bool.false_eq_true, if_false]
        cases Lib.decFrom 0 (c :: r) with
        | none => rfl
        | some m => simp [Lib.NumEnd.ofOption, sg, h45]

end Go.Proofs.YtndblondleclpaaDoor
