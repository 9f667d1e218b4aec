/- Some of the texts of this claim, joined in one file: DecM, RdM, TxM, SxM, StM. -/
import Derived.Lib.ItoaNum
import Derived.Lib.AtoiTie
import Derived.Lib.ParseIntBTie
import Derived.Lib.Strings
import Derived.Lib.SplitLaws
import Derived.Lib.Join
import Derived.Test.YtndblondleclpaaGreatDoorSrcA
import Derived.Lib.ItoaLen
/- Decimal texts: the reference's loop gives what strconv gives. Each theorem names its conditions. -/
namespace Go.Proofs.YtndblondleclpaaGreatDoor
set_option linter.unusedVariables false

/-- The decimal digits; none for 0. -/
def decU (u : Nat) : List UInt8 := if u = 0 then [] else Lib.decDigits u
theorem decU_zero : decU 0 = [] := rfl
theorem decU_pos {u : Nat} (h : u ≠ 0) : decU u = Lib.decDigits u := if_neg h
theorem decU_step {u : Nat} (h : u ≠ 0) : decU u = decU (u / 10) ++ [UInt8.ofNat (48 + u % 10)] := by
  rw [decU_pos h, Lib.decDigits]
  by_cases h1 : u < 10
  · rw [dif_pos h1, show u / 10 = 0 by omega, decU_zero, show u % 10 = u by omega]; rfl
  · rw [dif_neg h1, decU_pos (by omega)]
/-- One round of the reference's loop: the digits that are left ahead of those that are written. -/
theorem dec_round {u : Nat} (h : u ≠ 0) (out : List UInt8) : decU u ++ out = decU (u / 10) ++ (UInt8.ofNat (48 + u % 10) :: out) := by
  rw [decU_step h, List.append_assoc]; rfl
theorem dec_abs (k : Int) : (k.tdiv 10).natAbs = k.natAbs / 10 ∧ (k.tmod 10).natAbs = k.natAbs % 10 := by
  constructor
  · rw [Int.natAbs_tdiv]; rfl
  · rw [Int.natAbs_tmod]; rfl
theorem ref_dec (n : Int) : (if n = 0 then [48] else if n < 0 then 45 :: decU n.natAbs else decU n.natAbs) = Lib.itoa n := by
  unfold Lib.itoa
  by_cases h0 : n = 0
  · subst h0
    rw [if_pos rfl, if_neg (by decide), Lib.decDigits, dif_pos (by decide)]; rfl
  · rw [if_neg h0]
    by_cases h1 : n < 0
    · rw [if_pos h1, if_pos h1, decU_pos (by omega)]
    · rw [if_neg h1, if_neg h1, decU_pos (by omega), show n.natAbs = n.toNat by omega]

end Go.Proofs.YtndblondleclpaaGreatDoor

/- Decimal texts read back: the program's way and the reference's way give one function. Each theorem names its conditions. -/
namespace Go.Proofs.YtndblondleclpaaGreatDoor
set_option linter.unusedVariables false

/-- What stands behind a sign, and the sign. -/
def tl : List UInt8 → List UInt8
  | [] => []
  | b :: r => if b = 45 then r else b :: r
def sg : List UInt8 → Nat → Int
  | [], m => m
  | b :: r, m => if b = 45 then -(m : Int) else m
/-- WHAT BOTH READ (as the reference goes). -/
def rdec (s : List UInt8) : Option Int :=
  if (tl s).length < 1 ∨ 18 < (tl s).length then none
  else match Lib.decFrom 0 (tl s) with
    | none => none
    | some m => if Lib.itoa (sg s m) = s then some (sg s m) else none
/-- As the program goes. -/
def rdI (s : List UInt8) : Option Int :=
  if 18 < (Lib.trimPrefix s [45]).length then none
  else match Lib.parseIntB 64 s with
    | .ok n => if Lib.itoa n = s then some n else none
    | _ => none

theorem trim_tl (s : List UInt8) : Lib.trimPrefix s [45] = tl s := by
  cases s with
  | nil => rfl
  | cons b r =>
    unfold Lib.trimPrefix Lib.hasPrefix tl
    by_cases h : b = 45
    · subst h; simp [List.isPrefixOf]
    · simp [List.isPrefixOf, h, Ne.symm h]

theorem digit_byte {d : Nat} (h : d < 10) : (UInt8.ofNat (48 + d)).toNat = 48 + d := by
  rw [UInt8.toNat_ofNat']; omega
theorem digitVal_byte {d : Nat} (h : d < 10) : Lib.digitVal (UInt8.ofNat (48 + d)) = some d := by
  unfold Lib.digitVal
  rw [digit_byte h, if_pos (by omega)]
  congr 1; omega
theorem decFrom_append : ∀ (l r : List UInt8) (acc : Nat), Lib.decFrom acc (l ++ r) = (Lib.decFrom acc l).bind fun a => Lib.decFrom a r
  | [], r, acc => rfl
  | b :: l, r, acc => by
    simp only [List.cons_append, Lib.decFrom]
    cases Lib.digitVal b with
    | none => rfl
    | some d => exact decFrom_append l r _
theorem decFrom_dec (u : Nat) : Lib.decFrom 0 (Lib.decDigits u) = some u := by
  induction u using Nat.strongRecOn with
  | _ u ih =>
    rw [Lib.decDigits]
    by_cases h : u < 10
    · rw [dif_pos h]
      simp only [Lib.decFrom, digitVal_byte h]
      congr 1; omega
    · rw [dif_neg h, decFrom_append, ih (u / 10) (by omega)]
      simp only [Option.bind, Lib.decFrom, digitVal_byte (Nat.mod_lt u (by decide))]
      congr 1; omega
theorem dec_digit (u : Nat) : ∀ b ∈ Lib.decDigits u, 48 ≤ b.toNat ∧ b.toNat ≤ 57 := by
  induction u using Nat.strongRecOn with
  | _ u ih =>
    intro b hb
    rw [Lib.decDigits] at hb
    by_cases h : u < 10
    · rw [dif_pos h] at hb
      simp only [List.mem_singleton] at hb
      subst hb; rw [digit_byte h]; omega
    · rw [dif_neg h] at hb
      rcases List.mem_append.1 hb with hb | hb
      · exact ih (u / 10) (by omega) b hb
      · simp only [List.mem_singleton] at hb
        subst hb; rw [digit_byte (Nat.mod_lt u (by decide))]; omega
theorem nDigits_le : ∀ (k u : Nat), u < 10 ^ (k + 1) → Lib.nDigits u ≤ k + 1
  | 0, u, h => by rw [Lib.nDigits_small (by simpa using h)]; omega
  | k + 1, u, h => by
    by_cases h1 : u < 10
    · rw [Lib.nDigits_small h1]; omega
    · rw [Lib.nDigits_big h1]
      have := nDigits_le k (u / 10) (by rw [Nat.pow_succ] at h; omega)
      omega
theorem dec_len18 {u : Nat} : (Lib.decDigits u).length ≤ 18 ↔ u < 1000000000000000000 := by
  rw [Lib.decDigits_length]
  constructor
  · intro h
    have h1 := Lib.lt_pow_nDigits u
    have h2 : 10 ^ Lib.nDigits u ≤ 10 ^ 18 := Nat.pow_le_pow_right (by decide) h
    have e18 : (10 : Nat) ^ 18 = 1000000000000000000 := by decide
    omega
  · intro h
    exact nDigits_le 17 u (by simpa using h)
theorem dec_pos (u : Nat) : 1 ≤ (Lib.decDigits u).length := by rw [Lib.decDigits_length]; exact Lib.nDigits_pos u
theorem dec_cons (u : Nat) : ∃ b r, Lib.decDigits u = b :: r ∧ b ≠ 45 ∧ b ≠ 43 ∧ b ≠ 40 := by
  have h := dec_digit u
  have hp := dec_pos u
  cases hd : Lib.decDigits u with
  | nil => rw [hd] at hp; simp at hp
  | cons b r =>
    have := h b (by rw [hd]; simp)
    refine ⟨b, r, rfl, ?_, ?_, ?_⟩ <;> (rintro rfl; revert this; decide)
theorem itoa_neg' {n : Int} (h : n < 0) : Lib.itoa n = 45 :: Lib.decDigits n.natAbs := if_pos h
theorem itoa_pos' {n : Int} (h : ¬ n < 0) : Lib.itoa n = Lib.decDigits n.toNat := if_neg h
theorem tl_itoa (n : Int) : tl (Lib.itoa n) = Lib.decDigits n.natAbs := by
  by_cases h : n < 0
  · rw [itoa_neg' h]; simp [tl]
  · rw [itoa_pos' h, show n.natAbs = n.toNat by omega]
    obtain ⟨b, r, e, hb, _⟩ := dec_cons n.toNat
    rw [e]; simp [tl, hb]
theorem sg_itoa (n : Int) : sg (Lib.itoa n) n.natAbs = n := by
  by_cases h : n < 0
  · rw [itoa_neg' h]; simp only [sg, if_true]; omega
  · rw [itoa_pos' h]
    obtain ⟨b, r, e, hb, _⟩ := dec_cons n.toNat
    rw [e]; simp only [sg, if_neg hb]; omega
/-- What is written is read. -/
theorem rdec_itoa {n : Int} (h0 : -1000000000000000000 < n) (h1 : n < 1000000000000000000) : rdec (Lib.itoa n) = some n := by
  unfold rdec
  rw [tl_itoa]
  have hp := dec_pos n.natAbs
  have hl := (dec_len18 (u := n.natAbs)).2 (by omega)
  rw [if_neg (by omega), decFrom_dec]
  simp only [sg_itoa, if_true]
/-- What is read is what is written. -/
theorem rdec_some {s : List UInt8} {n : Int} (h : rdec s = some n) : Lib.itoa n = s ∧ -1000000000000000000 < n ∧ n < 1000000000000000000 := by
  unfold rdec at h
  by_cases hl : (tl s).length < 1 ∨ 18 < (tl s).length
  · rw [if_pos hl] at h; cases h
  rw [if_neg hl] at h
  cases hd : Lib.decFrom 0 (tl s) with
  | none => rw [hd] at h; cases h
  | some m =>
    rw [hd] at h
    simp only at h
    by_cases he : Lib.itoa (sg s m) = s
    · rw [if_pos he] at h
      injection h with h
      have hm := Lib.decFrom_lt18 hd (by omega)
      rw [← h]
      refine ⟨he, ?_⟩
      cases s with
      | nil => simp only [sg]; omega
      | cons b r => simp only [sg]; split <;> omega
    · rw [if_neg he] at h; cases h
theorem rdec_nil : rdec [] = none := rfl
theorem rdec_none {s : List UInt8} (h : rdec s = none) {n : Int} (h0 : -1000000000000000000 < n) (h1 : n < 1000000000000000000) : Lib.itoa n ≠ s := by
  intro e; rw [← e, rdec_itoa h0 h1] at h; cases h
theorem rdec_iff {s : List UInt8} {n : Int} : rdec s = some n ↔ Lib.itoa n = s ∧ -1000000000000000000 < n ∧ n < 1000000000000000000 :=
  ⟨rdec_some, fun h => by rw [← h.1]; exact rdec_itoa h.2.1 h.2.2⟩

/-- The program's way gives the same. -/
theorem rdI_eq (s : List UInt8) : rdI s = rdec s := by
  unfold rdI
  rw [trim_tl]
  by_cases hl : 18 < (tl s).length
  · rw [if_pos hl]; unfold rdec; rw [if_pos (Or.inr hl)]
  rw [if_neg hl, Lib.parseIntB_64]
  cases s with
  | nil => rfl
  | cons c r =>
    by_cases h45 : c = 45
    · subst h45
      have ht : tl (45 :: r) = r := by simp [tl]
      rw [ht] at hl
      rw [Lib.atoiAll_minus, Lib.signed_short (by omega)]
      unfold rdec
      rw [ht]
      cases r with
      | nil => rfl
      | cons d r' =>
        rw [if_neg (by simp only [List.length_cons] at hl ⊢; omega)]
        simp only [Lib.decNat, List.isEmpty_cons, Bool.false_eq_true, if_false]
        cases Lib.decFrom 0 (d :: r') with
        | none => rfl
        | some m => simp [Lib.NumEnd.ofOption, sg]
    · by_cases h43 : c = 43
      · subst h43
        have ht : tl (43 :: r) = 43 :: r := by simp [tl]
        rw [Lib.atoiAll_plus]
        have hR : rdec (43 :: r) = none := by
          unfold rdec
          rw [ht]
          split
          · rfl
          · simp [Lib.decFrom, Lib.digitVal]
        rw [hR]
        cases Lib.signless (Lib.parseMag r) with
        | ok n =>
          simp only
          rw [if_neg]
          intro e
          by_cases hn : n < 0
          · rw [itoa_neg' hn] at e; simp at e
          · rw [itoa_pos' hn] at e
            obtain ⟨b, r', e', _, hb, _⟩ := dec_cons n.toNat
            rw [e'] at e
            exact hb (List.cons.inj e).1
        | _ => rfl
      · have ht : tl (c :: r) = c :: r := by simp [tl, h45]
        rw [ht] at hl
        rw [Lib.atoiAll_plain c r (fun e => h43 (UInt8.toNat_inj.1 e)) (fun e => h45 (UInt8.toNat_inj.1 e)), Lib.signless_short (by omega)]
        unfold rdec
        rw [ht, if_neg (by simp only [List.length_cons] at hl ⊢; omega)]
        simp only [Lib.decNat, List.isEmpty_cons, Bool.false_eq_true, if_false]
        cases Lib.decFrom 0 (c :: r) with
        | none => rfl
        | some m => simp [Lib.NumEnd.ofOption, sg, h45]

end Go.Proofs.YtndblondleclpaaGreatDoor

/- Texts of digits: what is written is read back, by the program's way and by the reference's; cuts and splits at one byte. Each theorem names its conditions. -/
namespace Go.Proofs.YtndblondleclpaaGreatDoor
set_option linter.unusedVariables false
set_option linter.unusedSimpArgs false

/-! Cuts and splits at one byte. -/
/-- The parts of a text between bytes c. -/
def spl (c : UInt8) : List UInt8 → List (List UInt8)
  | [] => [[]]
  | b :: l => if b = c then [] :: spl c l else (b :: (spl c l).head!) :: (spl c l).tail
theorem head1 (a : List UInt8) (l : List (List UInt8)) : (a :: l).head! = a := rfl
theorem spl_ne (c : UInt8) (l : List UInt8) : spl c l ≠ [] := by
  cases l with
  | nil => simp [spl]
  | cons b l => simp only [spl]; split <;> simp
theorem spl_cons (c : UInt8) (l : List UInt8) : ∃ h t, spl c l = h :: t := by
  cases e : spl c l with
  | nil => exact absurd e (spl_ne c l)
  | cons h t => exact ⟨h, t, rfl⟩
theorem spl_none {c : UInt8} : ∀ {a : List UInt8}, c ∉ a → spl c a = [a]
  | [], _ => rfl
  | b :: l, h => by
    have hb : b ≠ c := fun e => h (by simp [e])
    have hl : c ∉ l := fun e => h (by simp [e])
    rw [spl, if_neg hb, spl_none hl]; rfl
theorem spl_hit {c : UInt8} : ∀ {a : List UInt8} (b : List UInt8), c ∉ a → spl c (a ++ c :: b) = a :: spl c b
  | [], b, _ => by rw [List.nil_append, spl, if_pos rfl]
  | x :: a, b, h => by
    have hb : x ≠ c := fun e => h (by simp [e])
    have hl : c ∉ a := fun e => h (by simp [e])
    rw [List.cons_append, spl, if_neg hb, spl_hit b hl]; rfl
theorem spl_cases (c : UInt8) : ∀ s : List UInt8, (c ∉ s ∧ spl c s = [s]) ∨ ∃ a b, s = a ++ c :: b ∧ c ∉ a ∧ spl c s = a :: spl c b
  | [] => .inl ⟨by simp, rfl⟩
  | x :: s => by
    by_cases hx : x = c
    · subst hx; exact .inr ⟨[], s, rfl, by simp, by rw [spl, if_pos rfl]⟩
    · rcases spl_cases c s with ⟨h, e⟩ | ⟨a, b, rfl, ha, e⟩
      · exact .inl ⟨by simp [Ne.symm hx, h], by rw [spl, if_neg hx, e]; rfl⟩
      · exact .inr ⟨x :: a, b, rfl, by simp [Ne.symm hx, ha], by rw [spl, if_neg hx, e]; rfl⟩
theorem join_cons (a : List UInt8) {l : List (List UInt8)} (h : l ≠ []) (c : UInt8) : Lib.join (a :: l) [c] = a ++ c :: Lib.join l [c] := by
  cases l with
  | nil => exact absurd rfl h
  | cons b l => simp [Lib.join, List.intercalate, List.intersperse]
theorem join_one (a : List UInt8) (c : UInt8) : Lib.join [a] [c] = a := by simp [Lib.join, List.intercalate, List.intersperse]
theorem join_nil (c : UInt8) : Lib.join [] [c] = [] := by simp [Lib.join, List.intercalate, List.intersperse]
theorem join_app {c : UInt8} : ∀ {l r : List (List UInt8)}, l ≠ [] → r ≠ [] → Lib.join (l ++ r) [c] = Lib.join l [c] ++ c :: Lib.join r [c]
  | [], r, h, _ => absurd rfl h
  | [a], r, _, hr => by rw [List.singleton_append, join_cons a hr, join_one]
  | a :: b :: l, r, _, hr => by
    rw [List.cons_append, join_cons a (by simp), join_app (l := b :: l) (by simp) hr, join_cons a (by simp)]
    simp
theorem join_spl (c : UInt8) : ∀ (n : Nat) (s : List UInt8), s.length ≤ n → Lib.join (spl c s) [c] = s := by
  intro n
  induction n with
  | zero =>
    intro s h
    obtain rfl := List.eq_nil_of_length_eq_zero (Nat.le_zero.1 h)
    rw [spl, join_one]
  | succ n ih =>
    intro s h
    rcases spl_cases c s with ⟨_, e⟩ | ⟨a, b, rfl, ha, e⟩
    · rw [e, join_one]
    · rw [e, join_cons a (spl_ne c b), ih b (by simp at h; omega)]
theorem spl_join {c : UInt8} : ∀ {l : List (List UInt8)}, l ≠ [] → (∀ w ∈ l, c ∉ w) → spl c (Lib.join l [c]) = l
  | [], h, _ => absurd rfl h
  | [a], _, h => by rw [join_one]; exact spl_none (h a (by simp))
  | a :: b :: l, _, h => by
    rw [join_cons a (by simp), spl_hit _ (h a (by simp)), spl_join (l := b :: l) (by simp) (fun w hw => h w (by simp [hw]))]
theorem spl_free (c : UInt8) : ∀ (n : Nat) (s : List UInt8), s.length ≤ n → ∀ w ∈ spl c s, c ∉ w := by
  intro n
  induction n with
  | zero =>
    intro s h w hw
    obtain rfl := List.eq_nil_of_length_eq_zero (Nat.le_zero.1 h)
    simp [spl] at hw; subst hw; simp
  | succ n ih =>
    intro s h w hw
    rcases spl_cases c s with ⟨h1, e⟩ | ⟨a, b, rfl, ha, e⟩
    · rw [e] at hw; simp at hw; subst hw; exact h1
    · rw [e] at hw
      rcases List.mem_cons.1 hw with rfl | hw
      · exact ha
      · exact ih b (by simp at h; omega) w hw

theorem index_none {c : UInt8} : ∀ {a : List UInt8}, c ∉ a → Lib.index a [c] = -1
  | [], _ => rfl
  | b :: l, h => by
    have hb : c ≠ b := fun e => h (by simp [e])
    have hl : c ∉ l := fun e => h (by simp [e])
    rw [Lib.index]
    simp [List.isPrefixOf, hb, index_none hl]
theorem index_hit {c : UInt8} : ∀ {a : List UInt8} (b : List UInt8), c ∉ a → Lib.index (a ++ c :: b) [c] = a.length
  | [], b, _ => by rw [List.nil_append, Lib.index]; simp [List.isPrefixOf]
  | x :: a, b, h => by
    have hb : c ≠ x := fun e => h (by simp [e])
    have hl : c ∉ a := fun e => h (by simp [e])
    rw [List.cons_append, Lib.index]
    have := index_hit b hl
    rw [this]
    have hp : ([c] : List UInt8).isPrefixOf (x :: (a ++ c :: b)) = false := by simp [List.isPrefixOf, hb]
    rw [hp, if_neg (by decide), if_neg (by simp)]
    simp
theorem cut_none {c : UInt8} {a : List UInt8} (h : c ∉ a) : Lib.cut a [c] = (a, [], false) := by
  unfold Lib.cut; rw [index_none h, if_neg (by omega)]
theorem cut_hit {c : UInt8} {a : List UInt8} (b : List UInt8) (h : c ∉ a) : Lib.cut (a ++ c :: b) [c] = (a, b, true) := by
  unfold Lib.cut; rw [index_hit b h, if_pos (by omega)]
  simp
theorem cut_spl (c : UInt8) (s : List UInt8) : (c ∉ s ∧ Lib.cut s [c] = (s, [], false) ∧ spl c s = [s]) ∨ ∃ a b, s = a ++ c :: b ∧ c ∉ a ∧ Lib.cut s [c] = (a, b, true) ∧ spl c s = a :: spl c b := by
  rcases spl_cases c s with ⟨h, e⟩ | ⟨a, b, rfl, ha, e⟩
  · exact .inl ⟨h, cut_none h, e⟩
  · exact .inr ⟨a, b, rfl, ha, cut_hit b ha, e⟩
theorem split_spl (c : UInt8) : ∀ (n : Nat) (s : List UInt8), s.length ≤ n → Lib.split s [c] = spl c s := by
  intro n
  induction n with
  | zero =>
    intro s h
    obtain rfl := List.eq_nil_of_length_eq_zero (Nat.le_zero.1 h)
    rfl
  | succ n ih =>
    intro s h
    rcases spl_cases c s with ⟨h1, e⟩ | ⟨a, b, rfl, ha, e⟩
    · rw [e]
      unfold Lib.split
      rw [Lib.count_one, List.count_eq_zero.2 h1]
      rfl
    · rw [e, ← ih b (by simp at h; omega)]
      unfold Lib.split
      rw [Lib.count_one, Lib.count_one, List.count_append, List.count_eq_zero.2 ha, List.count_cons_self, Nat.zero_add]
      rw [Lib.splitK, if_neg (by rw [index_hit b ha]; simp), index_hit b ha]
      simp

/-! Digits. -/
/-- The character of a digit; the digit of a character, -1 if there is none. -/
def sgc (d : Int) : UInt8 := if d < 10 then UInt8.ofNat (48 + d.toNat) else UInt8.ofNat (87 + d.toNat)
def dval (c : UInt8) : Int := if 48 ≤ c.toNat ∧ c.toNat ≤ 57 then (c.toNat : Int) - 48 else if 97 ≤ c.toNat ∧ c.toNat ≤ 122 then (c.toNat : Int) - 97 + 10 else -1
theorem dval_sgc {d : Int} (h0 : 0 ≤ d) (h1 : d < 36) : dval (sgc d) = d := by
  unfold sgc dval
  by_cases h : d < 10
  · rw [if_pos h, UInt8.toNat_ofNat', show (48 + d.toNat) % 2 ^ 8 = 48 + d.toNat by omega, if_pos (by omega)]; omega
  · rw [if_neg h, UInt8.toNat_ofNat', show (87 + d.toNat) % 2 ^ 8 = 87 + d.toNat by omega, if_neg (by omega), if_pos (by omega)]; omega
theorem sgc_dval {c : UInt8} (h : 0 ≤ dval c) : sgc (dval c) = c ∧ dval c < 36 := by
  unfold dval at h ⊢
  have hc := c.toNat_lt
  by_cases h1 : 48 ≤ c.toNat ∧ c.toNat ≤ 57
  · rw [if_pos h1]
    unfold sgc
    rw [if_pos (by omega), show 48 + ((c.toNat : Int) - 48).toNat = c.toNat by omega]
    exact ⟨by simp, by omega⟩
  · rw [if_neg h1] at h ⊢
    by_cases h2 : 97 ≤ c.toNat ∧ c.toNat ≤ 122
    · rw [if_pos h2]
      unfold sgc
      rw [if_neg (by omega), show 87 + ((c.toNat : Int) - 97 + 10).toNat = c.toNat by omega]
      exact ⟨by simp, by omega⟩
    · rw [if_neg h2] at h; omega
theorem dval_ge (c : UInt8) : -1 ≤ dval c ∧ dval c < 36 := by
  unfold dval; have := c.toNat_lt; split <;> (try split) <;> omega

/-- A base, a floor and digits that have a text; the text. -/
structure DV (base whole : Int) (ds : List Int) : Prop where
  b : 2 ≤ base ∧ base ≤ 36
  w : -1000000000 ≤ whole ∧ whole ≤ 1000000000
  l : ds.length ≤ 1000
  d : ∀ x ∈ ds, 0 ≤ x ∧ x < base
def dtext (whole : Int) (ds : List Int) : List UInt8 := Lib.itoa whole ++ (if ds = [] then [] else 46 :: ds.map sgc)
noncomputable def dtxt (base whole : Int) (ds : List Int) : List UInt8 := @ite _ (DV base whole ds) (Classical.propDecidable _) (dtext whole ds) []
theorem dtxt_yes {base whole : Int} {ds : List Int} (h : DV base whole ds) : dtxt base whole ds = dtext whole ds := if_pos h
theorem dtxt_no {base whole : Int} {ds : List Int} (h : ¬ DV base whole ds) : dtxt base whole ds = [] := if_neg h
theorem itoa_ne (n : Int) : Lib.itoa n ≠ [] := by
  by_cases h : n < 0
  · rw [itoa_neg' h]; simp
  · rw [itoa_pos' h]; obtain ⟨b, r, e, _⟩ := dec_cons n.toNat; rw [e]; simp
theorem itoa_free (n : Int) {c : UInt8} (h1 : c ≠ 45) (h2 : c.toNat < 48 ∨ 57 < c.toNat) : c ∉ Lib.itoa n := by
  intro hc
  by_cases h : n < 0
  · rw [itoa_neg' h] at hc
    rcases List.mem_cons.1 hc with hc | hc
    · exact h1 hc
    · have := dec_digit _ c hc; omega
  · rw [itoa_pos' h] at hc
    have := dec_digit _ c hc; omega
theorem dtext_ne (whole : Int) (ds : List Int) : dtext whole ds ≠ [] := by
  unfold dtext; intro e; exact itoa_ne whole (List.append_eq_nil_iff.1 e).1
theorem map_dval {base : Int} {ds : List Int} (hb : base ≤ 36) (h : ∀ x ∈ ds, 0 ≤ x ∧ x < base) : (ds.map sgc).map dval = ds := by
  induction ds with
  | nil => rfl
  | cons d ds ih =>
    have := h d (by simp)
    simp only [List.map_cons]
    rw [dval_sgc this.1 (by omega), ih (fun x hx => h x (by simp [hx]))]
theorem map_sgc {t : List UInt8} (h : ∀ c ∈ t, 0 ≤ dval c) : (t.map dval).map sgc = t := by
  induction t with
  | nil => rfl
  | cons d ds ih =>
    simp only [List.map_cons]
    rw [(sgc_dval (h d (by simp))).1, ih (fun x hx => h x (by simp [hx]))]
theorem sgc_free {base : Int} {ds : List Int} (hb : base ≤ 36) (h : ∀ x ∈ ds, 0 ≤ x ∧ x < base) : (46 : UInt8) ∉ ds.map sgc := by
  intro hc
  obtain ⟨d, hd, e⟩ := List.mem_map.1 hc
  have h1 := h d hd
  have h2 := dval_sgc h1.1 (by omega)
  rw [e] at h2
  have : dval 46 = -1 := by decide
  omega

/-- As the program reads. -/
noncomputable def rdgI (base : Int) (s : List UInt8) : Option (Int × List Int) :=
  match rdec (Lib.cut s [46]).1 with
  | none => none
  | some whole => @ite _ ((2 ≤ base ∧ base ≤ 36) ∧ (Lib.cut s [46]).2.1.length ≤ 1000 ∧ (∀ c ∈ (Lib.cut s [46]).2.1, 0 ≤ dval c) ∧ dtxt base whole ((Lib.cut s [46]).2.1.map dval) = s) (Classical.propDecidable _)
      (some (whole, (Lib.cut s [46]).2.1.map dval)) none
/-- As the reference reads. -/
noncomputable def rdgS (base : Int) (s : List UInt8) : Option (Int × List Int) :=
  match rdec (spl 46 s).head! with
  | none => none
  | some whole => @ite _ ((2 ≤ base ∧ base ≤ 36) ∧ (spl 46 s).length ≤ 2 ∧ (-1000000000 ≤ whole ∧ whole ≤ 1000000000)) (Classical.propDecidable _)
      (if (spl 46 s).length = 2 then
        @ite _ ((spl 46 s)[1]! ≠ [] ∧ (∀ c ∈ (spl 46 s)[1]!, 0 ≤ dval c ∧ dval c < base) ∧ (spl 46 s)[1]!.length ≤ 1000) (Classical.propDecidable _) (some (whole, (spl 46 s)[1]!.map dval)) none
      else some (whole, [])) none

theorem rdgI_iff {base : Int} {s : List UInt8} {whole : Int} {ds : List Int} : rdgI base s = some (whole, ds) ↔ DV base whole ds ∧ dtext whole ds = s := by
  constructor
  · intro h
    unfold rdgI at h
    cases hr : rdec (Lib.cut s [46]).1 with
    | none => rw [hr] at h; cases h
    | some wh =>
      rw [hr] at h
      simp only at h
      split at h
      · rename_i hc
        simp only [Option.some.injEq, Prod.mk.injEq] at h
        obtain ⟨rfl, rfl⟩ := h
        by_cases hv : DV base wh ((Lib.cut s [46]).2.1.map dval)
        · exact ⟨hv, by rw [← dtxt_yes hv]; exact hc.2.2.2⟩
        · have hs := hc.2.2.2
          rw [dtxt_no hv] at hs
          subst hs
          cases hr
      · cases h
  · rintro ⟨hv, rfl⟩
    have hw := rdec_itoa (n := whole) (by have := hv.w; omega) (by have := hv.w; omega)
    have hf : (46 : UInt8) ∉ Lib.itoa whole := itoa_free whole (by decide) (.inl (by decide))
    by_cases hd : ds = []
    · subst hd
      have e : dtext whole [] = Lib.itoa whole := by simp [dtext]
      unfold rdgI
      rw [e, cut_none hf]
      simp only [hw]
      rw [if_pos]
      · rfl
      · exact ⟨hv.b, by simp, by simp, by rw [List.map_nil, dtxt_yes hv, e]⟩
    · have e : dtext whole ds = Lib.itoa whole ++ 46 :: ds.map sgc := by simp [dtext, hd]
      unfold rdgI
      rw [e, cut_hit _ hf]
      simp only [hw]
      rw [map_dval hv.b.2 hv.d, if_pos]
      refine ⟨hv.b, by simpa using hv.l, ?_, by rw [dtxt_yes hv, e]⟩
      intro c hc
      obtain ⟨d, hd', rfl⟩ := List.mem_map.1 hc
      have h1 := hv.d d hd'
      have := hv.b
      rw [dval_sgc h1.1 (by omega)]; exact h1.1
theorem rdgS_iff {base : Int} {s : List UInt8} {whole : Int} {ds : List Int} : rdgS base s = some (whole, ds) ↔ DV base whole ds ∧ dtext whole ds = s := by
  constructor
  · intro h
    unfold rdgS at h
    rcases spl_cases 46 s with ⟨h1, e⟩ | ⟨a, b, rfl, ha, e⟩
    · rw [e] at h
      simp only [head1, List.length_singleton] at h
      cases hr : rdec s with
      | none => rw [hr] at h; cases h
      | some wh =>
        rw [hr] at h
        simp only at h
        split at h
        · rename_i hc
          rw [if_neg (by omega)] at h
          simp only [Option.some.injEq, Prod.mk.injEq] at h
          obtain ⟨rfl, rfl⟩ := h
          exact ⟨⟨hc.1, hc.2.2, by simp, by simp⟩, by simp [dtext, (rdec_some hr).1]⟩
        · cases h
    · rw [e] at h
      simp only [head1, List.length_cons] at h
      cases hr : rdec a with
      | none => rw [hr] at h; cases h
      | some wh =>
        rw [hr] at h
        simp only at h
        split at h
        · rename_i hc
          rcases spl_cases 46 b with ⟨hb, eb⟩ | ⟨a', b', rfl, ha', eb⟩
          · rw [eb] at h
            rw [if_pos (by simp)] at h
            simp only [show (a :: [b])[1]! = b from rfl] at h
            split at h
            · rename_i hd
              simp only [Option.some.injEq, Prod.mk.injEq] at h
              obtain ⟨rfl, rfl⟩ := h
              refine ⟨⟨hc.1, hc.2.2, by simpa using hd.2.2, ?_⟩, ?_⟩
              · intro x hx
                obtain ⟨c, hc', rfl⟩ := List.mem_map.1 hx
                exact hd.2.1 c hc'
              · unfold dtext
                rw [if_neg (by simpa using hd.1), map_sgc (fun c hc' => (hd.2.1 c hc').1), (rdec_some hr).1]
            · cases h
          · exfalso
            have hl := hc.2.1
            rw [eb] at hl
            simp only [List.length_cons] at hl
            have := List.length_pos_iff.2 (spl_ne 46 b')
            omega
        · cases h
  · rintro ⟨hv, rfl⟩
    have hw := rdec_itoa (n := whole) (by have := hv.w; omega) (by have := hv.w; omega)
    have hf : (46 : UInt8) ∉ Lib.itoa whole := itoa_free whole (by decide) (.inl (by decide))
    by_cases hd : ds = []
    · subst hd
      have e : dtext whole [] = Lib.itoa whole := by simp [dtext]
      unfold rdgS
      rw [e, spl_none hf]
      simp only [head1, hw, List.length_singleton]
      rw [if_pos ⟨hv.b, by omega, hv.w⟩, if_neg (by omega)]
    · have e : dtext whole ds = Lib.itoa whole ++ 46 :: ds.map sgc := by simp [dtext, hd]
      unfold rdgS
      rw [e, spl_hit _ hf, spl_none (sgc_free hv.b.2 hv.d)]
      simp only [head1, hw, List.length_cons, List.length_nil]
      rw [if_pos ⟨hv.b, by omega, hv.w⟩, if_pos (by decide)]
      simp only [show ∀ (x y : List UInt8), (x :: [y])[1]! = y from fun _ _ => rfl]
      rw [if_pos, map_dval hv.b.2 hv.d]
      refine ⟨by simpa using hd, ?_, by simpa using hv.l⟩
      intro c hc
      obtain ⟨d, hd', rfl⟩ := List.mem_map.1 hc
      have h1 := hv.d d hd'
      have := hv.b
      rw [dval_sgc h1.1 (by omega)]; exact h1
/-- BOTH READ THE SAME. -/
theorem rdg_eq (base : Int) (s : List UInt8) : rdgI base s = rdgS base s := by
  cases h1 : rdgI base s with
  | some x => obtain ⟨a, b⟩ := x; exact (rdgS_iff.2 (rdgI_iff.1 h1)).symm
  | none =>
    cases h2 : rdgS base s with
    | none => rfl
    | some x => obtain ⟨a, b⟩ := x; rw [rdgI_iff.2 (rdgS_iff.1 h2)] at h1; cases h1

end Go.Proofs.YtndblondleclpaaGreatDoor

/- Texts of sources: what is written is read back, by the program's way and by the reference's. Each theorem names its conditions. -/
namespace Go.Proofs.YtndblondleclpaaGreatDoor
set_option linter.unusedVariables false
set_option linter.unusedSimpArgs false

/-- A valid source, as lists. -/
structure VS (H P G : List Int) : Prop where
  h30 : H.length ≤ 30
  p30 : P.length ≤ 30
  pos : 0 < H.length + P.length
  gp : G.length = P.length
  hd : ∀ (i : Nat) (x : Int), H[i]? = some x → (if i = 0 then -1000000000 else 1) ≤ x ∧ x ≤ 1000000000
  per : ∀ (i : Nat) (x : Int), P[i]? = some x → 1 ≤ x ∧ x ≤ 1000000
  gr : ∀ (i : Nat) (x : Int), G[i]? = some x → 0 ≤ x ∧ x ≤ 1000000

/-! Words. -/
def gw (g : Int) : List UInt8 := if g = 0 then [] else 43 :: Lib.itoa g
def core (p g : Int) : List UInt8 := Lib.itoa p ++ gw g
def pword (n i : Nat) (p g : Int) : List UInt8 := (if i = 0 then [40] else []) ++ (core p g ++ if i + 1 = n then [41] else [])
def pwn (n : Nat) (P G : List Int) (k : Nat) : List (List UInt8) := (List.range k).map fun i => pword n i (P.getD i 0) (G.getD i 0)
def words (H P G : List Int) : List (List UInt8) := H.map Lib.itoa ++ pwn P.length P G P.length
def stext (H P G : List Int) : List UInt8 := Lib.join (words H P G) [32]
noncomputable def stxt (H P G : List Int) : List UInt8 := @ite _ (VS H P G) (Classical.propDecidable _) (stext H P G) []
theorem stxt_yes {H P G : List Int} (h : VS H P G) : stxt H P G = stext H P G := if_pos h
theorem stxt_no {H P G : List Int} (h : ¬ VS H P G) : stxt H P G = [] := if_neg h

theorem pwn_succ (n : Nat) (P G : List Int) (k : Nat) : pwn n P G (k + 1) = pwn n P G k ++ [pword n k (P.getD k 0) (G.getD k 0)] := by
  simp [pwn, List.range_succ]
theorem pwn_length (n : Nat) (P G : List Int) (k : Nat) : (pwn n P G k).length = k := by simp [pwn]
theorem pwn_app (n : Nat) (P G : List Int) (p g : Int) (k : Nat) (hp : k ≤ P.length) (hg : k ≤ G.length) : pwn n (P ++ [p]) (G ++ [g]) k = pwn n P G k := by
  unfold pwn
  refine List.map_congr_left fun i hi => ?_
  have hi := List.mem_range.1 hi
  simp [List.getD, List.getElem?_append, show i < P.length by omega, show i < G.length by omega]
theorem pwn_zero (n : Nat) (P G : List Int) (k : Nat) (h : k < n) : pwn n P G k = pwn 0 P G k := by
  unfold pwn
  refine List.map_congr_left fun i hi => ?_
  have hi := List.mem_range.1 hi
  unfold pword
  rw [if_neg (show ¬ i + 1 = n by omega), if_neg (show ¬ i + 1 = 0 by omega)]

theorem gw_free (g : Int) {c : UInt8} (h1 : c ≠ 45) (h2 : c.toNat < 48 ∨ 57 < c.toNat) (h3 : c ≠ 43) : c ∉ gw g := by
  unfold gw
  split
  · simp
  · simp only [List.mem_cons, not_or]; exact ⟨h3, itoa_free g h1 h2⟩
theorem core_free (p g : Int) {c : UInt8} (h1 : c ≠ 45) (h2 : c.toNat < 48 ∨ 57 < c.toNat) (h3 : c ≠ 43) : c ∉ core p g := by
  unfold core
  rw [List.mem_append, not_or]
  exact ⟨itoa_free p h1 h2, gw_free g h1 h2 h3⟩
theorem core_ne (p g : Int) : core p g ≠ [] := fun e => itoa_ne p (List.append_eq_nil_iff.1 e).1
theorem pword_free (n i : Nat) (p g : Int) : (32 : UInt8) ∉ pword n i p g := by
  unfold pword
  have := core_free p g (c := 32) (by decide) (.inl (by decide)) (by decide)
  rw [List.mem_append, List.mem_append, not_or, not_or]
  refine ⟨?_, this, ?_⟩ <;> split <;> simp
theorem words_free {H P G : List Int} : ∀ w ∈ words H P G, (32 : UInt8) ∉ w := by
  intro w hw
  rcases List.mem_append.1 hw with hw | hw
  · obtain ⟨x, _, rfl⟩ := List.mem_map.1 hw
    exact itoa_free x (by decide) (.inl (by decide))
  · obtain ⟨i, _, rfl⟩ := List.mem_map.1 hw
    exact pword_free _ _ _ _
theorem words_ne {H P G : List Int} (h : 0 < H.length + P.length) : words H P G ≠ [] := by
  intro e
  have := congrArg List.length e
  simp [words, pwn_length] at this
  simp [this] at h
theorem spl_stext {H P G : List Int} (h : 0 < H.length + P.length) : spl 32 (stext H P G) = words H P G := spl_join (words_ne h) words_free

/-! Prefix and suffix of one byte. -/
theorem pre_yes (c : UInt8) (w : List UInt8) : Lib.hasPrefix (c :: w) [c] = true ∧ Lib.trimPrefix (c :: w) [c] = w := by
  have : Lib.hasPrefix (c :: w) [c] = true := by simp [Lib.hasPrefix, List.isPrefixOf]
  exact ⟨this, by simp [Lib.trimPrefix, this]⟩
theorem pre_no {c : UInt8} {w : List UInt8} (h : ∀ r, w ≠ c :: r) : Lib.hasPrefix w [c] = false ∧ Lib.trimPrefix w [c] = w := by
  have : Lib.hasPrefix w [c] = false := by
    cases w with
    | nil => rfl
    | cons b r =>
      have hb : c ≠ b := fun e => h r (by rw [e])
      simp [Lib.hasPrefix, List.isPrefixOf, hb]
  exact ⟨this, by simp [Lib.trimPrefix, this]⟩
theorem suf_yes (c : UInt8) (w : List UInt8) : Lib.trimSuffix (w ++ [c]) [c] = w := by
  have : Lib.hasSuffix (w ++ [c]) [c] = true := by simp [Lib.hasSuffix, List.isSuffixOf]
  simp [Lib.trimSuffix, this]
theorem suf_no {c : UInt8} {w : List UInt8} (h : c ∉ w) : Lib.trimSuffix w [c] = w := by
  have : Lib.hasSuffix w [c] = false := by
    cases hs : Lib.hasSuffix w [c] with
    | false => rfl
    | true =>
      exfalso
      have h1 : [c] <:+ w := by simpa [Lib.hasSuffix] using hs
      obtain ⟨t, rfl⟩ := h1
      exact h (by simp)
  simp [Lib.trimSuffix, this]
theorem itoa_no40 (n : Int) (b : List UInt8) : ∀ r, Lib.itoa n ++ b ≠ 40 :: r := by
  intro r e
  have hf := itoa_free n (c := 40) (by decide) (.inl (by decide))
  cases hi : Lib.itoa n with
  | nil => exact itoa_ne n hi
  | cons x l => rw [hi] at e hf; simp at e; simp [e.1] at hf

/-! As the program reads. -/
structure PS where
  ins : Bool
  H : List Int
  P : List Int
  G : List Int
def stepI (st : PS) (w : List UInt8) : Option PS :=
  match rdec (Lib.cut (Lib.trimSuffix (Lib.trimPrefix w [40]) [41]) [43]).1 with
  | none => none
  | some t =>
    if (Lib.cut (Lib.trimSuffix (Lib.trimPrefix w [40]) [41]) [43]).2.2 = (rdec (Lib.cut (Lib.trimSuffix (Lib.trimPrefix w [40]) [41]) [43]).2.1).isSome then
      if st.ins || Lib.hasPrefix w [40] then some ⟨true, st.H, st.P ++ [t], st.G ++ [(rdec (Lib.cut (Lib.trimSuffix (Lib.trimPrefix w [40]) [41]) [43]).2.1).getD 0]⟩
      else some ⟨false, st.H ++ [t], st.P, st.G⟩
    else none
def foldI : PS → List (List UInt8) → Option PS
  | st, [] => some st
  | st, w :: ws => match stepI st w with
    | none => none
    | some st' => foldI st' ws
noncomputable def rsI (s : List UInt8) : Option (List Int × List Int × List Int) :=
  match foldI ⟨false, [], [], []⟩ (spl 32 s) with
  | none => none
  | some st => if stxt st.H st.P st.G = s then some (st.H, st.P, st.G) else none
theorem foldI_app : ∀ (a b : List (List UInt8)) (st : PS), foldI st (a ++ b) = (foldI st a).bind fun st' => foldI st' b
  | [], _, _ => rfl
  | w :: a, b, st => by
    rw [List.cons_append, foldI, foldI]
    cases stepI st w with
    | none => rfl
    | some st' => exact foldI_app a b st'
theorem stepI_head {h : Int} (h0 : -1000000000000000000 < h) (h1 : h < 1000000000000000000) (H P G : List Int) : stepI ⟨false, H, P, G⟩ (Lib.itoa h) = some ⟨false, H ++ [h], P, G⟩ := by
  have e1 := pre_no (c := 40) (w := Lib.itoa h) (fun r => by have := itoa_no40 h [] r; rwa [List.append_nil] at this)
  have e2 := suf_no (itoa_free h (c := 41) (by decide) (.inl (by decide)))
  have e3 := cut_none (itoa_free h (c := 43) (by decide) (.inl (by decide)))
  unfold stepI
  rw [e1.2, e2, e3, rdec_itoa h0 h1, e1.1]
  simp [rdec_nil]
theorem cut_core (p g : Int) : Lib.cut (core p g) [43] = if g = 0 then (Lib.itoa p, [], false) else (Lib.itoa p, Lib.itoa g, true) := by
  have hf := itoa_free p (c := 43) (by decide) (.inl (by decide))
  unfold core gw
  by_cases h : g = 0
  · rw [if_pos h, if_pos h, List.append_nil, cut_none hf]
  · rw [if_neg h, if_neg h, cut_hit _ hf]
theorem stepI_per {p g : Int} {n i : Nat} {ins : Bool} (h0 : -1000000000000000000 < p) (h1 : p < 1000000000000000000) (g0 : -1000000000000000000 < g) (g1 : g < 1000000000000000000)
    (hi : i = 0 ∨ ins = true) (H P G : List Int) : stepI ⟨ins, H, P, G⟩ (pword n i p g) = some ⟨true, H, P ++ [p], G ++ [g]⟩ := by
  have hc := core_free p g (c := 41) (by decide) (.inl (by decide)) (by decide)
  have hr : Lib.trimSuffix (core p g ++ if i + 1 = n then [41] else []) [41] = core p g := by
    split
    · exact suf_yes 41 _
    · rw [List.append_nil]; exact suf_no hc
  have hw : Lib.trimPrefix (pword n i p g) [40] = core p g ++ (if i + 1 = n then [41] else []) ∧ (ins || Lib.hasPrefix (pword n i p g) [40]) = true := by
    unfold pword
    by_cases h : i = 0
    · rw [if_pos h]
      have := pre_yes 40 (core p g ++ if i + 1 = n then [41] else [])
      exact ⟨this.2, by rw [show [40] ++ (core p g ++ if i + 1 = n then [41] else []) = 40 :: (core p g ++ if i + 1 = n then [41] else []) from rfl, this.1]; simp⟩
    · rw [if_neg h, List.nil_append]
      have := pre_no (c := 40) (w := core p g ++ if i + 1 = n then [41] else []) (fun r => by unfold core; rw [List.append_assoc]; exact itoa_no40 p _ r)
      exact ⟨this.2, by rcases hi with hi | hi
                        · exact absurd hi h
                        · simp [hi]⟩
  unfold stepI
  rw [hw.1, hr, hw.2, cut_core]
  by_cases hg : g = 0
  · subst hg
    simp [rdec_itoa h0 h1, rdec_nil]
  · simp [hg, rdec_itoa h0 h1, rdec_itoa g0 g1]
theorem VS.hr {H P G : List Int} (v : VS H P G) : ∀ x ∈ H, -1000000000000000000 < x ∧ x < 1000000000000000000 := by
  intro x hx
  obtain ⟨i, hi⟩ := List.mem_iff_getElem?.1 hx
  have := v.hd i x hi
  split at this <;> omega
theorem VS.pr {H P G : List Int} (v : VS H P G) (i : Nat) (h : i < P.length) : 1 ≤ P.getD i 0 ∧ P.getD i 0 ≤ 1000000 := by
  have := v.per i (P[i]) (by simp [h])
  simpa [List.getD, h] using this
theorem VS.gg {H P G : List Int} (v : VS H P G) (i : Nat) (h : i < P.length) : 0 ≤ G.getD i 0 ∧ G.getD i 0 ≤ 1000000 := by
  have hg : i < G.length := by rw [v.gp]; exact h
  have := v.gr i (G[i]) (by simp [hg])
  simpa [List.getD, hg] using this
theorem take_getD {xs : List Int} {k : Nat} (h : k < xs.length) : xs.take k ++ [xs.getD k 0] = xs.take (k + 1) := by
  rw [List.take_add_one]; simp [List.getD, h]
theorem foldI_heads : ∀ (H H0 P G : List Int), (∀ x ∈ H, -1000000000000000000 < x ∧ x < 1000000000000000000) → foldI ⟨false, H0, P, G⟩ (H.map Lib.itoa) = some ⟨false, H0 ++ H, P, G⟩
  | [], H0, P, G, _ => by simp [foldI]
  | h :: H, H0, P, G, hr => by
    have := hr h (by simp)
    rw [List.map_cons, foldI, stepI_head this.1 this.2]
    simp only
    rw [foldI_heads H (H0 ++ [h]) P G (fun x hx => hr x (by simp [hx]))]
    simp
theorem foldI_pers {H P G : List Int} (v : VS H P G) : ∀ k, k ≤ P.length → foldI ⟨false, H, [], []⟩ (pwn P.length P G k) = some ⟨decide (0 < k), H, P.take k, G.take k⟩
  | 0, _ => by simp [pwn, foldI]
  | k + 1, hk => by
    rw [pwn_succ, foldI_app, foldI_pers v k (by omega)]
    have h1 := v.pr k (by omega)
    have h2 := v.gg k (by omega)
    simp only [Option.bind, foldI]
    rw [stepI_per (by omega) (by omega) (by omega) (by omega) (by by_cases h : k = 0 <;> simp [h]; omega), take_getD (by omega), take_getD (by rw [v.gp]; omega)]
    simp
theorem rsI_iff {s : List UInt8} {H P G : List Int} : rsI s = some (H, P, G) ↔ VS H P G ∧ stext H P G = s := by
  constructor
  · intro h
    unfold rsI at h
    cases hf : foldI ⟨false, [], [], []⟩ (spl 32 s) with
    | none => rw [hf] at h; cases h
    | some st =>
      rw [hf] at h
      simp only at h
      by_cases he : stxt st.H st.P st.G = s
      · rw [if_pos he] at h
        simp only [Option.some.injEq, Prod.mk.injEq] at h
        obtain ⟨rfl, rfl, rfl⟩ := h
        by_cases v : VS st.H st.P st.G
        · exact ⟨v, by rw [← stxt_yes v]; exact he⟩
        · rw [stxt_no v] at he
          subst he
          have e : foldI ⟨false, [], [], []⟩ (spl 32 []) = none := by decide
          rw [e] at hf; cases hf
      · rw [if_neg he] at h; cases h
  · rintro ⟨v, rfl⟩
    unfold rsI
    rw [spl_stext v.pos]
    unfold words
    rw [foldI_app, foldI_heads H [] [] [] v.hr]
    simp only [Option.bind, List.nil_append]
    rw [foldI_pers v _ (Nat.le_refl _)]
    simp only [List.take_length, show G.take P.length = G by rw [← v.gp, List.take_length]]
    rw [if_pos (stxt_yes v)]

/-! As the reference reads. -/
structure RS where
  ins : Bool
  ended : Bool
  H : List Int
  P : List Int
  G : List Int
def wordS (w : List UInt8) : Option (Int × Int) :=
  match rdec (spl 43 w).head! with
  | none => none
  | some n =>
    if (spl 43 w).length = 1 then some (n, 0)
    else if (spl 43 w).length = 2 then
      match rdec (spl 43 w)[1]! with
      | none => none
      | some g => if 0 < g then some (n, g) else none
    else none
theorem wordS_some {w : List UInt8} {n g : Int} (h : wordS w = some (n, g)) : w = core n g ∧ 0 ≤ g := by
  unfold wordS at h
  rcases spl_cases 43 w with ⟨_, e⟩ | ⟨a, b, rfl, ha, e⟩
  · rw [e] at h
    simp only [head1, List.length_singleton, if_true] at h
    cases hr : rdec w with
    | none => rw [hr] at h; cases h
    | some m =>
      rw [hr] at h
      simp only [Option.some.injEq, Prod.mk.injEq] at h
      obtain ⟨rfl, rfl⟩ := h
      exact ⟨by simp [core, gw, (rdec_some hr).1], Int.le_refl _⟩
  · rw [e] at h
    simp only [head1, List.length_cons] at h
    cases hr : rdec a with
    | none => rw [hr] at h; cases h
    | some m =>
      rw [hr] at h
      simp only at h
      have hp := List.length_pos_iff.2 (spl_ne 43 b)
      rw [if_neg (by omega)] at h
      rcases spl_cases 43 b with ⟨hb, eb⟩ | ⟨a', b', rfl, ha', eb⟩
      · rw [eb] at h
        rw [if_pos (by simp)] at h
        simp only [show (a :: [b])[1]! = b from rfl] at h
        cases hr2 : rdec b with
        | none => rw [hr2] at h; cases h
        | some g' =>
          rw [hr2] at h
          simp only at h
          by_cases hg : 0 < g'
          · rw [if_pos hg] at h
            simp only [Option.some.injEq, Prod.mk.injEq] at h
            obtain ⟨rfl, rfl⟩ := h
            refine ⟨?_, by omega⟩
            unfold core gw
            rw [if_neg (by omega), (rdec_some hr).1, (rdec_some hr2).1]
          · rw [if_neg hg] at h; cases h
      · exfalso
        rw [eb] at h
        have := List.length_pos_iff.2 (spl_ne 43 b')
        rw [if_neg (by simp only [List.length_cons]; omega)] at h
        cases h
theorem wordS_core {n g : Int} (h0 : -1000000000000000000 < n) (h1 : n < 1000000000000000000) (g0 : 0 ≤ g) (g1 : g < 1000000000000000000) : wordS (core n g) = some (n, g) := by
  have hf := itoa_free n (c := 43) (by decide) (.inl (by decide))
  unfold wordS core gw
  by_cases h : g = 0
  · subst h
    rw [if_pos rfl, List.append_nil, spl_none hf]
    simp [head1, rdec_itoa h0 h1]
  · rw [if_neg h, spl_hit _ hf, spl_none (itoa_free g (c := 43) (by decide) (.inl (by decide)))]
    simp only [head1, rdec_itoa h0 h1, List.length_cons, List.length_nil]
    rw [if_neg (by decide), if_pos (by decide)]
    simp only [show ∀ (x y : List UInt8), (x :: [y])[1]! = y from fun _ _ => rfl]
    rw [rdec_itoa (by omega) g1]
    simp only
    rw [if_pos (by omega)]
/-- Behind the mark that opens; behind the mark that ends; whether it ends. -/
def opS (ins : Bool) (w : List UInt8) : Bool := !ins && w.head? == some 40
def w1S (ins : Bool) (w : List UInt8) : List UInt8 := if opS ins w then w.tail else w
def clS (ins : Bool) (w : List UInt8) : Bool := (ins || opS ins w) && (w1S ins w).getLast? == some 41
def w2S (ins : Bool) (w : List UInt8) : List UInt8 := if clS ins w then (w1S ins w).dropLast else w1S ins w
def stepS (st : RS) (w : List UInt8) : Option RS :=
  if st.ended = true ∨ w = [] then none
  else match wordS (w2S st.ins w) with
    | none => none
    | some (n, g) =>
      if st.ins || opS st.ins w then some ⟨true, clS st.ins w, st.H, st.P ++ [n], st.G ++ [g]⟩
      else if 0 < g then none else some ⟨false, false, st.H ++ [n], st.P, st.G⟩
def foldS : RS → List (List UInt8) → Option RS
  | st, [] => some st
  | st, w :: ws => match stepS st w with
    | none => none
    | some st' => foldS st' ws
noncomputable def rsS (s : List UInt8) : Option (List Int × List Int × List Int) :=
  match foldS ⟨false, false, [], [], []⟩ (spl 32 s) with
  | none => none
  | some st => @ite _ (st.ins = st.ended ∧ VS st.H st.P st.G) (Classical.propDecidable _) (some (st.H, st.P, st.G)) none
theorem foldS_app : ∀ (a b : List (List UInt8)) (st : RS), foldS st (a ++ b) = (foldS st a).bind fun st' => foldS st' b
  | [], _, _ => rfl
  | w :: a, b, st => by
    rw [List.cons_append, foldS, foldS]
    cases stepS st w with
    | none => rfl
    | some st' => exact foldS_app a b st'
theorem last_drop {w : List UInt8} {c : UInt8} (h : w.getLast? = some c) : w = w.dropLast ++ [c] := by
  have hne : w ≠ [] := by intro e; subst e; simp at h
  have := List.dropLast_concat_getLast hne
  have e : w.getLast? = some (w.getLast hne) := List.getLast?_eq_some_getLast hne
  rw [e] at h
  injection h with h
  rw [h] at this
  exact this.symm
/-- What the words are that have been read. -/
structure InvS (ws : List (List UInt8)) (st : RS) : Prop where
  gp : st.G.length = st.P.length
  out : st.ins = false → st.ended = false ∧ st.P = []
  inn : st.ins = true → st.P ≠ []
  e : ws = st.H.map Lib.itoa ++ pwn (if st.ended then st.P.length else 0) st.P st.G st.P.length
theorem invS_step {ws : List (List UInt8)} {st st' : RS} {w : List UInt8} (h : stepS st w = some st') (I : InvS ws st) : InvS (ws ++ [w]) st' := by
  obtain ⟨ins, ended, H, P, G⟩ := st
  obtain ⟨gp, out, inn, e⟩ := I
  simp only at gp out inn e
  unfold stepS at h
  simp only at h
  by_cases hq : ended = true ∨ w = []
  · rw [if_pos hq] at h; cases h
  rw [if_neg hq] at h
  obtain ⟨he, hw⟩ := not_or.1 hq
  have he : ended = false := by simpa using he
  subst he
  cases hwS : wordS (w2S ins w) with
  | none => rw [hwS] at h; cases h
  | some ng =>
    obtain ⟨n, g⟩ := ng
    rw [hwS] at h
    simp only at h
    obtain ⟨hc, hg⟩ := wordS_some hwS
    simp only [Bool.false_eq_true, if_false] at e
    by_cases hin : (ins || opS ins w) = true
    · rw [if_pos hin] at h
      simp only [Option.some.injEq] at h
      subst h
      have hk : P.length = 0 ↔ opS ins w = true := by
        cases hi : ins with
        | false =>
          rw [hi] at hin
          have := (out hi).2
          subst this
          simp only [Bool.false_or] at hin
          rw [hin]; simp
        | true =>
          have := inn hi
          simp only [opS, Bool.not_true, Bool.false_and, Bool.false_eq_true, iff_false]
          intro e0; exact this (List.eq_nil_of_length_eq_zero e0)
      have hw1 : w = (if P.length = 0 then [40] else []) ++ w1S ins w := by
        unfold w1S
        by_cases ho : opS ins w = true
        · rw [if_pos ho, if_pos (hk.2 ho)]
          have h40 : w.head? = some 40 := by unfold opS at ho; simp at ho; exact ho.2
          cases w with
          | nil => simp at h40
          | cons b r => simp at h40; subst h40; rfl
        · rw [if_neg ho, if_neg (fun q => ho (hk.1 q)), List.nil_append]
      have hw2 : w1S ins w = core n g ++ if clS ins w = true then [41] else [] := by
        unfold w2S at hc
        by_cases hcl : clS ins w = true
        · rw [if_pos hcl] at hc ⊢
          have h41 : (w1S ins w).getLast? = some 41 := by unfold clS at hcl; simp at hcl; exact hcl.2
          rw [← hc]; exact last_drop h41
        · rw [if_neg hcl] at hc ⊢
          rw [hc, List.append_nil]
      have hwN : ∀ b, clS ins w = b → w = pword (if b = true then P.length + 1 else 0) P.length n g := by
        intro b hb
        rw [hb] at hw2
        rw [hw2] at hw1
        rw [hw1, pword]
        cases b
        · simp
        · simp
      refine ⟨by simp [gp], by simp, by simp, ?_⟩
      simp only [List.length_append, List.length_singleton]
      rw [pwn_succ, pwn_app _ _ _ _ _ _ (Nat.le_refl _) (by omega), show (P ++ [n]).getD P.length 0 = n by simp [List.getD], show (G ++ [g]).getD P.length 0 = g by simp [List.getD, ← gp], ← List.append_assoc]
      cases hcl : clS ins w with
      | true =>
        have := hwN _ hcl
        simp only [if_true] at this ⊢
        rw [pwn_zero _ _ _ _ (by omega), ← e, ← this]
      | false =>
        have := hwN _ hcl
        simp only [Bool.false_eq_true, if_false] at this ⊢
        rw [← e, ← this]
    · rw [if_neg hin] at h
      have hin' : ins = false ∧ opS ins w = false := by
        cases ins <;> simp_all
      obtain ⟨rfl, ho⟩ := hin'
      by_cases hg0 : 0 < g
      · rw [if_pos hg0] at h; cases h
      rw [if_neg hg0] at h
      simp only [Option.some.injEq] at h
      subst h
      obtain rfl : g = 0 := by omega
      have hP := (out rfl).2
      subst hP
      have hw1 : w1S false w = w := by unfold w1S; rw [ho]; rfl
      have hcl : clS false w = false := by unfold clS; rw [ho]; rfl
      have hw2 : w2S false w = w := by unfold w2S; rw [hcl, hw1]; rfl
      rw [hw2] at hc
      refine ⟨gp, by simp, by simp, ?_⟩
      rw [e, hc]
      simp [pwn, core, gw]
theorem invS_fold : ∀ (ws' ws : List (List UInt8)) (st st' : RS), foldS st ws' = some st' → InvS ws st → InvS (ws ++ ws') st'
  | [], ws, st, st', h, I => by
    simp only [foldS, Option.some.injEq] at h
    subst h; rw [List.append_nil]; exact I
  | w :: ws', ws, st, st', h, I => by
    rw [foldS] at h
    cases hs : stepS st w with
    | none => rw [hs] at h; cases h
    | some st1 =>
      rw [hs] at h
      have := invS_fold ws' (ws ++ [w]) st1 st' h (invS_step hs I)
      rwa [List.append_assoc] at this
theorem stepS_head {h : Int} (h0 : -1000000000000000000 < h) (h1 : h < 1000000000000000000) (H P G : List Int) : stepS ⟨false, false, H, P, G⟩ (Lib.itoa h) = some ⟨false, false, H ++ [h], P, G⟩ := by
  have ho : opS false (Lib.itoa h) = false := by
    unfold opS
    cases hi : Lib.itoa h with
    | nil => rfl
    | cons x l =>
      have := itoa_no40 h [] l
      rw [List.append_nil, hi] at this
      have hx : x ≠ 40 := fun e => this (by rw [e])
      simp [hx]
  have hcl : clS false (Lib.itoa h) = false := by unfold clS; rw [ho]; rfl
  have hw2 : w2S false (Lib.itoa h) = Lib.itoa h := by unfold w2S w1S; rw [hcl, ho]; rfl
  unfold stepS
  have hc : wordS (Lib.itoa h) = some (h, 0) := by
    have := wordS_core (g := 0) h0 h1 (by omega) (by omega)
    simpa [core, gw] using this
  simp only [hw2, hc, ho]
  rw [if_neg (by simp [itoa_ne])]
  simp
theorem stepS_per {p g : Int} {n i : Nat} {ins : Bool} (h0 : -1000000000000000000 < p) (h1 : p < 1000000000000000000) (g0 : 0 ≤ g) (g1 : g < 1000000000000000000)
    (hi : ins = decide (0 < i)) (H P G : List Int) : stepS ⟨ins, false, H, P, G⟩ (pword n i p g) = some ⟨true, decide (i + 1 = n), H, P ++ [p], G ++ [g]⟩ := by
  have hne : pword n i p g ≠ [] := by
    unfold pword; intro e
    exact core_ne p g (List.append_eq_nil_iff.1 (List.append_eq_nil_iff.1 e).2).1
  have ho : opS ins (pword n i p g) = decide (i = 0) := by
    unfold opS
    rw [hi]
    by_cases h : i = 0
    · subst h; simp [pword]
    · simp [h, show 0 < i by omega]
  have hw1 : w1S ins (pword n i p g) = core p g ++ if i + 1 = n then [41] else [] := by
    unfold w1S
    rw [ho]
    by_cases h : i = 0
    · subst h; simp [pword]
    · simp [h, pword]
  have hin : (ins || opS ins (pword n i p g)) = true := by
    rw [ho, hi]; by_cases h : i = 0 <;> simp [h]; omega
  have hcl : clS ins (pword n i p g) = decide (i + 1 = n) := by
    unfold clS
    rw [hin, hw1, Bool.true_and]
    by_cases h : i + 1 = n
    · simp [h]
    · rw [if_neg h, List.append_nil]
      have hf := core_free p g (c := 41) (by decide) (.inl (by decide)) (by decide)
      have : (core p g).getLast? ≠ some 41 := by
        intro e
        have := last_drop e
        rw [this] at hf; simp at hf
      simp [h, this]
  have hw2 : w2S ins (pword n i p g) = core p g := by
    unfold w2S
    rw [hcl, hw1]
    by_cases h : i + 1 = n
    · simp [h]
    · simp [h]
  unfold stepS
  simp only [hw2, wordS_core h0 h1 g0 g1]
  rw [if_neg (by simp [hne]), if_pos hin, hcl]
theorem foldS_heads : ∀ (H H0 P G : List Int), (∀ x ∈ H, -1000000000000000000 < x ∧ x < 1000000000000000000) → foldS ⟨false, false, H0, P, G⟩ (H.map Lib.itoa) = some ⟨false, false, H0 ++ H, P, G⟩
  | [], H0, P, G, _ => by simp [foldS]
  | h :: H, H0, P, G, hr => by
    have := hr h (by simp)
    rw [List.map_cons, foldS, stepS_head this.1 this.2]
    simp only
    rw [foldS_heads H (H0 ++ [h]) P G (fun x hx => hr x (by simp [hx]))]
    simp
theorem foldS_pers {H P G : List Int} (v : VS H P G) : ∀ k, k ≤ P.length → foldS ⟨false, false, H, [], []⟩ (pwn P.length P G k) = some ⟨decide (0 < k), decide (0 < k ∧ k = P.length), H, P.take k, G.take k⟩
  | 0, _ => by simp [pwn, foldS]
  | k + 1, hk => by
    rw [pwn_succ, foldS_app, foldS_pers v k (by omega)]
    have h1 := v.pr k (by omega)
    have h2 := v.gg k (by omega)
    have e : decide (0 < k ∧ k = P.length) = false := by simp; omega
    rw [e]
    simp only [Option.bind, foldS]
    rw [stepS_per (by omega) (by omega) (by omega) (by omega) rfl, take_getD (by omega), take_getD (by rw [v.gp]; omega)]
    simp
theorem rsS_iff {s : List UInt8} {H P G : List Int} : rsS s = some (H, P, G) ↔ VS H P G ∧ stext H P G = s := by
  constructor
  · intro h
    unfold rsS at h
    cases hf : foldS ⟨false, false, [], [], []⟩ (spl 32 s) with
    | none => rw [hf] at h; cases h
    | some st =>
      rw [hf] at h
      simp only at h
      split at h
      · rename_i hc
        obtain ⟨he, v⟩ := hc
        simp only [Option.some.injEq, Prod.mk.injEq] at h
        obtain ⟨rfl, rfl, rfl⟩ := h
        refine ⟨v, ?_⟩
        have I := invS_fold _ [] _ _ hf ⟨rfl, fun _ => ⟨rfl, rfl⟩, by simp, by simp [pwn]⟩
        have e := I.e
        rw [List.nil_append] at e
        have : words st.H st.P st.G = spl 32 s := by
          rw [e]; unfold words
          cases hen : st.ended with
          | true => simp
          | false =>
            have := (I.out (he.trans hen)).2
            rw [this]; simp [pwn]
        unfold stext
        rw [this]
        exact join_spl 32 _ s (Nat.le_refl _)
      · cases h
  · rintro ⟨v, rfl⟩
    unfold rsS
    rw [spl_stext v.pos]
    unfold words
    rw [foldS_app, foldS_heads H [] [] [] v.hr]
    simp only [Option.bind, List.nil_append]
    rw [foldS_pers v _ (Nat.le_refl _), List.take_length, show G.take P.length = G by rw [← v.gp, List.take_length]]
    simp only
    rw [if_pos]
    exact ⟨by simp, v⟩
/-- BOTH READ THE SAME. -/
theorem rs_eq (s : List UInt8) : rsI s = rsS s := by
  cases h1 : rsI s with
  | some x => obtain ⟨a, b, c⟩ := x; exact (rsS_iff.2 (rsI_iff.1 h1)).symm
  | none =>
    cases h2 : rsS s with
    | none => rfl
    | some x => obtain ⟨a, b, c⟩ := x; rw [rsI_iff.2 (rsS_iff.1 h2)] at h1; cases h1

end Go.Proofs.YtndblondleclpaaGreatDoor

/- Texts of sources in the two programs' own steps. Each theorem names its conditions. -/
namespace Go.Proofs.YtndblondleclpaaGreatDoor
set_option linter.unusedVariables false
set_option linter.unusedSimpArgs false

theorem vs_ok {s : Src} : OkSrc s ↔ VS s.H s.P s.G :=
  ⟨fun k => ⟨k.h30, k.p30, k.pos, k.gp, fun i x h => by have := k.hd i x h; unfold lowAt at this; exact this, k.per, k.gr⟩,
   fun k => ⟨k.h30, k.p30, k.pos, k.gp, fun i x h => by have := k.hd i x h; unfold lowAt; exact this, k.per, k.gr⟩⟩
theorem stxt_ok {s : Src} (h : okSrc s = true) : stxt s.H s.P s.G = stext s.H s.P s.G := stxt_yes (vs_ok.1 (okSrc_iff.1 h))
theorem stxt_bad {s : Src} (h : okSrc s = false) : stxt s.H s.P s.G = [] := stxt_no (fun v => by rw [okSrc_iff.2 (vs_ok.2 v)] at h; cases h)

/-- The heads that are written; the words of the period without their marks. -/
def hws (H : List Int) (k : Nat) : List (List UInt8) := (H.take k).map Lib.itoa
def cws (P G : List Int) (k : Nat) : List (List UInt8) := (List.range k).map fun i => core (P.getD i 0) (G.getD i 0)
theorem hws_succ {H : List Int} {k : Nat} {x : Int} (h : H[k]? = some x) : hws H (k + 1) = hws H k ++ [Lib.itoa x] := by
  unfold hws; rw [List.take_add_one, h]; simp
theorem hws_len {H : List Int} {k : Nat} (h : k ≤ H.length) : (hws H k).length = k := by simp [hws]; omega
theorem hws_all (H : List Int) : hws H H.length = H.map Lib.itoa := by simp [hws]
theorem cws_succ {P G : List Int} {k : Nat} {x y : Int} (h : P[k]? = some x) (h' : G[k]? = some y) : cws P G (k + 1) = cws P G k ++ [core x y] := by
  unfold cws; rw [List.range_succ]; simp [List.getD, h, h']
theorem cws_len (P G : List Int) (k : Nat) : (cws P G k).length = k := by simp [cws]
/-- One word more. -/
theorem join_snoc {l : List (List UInt8)} (x : List UInt8) (c : UInt8) : Lib.join (l ++ [x]) [c] = if l = [] then x else Lib.join l [c] ++ c :: x := by
  by_cases h : l = []
  · subst h; rw [if_pos rfl, List.nil_append, join_one]
  · rw [if_neg h, join_app h (by simp), join_one]
theorem join_pwn {n : Nat} {P G : List Int} : ∀ {k : Nat}, 0 < k → k ≤ n → Lib.join (pwn n P G k) [32] = 40 :: (Lib.join (cws P G k) [32] ++ if k = n then [41] else [])
  | 0, h, _ => absurd h (by omega)
  | 1, _, hn => by
    simp only [pwn, cws, List.range_succ, List.range_zero, List.nil_append, List.map_cons, List.map_nil, join_one, pword]
    rw [if_pos trivial]
    by_cases h : 1 = n <;> simp [h]
  | k + 2, _, hn => by
    have e : pwn n P G (k + 1) ≠ [] := by intro q; have := congrArg List.length q; simp [pwn_length] at this
    have e2 : cws P G (k + 1) ≠ [] := by intro q; have := congrArg List.length q; simp [cws_len] at this
    have ih := join_pwn (n := n) (P := P) (G := G) (k := k + 1) (by omega) (by omega)
    rw [if_neg (by omega), List.append_nil] at ih
    rw [pwn_succ, join_snoc, if_neg e, ih]
    have hc : cws P G (k + 2) = cws P G (k + 1) ++ [core (P.getD (k + 1) 0) (G.getD (k + 1) 0)] := by simp [cws, List.range_succ]
    rw [hc, join_snoc, if_neg e2, pword, if_neg (by omega)]
    by_cases h : k + 1 + 1 = n
    · rw [if_pos h]; simp
    · rw [if_neg h]; simp
/-- The reference's text. -/
def sbase (H : List Int) : List UInt8 := if H = [] then [40] else Lib.join (H.map Lib.itoa) [32] ++ [32, 40]
theorem stext_none (H G : List Int) : stext H [] G = Lib.join (H.map Lib.itoa) [32] := by simp [stext, words, pwn]
theorem stext_some {H P G : List Int} (h : 0 < P.length) : stext H P G = sbase H ++ Lib.join (cws P G P.length) [32] ++ [41] := by
  unfold stext words sbase
  have e : pwn P.length P G P.length ≠ [] := by intro q; have := congrArg List.length q; rw [pwn_length, List.length_nil] at this; omega
  have hj := join_pwn (n := P.length) (P := P) (G := G) h (Nat.le_refl _)
  rw [if_pos rfl] at hj
  by_cases hH : H = []
  · subst hH; rw [if_pos rfl, List.map_nil, List.nil_append, hj]; simp
  · rw [if_neg hH, join_app (by simpa using hH) e, hj]; simp
theorem pwn_snoc {n : Nat} {P G : List Int} {k : Nat} {x y : Int} (h : P[k]? = some x) (h' : G[k]? = some y) : pwn n P G (k + 1) = pwn n P G k ++ [pword n k x y] := by
  rw [pwn_succ]; simp [List.getD, h, h']
/-- Lengths. -/
theorem itoa_len (n : Int) (h : -1000000000 ≤ n ∧ n ≤ 1000000000) : (Lib.itoa n).length ≤ 21 := Lib.itoa_length_le n (by omega) (by omega)
theorem core_len {p g : Int} (hp : -1000000000 ≤ p ∧ p ≤ 1000000000) (hg : -1000000000 ≤ g ∧ g ≤ 1000000000) : (core p g).length ≤ 43 := by
  unfold core gw
  have h1 := itoa_len p hp
  have h2 := itoa_len g hg
  rw [List.length_append]
  split
  · simp; omega
  · simp; omega
theorem pword_len {n i : Nat} {p g : Int} (hp : -1000000000 ≤ p ∧ p ≤ 1000000000) (hg : -1000000000 ≤ g ∧ g ≤ 1000000000) : (pword n i p g).length ≤ 45 := by
  have := core_len hp hg
  unfold pword
  simp only [List.length_append]
  split <;> split <;> simp <;> omega
theorem join_len (c : UInt8) (m : Nat) : ∀ (l : List (List UInt8)), (∀ w ∈ l, w.length ≤ m) → (Lib.join l [c]).length ≤ l.length * (m + 1)
  | [], _ => by rw [join_nil]; simp
  | a :: l, h => by
    have ha := h a (by simp)
    by_cases hl : l = []
    · subst hl; rw [join_one]; simp; omega
    · have := join_len c m l (fun w hw => h w (by simp [hw]))
      rw [join_cons a hl, List.length_append, List.length_cons, List.length_cons, Nat.add_mul]
      omega

end Go.Proofs.YtndblondleclpaaGreatDoor

