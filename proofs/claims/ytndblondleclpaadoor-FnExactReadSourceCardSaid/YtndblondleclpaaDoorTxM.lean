/- Texts of digits: what is written is read back, by the program's way and by the reference's; cuts and splits at one byte. Each theorem names its conditions. -/
import Derived.Lib.SplitLaws
import Derived.Lib.Join
import Derived.Test.YtndblondleclpaaDoorRdM
namespace Go.Proofs.YtndblondleclpaaDoor
set_option linter.unusedVariables false
set_option linter.unusedSimpArgs false

/-! Cuts and splits at one byte. -/
/-- The parts of a text between bytes c. -/
def spl (c : UInt8) : List UInt8 → List (List UInt8)
  | [] => [[]]
  | b :: l => if b = c then [] :: spl c l else (b :: (spl c l).head!) :: (spl c l).tail
theorem head1 (a : List UInt8) (l : List (List UInt8)) : (a :: l).head! = a := rfl
theorem spl_ne (c : UInt8) (l : List UInt8) : spl c l ≠ [] := by
  cases l with
  | nil => simp [spl]
  | cons b l => simp only [spl]; split <;> simp
theorem spl_cons (c : UInt8) (l : List UInt8) : ∃ h t, spl c l = h :: t := by
  cases e : spl c l with
  | nil => exact absurd e (spl_ne c l)
  | cons h t => exact ⟨h, t, rfl⟩
theorem spl_none {c : UInt8} : ∀ {a : List UInt8}, c ∉ a → spl c a = [a]
  | [], _ => rfl
  | b :: l, h => by
    have hb : b ≠ c := fun e => h (by simp [e])
    have hl : c ∉ l := fun e => h (by simp [e])
    rw [spl, if_neg hb, spl_none hl]; rfl
theorem spl_hit {c : UInt8} : ∀ {a : List UInt8} (b : List UInt8), c ∉ a → spl c (a ++ c :: b) = a :: spl c b
  | [], b, _ => by rw [List.nil_append, spl, if_pos rfl]
  | x :: a, b, h => by
    have hb : x ≠ c := fun e => h (by simp [e])
    have hl : c ∉ a := fun e => h (by simp [e])
    rw [List.cons_append, spl, if_neg hb, spl_hit b hl]; rfl
theorem spl_cases (c : UInt8) : ∀ s : List UInt8, (c ∉ s ∧ spl c s = [s]) ∨ ∃ a b, s = a ++ c :: b ∧ c ∉ a ∧ spl c s = a :: spl c b
  | [] => .inl ⟨by simp, rfl⟩
  | x :: s => by
    by_cases hx : x = c
    · subst hx; exact .inr ⟨[], s, rfl, by simp, by rw [spl, if_pos rfl]⟩
    · rcases spl_cases c s with ⟨h, e⟩ | ⟨a, b, rfl, ha, e⟩
      · exact .inl ⟨by simp [Ne.symm hx, h], by rw [spl, if_neg hx, e]; rfl⟩
      · exact .inr ⟨x :: a, b, rfl, by simp [Ne.symm hx, ha], by rw [spl, if_neg hx, e]; rfl⟩
theorem join_cons (a : List UInt8) {l : List (List UInt8)} (h : l ≠ []) (c : UInt8) : Lib.join (a :: l) [c] = a ++ c :: Lib.join l [c] := by
  cases l with
  | nil => exact absurd rfl h
  | cons b l => simp [Lib.join, List.intercalate, List.intersperse]
theorem join_one (a : List UInt8) (c : UInt8) : Lib.join [a] [c] = a := by simp [Lib.join, List.intercalate, List.intersperse]
theorem join_nil (c : UInt8) : Lib.join [] [c] = [] := by simp [Lib.join, List.intercalate, List.intersperse]
theorem join_app {c : UInt8} : ∀ {l r : List (List UInt8)}, l ≠ [] → r ≠ [] → Lib.join (l ++ r) [c] = Lib.join l [c] ++ c :: Lib.join r [c]
  | [], r, h, _ => absurd rfl h
  | [a], r, _, hr => by rw [List.singleton_append, join_cons a hr, join_one]
  | a :: b :: l, r, _, hr => by
    rw [List.cons_append, join_cons a (by simp), join_app (l := b :: l) (by simp) hr, join_cons a (by simp)]
    simp
theorem join_spl (c : UInt8) : ∀ (n : Nat) (s : List UInt8), s.length ≤ n → Lib.join (spl c s) [c] = s := by
  intro n
  induction n with
  | zero =>
    intro s h
    obtain rfl := List.eq_nil_of_length_eq_zero (Nat.le_zero.1 h)
    rw [spl, join_one]
  | succ n ih =>
    intro s h
    rcases spl_cases c s with ⟨_, e⟩ | ⟨a, b, rfl, ha, e⟩
    · rw [e, join_one]
    · rw [e, join_cons a (spl_ne c b), ih b (by simp at h; omega)]
theorem spl_join {c : UInt8} : ∀ {l : List (List UInt8)}, l ≠ [] → (∀ w ∈ l, c ∉ w) → spl c (Lib.join l [c]) = l
  | [], h, _ => absurd rfl h
  | [a], _, h => by rw [join_one]; exact spl_none (h a (by simp))
  | a :: b :: l, _, h => by
    rw [join_cons a (by simp), spl_hit _ (h a (by simp)), spl_join (l := b :: l) (by simp) (fun w hw => h w (by simp [hw]))]
theorem spl_free (c : UInt8) : ∀ (n : Nat) (s : List UInt8), s.length ≤ n → ∀ w ∈ spl c s, c ∉ w := by
  intro n
  induction n with
  | zero =>
    intro s h w hw
    obtain rfl := List.eq_nil_of_length_eq_zero (Nat.le_zero.1 h)
    simp [spl] at hw; subst hw; simp
  | succ n ih =>
    intro s h w hw
    rcases spl_cases c s with ⟨h1, e⟩ | ⟨a, b, rfl, ha, e⟩
    · rw [e] at hw; simp at hw; subst hw; exact h1
    · rw [e] at hw
      rcases List.mem_cons.1 hw with rfl | hw
      · exact ha
      · exact ih b (by simp at h; omega) w hw

theorem index_none {c : UInt8} : ∀ {a : List UInt8}, c ∉ a → Lib.index a [c] = -1
  | [], _ => rfl
  | b :: l, h => by
    have hb : c ≠ b := fun e => h (by simp [e])
    have hl : c ∉ l := fun e => h (by simp [e])
    rw [Lib.index]
    simp [List.isPrefixOf, hb, index_none hl]
theorem index_hit {c : UInt8} : ∀ {a : List UInt8} (b : List UInt8), c ∉ a → Lib.index (a ++ c :: b) [c] = a.length
  | [], b, _ => by rw [List.nil_append, Lib.index]; simp [List.isPrefixOf]
  | x :: a, b, h => by
    have hb : c ≠ x := fun e => h (by simp [e])
    have hl : c ∉ a := fun e => h (by simp [e])
    rw [List.cons_append, Lib.index]
    have := index_hit b hl
    rw [this]
    have hp : ([c] : List UInt8).isPrefixOf (x :: (a ++ c :: b)) = false := by simp [List.isPrefixOf, hb]
    rw [hp, if_neg (by decide), if_neg (by simp)]
    simp
theorem cut_none {c : UInt8} {a : List UInt8} (h : c ∉ a) : Lib.cut a [c] = (a, [], false) := by
  unfold Lib.cut; rw [index_none h, if_neg (by omega)]
theorem cut_hit {c : UInt8} {a : List UInt8} (b : List UInt8) (h : c ∉ a) : Lib.cut (a ++ c :: b) [c] = (a, b, true) := by
  unfold Lib.cut; rw [index_hit b h, if_pos (by omega)]
  simp
theorem cut_spl (c : UInt8) (s : List UInt8) : (c ∉ s ∧ Lib.cut s [c] = (s, [], false) ∧ spl c s = [s]) ∨ ∃ a b, s = a ++ c :: b ∧ c ∉ a ∧ Lib.cut s [c] = (a, b, true) ∧ spl c s = a :: spl c b := by
  rcases spl_cases c s with ⟨h, e⟩ | ⟨a, b, rfl, ha, e⟩
  · exact .inl ⟨h, cut_none h, e⟩
  · exact .inr ⟨a, b, rfl, ha, cut_hit b ha, e⟩
theorem split_spl (c : UInt8) : ∀ (n : Nat) (s : List UInt8), s.length ≤ n → Lib.split s [c] = spl c s := by
  intro n
  induction n with
  | zero =>
    intro s h
    obtain rfl := List.eq_nil_of_length_eq_zero (Nat.le_zero.1 h)
    rfl
  | succ n ih =>
    intro s h
    rcases spl_cases c s with ⟨h1, e⟩ | ⟨a, b, rfl, ha, e⟩
    · rw [e]
      unfold Lib.split
      rw [Lib.count_one, List.count_eq_zero.2 h1]
      rfl
    · rw [e, ← ih b (by simp at h; omega)]
      unfold Lib.split
      rw [Lib.count_one, Lib.count_one, List.count_append, List.count_eq_zero.2 ha, List.count_cons_self, Nat.zero_add]
      rw [Lib.splitK, if_neg (by rw [index_hit b ha]; simp), index_hit b ha]
      simp

/-! Digits. -/
/-- The character of a digit; the digit of a character, -1 if there is none. -/
def sgc (d : Int) : UInt8 := if d < 10 then UInt8.ofNat (48 + d.toNat) else UInt8.ofNat (87 + d.toNat)
def dval (c : UInt8) : Int := if 48 ≤ c.toNat ∧ c.toNat ≤ 57 then (c.toNat : Int) - 48 else if 97 ≤ c.toNat ∧ c.toNat ≤ 122 then (c.toNat : Int) - 97 + 10 else -1
theorem dval_sgc {d : Int} (h0 : 0 ≤ d) (h1 : d < 36) : dval (sgc d) = d := by
  unfold sgc dval
  by_cases h : d < 10
  · rw [if_pos h, UInt8.toNat_ofNat', show (48 + d.toNat) % 2 ^ 8 = 48 + d.toNat by omega, if_pos (by omega)]; omega
  · rw [if_neg h, UInt8.toNat_ofNat', show (87 + d.toNat) % 2 ^ 8 = 87 + d.toNat by omega, if_neg (by omega), if_pos (by omega)]; omega
theorem sgc_dval {c : UInt8} (h : 0 ≤ dval c) : sgc (dval c) = c ∧ dval c < 36 := by
  unfold dval at h ⊢
  have hc := c.toNat_lt
  by_cases h1 : 48 ≤ c.toNat ∧ c.toNat ≤ 57
  · rw [if_pos h1]
    unfold sgc
    rw [if_pos (by omega), show 48 + ((c.toNat : Int) - 48).toNat = c.toNat by omega]
    exact ⟨by simp, by omega⟩
  · rw [if_neg h1] at h ⊢
    by_cases h2 : 97 ≤ c.toNat ∧ c.toNat ≤ 122
    · rw [if_pos h2]
      unfold sgc
      rw [if_neg (by omega), show 87 + ((c.toNat : Int) - 97 + 10).toNat = c.toNat by omega]
      exact ⟨by simp, by omega⟩
    · rw [if_neg h2] at h; omega
theorem dval_ge (c : UInt8) : -1 ≤ dval c ∧ dval c < 36 := by
  unfold dval; have := c.toNat_lt; split <;> (try split) <;> omega

/-- A base, a floor and digits that have a text; the text. -/
structure DV (base whole : Int) (ds : List Int) : Prop where
  b : 2 ≤ base ∧ base ≤ 36
  w : -1000000000 ≤ whole ∧ whole ≤ 1000000000
  l : ds.length ≤ 1000
  d : ∀ x ∈ ds, 0 ≤ x ∧ x < base
def dtext (whole : Int) (ds : List Int) : List UInt8 := Lib.itoa whole ++ (if ds = [] then [] else 46 :: ds.map sgc)
noncomputable def dtxt (base whole : Int) (ds : List Int) : List UInt8 := @ite _ (DV base whole ds) (Classical.propDecidable _) (dtext whole ds) []
theorem dtxt_yes {base whole : Int} {ds : List Int} (h : DV base whole ds) : dtxt base whole ds = dtext whole ds := if_pos h
theorem dtxt_no {base whole : Int} {ds : List Int} (h : ¬ DV base whole ds) : dtxt base whole ds = [] := if_neg h
theorem itoa_ne (n : Int) : Lib.itoa n ≠ [] := by
  by_cases h : n < 0
  · rw [itoa_neg' h]; simp
  · rw [itoa_pos' h]; obtain ⟨b, r, e, _⟩ := dec_cons n.toNat; rw [e]; simp
theorem itoa_free (n : Int) {c : UInt8} (h1 : c ≠ 45) (h2 : c.toNat < 48 ∨ 57 < c.toNat) : c ∉ Lib.itoa n := by
  intro hc
  by_cases h : n < 0
  · rw [itoa_neg' h] at hc
    rcases List.mem_cons.1 hc with hc | hc
    · exact h1 hc
    · have := dec_digit _ c hc; omega
  · rw [itoa_pos' h] at hc
    have := dec_digit _ c hc; omega
theorem dtext_ne (whole : Int) (ds : List Int) : dtext whole ds ≠ [] := by
  unfold dtext; intro e; exact itoa_ne whole (List.append_eq_nil_iff.1 e).1
theorem map_dval {base : Int} {ds : List Int} (hb : base ≤ 36) (h : ∀ x ∈ ds, 0 ≤ x ∧ x < base) : (ds.map sgc).map dval = ds := by
  induction ds with
  | nil => rfl
  | cons d ds ih =>
    have := h d (by simp)
    simp only [List.map_cons]
    rw [dval_sgc this.1 (by omega), ih (fun x hx => h x (by simp [hx]))]
theorem map_sgc {t : List UInt8} (h : ∀ c ∈ t, 0 ≤ dval c) : (t.map dval).map sgc = t := by
  induction t with
  | nil => rfl
  | cons d ds ih =>
    simp only [List.map_cons]
    rw [(sgc_dval (h d (by simp))).1, ih (fun x hx => h x (by simp [hx]))]
theorem sgc_free {base : Int} {ds : List Int} (hb : base ≤ 36) (h : ∀ x ∈ ds, 0 ≤ x ∧ x < base) : (46 : UInt8) ∉ ds.map sgc := by
  intro hc
  obtain ⟨d, hd, e⟩ := List.mem_map.1 hc
  have h1 := h d hd
  have h2 := dval_sgc h1.1 (by omega)
  rw [e] at h2
  have : dval 46 = -1 := by decide
  omega

/-- As the program reads. -/
noncomputable def rdgI (base : Int) (s : List UInt8) : Option (Int × List Int) :=
  match rdec (Lib.cut s [46]).1 with
  | none => none
  | some whole => @ite _ ((2 ≤ base ∧ base ≤ 36) ∧ (Lib.cut s [46]).2.1.length ≤ 1000 ∧ (∀ c ∈ (Lib.cut s [46]).2.1, 0 ≤ dval c) ∧ dtxt base whole ((Lib.cut s [46]).2.1.map dval) = s) (Classical.propDecidable _)
      (some (whole, (Lib.cut s [46]).2.1.map dval)) none
/-- As the reference reads. -/
noncomputable def rdgS (base : Int) (s : List UInt8) : Option (Int × List Int) :=
  match rdec (spl 46 s).head! with
  | none => none
  | some whole => @ite _ ((2 ≤ base ∧ base ≤ 36) ∧ (spl 46 s).length ≤ 2 ∧ (-1000000000 ≤ whole ∧ whole ≤ 1000000000)) (Classical.propDecidable _)
      (if (spl 46 s).length = 2 then
        @ite _ ((spl 46 s)[1]! ≠ [] ∧ (∀ c ∈ (spl 46 s)[1]!, 0 ≤ dval c ∧ dval c < base) ∧ (spl 46 s)[1]!.length ≤ 1000) (Classical.propDecidable _) (some (whole, (spl 46 s)[1]!.map dval)) none
      else some (whole, [])) none

theorem rdgI_iff {base : Int} {s : List UInt8} {whole : Int} {ds : List Int} : rdgI base s = some (whole, ds) ↔ DV base whole ds ∧ dtext whole ds = s := by
  constructor
  · intro h
    unfold rdgI at h
    cases hr : rdec (Lib.cut s [46]).1 with
    | none => rw [hr] at h; cases h
    | some wh =>
      rw [hr] at h
      simp only at h
      split at h
      · rename_i hc
        simp only [Option.some.injEq, Prod.mk.injEq] at h
        obtain ⟨rfl, rfl⟩ := h
        by_cases hv : DV base wh ((Lib.cut s [46]).2.1.map dval)
        · exact ⟨hv, by rw [← dtxt_yes hv]; exact hc.2.2.2⟩
        · have hs := hc.2.2.2
          rw [dtxt_no hv] at hs
          subst hs
          cases hr
      · cases h
  · rintro ⟨hv, rfl⟩
    have hw := rdec_itoa (n := whole) (by have := hv.w; omega) (by have := hv.w; omega)
    have hf : (46 : UInt8) ∉ Lib.itoa whole := itoa_free whole (by decide) (.inl (by decide))
    by_cases hd : ds = []
    · subst hd
      have e : dtext whole [] = Lib.itoa whole := by simp [dtext]
      unfold rdgI
      rw [e, cut_none hf]
      simp only [hw]
      rw [if_pos]
      · rfl
      · exact ⟨hv.b, by simp, by simp, by rw [List.map_nil, dtxt_yes hv, e]⟩
    · have e : dtext whole ds = Lib.itoa whole ++ 46 :: ds.map sgc := by simp [dtext, hd]
      unfold rdgI
      rw [e, cut_hit _ hf]
      simp only [hw]
      rw [map_dval hv.b.2 hv.d, if_pos]
      refine ⟨hv.b, by simpa using hv.l, ?_, by rw [dtxt_yes hv, e]⟩
      intro c hc
      obtain ⟨d, hd', rfl⟩ := List.mem_map.1 hc
      have h1 := hv.d d hd'
      have := hv.b
      rw [dval_sgc h1.1 (by omega)]; exact h1.1
theorem rdgS_iff {base : Int} {s : List UInt8} {whole : Int} {ds : List Int} : rdgS base s = some (whole, ds) ↔ DV base whole ds ∧ dtext whole ds = s := by
  constructor
  · intro h
    unfold rdgS at h
    rcases spl_cases 46 s with ⟨h1, e⟩ | ⟨a, b, rfl, ha, e⟩
    · rw [e] at h
      simp only [head1, List.length_singleton] at h
      cases hr : rdec s with
      | none => rw [hr] at h; cases h
      | some wh =>
        rw [hr] at h
        simp only at h
        split at h
        · rename_i hc
          rw [if_neg (by omega)] at h
          simp only [Option.some.injEq, Prod.mk.injEq] at h
          obtain ⟨rfl, rfl⟩ := h
          exact ⟨⟨hc.1, hc.2.2, by simp, by simp⟩, by simp [dtext, (rdec_some hr).1]⟩
        · cases h
    · rw [e] at h
      simp only [head1, List.length_cons] at h
      cases hr : rdec a with
      | none => rw [hr] at h; cases h
      | some wh =>
        rw [hr] at h
        simp only at h
        split at h
        · rename_i hc
          rcases spl_cases 46 b with ⟨hb, eb⟩ | ⟨a', b', rfl, ha', eb⟩
          · rw [eb] at h
            rw [if_pos (by simp)] at h
            simp only [show (a :: [b])[1]! = b from rfl] at h
            split at h
            · rename_i hd
              simp only [Option.some.injEq, Prod.mk.injEq] at h
              obtain ⟨rfl, rfl⟩ := h
              refine ⟨⟨hc.1, hc.2.2, by simpa using hd.2.2, ?_⟩, ?_⟩
              · intro x hx
                obtain ⟨c, hc', rfl⟩ := List.mem_map.1 hx
                exact hd.2.1 c hc'
              · unfold dtext
                rw [if_neg (by simpa using hd.1), map_sgc (fun c hc' => (hd.2.1 c hc').1), (rdec_some hr).1]
            · cases h
          · exfalso
            have hl := hc.2.1
            rw [eb] at hl
            simp only [List.length_cons] at hl
            have := List.length_pos_iff.2 (spl_ne 46 b')
            omega
        · cases h
  · rintro ⟨hv, rfl⟩
    have hw := rdec_itoa (n := whole) (by have := hv.w; omega) (by have := hv.w; omega)
    have hf : (46 : UInt8) ∉ Lib.itoa whole := itoa_free whole (by decide) (.inl (by decide))
    by_cases hd : ds = []
    · subst hd
      have e : dtext whole [] = Lib.itoa whole := by simp [dtext]
      unfold rdgS
      rw [e, spl_none hf]
      simp only [head1, hw, List.length_singleton]
      rw [if_pos ⟨hv.b, by omega, hv.w⟩, if_neg (by omega)]
    · have e : dtext whole ds = Lib.itoa whole ++ 46 :: ds.map sgc := by simp [dtext, hd]
      unfold rdgS
      rw [e, spl_hit _ hf, spl_none (sgc_free hv.b.2 hv.d)]
      simp only [head1, hw, List.length_cons, List.length_nil]
      rw [if_pos ⟨hv.b, by omega, hv.w⟩, if_pos (by decide)]
      simp only [show ∀ (x y : List UInt8), (x :: [y])[1]! = y from fun _ _ => rfl]
      rw [if_pos, map_dval hv.b.2 hv.d]
      refine ⟨by simpa using hd, ?_, by simpa using hv.l⟩
      intro c hc
      obtain ⟨d, hd', rfl⟩ := List.mem_map.1 hc
      have h1 := hv.d d hd'
      have := hv.b
      rw [dval_sgc h1.1 (by omega)]; exact h1
/-- BOTH READ THE SAME. -/
theorem rdg_eq (base : Int) (s : List UInt8) : rdgI base s = rdgS base s := by
  cases h1 : rdgI base s with
  | some x => obtain ⟨a, b⟩ := x; exact (rdgS_iff.2 (rdgI_iff.1 h1)).symm
  | none =>
    cases h2 : rdgS base s with
    | none => rfl
    | some x => obtain ⟨a, b⟩ := x; rw [rdgI_iff.2 (rdgS_iff.1 h2)] at h1; cases h1

end Go.Proofs.YtndblondleclpaaDoor
