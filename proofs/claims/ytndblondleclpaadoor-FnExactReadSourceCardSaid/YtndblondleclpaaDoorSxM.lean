/- Texts of sources: what is written is read back, by the program's way and by the reference's. Each theorem names its conditions. -/
import Derived.Test.YtndblondleclpaaDoorTxM
namespace Go.Proofs.YtndblondleclpaaDoor
set_option linter.unusedVariables false
set_option linter.unusedSimpArgs false

/-- A valid source, as lists. -/
structure VS (H P G : List Int) : Prop where
  h30 : H.length ≤ 30
  p30 : P.length ≤ 30
  pos : 0 < H.length + P.length
  gp : G.length = P.length
  hd : ∀ (i : Nat) (x : Int), H[i]? = some x → (if i = 0 then -1000000000 else 1) ≤ x ∧ x ≤ 1000000000
  per : ∀ (i : Nat) (x : Int), P[i]? = some x → 1 ≤ x ∧ x ≤ 1000000
  gr : ∀ (i : Nat) (x : Int), G[i]? = some x → 0 ≤ x ∧ x ≤ 1000000

/-! Words. -/
def gw (g : Int) : List UInt8 := if g = 0 then [] else 43 :: Lib.itoa g
def core (p g : Int) : List UInt8 := Lib.itoa p ++ gw g
def pword (n i : Nat) (p g : Int) : List UInt8 := (if i = 0 then [40] else []) ++ (core p g ++ if i + 1 = n then [41] else [])
def pwn (n : Nat) (P G : List Int) (k : Nat) : List (List UInt8) := (List.range k).map fun i => pword n i (P.getD i 0) (G.getD i 0)
def words (H P G : List Int) : List (List UInt8) := H.map Lib.itoa ++ pwn P.length P G P.length
def stext (H P G : List Int) : List UInt8 := Lib.join (words H P G) [32]
noncomputable def stxt (H P G : List Int) : List UInt8 := @ite _ (VS H P G) (Classical.propDecidable _) (stext H P G) []
theorem stxt_yes {H P G : List Int} (h : VS H P G) : stxt H P G = stext H P G := if_pos h
theorem stxt_no {H P G : List Int} (h : ¬ VS H P G) : stxt H P G = [] := if_neg h

theorem pwn_succ (n : Nat) (P G : List Int) (k : Nat) : pwn n P G (k + 1) = pwn n P G k ++ [pword n k (P.getD k 0) (G.getD k 0)] := by
  simp [pwn, List.range_succ]
theorem pwn_length (n : Nat) (P G : List Int) (k : Nat) : (pwn n P G k).length = k := by simp [pwn]
theorem pwn_app (n : Nat) (P G : List Int) (p g : Int) (k : Nat) (hp : k ≤ P.length) (hg : k ≤ G.length) : pwn n (P ++ [p]) (G ++ [g]) k = pwn n P G k := by
  unfold pwn
  refine List.map_congr_left fun i hi => ?_
  have hi := List.mem_range.1 hi
  simp [List.getD, List.getElem?_append, show i < P.length by omega, show i < G.length by omega]
theorem pwn_zero (n : Nat) (P G : List Int) (k : Nat) (h : k < n) : pwn n P G k = pwn 0 P G k := by
  unfold pwn
  refine List.map_congr_left fun i hi => ?_
  have hi := List.mem_range.1 hi
  unfold pword
  rw [if_neg (show ¬ i + 1 = n by omega), if_neg (show ¬ i + 1 = 0 by omega)]

theorem gw_free (g : Int) {c : UInt8} (h1 : c ≠ 45) (h2 : c.toNat < 48 ∨ 57 < c.toNat) (h3 : c ≠ 43) : c ∉ gw g := by
  unfold gw
  split
  · simp
  · simp only [List.mem_cons, not_or]; exact ⟨h3, itoa_free g h1 h2⟩
theorem core_free (p g : Int) {c : UInt8} (h1 : c ≠ 45) (h2 : c.toNat < 48 ∨ 57 < c.toNat) (h3 : c ≠ 43) : c ∉ core p g := by
  unfold core
  rw [List.mem_append, not_or]
  exact ⟨itoa_free p h1 h2, gw_free g h1 h2 h3⟩
theorem core_ne (p g : Int) : core p g ≠ [] := fun e => itoa_ne p (List.append_eq_nil_iff.1 e).1
theorem pword_free (n i : Nat) (p g : Int) : (32 : UInt8) ∉ pword n i p g := by
  unfold pword
  have := core_free p g (c := 32) (by decide) (.inl (by decide)) (by decide)
  rw [List.mem_append, List.mem_append, not_or, not_or]
  refine ⟨?_, this, ?_⟩ <;> split <;> simp
theorem words_free {H P G : List Int} : ∀ w ∈ words H P G, (32 : UInt8) ∉ w := by
  intro w hw
  rcases List.mem_append.1 hw with hw | hw
  · obtain ⟨x, _, rfl⟩ := List.mem_map.1 hw
    exact itoa_free x (by decide) (.inl (by decide))
  · obtain ⟨i, _, rfl⟩ := List.mem_map.1 hw
    exact pword_free _ _ _ _
theorem words_ne {H P G : List Int} (h : 0 < H.length + P.length) : words H P G ≠ [] := by
  intro e
  have := congrArg List.length e
  simp [words, pwn_length] at this
  simp [this] at h
theorem spl_stext {H P G : List Int} (h : 0 < H.length + P.length) : spl 32 (stext H P G) = words H P G := spl_join (words_ne h) words_free

/-! Prefix and suffix of one byte. -/
theorem pre_yes (c : UInt8) (w : List UInt8) : Lib.hasPrefix (c :: w) [c] = true ∧ Lib.trimPrefix (c :: w) [c] = w := by
  have : Lib.hasPrefix (c :: w) [c] = true := by simp [Lib.hasPrefix, List.isPrefixOf]
  exact ⟨this, by simp [Lib.trimPrefix, this]⟩
theorem pre_no {c : UInt8} {w : List UInt8} (h : ∀ r, w ≠ c :: r) : Lib.hasPrefix w [c] = false ∧ Lib.trimPrefix w [c] = w := by
  have : Lib.hasPrefix w [c] = false := by
    cases w with
    | nil => rfl
    | cons b r =>
      have hb : c ≠ b := fun e => h r (by rw [e])
      simp [Lib.hasPrefix, List.isPrefixOf, hb]
  exact ⟨this, by simp [Lib.trimPrefix, this]⟩
theorem suf_yes (c : UInt8) (w : List UInt8) : Lib.trimSuffix (w ++ [c]) [c] = w := by
  have : Lib.hasSuffix (w ++ [c]) [c] = true := by simp [Lib.hasSuffix, List.isSuffixOf]
  simp [Lib.trimSuffix, this]
theorem suf_no {c : UInt8} {w : List UInt8} (h : c ∉ w) : Lib.trimSuffix w [c] = w := by
  have : Lib.hasSuffix w [c] = false := by
    cases hs : Lib.hasSuffix w [c] with
    | false => rfl
    | true =>
      exfalso
      have h1 : [c] <:+ w := by simpa [Lib.hasSuffix] using hs
      obtain ⟨t, rfl⟩ := h1
      exact h (by simp)
  simp [Lib.trimSuffix, this]
theorem itoa_no40 (n : Int) (b : List UInt8) : ∀ r, Lib.itoa n ++ b ≠ 40 :: r := by
  intro r e
  have hf := itoa_free n (c := 40) (by decide) (.inl (by decide))
  cases hi : Lib.itoa n with
  | nil => exact itoa_ne n hi
  | cons x l => rw [hi] at e hf; simp at e; simp [e.1] at hf

/-! As the program reads. -/
structure PS where
  ins : Bool
  H : List Int
  P : List Int
  G : List Int
def stepI (st : PS) (w : List UInt8) : Option PS :=
  match rdec (Lib.cut (Lib.trimSuffix (Lib.trimPrefix w [40]) [41]) [43]).1 with
  | none => none
  | some t =>
    if (Lib.cut (Lib.trimSuffix (Lib.trimPrefix w [40]) [41]) [43]).2.2 = (rdec (Lib.cut (Lib.trimSuffix (Lib.trimPrefix w [40]) [41]) [43]).2.1).isSome then
      if st.ins || Lib.hasPrefix w [40] then some ⟨true, st.H, st.P ++ [t], st.G ++ [(rdec (Lib.cut (Lib.trimSuffix (Lib.trimPrefix w [40]) [41]) [43]).2.1).getD 0]⟩
      else some ⟨false, st.H ++ [t], st.P, st.G⟩
    else none
def foldI : PS → List (List UInt8) → Option PS
  | st, [] => some st
  | st, w :: ws => match stepI st w with
    | none => none
    | some st' => foldI st' ws
noncomputable def rsI (s : List UInt8) : Option (List Int × List Int × List Int) :=
  match foldI ⟨false, [], [], []⟩ (spl 32 s) with
  | none => none
  | some st => if stxt st.H st.P st.G = s then some (st.H, st.P, st.G) else none
theorem foldI_app : ∀ (a b : List (List UInt8)) (st : PS), foldI st (a ++ b) = (foldI st a).bind fun st' => foldI st' b
  | [], _, _ => rfl
  | w :: a, b, st => by
    rw [List.cons_append, foldI, foldI]
    cases stepI st w with
    | none => rfl
    | some st' => exact foldI_app a b st'
theorem stepI_head {h : Int} (h0 : -1000000000000000000 < h) (h1 : h < 1000000000000000000) (H P G : List Int) : stepI ⟨false, H, P, G⟩ (Lib.itoa h) = some ⟨false, H ++ [h], P, G⟩ := by
  have e1 := pre_no (c := 40) (w := Lib.itoa h) (fun r => by have := itoa_no40 h [] r; rwa [List.append_nil] at this)
  have e2 := suf_no (itoa_free h (c := 41) (by decide) (.inl (by decide)))
  have e3 := cut_none (itoa_free h (c := 43) (by decide) (.inl (by decide)))
  unfold stepI
  rw [e1.2, e2, e3, rdec_itoa h0 h1, e1.1]
  simp [rdec_nil]
theorem cut_core (p g : Int) : Lib.cut (core p g) [43] = if g = 0 then (Lib.itoa p, [], false) else (Lib.itoa p, Lib.itoa g, true) := by
  have hf := itoa_free p (c := 43) (by decide) (.inl (by decide))
  unfold core gw
  by_cases h : g = 0
  · rw [if_pos h, if_pos h, List.append_nil, cut_none hf]
  · rw [if_neg h, if_neg h, cut_hit _ hf]
theorem stepI_per {p g : Int} {n i : Nat} {ins : Bool} (h0 : -1000000000000000000 < p) (h1 : p < 1000000000000000000) (g0 : -1000000000000000000 < g) (g1 : g < 1000000000000000000)
    (hi : i = 0 ∨ ins = true) (H P G : List Int) : stepI ⟨ins, H, P, G⟩ (pword n i p g) = some ⟨true, H, P ++ [p], G ++ [g]⟩ := by
  have hc := core_free p g (c := 41) (by decide) (.inl (by decide)) (by decide)
  have hr : Lib.trimSuffix (core p g ++ if i + 1 = n then [41] else []) [41] = core p g := by
    split
    · exact suf_yes 41 _
    · rw [List.append_nil]; exact suf_no hc
  have hw : Lib.trimPrefix (pword n i p g) [40] = core p g ++ (if i + 1 = n then [41] else []) ∧ (ins || Lib.hasPrefix (pword n i p g) [40]) = true := by
    unfold pword
    by_cases h : i = 0
    · rw [if_pos h]
      have := pre_yes 40 (core p g ++ if i + 1 = n then [41] else [])
      exact ⟨this.2, by rw [show [40] ++ (core p g ++ if i + 1 = n then [41] else []) = 40 :: (core p g ++ if i + 1 = n then [41] else []) from rfl, this.1]; simp⟩
    · rw [if_neg h, List.nil_append]
      have := pre_no (c := 40) (w := core p g ++ if i + 1 = n then [41] else []) (fun r => by unfold core; rw [List.append_assoc]; exact itoa_no40 p _ r)
      exact ⟨this.2, by rcases hi with hi | hi
                        · exact absurd hi h
                        · simp [hi]⟩
  unfold stepI
  rw [hw.1, hr, hw.2, cut_core]
  by_cases hg : g = 0
  · subst hg
    simp [rdec_itoa h0 h1, rdec_nil]
  · simp [hg, rdec_itoa h0 h1, rdec_itoa g0 g1]
theorem VS.hr {H P G : List Int} (v : VS H P G) : ∀ x ∈ H, -1000000000000000000 < x ∧ x < 1000000000000000000 := by
  intro x hx
  obtain ⟨i, hi⟩ := List.mem_iff_getElem?.1 hx
  have := v.hd i x hi
  split at this <;> omega
theorem VS.pr {H P G : List Int} (v : VS H P G) (i : Nat) (h : i < P.length) : 1 ≤ P.getD i 0 ∧ P.getD i 0 ≤ 1000000 := by
  have := v.per i (P[i]) (by simp [h])
  simpa [List.getD, h] using this
theorem VS.gg {H P G : List Int} (v : VS H P G) (i : Nat) (h : i < P.length) : 0 ≤ G.getD i 0 ∧ G.getD i 0 ≤ 1000000 := by
  have hg : i < G.length := by rw [v.gp]; exact h
  have := v.gr i (G[i]) (by simp [hg])
  simpa [List.getD, hg] using this
theorem take_getD {xs : List Int} {k : Nat} (h : k < xs.length) : xs.take k ++ [xs.getD k 0] = xs.take (k + 1) := by
  rw [List.take_add_one]; simp [List.getD, h]
theorem foldI_heads : ∀ (H H0 P G : List Int), (∀ x ∈ H, -1000000000000000000 < x ∧ x < 1000000000000000000) → foldI ⟨false, H0, P, G⟩ (H.map Lib.itoa) = some ⟨false, H0 ++ H, P, G⟩
  | [], H0, P, G, _ => by simp [foldI]
  | h :: H, H0, P, G, hr => by
    have := hr h (by simp)
    rw [List.map_cons, foldI, stepI_head this.1 this.2]
    simp only
    rw [foldI_heads H (H0 ++ [h]) P G (fun x hx => hr x (by simp [hx]))]
    simp
theorem foldI_pers {H P G : List Int} (v : VS H P G) : ∀ k, k ≤ P.length → foldI ⟨false, H, [], []⟩ (pwn P.length P G k) = some ⟨decide (0 < k), H, P.take k, G.take k⟩
  | 0, _ => by simp [pwn, foldI]
  | k + 1, hk => by
    rw [pwn_succ, foldI_app, foldI_pers v k (by omega)]
    have h1 := v.pr k (by omega)
    have h2 := v.gg k (by omega)
    simp only [Option.bind, foldI]
    rw [stepI_per (by omega) (by omega) (by omega) (by omega) (by by_cases h : k = 0 <;> simp [h]; omega), take_getD (by omega), take_getD (by rw [v.gp]; omega)]
    simp
theorem rsI_iff {s : List UInt8} {H P G : List Int} : rsI s = some (H, P, G) ↔ VS H P G ∧ stext H P G = s := by
  constructor
  · intro h
    unfold rsI at h
    cases hf : foldI ⟨false, [], [], []⟩ (spl 32 s) with
    | none => rw [hf] at h; cases h
    | some st =>
      rw [hf] at h
      simp only at h
      by_cases he : stxt st.H st.P st.G = s
      · rw [if_pos he] at h
        simp only [Option.some.injEq, Prod.mk.injEq] at h
        obtain ⟨rfl, rfl, rfl⟩ := h
        by_cases v : VS st.H st.P st.G
        · exact ⟨v, by rw [← stxt_yes v]; exact he⟩
        · rw [stxt_no v] at he
          subst he
          have e : foldI ⟨false, [], [], []⟩ (spl 32 []) = none := by decide
          rw [e] at hf; cases hf
      · rw [if_neg he] at h; cases h
  · rintro ⟨v, rfl⟩
    unfold rsI
    rw [spl_stext v.pos]
    unfold words
    rw [foldI_app, foldI_heads H [] [] [] v.hr]
    simp only [Option.bind, List.nil_append]
    rw [foldI_pers v _ (Nat.le_refl _)]
    simp only [List.take_length, show G.take P.length = G by rw [← v.gp, List.take_length]]
    rw [if_pos (stxt_yes v)]

/-! As the reference reads. -/
structure RS where
  ins : Bool
  ended : Bool
  H : List Int
  P : List Int
  G : List Int
def wordS (w : List UInt8) : Option (Int × Int) :=
  match rdec (spl 43 w).head! with
  | none => none
  | some n =>
    if (spl 43 w).length = 1 then some (n, 0)
    else if (spl 43 w).length = 2 then
      match rdec (spl 43 w)[1]! with
      | none => none
      | some g => if 0 < g then some (n, g) else none
    else none
theorem wordS_some {w : List UInt8} {n g : Int} (h : wordS w = some (n, g)) : w = core n g ∧ 0 ≤ g := by
  unfold wordS at h
  rcases spl_cases 43 w with ⟨_, e⟩ | ⟨a, b, rfl, ha, e⟩
  · rw [e] at h
    simp only [head1, List.length_singleton, if_true] at h
    cases hr : rdec w with
    | none => rw [hr] at h; cases h
    | some m =>
      rw [hr] at h
      simp only [Option.some.injEq, Prod.mk.injEq] at h
      obtain ⟨rfl, rfl⟩ := h
      exact ⟨by simp [core, gw, (rdec_some hr).1], Int.le_refl _⟩
  · rw [e] at h
    simp only [head1, List.length_cons] at h
    cases hr : rdec a with
    | none => rw [hr] at h; cases h
    | some m =>
      rw [hr] at h
      simp only at h
      have hp := List.length_pos_iff.2 (spl_ne 43 b)
      rw [if_neg (by omega)] at h
      rcases spl_cases 43 b with ⟨hb, eb⟩ | ⟨a', b', rfl, ha', eb⟩
      · rw [eb] at h
        rw [if_pos (by simp)] at h
        simp only [show (a :: [b])[1]! = b from rfl] at h
        cases hr2 : rdec b with
        | none => rw [hr2] at h; cases h
        | some g' =>
          rw [hr2] at h
          simp only at h
          by_cases hg : 0 < g'
          · rw [if_pos hg] at h
            simp only [Option.some.injEq, Prod.mk.injEq] at h
            obtain ⟨rfl, rfl⟩ := h
            refine ⟨?_, by omega⟩
            unfold core gw
            rw [if_neg (by omega), (rdec_some hr).1, (rdec_some hr2).1]
          · rw [if_neg hg] at h; cases h
      · exfalso
        rw [eb] at h
        have := List.length_pos_iff.2 (spl_ne 43 b')
        rw [if_neg (by simp only [List.length_cons]; omega)] at h
        cases h
theorem wordS_core {n g : Int} (h0 : -1000000000000000000 < n) (h1 : n < 1000000000000000000) (g0 : 0 ≤ g) (g1 : g < 1000000000000000000) : wordS (core n g) = some (n, g) := by
  have hf := itoa_free n (c := 43) (by decide) (.inl (by decide))
  unfold wordS core gw
  by_cases h : g = 0
  · subst h
    rw [if_pos rfl, List.append_nil, spl_none hf]
    simp [head1, rdec_itoa h0 h1]
  · rw [if_neg h, spl_hit _ hf, spl_none (itoa_free g (c := 43) (by decide) (.inl (by decide)))]
    simp only [head1, rdec_itoa h0 h1, List.length_cons, List.length_nil]
    rw [if_neg (by decide), if_pos (by decide)]
    simp only [show ∀ (x y : List UInt8), (x :: [y])[1]! = y from fun _ _ => rfl]
    rw [rdec_itoa (by omega) g1]
    simp only
    rw [if_pos (by omega)]
/-- Behind the mark that opens; behind the mark that ends; whether it ends. -/
def opS (ins : Bool) (w : List UInt8) : Bool := !ins && w.head? == some 40
def w1S (ins : Bool) (w : List UInt8) : List UInt8 := if opS ins w then w.tail else w
def clS (ins : Bool) (w : List UInt8) : Bool := (ins || opS ins w) && (w1S ins w).getLast? == some 41
def w2S (ins : Bool) (w : List UInt8) : List UInt8 := if clS ins w then (w1S ins w).dropLast else w1S ins w
def stepS (st : RS) (w : List UInt8) : Option RS :=
  if st.ended = true ∨ w = [] then none
  else match wordS (w2S st.ins w) with
    | none => none
    | some (n, g) =>
      if st.ins || opS st.ins w then some ⟨true, clS st.ins w, st.H, st.P ++ [n], st.G ++ [g]⟩
      else if 0 < g then none else some ⟨false, false, st.H ++ [n], st.P, st.G⟩
def foldS : RS → List (List UInt8) → Option RS
  | st, [] => some st
  | st, w :: ws => match stepS st w with
    | none => none
    | some st' => foldS st' ws
noncomputable def rsS (s : List UInt8) : Option (List Int × List Int × List Int) :=
  match foldS ⟨false, false, [], [], []⟩ (spl 32 s) with
  | none => none
  | some st => @ite _ (st.ins = st.ended ∧ VS st.H st.P st.G) (Classical.propDecidable _) (some (st.H, st.P, st.G)) none
theorem foldS_app : ∀ (a b : List (List UInt8)) (st : RS), foldS st (a ++ b) = (foldS st a).bind fun st' => foldS st' b
  | [], _, _ => rfl
  | w :: a, b, st => by
    rw [List.cons_append, foldS, foldS]
    cases stepS st w with
    | none => rfl
    | some st' => exact foldS_app a b st'
theorem last_drop {w : List UInt8} {c : UInt8} (h : w.getLast? = some c) : w = w.dropLast ++ [c] := by
  have hne : w ≠ [] := by intro e; subst e; simp at h
  have := List.dropLast_concat_getLast hne
  have e : w.getLast? = some (w.getLast hne) := List.getLast?_eq_some_getLast hne
  rw [e] at h
  injection h with h
  rw [h] at this
  exact this.symm
/-- What the words are that have been read. -/
structure InvS (ws : List (List UInt8)) (st : RS) : Prop where
  gp : st.G.length = st.P.length
  out : st.ins = false → st.ended = false ∧ st.P = []
  inn : st.ins = true → st.P ≠ []
  e : ws = st.H.map Lib.itoa ++ pwn (if st.ended then st.P.length else 0) st.P st.G st.P.length
theorem invS_step {ws : List (List UInt8)} {st st' : RS} {w : List UInt8} (h : stepS st w = some st') (I : InvS ws st) : InvS (ws ++ [w]) st' := by
  obtain ⟨ins, ended, H, P, G⟩ := st
  obtain ⟨gp, out, inn, e⟩ := I
  simp only at gp out inn e
  unfold stepS at h
  simp only at h
  by_cases hq : ended = true ∨ w = []
  · rw [if_pos hq] at h; cases h
  rw [if_neg hq] at h
  obtain ⟨he, hw⟩ := not_or.1 hq
  have he : ended = false := by simpa using he
  subst he
  cases hwS : wordS (w2S ins w) with
  | none => rw [hwS] at h; cases h
  | some ng =>
    obtain ⟨n, g⟩ := ng
    rw [hwS] at h
    simp only at h
    obtain ⟨hc, hg⟩ := wordS_some hwS
    simp only [Bool.false_eq_true, if_false] at e
    by_cases hin : (ins || opS ins w) = true
    · rw [if_pos hin] at h
      simp only [Option.some.injEq] at h
      subst h
      have hk : P.length = 0 ↔ opS ins w = true := by
        cases hi : ins with
        | false =>
          rw [hi] at hin
          have := (out hi).2
          subst this
          simp only [Bool.false_or] at hin
          rw [hin]; simp
        | true =>
          have := inn hi
          simp only [opS, Bool.not_true, Bool.false_and, Bool.false_eq_true, iff_false]
          intro e0; exact this (List.eq_nil_of_length_eq_zero e0)
      have hw1 : w = (if P.length = 0 then [40] else []) ++ w1S ins w := by
        unfold w1S
        by_cases ho : opS ins w = true
        · rw [if_pos ho, if_pos (hk.2 ho)]
          have h40 : w.head? = some 40 := by unfold opS at ho; simp at ho; exact ho.2
          cases w with
          | nil => simp at h40
          | cons b r => simp at h40; subst h40; rfl
        · rw [if_neg ho, if_neg (fun q => ho (hk.1 q)), List.nil_append]
      have hw2 : w1S ins w = core n g ++ if clS ins w = true then [41] else [] := by
        unfold w2S at hc
        by_cases hcl : clS ins w = true
        · rw [if_pos hcl] at hc ⊢
          have h41 : (w1S ins w).getLast? = some 41 := by unfold clS at hcl; simp at hcl; exact hcl.2
          rw [← hc]; exact last_drop h41
        · rw [if_neg hcl] at hc ⊢
          rw [hc, List.append_nil]
      have hwN : ∀ b, clS ins w = b → w = pword (if b = true then P.length + 1 else 0) P.length n g := by
        intro b hb
        rw [hb] at hw2
        rw [hw2] at hw1
        rw [hw1, pword]
        cases b
        · simp
        · simp
      refine ⟨by simp [gp], by simp, by simp, ?_⟩
      simp only [List.length_append, List.length_singleton]
      rw [pwn_succ, pwn_app _ _ _ _ _ _ (Nat.le_refl _) (by omega), show (P ++ [n]).getD P.length 0 = n by simp [List.getD], show (G ++ [g]).getD P.length 0 = g by simp [List.getD, ← gp], ← List.append_assoc]
      cases hcl : clS ins w with
      | true =>
        have := hwN _ hcl
        simp only [if_true] at this ⊢
        rw [pwn_zero _ _ _ _ (by omega), ← e, ← this]
      | false =>
        have := hwN _ hcl
        simp only [Bool.false_eq_true, if_false] at this ⊢
        rw [← e, ← this]
    · rw [if_neg hin] at h
      have hin' : ins = false ∧ opS ins w = false := by
        cases ins <;> simp_all
      obtain ⟨rfl, ho⟩ := hin'
      by_cases hg0 : 0 < g
      · rw [if_pos hg0] at h; cases h
      rw [if_neg hg0] at h
      simp only [Option.some.injEq] at h
      subst h
      obtain rfl : g = 0 := by omega
      have hP := (out rfl).2
      subst hP
      have hw1 : w1S false w = w := by unfold w1S; rw [ho]; rfl
      have hcl : clS false w = false := by unfold clS; rw [ho]; rfl
      have hw2 : w2S false w = w := by unfold w2S; rw [hcl, hw1]; rfl
      rw [hw2] at hc
      refine ⟨gp, by simp, by simp, ?_⟩
      rw [e, hc]
      simp [pwn, core, gw]
theorem invS_fold : ∀ (ws' ws : List (List UInt8)) (st st' : RS), foldS st ws' = some st' → InvS ws st → InvS (ws ++ ws') st'
  | [], ws, st, st', h, I => by
    simp only [foldS, Option.some.injEq] at h
    subst h; rw [List.append_nil]; exact I
  | w :: ws', ws, st, st', h, I => by
    rw [foldS] at h
    cases hs : stepS st w with
    | none => rw [hs] at h; cases h
    | some st1 =>
      rw [hs] at h
      have := invS_fold ws' (ws ++ [w]) st1 st' h (invS_step hs I)
      rwa [List.append_assoc] at this
theorem stepS_head {h : Int} (h0 : -1000000000000000000 < h) (h1 : h < 1000000000000000000) (H P G : List Int) : stepS ⟨false, false, H, P, G⟩ (Lib.itoa h) = some ⟨false, false, H ++ [h], P, G⟩ := by
  have ho : opS false (Lib.itoa h) = false := by
    unfold opS
    cases hi : Lib.itoa h with
    | nil => rfl
    | cons x l =>
      have := itoa_no40 h [] l
      rw [List.append_nil, hi] at this
      have hx : x ≠ 40 := fun e => this (by rw [e])
      simp [hx]
  have hcl : clS false (Lib.itoa h) = false := by unfold clS; rw [ho]; rfl
  have hw2 : w2S false (Lib.itoa h) = Lib.itoa h := by unfold w2S w1S; rw [hcl, ho]; rfl
  unfold stepS
  have hc : wordS (Lib.itoa h) = some (h, 0) := by
    have := wordS_core (g := 0) h0 h1 (by omega) (by omega)
    simpa [core, gw] using this
  simp only [hw2, hc, ho]
  rw [if_neg (by simp [itoa_ne])]
  simp
theorem stepS_per {p g : Int} {n i : Nat} {ins : Bool} (h0 : -1000000000000000000 < p) (h1 : p < 1000000000000000000) (g0 : 0 ≤ g) (g1 : g < 1000000000000000000)
    (hi : ins = decide (0 < i)) (H P G : List Int) : stepS ⟨ins, false, H, P, G⟩ (pword n i p g) = some ⟨true, decide (i + 1 = n), H, P ++ [p], G ++ [g]⟩ := by
  have hne : pword n i p g ≠ [] := by
    unfold pword; intro e
    exact core_ne p g (List.append_eq_nil_iff.1 (List.append_eq_nil_iff.1 e).2).1
  have ho : opS ins (pword n i p g) = decide (i = 0) := by
    unfold opS
    rw [hi]
    by_cases h : i = 0
    · subst h; simp [pword]
    · simp [h, show 0 < i by omega]
  have hw1 : w1S ins (pword n i p g) = core p g ++ if i + 1 = n then [41] else [] := by
    unfold w1S
    rw [ho]
    by_cases h : i = 0
    · subst h; simp [pword]
    · simp [h, pword]
  have hin : (ins || opS ins (pword n i p g)) = true := by
    rw [ho, hi]; by_cases h : i = 0 <;> simp [h]; omega
  have hcl : clS ins (pword n i p g) = decide (i + 1 = n) := by
    unfold clS
    rw [hin, hw1, Bool.true_and]
    by_cases h : i + 1 = n
    · simp [h]
    · rw [if_neg h, List.append_nil]
      have hf := core_free p g (c := 41) (by decide) (.inl (by decide)) (by decide)
      have : (core p g).getLast? ≠ some 41 := by
        intro e
        have := last_drop e
        rw [this] at hf; simp at hf
      simp [h, this]
  have hw2 : w2S ins (pword n i p g) = core p g := by
    unfold w2S
    rw [hcl, hw1]
    by_cases h : i + 1 = n
    · simp [h]
    · simp [h]
  unfold stepS
  simp only [hw2, wordS_core h0 h1 g0 g1]
  rw [if_neg (by simp [hne]), if_pos hin, hcl]
theorem foldS_heads : ∀ (H H0 P G : List Int), (∀ x ∈ H, -1000000000000000000 < x ∧ x < 1000000000000000000) → foldS ⟨false, false, H0, P, G⟩ (H.map Lib.itoa) = some ⟨false, false, H0 ++ H, P, G⟩
  | [], H0, P, G, _ => by simp [foldS]
  | h :: H, H0, P, G, hr => by
    have := hr h (by simp)
    rw [List.map_cons, foldS, stepS_head this.1 this.2]
    simp only
    rw [foldS_heads H (H0 ++ [h]) P G (fun x hx => hr x (by simp [hx]))]
    simp
theorem foldS_pers {H P G : List Int} (v : VS H P G) : ∀ k, k ≤ P.length → foldS ⟨false, false, H, [], []⟩ (pwn P.length P G k) = some ⟨decide (0 < k), decide (0 < k ∧ k = P.length), H, P.take k, G.take k⟩
  | 0, _ => by simp [pwn, foldS]
  | k + 1, hk => by
    rw [pwn_succ, foldS_app, foldS_pers v k (by omega)]
    have h1 := v.pr k (by omega)
    have h2 := v.gg k (by omega)
    have e : decide (0 < k ∧ k = P.length) = false := by simp; omega
    rw [e]
    simp only [Option.bind, foldS]
    rw [stepS_per (by omega) (by omega) (by omega) (by omega) rfl, take_getD (by omega), take_getD (by rw [v.gp]; omega)]
    simp
theorem rsS_iff {s : List UInt8} {H P G : List Int} : rsS s = some (H, P, G) ↔ VS H P G ∧ stext H P G = s := by
  constructor
  · intro h
    unfold rsS at h
    cases hf : foldS ⟨false, false, [], [], []⟩ (spl 32 s) with
    | none => rw [hf] at h; cases h
    | some st =>
      rw [hf] at h
      simp only at h
      split at h
      · rename_i hc
        obtain ⟨he, v⟩ := hc
        simp only [Option.some.injEq, Prod.mk.injEq] at h
        obtain ⟨rfl, rfl, rfl⟩ := h
        refine ⟨v, ?_⟩
        have I := invS_fold _ [] _ _ hf ⟨rfl, fun _ => ⟨rfl, rfl⟩, by simp, by simp [pwn]⟩
        have e := I.e
        rw [List.nil_append] at e
        have : words st.H st.P st.G = spl 32 s := by
          rw [e]; unfold words
          cases hen : st.ended with
          | true => simp
          | false =>
            have := (I.out (he.trans hen)).2
            rw [this]; simp [pwn]
        unfold stext
        rw [this]
        exact join_spl 32 _ s (Nat.le_refl _)
      · cases h
  · rintro ⟨v, rfl⟩
    unfold rsS
    rw [spl_stext v.pos]
    unfold words
    rw [foldS_app, foldS_heads H [] [] [] v.hr]
    simp only [Option.bind, List.nil_append]
    rw [foldS_pers v _ (Nat.le_refl _), List.take_length, show G.take P.length = G by rw [← v.gp, List.take_length]]
    simp only
    rw [if_pos]
    exact ⟨by simp, v⟩
/-- BOTH READ THE SAME. -/
theorem rs_eq (s : List UInt8) : rsI s = rsS s := by
  cases h1 : rsI s with
  | some x => obtain ⟨a, b, c⟩ := x; exact (rsS_iff.2 (rsI_iff.1 h1)).symm
  | none =>
    cases h2 : rsS s with
    | none => rfl
    | some x => obtain ⟨a, b, c⟩ := x; rw [rsI_iff.2 (rsS_iff.1 h2)] at h1; cases h1

end Go.Proofs.YtndblondleclpaaDoor
