/- SortSources: the plain law of insertion. Each theorem names its conditions. -/
import Derived.Test.YtgkelemfbmmgnaaMO6
namespace Go.Proofs.Ytgkelemfbmmgnaa
open Go.RowKit
set_option linter.unusedVariables false
set_option linter.unusedSimpArgs false

theorem decT_sym (a b : Int × Bool) (k : Nat) : decT b a k = (decT a b k).map (fun c => -c) := by
  obtain ⟨x, o⟩ := a
  obtain ⟨y, u⟩ := b
  cases o <;> cases u
  · simp [decT]
  · simp [decT]
  · simp [decT]
  · simp only [decT]
    rcases Int.lt_trichotomy x y with h | h | h
    · rw [if_neg (by omega), if_pos h, if_pos h]; simp
    · rw [if_neg (by omega), if_neg (by omega), if_neg (by omega), if_neg (by omega)]; rfl
    · rw [if_pos h, if_neg (by omega), if_pos h]; simp
theorem cmpG_sym {f g : Nat → Option Int} (h : ∀ k, g k = (f k).map (fun c => -c)) : ∀ n k, cmpG g n k = (-(cmpG f n k).1, (cmpG f n k).2)
  | 0, k => by simp [cmpG]
  | n + 1, k => by
    have e := h k
    cases hf : f k with
    | none => rw [hf] at e; rw [cmpG, cmpG, hf, e]; exact cmpG_sym h n (k + 1)
    | some c => rw [hf] at e; rw [cmpG, cmpG, hf, e]; rfl
theorem cmpP_sym (s t : Src) (m : Nat) : cmpP t s m = (-(cmpP s t m).1, (cmpP s t m).2) := cmpG_sym (fun k => decT_sym _ _ k) m 0
theorem cmpG_code (f : Nat → Option Int) : ∀ n k, (cmpG f n k).2 = 0 ∨ (cmpG f n k).2 = 10
  | 0, k => .inr rfl
  | n + 1, k => by
    cases hf : f k with
    | none => rw [cmpG, hf]; exact cmpG_code f n (k + 1)
    | some c => rw [cmpG, hf]; exact .inl rfl
theorem sgnK_or (k : Nat) : sgnK k = 1 ∨ sgnK k = -1 := by unfold sgnK; split <;> simp
theorem decT_none {x y : Int × Bool} {k : Nat} (h : decT x y k = none) : x = y := by
  obtain ⟨x, o⟩ := x
  obtain ⟨y, u⟩ := y
  cases o <;> cases u <;> simp only [decT] at h
  · cases h
  · cases h
  · cases h
  · split at h
    · cases h
    · split at h
      · cases h
      · rw [show x = y by omega]
theorem decT_tr {x y z : Int × Bool} {k : Nat} {a b : Int} (h1 : decT x y k = some a) (h2 : decT y z k = some b) (ha : a ≤ 0) (hb : b ≤ 0) : ∃ c, decT x z k = some c ∧ c ≤ 0 := by
  obtain ⟨x, o⟩ := x
  obtain ⟨y, u⟩ := y
  obtain ⟨z, v⟩ := z
  have hs := sgnK_or k
  cases o <;> cases u <;> cases v <;> simp only [decT] at h1 h2 ⊢
  · exact ⟨0, rfl, by omega⟩
  · exact ⟨_, rfl, by injection h2 with h2; omega⟩
  · exact ⟨0, rfl, by omega⟩
  · exact ⟨_, rfl, by injection h1 with h1; omega⟩
  · exact ⟨_, rfl, by injection h1 with h1; omega⟩
  · injection h1 with h1
    injection h2 with h2
    omega
  · exact ⟨_, rfl, by injection h2 with h2; omega⟩
  · rcases Int.lt_trichotomy x y with e | e | e
    · rw [if_pos e] at h1
      injection h1 with h1
      rcases Int.lt_trichotomy y z with e2 | e2 | e2
      · rw [if_pos (by omega)]; exact ⟨_, rfl, by omega⟩
      · rw [if_neg (by omega), if_neg (by omega)] at h2; cases h2
      · rw [if_neg (by omega), if_pos e2] at h2
        injection h2 with h2
        omega
    · rw [if_neg (by omega), if_neg (by omega)] at h1; cases h1
    · rw [if_neg (by omega), if_pos e] at h1
      injection h1 with h1
      rcases Int.lt_trichotomy y z with e2 | e2 | e2
      · rw [if_pos e2] at h2
        injection h2 with h2
        omega
      · rw [if_neg (by omega), if_neg (by omega)] at h2; cases h2
      · rw [if_neg (by omega), if_pos (by omega)]; exact ⟨_, rfl, by omega⟩
theorem cmpG_tr (X Y Z : Nat → Int × Bool) : ∀ n k, (cmpG (fun k => decT (X k) (Y k) k) n k).2 = 0 → (cmpG (fun k => decT (Y k) (Z k) k) n k).2 = 0 → (cmpG (fun k => decT (X k) (Y k) k) n k).1 ≤ 0 → (cmpG (fun k => decT (Y k) (Z k) k) n k).1 ≤ 0 → (cmpG (fun k => decT (X k) (Z k) k) n k).1 ≤ 0
  | 0, k => by intro h; cases h
  | n + 1, k => by
    simp only [cmpG]
    cases h1 : decT (X k) (Y k) k with
    | none =>
      have e1 := decT_none h1
      rw [e1]
      cases h2 : decT (Y k) (Z k) k with
      | none => exact cmpG_tr X Y Z n (k + 1)
      | some b => intro _ _ _ h; exact h
    | some a =>
      cases h2 : decT (Y k) (Z k) k with
      | none =>
        have e2 := decT_none h2
        rw [← e2, h1]
        intro _ _ h _; exact h
      | some b =>
        intro _ _ ha hb
        obtain ⟨c, hc, hc0⟩ := decT_tr h1 h2 ha hb
        rw [hc]
        exact hc0
/-- What insertion wants of a comparison. -/
structure CmpOk (f : Nat → Nat → Int × Int) : Prop where
  sym : ∀ i j, f j i = (-(f i j).1, (f i j).2)
  code : ∀ i j, (f i j).2 = 0 ∨ (f i j).2 = 10
  tr : ∀ i j k, (f i j).2 = 0 → (f j k).2 = 0 → (f i j).1 ≤ 0 → (f j k).1 ≤ 0 → (f i k).1 ≤ 0
theorem cmpAt_ok (ss : List Src) (M : Nat) : CmpOk (cmpAt ss M) :=
  ⟨fun i j => cmpP_sym _ _ _, fun i j => cmpG_code _ _ _, fun i j k => cmpG_tr (fun n => termP (plainS (srcAt ss i)) n) (fun n => termP (plainS (srcAt ss j)) n) (fun n => termP (plainS (srcAt ss k)) n) M 0⟩
/-- All pairs below n are decided. -/
def Dec (f : Nat → Nat → Int × Int) (n : Nat) : Prop := ∀ i j, i < n → j < i → (f i j).2 = 0
theorem Dec.both {f : Nat → Nat → Int × Int} (hf : CmpOk f) {n i j : Nat} (h : Dec f n) (hi : i < n) (hj : j < n) (hne : i ≠ j) : (f i j).2 = 0 := by
  rcases Nat.lt_or_gt_of_ne hne with g | g
  · rw [hf.sym j i]; exact h j i hj g
  · exact h i j hi g
theorem Dec.mono {f : Nat → Nat → Int × Int} {n m : Nat} (h : Dec f n) (hm : m ≤ n) : Dec f m := fun i j hi hj => h i j (by omega) hj
theorem Dec.succ {f : Nat → Nat → Int × Int} {n : Nat} (h : Dec f n) (h2 : ∀ j, j < n → (f n j).2 = 0) : Dec f (n + 1) := fun i j hi hj => by
  rcases Nat.lt_or_ge i n with g | g
  · exact h i j g hj
  · obtain rfl : i = n := by omega
    exact h2 j hj
/-- The place of i, the list with i, the list of all. -/
def posF (f : Nat → Nat → Int × Int) (out : List Nat) (i : Nat) : Nat := (out.takeWhile fun j => decide (¬ (f i j).1 < 0)).length
def insF (f : Nat → Nat → Int × Int) (out : List Nat) (i : Nat) : List Nat := out.take (posF f out i) ++ i :: out.drop (posF f out i)
def sortG (f : Nat → Nat → Int × Int) : Nat → List Nat
  | 0 => []
  | n + 1 => insF f (sortG f n) n
structure Srt (f : Nat → Nat → Int × Int) (n : Nat) (out : List Nat) : Prop where
  mem : ∀ j, j ∈ out ↔ j < n
  len : out.length = n
  srt : out.Pairwise fun a b => (f a b).1 ≤ 0
  nd : out.Nodup
theorem srt_nil (f : Nat → Nat → Int × Int) : Srt f 0 [] := ⟨by simp, rfl, List.Pairwise.nil, List.nodup_nil⟩
theorem posF_le (f : Nat → Nat → Int × Int) (out : List Nat) (i : Nat) : posF f out i ≤ out.length := by
  unfold posF
  exact (List.takeWhile_sublist _).length_le
theorem posF_low {f : Nat → Nat → Int × Int} {out : List Nat} {i j x : Nat} (h : j < posF f out i) (hx : out[j]? = some x) : ¬ (f i x).1 < 0 := by
  unfold posF at h
  induction out generalizing j with
  | nil => simp at h
  | cons y r ih =>
    by_cases hy : (f i y).1 < 0
    · rw [List.takeWhile_cons, if_neg (by simp [hy])] at h
      simp at h
    · rw [List.takeWhile_cons, if_pos (by simp [hy])] at h
      cases j with
      | zero => simp at hx; rw [← hx]; exact hy
      | succ j => exact ih (by simpa using h) (by simpa using hx)
theorem posF_at {f : Nat → Nat → Int × Int} {out : List Nat} {i x : Nat} (hx : out[posF f out i]? = some x) : (f i x).1 < 0 := by
  unfold posF at hx
  induction out with
  | nil => simp at hx
  | cons y r ih =>
    by_cases h : (f i y).1 < 0
    · rw [List.takeWhile_cons, if_neg (by simp [h])] at hx
      simp at hx
      rw [← hx]; exact h
    · rw [List.takeWhile_cons, if_pos (by simp [h])] at hx
      simp only [List.length_cons, List.getElem?_cons_succ] at hx
      exact ih hx
theorem Srt.high {f : Nat → Nat → Int × Int} (hf : CmpOk f) {n : Nat} {out : List Nat} (s : Srt f n out) (hd : Dec f (n + 1)) {j x : Nat} (h : posF f out n ≤ j) (hx : out[j]? = some x) : (f n x).1 < 0 := by
  obtain ⟨hjl, hjx⟩ := List.getElem?_eq_some_iff.1 hx
  rcases Nat.eq_or_lt_of_le h with e | e
  · exact posF_at (by rw [e]; exact hx)
  · have hpl : posF f out n < out.length := by omega
    have ha := posF_at (List.getElem?_eq_getElem hpl)
    have hab := List.pairwise_iff_getElem.1 s.srt (posF f out n) j hpl hjl e
    rw [hjx] at hab
    have m1 := (s.mem _).1 (List.getElem_mem hpl)
    have m2 := (s.mem x).1 (by rw [← hjx]; exact List.getElem_mem hjl)
    have hxy : out[posF f out n] ≠ x := by
      have := List.pairwise_iff_getElem.1 s.nd (posF f out n) j hpl hjl e
      rw [hjx] at this
      exact this
    generalize out[posF f out n] = y at *
    have hne : y ≠ x := by
      intro q
      exact hxy q
    have d1 := hd.both hf (i := n) (j := y) (by omega) (by omega) (by omega)
    have d2 := hd.both hf (i := n) (j := x) (by omega) (by omega) (by omega)
    have d3 := hd.both hf (i := y) (j := x) (by omega) (by omega) hne
    have t1 := hf.tr n y x d1 d3 (by omega) hab
    rcases Int.lt_or_le (f n x).1 0 with g | g
    · exact g
    · have e0 : (f n x).1 = 0 := by omega
      have s1 := hf.sym n x
      have t2 := hf.tr y x n d3 (by rw [s1]; exact d2) hab (by rw [s1]; show -(f n x).1 ≤ 0; omega)
      rw [hf.sym n y] at t2
      have t3 : -(f n y).1 ≤ 0 := t2
      omega
theorem Srt.ins {f : Nat → Nat → Int × Int} (hf : CmpOk f) {n : Nat} {out : List Nat} (s : Srt f n out) (hd : Dec f (n + 1)) : Srt f (n + 1) (insF f out n) := by
  have hp := posF_le f out n
  have hnd : (insF f out n).Perm (n :: out) := by
    unfold insF
    refine List.perm_middle.trans ?_
    rw [List.take_append_drop]
  refine ⟨fun j => ?_, ?_, ?_, ?_⟩
  · rw [hnd.mem_iff, List.mem_cons, s.mem j]; omega
  · rw [hnd.length_eq, List.length_cons, s.len]
  · unfold insF
    refine List.pairwise_append.2 ⟨s.srt.sublist (List.take_sublist _ _), List.pairwise_cons.2 ⟨fun x hx => ?_, s.srt.sublist (List.drop_sublist _ _)⟩, fun a ha b hb => ?_⟩
    · obtain ⟨j, hj⟩ := List.getElem?_of_mem hx
      rw [List.getElem?_drop] at hj
      have := s.high hf hd (j := posF f out n + j) (by omega) hj
      omega
    · rcases List.mem_cons.1 hb with rfl | hb
      · obtain ⟨j, hj⟩ := List.getElem?_of_mem ha
        have hjp : j < posF f out b := by
          have := (List.getElem?_eq_some_iff.1 hj).1
          simp at this; omega
        rw [List.getElem?_take, if_pos hjp] at hj
        have := posF_low hjp hj
        rw [hf.sym b a]
        show -(f b a).1 ≤ 0
        omega
      · have := List.pairwise_append.1 (show (out.take (posF f out n) ++ out.drop (posF f out n)).Pairwise _ by rw [List.take_append_drop]; exact s.srt)
        exact this.2.2 a ha b hb
  · refine hnd.nodup_iff.2 (List.nodup_cons.2 ⟨fun h => ?_, s.nd⟩)
    have := (s.mem n).1 h
    omega
theorem srt_all {f : Nat → Nat → Int × Int} (hf : CmpOk f) : ∀ n, Dec f n → Srt f n (sortG f n)
  | 0, _ => srt_nil f
  | n + 1, hd => (srt_all hf n (hd.mono (by omega))).ins hf hd
def natL (l : List Nat) : List Int := l.map fun (j : Nat) => (j : Int)
theorem natL_len (l : List Nat) : (natL l).length = l.length := by simp [natL]
theorem natL_get {l : List Nat} {k x : Nat} (h : l[k]? = some x) : (natL l)[k]? = some (x : Int) := by simp [natL, h]
noncomputable def sortF (ss : List Src) (m : Int) : List Int × Int :=
  if listC ss m = 0 then (@ite _ (Dec (cmpAt ss m.toNat) ss.length) (Classical.propDecidable _) (natL (sortG (cmpAt ss m.toNat) ss.length), 0) ([], 10)) else ([], listC ss m)
theorem sortF_yes {ss : List Src} {M : Nat} (h : listC ss (M : Int) = 0) (hd : Dec (cmpAt ss M) ss.length) : sortF ss (M : Int) = (natL (sortG (cmpAt ss M) ss.length), 0) := by
  rw [sortF, if_pos h, Int.toNat_natCast, if_pos hd]
theorem sortF_no {ss : List Src} {M : Nat} (h : listC ss (M : Int) = 0) (hd : ¬ Dec (cmpAt ss M) ss.length) : sortF ss (M : Int) = ([], 10) := by
  rw [sortF, if_pos h, Int.toNat_natCast, if_neg hd]
theorem sortF_bad {ss : List Src} {m : Int} (h : ¬ listC ss m = 0) : sortF ss m = ([], listC ss m) := by rw [sortF, if_neg h]
theorem sortF_len (ss : List Src) (m : Int) : (sortF ss m).1.length ≤ 1048576 := by
  by_cases h : listC ss m = 0
  · obtain ⟨_, hm, hl⟩ := listC_zero h
    obtain ⟨M, rfl⟩ := Int.eq_ofNat_of_zero_le (show 0 ≤ m by omega)
    by_cases hd : Dec (cmpAt ss M) ss.length
    · rw [sortF_yes h hd]
      show (natL (sortG (cmpAt ss M) ss.length)).length ≤ _
      rw [natL_len, (srt_all (cmpAt_ok ss M) _ hd).len]
      omega
    · rw [sortF_no h hd]; simp
  · rw [sortF_bad h]; simp

end Go.Proofs.Ytgkelemfbmmgnaa
