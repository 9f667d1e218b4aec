/- SortSources. Each theorem names its conditions. -/
import Derived.Test.YtgkelemfbmmgnaaSoMm
import Derived.Deep.RegionLaw
import Derived.Laws.CopyOwn
namespace Go.Proofs.Ytgkelemfbmmgnaa
open Go.RowKit
set_option linter.unusedVariables false
set_option linter.unusedSimpArgs false

/-- s[k:] of a row of the call's own: its run equations, its address. -/
theorem slice_at {g c n K L : Nat} {X : Int} (hX : X = (K : Int)) (hn : n ≤ c) (hk : K ≤ n) (hL : L = n - K) :
    ∃ a' c', (∀ W, (Instr.slice 24 (.slice (some ⟨g, 0, none⟩) n c) (some (.int .i64 X)) none none).run Try.prog W = .ok (.slice a' L c') W) ∧
      (∀ W, (Instr.sliceAt 24 (.slice (some ⟨g, 0, none⟩) n c) (some (.int .i64 X)) none none).run Try.prog W = .ok (.slice a' L c') W) ∧ (K < c → a' = some ⟨g, K, none⟩) := by
  subst hX hL
  have hz : ∀ w, (Go.sizeOf 2).run Try.prog w = .ok 1 w := fun w => by kernel_rfl
  have ht' : Try.prog.underlying 24 = some (.slice (Try.prog.elem 24)) := by simp [Program.elem, Try.underlying24]
  have he : Try.prog.elem 24 = 2 := by simp [Program.elem, Try.underlying24]
  have h1 : ∀ W, (Instr.slice 24 (.slice (some ⟨g, 0, none⟩) n c) (some (.int .i64 (K : Int))) none none).run Try.prog W = .ok (.slice (if c = K then some ⟨g, 0, none⟩ else (some (⟨g, 0, none⟩ : Addr)).map (·.add (K * 1))) (n - K) (c - K)) W := fun W => by
    rw [run_slice_l W 24 (some ⟨g, 0, none⟩) n c ht' .i64 (K : Int) (by omega) (by omega), he, hz]
    simp [Result.andThen, sliced]
  refine ⟨_, _, h1, fun W => by rw [run_sliceAt_slice W _ _ _ _ _ ht']; exact h1 W, fun hc => ?_⟩
  rw [if_neg (by omega)]
  simp only [Option.map, Nat.mul_one]
  rw [add_lit, Nat.zero_add]
/-- The list behind the copy of the tail by one place. -/
def shiftL (xs : List Int) (q : Nat) : List Int := (xs ++ [0]).take (q + 1) ++ xs.drop q
theorem shiftL_len {xs : List Int} {q : Nat} (h : q ≤ xs.length) : (shiftL xs q).length = xs.length + 1 := by simp [shiftL]; omega
theorem shiftL_put (xs : List Int) (q : Nat) (y : Int) (h : q ≤ xs.length) : (shiftL xs q).set q y = xs.take q ++ y :: xs.drop q := by
  refine List.ext_getElem? fun k => ?_
  have e1 : (List.take (q + 1) (xs ++ [0])).length = q + 1 := by simp; omega
  have e2 : (List.take q xs).length = q := by simp; omega
  rw [List.getElem?_set]
  by_cases hk : q = k
  · subst hk
    rw [if_pos rfl, if_pos (by rw [shiftL_len h]; omega), List.getElem?_append_right (by omega), e2, Nat.sub_self]
    rfl
  · rw [if_neg hk]
    unfold shiftL
    rcases Nat.lt_or_ge k q with g | g
    · rw [List.getElem?_append_left (by omega), List.getElem?_append_left (by omega), List.getElem?_take, if_pos (by omega), List.getElem?_append_left (by omega), List.getElem?_take, if_pos g]
    · obtain ⟨e, rfl⟩ : ∃ e, k = q + 1 + e := ⟨k - (q + 1), by omega⟩
      rw [List.getElem?_append_right (by omega), e1, List.getElem?_drop, List.getElem?_append_right (by omega), e2, show q + (q + 1 + e - (q + 1)) = q + e by omega, show q + 1 + e - q = e + 1 by omega, List.getElem?_cons_succ, List.getElem?_drop]
theorem shiftL_set (out : List Nat) (q i : Nat) (h : q ≤ out.length) : (shiftL (natL out) q).set q (i : Int) = natL (out.take q ++ i :: out.drop q) := by
  rw [shiftL_put _ _ _ (by rw [natL_len]; exact h)]
  simp [natL]
/-- The row behind the copy of the tail by one place. -/
theorem own_shift {w w' : World} {B g c : Nat} {xs : List Int} {q : Nat} {cur : Array Value} (h : Own w B (.slice (some ⟨g, 0, none⟩) (xs.length + 1) c) (xs ++ [0])) (hq : q ≤ xs.length) (hg : w.heap[g]? = some (.cells cur 2 (0, 0)))
    (h' : w'.heap[g]? = some (.cells (splice cur.toList (q + 1) ((xs.drop q).map (Value.int .i64))).toArray 2 (0, 0))) : Own w' B (.slice (some ⟨g, 0, none⟩) (xs.length + 1) c) (shiftL xs q) := by
  obtain ⟨⟨h1, h2⟩, h3⟩ := h
  rcases h2 with ⟨e, _⟩ | ⟨g2, cap, cur2, e, hB, hh, hn, hm, hs, ht⟩
  · simp at e
  · simp only [Value.slice.injEq, Option.some.injEq, Addr.mk.injEq, and_true, true_and] at e
    obtain ⟨rfl, _, rfl⟩ := e
    rw [hg] at hh
    injection hh with hh
    injection hh with hh
    subst hh
    have hsl : (shiftL xs q).length = xs.length + 1 := shiftL_len hq
    have hs1 : cur.toList.length = c := by rw [Array.length_toList]; omega
    rw [List.length_append] at hn ht
    simp only [List.length_cons, List.length_nil, Nat.zero_add, Nat.mul_one] at hn ht
    refine ⟨⟨by simp, .inr ⟨g, c, _, by rw [hsl], hB, h', by rw [hsl]; omega, hm, ?_, ?_⟩⟩, fun x hx => ?_⟩
    · simp only [List.size_toArray]
      rw [length_splice _ _ _ (by simp; omega), hs1, Nat.mul_one]
    · rw [hsl, Nat.mul_one]
      refine List.ext_getElem? fun k => ?_
      rw [List.getElem?_take]
      by_cases hk : k < xs.length + 1
      · rw [if_pos hk]
        unfold splice shiftL
        rw [List.map_append, List.map_take, ← ht]
        rcases Nat.lt_or_ge k (q + 1) with a | a
        · rw [List.getElem?_append_left (by simp; omega), List.getElem?_append_left (by simp; omega), List.getElem?_take, if_pos a, List.getElem?_take, if_pos a, List.getElem?_take, if_pos hk]
        · have l1 : (List.take (q + 1) cur.toList).length = q + 1 := by simp; omega
          have l2 : (List.take (q + 1) (List.take (xs.length + 1) cur.toList)).length = q + 1 := by simp; omega
          rw [List.getElem?_append_right (l₁ := List.take (q + 1) cur.toList) (by omega), l1, List.getElem?_append_left (by simp; omega), List.getElem?_append_right (l₁ := List.take (q + 1) (List.take (xs.length + 1) cur.toList)) (by omega), l2]
      · rw [if_neg hk, List.getElem?_eq_none (by rw [List.length_map, hsl]; omega)]
    · unfold shiftL at hx
      rcases List.mem_append.1 hx with hx | hx
      · exact h3 x (List.mem_of_mem_take hx)
      · exact h3 x (List.mem_append.2 (.inl (List.mem_of_mem_drop hx)))
theorem own_row {w : World} {B g n c : Nat} {xs : List Int} (h : Own w B (.slice (some ⟨g, 0, none⟩) n c) xs) : ∃ cur : Array Value, w.heap[g]? = some (.cells cur 2 (0, 0)) ∧ cur.size = c ∧ n ≤ c ∧ B ≤ g ∧ c ≤ maxLen := by
  rcases h.1.2 with ⟨e, _⟩ | ⟨g2, cap, cur2, e, hB, hh, hn, hm, hs, ht⟩
  · simp at e
  · simp only [Value.slice.injEq, Option.some.injEq, Addr.mk.injEq, and_true, true_and] at e
    obtain ⟨rfl, rfl, rfl⟩ := e
    exact ⟨cur2, hh, by omega, hn, hB, hm⟩
/-- The place found so far, one comparison later. -/
theorem at_less {f : Nat → Nat → Int × Int} {i k q j : Nat} {out : List Nat} (hd : Dec f (i + 1)) (hq : q = if posF f out i < k then posF f out i else i) (hk : k < i) (hj : out[k]? = some j) (hc : (f i j).1 < 0) : min q k = if posF f out i < k + 1 then posF f out i else i := by
  have h1 : ¬ k < posF f out i := fun h => posF_low h hj hc
  rw [if_pos (by omega)]
  by_cases h : posF f out i < k
  · rw [if_pos h] at hq; omega
  · rw [if_neg h] at hq; omega
theorem at_keep {f : Nat → Nat → Int × Int} (hf : CmpOk f) {i k q j : Nat} {out : List Nat} (s : Srt f i out) (hd : Dec f (i + 1)) (hq : q = if posF f out i < k then posF f out i else i) (hj : out[k]? = some j) (hc : ¬ (f i j).1 < 0) : q = if posF f out i < k + 1 then posF f out i else i := by
  have h1 : k < posF f out i := by
    rcases Nat.lt_or_ge k (posF f out i) with h | h
    · exact h
    · exact absurd (s.high hf hd h hj) hc
  rw [if_neg (by omega)] at hq ⊢
  exact hq
theorem not_dec {f : Nat → Nat → Int × Int} {n i j : Nat} {c q : Int} (hi : i < n) (hj : j < i) (h : f i j = (c, q)) (hq : q ≠ 0) : ¬ Dec f n := fun d => hq (by have := d i j hi hj; rw [h] at this; exact this)
theorem slice_fromL {w : World} {a : Option Addr} {c n L : Nat} {xs : List Int} (h : Sl w (.slice a n c) xs) (hn : n = xs.length) (K : Nat) (hk : K ≤ n) (hL : L = n - K) :
    ∃ a' c', (∀ W, (Instr.slice 24 (.slice a n c) (some (.int .i64 (K : Int))) none none).run Try.prog W = .ok (.slice a' L c') W) ∧
      (∀ W, (Instr.sliceAt 24 (.slice a n c) (some (.int .i64 (K : Int))) none none).run Try.prog W = .ok (.slice a' L c') W) ∧ Sl w (.slice a' L c') (xs.drop K) := by
  subst hn hL
  have hz : ∀ w, (Go.sizeOf 2).run Try.prog w = .ok 1 w := fun w => by kernel_rfl
  have ht' : Try.prog.underlying 24 = some (.slice (Try.prog.elem 24)) := by simp [Program.elem, Try.underlying24]
  have he : Try.prog.elem 24 = 2 := by simp [Program.elem, Try.underlying24]
  have h1 : ∀ W, (Instr.slice 24 (.slice a xs.length c) (some (.int .i64 (K : Int))) none none).run Try.prog W = .ok (.slice (if c = K then a else a.map (·.add (K * 1))) (xs.length - K) (c - K)) W := fun W => by
    rw [run_slice_l W 24 a xs.length c ht' .i64 (K : Int) (by omega) (by omega), he, hz]
    simp [Result.andThen, sliced]
  refine ⟨_, _, h1, fun W => by rw [run_sliceAt_slice W _ _ _ _ _ ht']; exact h1 W, ?_⟩
  obtain ⟨a0, c0, e, g1, g2, g3, g4, g5⟩ := h
  simp only [Value.slice.injEq] at e
  obtain ⟨rfl, _, rfl⟩ := e
  by_cases hck : c = K
  · rw [if_pos hck]
    exact ⟨a, c - K, by simp, by simp; omega, by omega, fun x hx => g3 x (List.mem_of_mem_drop hx), fun q => by have := g4 q; omega, .inl (List.drop_eq_nil_iff.2 (by omega))⟩
  · rw [if_neg hck]
    refine ⟨_, c - K, by simp; rfl, by simp; omega, by omega, fun x hx => g3 x (List.mem_of_mem_drop hx), fun q => ?_, ?_⟩
    · have : a = none := by cases a with
        | none => rfl
        | some ad => simp at q
      have := g4 this; omega
    · rcases g5 with g5 | ⟨b, o, rfl, hc⟩
      · subst g5; exact .inl (by simp)
      · refine .inr ⟨b, o + K, by simp [Addr.add]; try (split <;> simp_all), fun i x hx => ?_⟩
        rw [List.getElem?_drop] at hx
        have := hc (K + i) x hx
        rw [show o + K + i = o + (K + i) by omega]
        exact this
theorem cell_bl {w w' : World} {b o : Nat} {v : Value} (h : w.cell? ⟨b, o, none⟩ = some v) (hb : Bl w w') : w'.cell? ⟨b, o, none⟩ = some v := by rw [(bcell hb).1 _ _ (cell_lt h)]; exact h
theorem natL_take (l : List Nat) (k : Nat) : natL (l.take k) = (natL l).take k := by simp [natL]
theorem natL_ins (l : List Nat) (k i : Nat) : natL (l.take k) ++ [(i : Int)] ++ (natL l).drop k = natL (l.take k ++ i :: l.drop k) := by simp [natL]
theorem ret_lv {r : List Int × Int} {xs : List Int} {v : Value} {b : Int} (h : r = (xs, b)) : Ending.returned (.tuple #[v, .int .i64 b]) = .returned (.tuple #[v, .int .i64 r.2]) := by subst h; rfl
theorem pos_stop {f : Nat → Nat → Int × Int} (hf : CmpOk f) {i k j : Nat} {out : List Nat} {c q : Int} (hk : k < posF f out i) (hj : out[k]? = some j) (h : f j i = (c, q)) : c ≤ 0 := by
  have h1 := posF_low hk hj
  have h2 := hf.sym j i
  rw [h] at h2
  rw [h2] at h1
  have h3 : ¬ (-c < 0) := h1
  omega
theorem pos_go {f : Nat → Nat → Int × Int} (hf : CmpOk f) {i k j : Nat} {out : List Nat} {c q : Int} (s : Srt f i out) (hd : Dec f (i + 1)) (hk : posF f out i ≤ k) (hj : out[k]? = some j) (h : f j i = (c, q)) : ¬ c ≤ 0 := by
  have h1 := s.high hf hd hk hj
  have h2 := hf.sym j i
  rw [h] at h2
  rw [h2] at h1
  have h3 : -c < 0 := h1
  omega

end Go.Proofs.Ytgkelemfbmmgnaa
