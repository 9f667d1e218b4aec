/- Some of the texts of this claim, joined in one file: Short, St. -/
import Derived.Test.YtgkelemfbmmgnaaMTp9
import Derived.Test.YtgkelemfbmmgnaaMTp5
import Derived.Test.YtgkelemfbmmgnaaMTp3
/- The short form of terms: the program's and the reference's. Each theorem names its conditions. -/
namespace Go.Proofs.Ytgkelemfbmmgnaa
open Go.RowKit
set_option linter.unusedVariables false
set_option linter.unusedSimpArgs false

/-- Terms with the same value of which the last one is not 1, unless it is the only one. -/
def shortL (xs : List Int) : List Int :=
  if 1 < xs.length ∧ xs[xs.length - 1]? = some 1 then (xs.take (xs.length - 1)).set (xs.length - 2) (xs.getD (xs.length - 2) 0 + 1) else xs
theorem shortL_len (xs : List Int) : (shortL xs).length ≤ xs.length := by unfold shortL; split <;> simp
theorem shortL_pos (xs : List Int) (h : 0 < xs.length) : 0 < (shortL xs).length := by
  unfold shortL
  split
  · simp; omega
  · exact h

/-- The first elements of a list, as a slice expression gives them. -/
theorem Sl.cellAt {w w' : World} {a : Option Addr} {n c : Nat} {xs : List Int} (h : Sl w (.slice a n c) xs) (hb : Bl w w') {k : Nat} (hk : k < xs.length) :
    ∃ b o, a = some ⟨b, o, none⟩ ∧ ∃ x, xs[k]? = some x ∧ w'.cell? ⟨b, o + k, none⟩ = some (.int .i64 x) ∧ R64 x := by
  obtain ⟨a', cap, e, h1, h2, h3, h4, h5⟩ := h
  simp only [Value.slice.injEq] at e
  obtain ⟨rfl, rfl, rfl⟩ := e
  rcases h5 with h5 | ⟨b, off, rfl, hc⟩
  · rw [h5] at hk; simp at hk
  · have hx : xs[k]? = some xs[k] := List.getElem?_eq_getElem hk
    exact ⟨b, off, rfl, _, hx, (hb.cell (p := ⟨b, off + k, none⟩) (cell_lt (hc k _ hx))).trans (hc k _ hx), h3 _ (List.getElem_mem hk)⟩
theorem Sl.take {w : World} {a : Option Addr} {n c : Nat} {xs : List Int} (h : Sl w (.slice a n c) xs) (k : Nat) (hk : k ≤ xs.length) : Sl w (.slice a k c) (xs.take k) := by
  obtain ⟨a', cap, e, h1, h2, h3, h4, h5⟩ := h
  simp only [Value.slice.injEq] at e
  obtain ⟨rfl, rfl, rfl⟩ := e
  have hl : (xs.take k).length = k := by simp; omega
  refine ⟨_, _, by rw [hl], by omega, h2, fun x hx => h3 x (List.mem_of_mem_take hx), h4, ?_⟩
  rcases h5 with h5 | ⟨b, off, rfl, hc⟩
  · subst h5; exact .inl (by simp)
  · refine .inr ⟨b, off, rfl, fun i x hx => hc i x ?_⟩
    rw [List.getElem?_take] at hx
    split at hx
    · exact hx
    · cases hx
theorem Own.take {w : World} {B : Nat} {a : Option Addr} {n c : Nat} {xs : List Int} (h : Own w B (.slice a n c) xs) (k : Nat) (hk : k ≤ xs.length) (ha : a ≠ none) : Own w B (.slice a k c) (xs.take k) := by
  obtain ⟨⟨h1, h2⟩, h3⟩ := h
  have hl : (xs.take k).length = k := by simp; omega
  refine ⟨⟨by simp, ?_⟩, fun x hx => h3 x (List.mem_of_mem_take hx)⟩
  rcases h2 with ⟨e, _⟩ | ⟨g, cap, cur, e, hg, hh, hn, hm, hs, ht⟩
  · simp only [Value.slice.injEq] at e; exact absurd e.1 ha
  · simp only [Value.slice.injEq] at e
    obtain ⟨rfl, rfl, rfl⟩ := e
    refine .inr ⟨g, _, cur, by rw [hl], hg, hh, by omega, hm, hs, ?_⟩
    rw [hl, Nat.mul_one, List.map_take, ← ht, List.take_take, Nat.mul_one, Nat.min_eq_left hk]
theorem Own.addr {w : World} {B : Nat} {a : Option Addr} {n c : Nat} {xs : List Int} (h : Own w B (.slice a n c) xs) (hx : 0 < xs.length) : ∃ g, a = some ⟨g, 0, none⟩ ∧ B ≤ g ∧ g < w.heap.size := by
  rcases h.1.2 with ⟨e, h0⟩ | ⟨g, cap, cur, e, hg, hh, hn, hm, hs, ht⟩
  · omega
  · simp only [Value.slice.injEq] at e
    obtain ⟨rfl, rfl, rfl⟩ := e
    exact ⟨g, rfl, hg, (Array.getElem?_eq_some_iff.1 hh).1⟩
theorem Own.num {w : World} {B : Nat} {a : Option Addr} {n c : Nat} {xs : List Int} (h : Own w B (.slice a n c) xs) : n = xs.length := by
  obtain ⟨a', c', e, _⟩ := h.form
  simp only [Value.slice.injEq] at e
  exact e.2.1
/-- A store into a list of the call's own. -/
theorem Own.stored {w : World} {B : Nat} {g n c : Nat} {xs : List Int} (h : Own w B (.slice (some ⟨g, 0, none⟩) n c) xs) (j : Nat) (y : Int) (hy : R64 y) :
    Own (w.setCell ⟨g, j, none⟩ (.int .i64 y)) B (.slice (some ⟨g, 0, none⟩) n c) (xs.set j y) ∧ w.grownBy (w.setCell ⟨g, j, none⟩ (.int .i64 y)) (some g) := by
  have hn := h.num
  subst hn
  have hS := h.1.stored j (.int .i64 y)
  refine ⟨⟨by rw [List.length_set, List.map_set]; exact hS.1, fun x hx => ?_⟩, hS.2⟩
  rcases List.mem_or_eq_of_mem_set hx with h1 | h1
  · exact h.2 x h1
  · exact h1 ▸ hy
theorem Own.cellAt {w : World} {B : Nat} {g n c : Nat} {xs : List Int} (h : Own w B (.slice (some ⟨g, 0, none⟩) n c) xs) {j : Nat} (hj : j < xs.length) :
    ∃ x, xs[j]? = some x ∧ w.cell? ⟨g, j, none⟩ = some (.int .i64 x) ∧ w.frozen? ⟨g, j, none⟩ = false ∧ R64 x := by
  have hx : xs[j]? = some xs[j] := List.getElem?_eq_getElem hj
  have hn := h.num
  subst hn
  have h1 := h.1.cellAt j (by omega)
  rw [List.getElem?_map, hx] at h1
  exact ⟨_, hx, h1, h.1.frozenAt j, h.2 _ (List.getElem_mem hj)⟩

theorem shortL_no {xs : List Int} (h : ¬ (1 < xs.length ∧ xs[xs.length - 1]? = some 1)) : shortL xs = xs := if_neg h
theorem shortL_yes {xs : List Int} {x : Int} (h : 1 < xs.length ∧ xs[xs.length - 1]? = some 1) (hx : (xs.take (xs.length - 1))[xs.length - 2]? = some x) : shortL xs = (xs.take (xs.length - 1)).set (xs.length - 2) (x + 1) := by
  rw [shortL, if_pos h]
  congr 1
  rw [List.getElem?_take] at hx
  split at hx
  · simp [hx]
  · cases hx

set_option maxRecDepth 100000 in
set_option maxHeartbeats 1600000 in
theorem shortI_any (va : Value) (xs : List Int) (w : World) (ha : Sl w va xs) (hl : xs.length ≤ 1000000) (hb : ∀ x ∈ xs, x ≤ 2000000000) :
    Calls Try.prog 82 #[va] w fun e w' => ∃ a c, e = .returned (.slice a (shortL xs).length c) ∧ Own w' w.heap.size (.slice a (shortL xs).length c) (shortL xs) ∧ Bl w w' := by
  obtain ⟨a, c, rfl, hc⟩ := ha.form
  rcases Nat.lt_or_ge 1 xs.length with h1 | h1
  · obtain ⟨b, o, rfl, x, hx, cx, rx⟩ := ha.cellAt (bl_refl w) (k := xs.length - 1) (by omega)
    by_cases e : x = 1
    · subst e
      have HS := Lib.hid (And.intro h1 hx)
      clear hx
      go_enter Try.func82, Try.ntmps82
      go_wp2_with fail
      refine (clone_any _ (xs.take (xs.length - 1)) _ (ha.take _ (by omega)) (by simp; omega)).mono ?_
      rintro e w1 ⟨a1, c1, rfl, ho, hb1⟩
      rw [show (xs.take (xs.length - 1)).length = xs.length - 1 by simp] at *
      obtain ⟨g, rfl, hg1, hg2⟩ := ho.addr (by simp; omega)
      obtain ⟨y, hy, cy, fy, ry⟩ := ho.cellAt (j := xs.length - 2) (by simp; omega)
      have hyb := hb y (List.mem_of_mem_take (List.mem_of_getElem? hy))
      have HY := Lib.hid (shortL_yes HS.out hy)
      have HST := Lib.hid (ho.stored (xs.length - 2) (y + 1) (by unfold R64 at *; omega))
      have HL := Lib.hid (show (shortL xs).length = xs.length - 1 by rw [HY.out]; simp)
      clear hy
      unfold R64 at ry
      go_wp2
      go_ret
      rw [HL.out]
      rw [HY.out]
      exact ⟨_, _, rfl, HST.out.1, bl_grown hb1 HST.out.2 (fun k hk => by cases hk; exact hg1)⟩
    · have HS := Lib.hid (shortL_no (xs := xs) (by rw [hx]; simp [e]))
      rw [HS.out]
      have e1 : (x == 1) = false := by simp [e]
      clear hx e
      go_enter Try.func82, Try.ntmps82
      go_wp2_with fail
      refine (clone_any _ xs _ ha hl).mono ?_
      rintro e w1 ⟨a1, c1, rfl, ho, hb1⟩
      go_wp2
      go_ret
      exact ⟨_, _, rfl, ho, hb1⟩
  · have HS := Lib.hid (shortL_no (xs := xs) (by omega))
    rw [HS.out]
    go_enter Try.func82, Try.ntmps82
    go_wp2_with fail
    refine (clone_any _ xs _ ha hl).mono ?_
    rintro e w1 ⟨a1, c1, rfl, ho, hb1⟩
    go_wp2
    go_ret
    exact ⟨_, _, rfl, ho, hb1⟩

set_option maxRecDepth 100000 in
set_option maxHeartbeats 1600000 in
theorem shortS_any (va : Value) (xs : List Int) (w : World) (ha : Sl w va xs) (hl : xs.length ≤ 1000000) (hb : ∀ x ∈ xs, x ≤ 2000000000) :
    Calls Try.prog 85 #[va] w fun e w' => ∃ a c, e = .returned (.slice a (shortL xs).length c) ∧ Own w' w.heap.size (.slice a (shortL xs).length c) (shortL xs) ∧ Bl w w' := by
  obtain ⟨a, c, rfl, hc⟩ := ha.form
  rcases Nat.lt_or_ge 1 xs.length with h1 | h1
  · obtain ⟨b, o, rfl, x, hx, cx, rx⟩ := ha.cellAt (bl_refl w) (k := xs.length - 1) (by omega)
    have hk := cell_lt cx
    by_cases e : x = 1
    · subst e
      have HS := Lib.hid (And.intro h1 hx)
      clear hx
      go_enter Try.func85, Try.ntmps85
      go_wp2_with fail
      refine (own_any _ xs _ ha hl).mono ?_
      rintro e w1 ⟨a1, c1, rfl, ho1, hb1⟩
      obtain ⟨k1, k2⟩ := bcell hb1
      obtain ⟨a2, c2, e2, hcc⟩ := ho1.form
      simp only [Value.slice.injEq, true_and] at e2
      obtain ⟨rfl, rfl⟩ := e2
      obtain ⟨g, rfl, hg1, hg2⟩ := ho1.addr (by omega)
      have ho := ho1.take (xs.length - 1) (by omega) (by simp)
      obtain ⟨y, hy, cy, fy, ry⟩ := ho.cellAt (j := xs.length - 2) (by simp; omega)
      have hyb := hb y (List.mem_of_mem_take (List.mem_of_getElem? hy))
      have HY := Lib.hid (shortL_yes HS.out hy)
      have HST := Lib.hid (ho.stored (xs.length - 2) (y + 1) (by unfold R64 at *; omega))
      have HL := Lib.hid (show (shortL xs).length = xs.length - 1 by rw [HY.out]; simp)
      clear hy
      unfold R64 at ry
      go_wp2
      go_ret
      rw [HL.out]
      rw [HY.out]
      exact ⟨_, _, rfl, HST.out.1, bl_grown hb1 HST.out.2 (fun k hk => by cases hk; exact hg1)⟩
    · have HS := Lib.hid (shortL_no (xs := xs) (by rw [hx]; simp [e]))
      rw [HS.out]
      have e1 : (x == 1) = false := by simp [e]
      clear hx e
      go_enter Try.func85, Try.ntmps85
      go_wp2_with fail
      refine (own_any _ xs _ ha hl).mono ?_
      rintro e w1 ⟨a1, c1, rfl, ho, hb1⟩
      obtain ⟨k1, k2⟩ := bcell hb1
      go_wp2
      go_ret
      exact ⟨_, _, rfl, ho, hb1⟩
  · have HS := Lib.hid (shortL_no (xs := xs) (by omega))
    rw [HS.out]
    go_enter Try.func85, Try.ntmps85
    go_wp2_with fail
    refine (own_any _ xs _ ha hl).mono ?_
    rintro e w1 ⟨a1, c1, rfl, ho, hb1⟩
    go_wp2
    go_ret
    exact ⟨_, _, rfl, ho, hb1⟩

end Go.Proofs.Ytgkelemfbmmgnaa

/- States: the small functions of the program and of the reference. Each theorem names its conditions. -/
namespace Go.Proofs.Ytgkelemfbmmgnaa
open Go.RowKit
set_option linter.unusedVariables false
set_option linter.unusedSimpArgs false

theorem inB_eqS {n lo hi : Int} {b : Bool} (h : inB n lo hi = b) (w : World) : Calls Try.prog 67 #[.int .i64 n, .int .i64 lo, .int .i64 hi] w fun e w' => e = .returned (.bool b) ∧ w = w' := h ▸ within_any n lo hi w
theorem ret_obi {a b : Int} {c d : Bool} (h : a = b) (h' : c = d) : Ending.returned (.tuple #[.int .i64 a, .bool c]) = .returned (.tuple #[.int .i64 b, .bool d]) := by rw [h, h']

/-- The floor of a quotient by a negative number. -/
theorem neg_div (a b : Int) (hb : b < 0) : (a.tmod b = 0 → a.tdiv b = -a / -b) ∧ (a < 0 → a.tdiv b = -a / -b) ∧ (a.tmod b ≠ 0 → 0 ≤ a → a.tdiv b - 1 = -a / -b) := by
  have e1 : a.tdiv b = (-a).tdiv (-b) := (Int.neg_tdiv_neg a b).symm
  have e2 : a.tmod b = a.tmod (-b) := (Int.tmod_neg a b).symm
  have e3 : (-a).tmod (-b) = -(a.tmod (-b)) := Int.neg_tmod a (-b)
  refine ⟨fun h => ?_, fun h => ?_, fun h h0 => ?_⟩
  · rw [e1]
    rcases Int.lt_or_le (-a) 0 with c | c
    · exact (neg_quo (-a) (-b) c (by omega)).1 (by omega)
    · exact Int.tdiv_eq_ediv_of_nonneg c
  · rw [e1]; exact Int.tdiv_eq_ediv_of_nonneg (by omega)
  · rw [e1]
    rcases Int.lt_or_le (-a) 0 with c | c
    · exact (neg_quo (-a) (-b) c (by omega)).2.1 (by omega)
    · exfalso
      have : a = 0 := by omega
      subst this
      simp at h
theorem fdv_neg {a b : Int} (h : b < 0) : -a / -b = fdv a b := by unfold fdv; rw [if_pos h]
theorem fdv_pos {a b : Int} (h : ¬ b < 0) : a / b = fdv a b := by unfold fdv; rw [if_neg h]
theorem opS_good {c d : Int} (c0 : ¬ c = 0) (c1 : ¬ c + d = 0) (h : c < 0 ↔ c + d < 0) : opS c d = false := by
  unfold opS
  have e : decide (c < 0) = decide (c + d < 0) := decide_eq_decide.2 h
  simp [e, c0, c1]
theorem opS_bad {c d : Int} (h : ¬ (c < 0 ↔ c + d < 0)) : opS c d = true := by
  unfold opS
  have e : (decide (c < 0) != decide (c + d < 0)) = true := by
    rw [bne_iff_ne]; intro e; exact h (decide_eq_decide.1 e)
  simp [e]

set_option maxHeartbeats 800000 in
theorem fdivN_any (a b : Int) (w : World) (ha : -4000000000 ≤ a ∧ a ≤ 4000000000) (hb : b < 0) (hb2 : -4000000000 ≤ b) :
    Calls Try.prog 125 #[.int .i64 a, .int .i64 b] w fun e w' => e = .returned (.int .i64 (fdv a b)) ∧ w = w' := by
  have hz : (b == 0) = false := by rw [beq_eq_false_iff_ne]; omega
  have hbn : decide (b < 0) = true := decide_eq_true hb
  obtain ⟨q1, q2, q3⟩ := neg_div a b hb
  rw [fdv_neg hb] at q1 q2 q3
  have q4 : -4000000000 ≤ a.tdiv b ∧ a.tdiv b ≤ 4000000000 := by
    have h1 : a.tdiv b = -(a.tdiv (-b)) := by rw [Int.tdiv_neg]; omega
    rcases Int.lt_or_le a 0 with c | c
    · have h2 : a.tdiv (-b) = -((-a).tdiv (-b)) := by rw [Int.neg_tdiv]; omega
      have h3 := Int.tdiv_nonneg (a := -a) (b := -b) (by omega) (by omega)
      have h4 : (-a).tdiv (-b) ≤ -a := by
        rw [Int.tdiv_eq_ediv_of_nonneg (by omega)]
        exact Int.ediv_le_self _ (by omega)
      omega
    · have h3 := Int.tdiv_nonneg (a := a) (b := -b) (by omega) (by omega)
      have h4 : a.tdiv (-b) ≤ a := by
        rw [Int.tdiv_eq_ediv_of_nonneg (by omega)]
        exact Int.ediv_le_self _ (by omega)
      omega
  by_cases h0 : a.tmod b = 0
  · have Q := Lib.hid (q1 h0)
    have c0 : (a.tmod b != 0) = false := by simp [h0]
    clear q1 q2 q3 h0
    go_enter Try.func125, Try.ntmps125
    go_wp2
    go_ret
    exact ⟨ret_int Q.out, rfl⟩
  · have c0 : (a.tmod b != 0) = true := by simp [h0]
    by_cases c : a < 0
    · have Q := Lib.hid (q2 c)
      have cc : decide (a < 0) = true := decide_eq_true c
      clear q1 q2 q3 h0
      go_enter Try.func125, Try.ntmps125
      go_wp2
      go_ret
      exact ⟨ret_int Q.out, rfl⟩
    · have Q := Lib.hid (q3 h0 (by omega))
      have cc : decide (a < 0) = false := decide_eq_false c
      have c0' : (a % b != 0) = true := by rw [← Int.tmod_eq_emod_of_nonneg (by omega)]; exact c0
      clear q1 q2 q3 h0
      go_enter Try.func125, Try.ntmps125
      go_wp2
      go_ret
      exact ⟨ret_int Q.out, rfl⟩
theorem fdv_any (a b : Int) (w : World) (ha : -4000000000 ≤ a ∧ a ≤ 4000000000) (hb : b ≠ 0) (hb2 : -4000000000 ≤ b ∧ b ≤ 4000000000) :
    Calls Try.prog 125 #[.int .i64 a, .int .i64 b] w fun e w' => e = .returned (.int .i64 (fdv a b)) ∧ w = w' := by
  by_cases h : b < 0
  · exact fdivN_any a b w ha h hb2.1
  · rw [← fdv_pos h]; exact fdiv_any a b w (by omega) (by omega) (by omega) (by omega)
/-- What is told of a known term: it, and yes; or something, and no. -/
def KnP (r : Option Int) (v : Value) : Prop := match r with | some q => v = .tuple #[.int .i64 q, .bool true] | none => ∃ q : Int, v = .tuple #[.int .i64 q, .bool false]
theorem knp_no {c d a b : Int} (h : opS c d = true) : KnP (knV a b c d) (.tuple #[.int .i64 0, .bool false]) := by
  unfold knV; rw [if_pos h]; exact ⟨0, rfl⟩
theorem knp_at {c d a b : Int} {v : Bool} (h : opS c d = false) (hv : v = (fdv (a + b) (c + d) == fdv a c)) : KnP (knV a b c d) (.tuple #[.int .i64 (fdv a c), .bool v]) := by
  subst hv
  unfold knV
  rw [if_neg (by rw [h]; simp)]
  by_cases e : fdv (a + b) (c + d) = fdv a c
  · rw [if_pos e, e]; simp [KnP]
  · rw [if_neg e]
    have : (fdv (a + b) (c + d) == fdv a c) = false := by rw [beq_eq_false_iff_ne]; exact e
    rw [this]
    exact ⟨_, rfl⟩
theorem knp_at' {c d a b : Int} {v : Bool} (h : opS c d = false) (hv : v = (fdv a c == fdv (a + b) (c + d))) : KnP (knV a b c d) (.tuple #[.int .i64 (fdv a c), .bool v]) := by
  refine knp_at h (hv.trans ?_)
  by_cases e : fdv (a + b) (c + d) = fdv a c
  · rw [e]
  · have h1 : (fdv (a + b) (c + d) == fdv a c) = false := by rw [beq_eq_false_iff_ne]; exact e
    have h2 : (fdv a c == fdv (a + b) (c + d)) = false := by rw [beq_eq_false_iff_ne]; exact fun x => e x.symm
    rw [h1, h2]
def KnE (a b c d : Int) (w : World) (e : Ending) (w' : World) : Prop := ∃ v, e = .returned v ∧ KnP (knV a b c d) v ∧ Bl w w'

set_option maxRecDepth 100000 in
set_option maxHeartbeats 1600000 in
theorem iknown_any (a b c d : Int) (w : World) (ha : -1000000000 ≤ a ∧ a ≤ 1000000000) (hb : -1000000000 ≤ b ∧ b ≤ 1000000000) (hc : -1000000000 ≤ c ∧ c ≤ 1000000000) (hd : -1000000000 ≤ d ∧ d ≤ 1000000000) :
    Calls Try.prog 141 #[.int .i64 a, .int .i64 b, .int .i64 c, .int .i64 d] w (KnE a b c d w) := by
  by_cases c0 : c = 0
  ·
    have HO := Lib.hid (show opS c d = true by simp [opS, c0])
    have b0 : (c == 0) = true := by simp [c0]
    clear c0
    go_enter Try.func141, Try.ntmps141
    go_wp2
    go_ret2
    exact ⟨_, rfl, knp_no HO.out, (bl_refl _)⟩
  ·
    have b0 : (c == 0) = false := by simp [c0]
    by_cases c1 : c + d = 0
    ·
      have HO := Lib.hid (show opS c d = true by simp [opS, c1])
      have b1 : (c + d == 0) = true := by simp [c1]
      clear c1 c0
      go_enter Try.func141, Try.ntmps141
      go_wp2
      go_ret2
      exact ⟨_, rfl, knp_no HO.out, (bl_refl _)⟩
    ·
      have b1 : (c + d == 0) = false := by simp [c1]
      by_cases c2 : c < 0 ↔ c + d < 0
      ·
        have HO := Lib.hid (show opS c d = false from opS_good c0 c1 c2)
        have HZ := Lib.hid c0
        have HZ1 := Lib.hid c1
        by_cases c3 : c < 0
        ·
          have c5 : c + d < 0 := c2.1 c3
          clear c2 c0 c1
          have f1 : decide (c < 0) = true := by simp; omega
          have f2 : decide (c + d < 0) = true := by simp; omega
          go_enter Try.func141, Try.ntmps141
          go_wp2_with fail
          refine (fdv_any _ _ _ (by omega) HZ.out (by omega)).mono ?_
          rintro e w9 ⟨rfl, rfl⟩
          go_wp2_with fail
          refine (fdv_any _ _ _ (by omega) HZ1.out (by omega)).mono ?_
          rintro e w9 ⟨rfl, rfl⟩
          go_wp2
          go_ret2
          exact ⟨_, rfl, knp_at HO.out rfl, (bl_refl _)⟩
        ·
          have c5 : ¬ c + d < 0 := fun h => c3 (c2.2 h)
          have c6 : 0 < c := by omega
          have c7 : 0 < c + d := by omega
          clear c2 c0 c1
          have f1 : decide (c < 0) = false := by simp; omega
          have f2 : decide (c + d < 0) = false := by simp; omega
          go_enter Try.func141, Try.ntmps141
          go_wp2_with fail
          refine (fdv_any _ _ _ (by omega) HZ.out (by omega)).mono ?_
          rintro e w9 ⟨rfl, rfl⟩
          go_wp2_with fail
          refine (fdv_any _ _ _ (by omega) HZ1.out (by omega)).mono ?_
          rintro e w9 ⟨rfl, rfl⟩
          go_wp2
          go_ret2
          exact ⟨_, rfl, knp_at HO.out rfl, (bl_refl _)⟩
      ·
        have HO := Lib.hid (show opS c d = true from opS_bad c2)
        by_cases c3 : c < 0
        ·
          have c5 : ¬ c + d < 0 := fun h => c2 ⟨fun _ => h, fun _ => c3⟩
          have c7 : 0 < c + d := by omega
          have f1 : decide (c < 0) = true := by simp; omega
          have f2 : decide (c + d < 0) = false := by simp; omega
          clear c2 c0 c1
          go_enter Try.func141, Try.ntmps141
          go_wp2
          go_ret2
          exact ⟨_, rfl, knp_no HO.out, (bl_refl _)⟩
        ·
          have c5 : c + d < 0 := Classical.byContradiction fun h => c2 ⟨fun x => absurd x c3, fun x => absurd x h⟩
          have c7 : 0 < c := by omega
          have f1 : decide (c < 0) = false := by simp; omega
          have f2 : decide (c + d < 0) = true := by simp; omega
          clear c2 c0 c1
          go_enter Try.func141, Try.ntmps141
          go_wp2
          go_ret2
          exact ⟨_, rfl, knp_no HO.out, (bl_refl _)⟩

end Go.Proofs.Ytgkelemfbmmgnaa

