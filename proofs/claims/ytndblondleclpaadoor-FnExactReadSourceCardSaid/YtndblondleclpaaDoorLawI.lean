/- The laws' own helpers on slices of 64-bit integers: equal, copy, sizes, marks, held. No condition but what each theorem names. -/
import Derived.Test.YtndblondleclpaaDoorBase
namespace Go.Proofs.YtndblondleclpaaDoor
open Go.RowKit
set_option linter.unusedVariables false
set_option linter.unusedSimpArgs false

set_option maxHeartbeats 400000 in
theorem eqI_any (va vb : Value) (xs ys : List Int) (w : World) (ha : Sl w va xs) (hb : Sl w vb ys) :
    Calls Tryd.prog 10 #[va, vb] w fun e w' => e = .returned (.bool (decide (xs = ys))) ∧ Below w.heap.size w w' := by
  have la := ha.len
  have lb := hb.len
  obtain ⟨a, ca, rfl, h1, h2, h3, h4, h5⟩ := ha
  obtain ⟨b, cb, rfl, g1, g2, g3, g4, g5⟩ := hb
  by_cases hl : xs.length = ys.length
  · have hne : ((xs.length : Int) != (ys.length : Int)) = false := by simp [hl]
    have HL := Lib.hid hl
    have hle : xs.length ≤ ys.length := by omega
    clear hl
    go_enter Tryd.func10, Tryd.ntmps10
    go_wp2
    go_loopw [5] (fun i wr => ∃ k : Nat, k ≤ xs.length ∧ i = .int .i64 k ∧ xs.take k = ys.take k ∧ Below w.heap.size w wr) (fun i _ => xs.length - (intOf i).toNat)
    case atStart => exact ⟨0, Nat.zero_le _, rfl, by simp, Below.refl _ _⟩
    case round =>
      obtain ⟨k, hk, rfl, ht, hB⟩ := hrel
      have HT := Lib.hid ht
      clear ht
      by_cases hlt : k < xs.length
      · rcases h5 with h5 | ⟨p, o, rfl, hc⟩
        · have : xs.length = 0 := by rw [h5]; rfl
          omega
        rcases g5 with g5 | ⟨q, r, rfl, gc⟩
        · have : ys.length = 0 := by rw [g5]; rfl
          omega
        obtain ⟨x, hx⟩ : ∃ x, xs[k]? = some x := ⟨_, List.getElem?_eq_getElem hlt⟩
        obtain ⟨y, hy⟩ : ∃ y, ys[k]? = some y := ⟨_, List.getElem?_eq_getElem (by omega)⟩
        have c1 : wr.cell? ⟨p, o + k, none⟩ = some (.int .i64 x) := (hB.cell (p := ⟨p, o + k, none⟩) (cell_lt (hc k x hx))).trans (hc k x hx)
        have c2 : wr.cell? ⟨q, r + k, none⟩ = some (.int .i64 y) := (hB.cell (p := ⟨q, r + k, none⟩) (cell_lt (gc k y hy))).trans (gc k y hy)
        have HX := Lib.hid hx
        have HY := Lib.hid hy
        have hkys : k < ys.length := by omega
        clear hx hy hc gc h3 g3 h4 g4
        by_cases hxy : x = y
        · subst hxy
          have hn : (x != x) = false := by simp
          go_wp2
          go_region
          all_goals go_wp2
          all_goals go_roundw
          case rel => exact ⟨k + 1, by omega, by go_num, by rw [List.take_add_one, List.take_add_one, HT.out, HX.out, HY.out], hB.drew⟩
          case measure => simp [intOf]; omega
        · have hn : (x != y) = true := by simp [hxy]
          go_wp2
          go_region
          all_goals go_wp2
          all_goals go_ret
          all_goals exact ⟨ret_bool (by
            refine (decide_eq_false ?_).symm
            intro e
            rw [e] at HX
            exact hxy (Option.some.inj (HX.out.symm.trans HY.out))), hB.drew⟩
      · go_wp2
        go_ret
        exact ⟨ret_bool (by
          refine (decide_eq_true ?_).symm
          have e := HT.out
          rw [List.take_of_length_le (by omega), List.take_of_length_le (by have := HL.out; omega)] at e
          exact e), hB⟩
  · have hne : ((xs.length : Int) != (ys.length : Int)) = true := by simp; omega
    go_enter Tryd.func10, Tryd.ntmps10
    go_wp2
    go_ret
    exact ⟨ret_bool (by refine (decide_eq_false ?_).symm; intro e; rw [e] at hl; exact hl rfl), Below.refl _ _⟩

theorem szI_any (va : Value) (xs : List Int) (n : Int) (w : World) (ha : Sl w va xs) (h0 : 0 ≤ n) (h1 : n ≤ 9223372036854775807) :
    Calls Tryd.prog 32 #[va, .int .i64 n] w fun e w' => e = .returned (.int .i64 (if n < xs.length then -1 else n - xs.length)) ∧ Below w.heap.size w w' := by
  have la := ha.len
  obtain ⟨a, ca, rfl, h1, h2, h3, h4, h5⟩ := ha
  by_cases hl : n < xs.length
  · rw [if_pos hl]
    go_enter Tryd.func32, Tryd.ntmps32
    go_wp2
    go_ret
    exact ⟨rfl, Below.refl _ _⟩
  · rw [if_neg hl]
    go_enter Tryd.func32, Tryd.ntmps32
    go_wp2
    go_ret
    exact ⟨rfl, Below.refl _ _⟩

/-- The marks that a list of n numbers gets: k, k + 1, .. -/
def marks (k : Int) (n : Nat) : List Int := (List.range n).map fun (i : Nat) => k + (i : Int)
theorem marks_len (k : Int) (n : Nat) : (marks k n).length = n := by simp [marks]
theorem marks_get (k : Int) (n i : Nat) (h : i < n) : (marks k n)[i]? = some (k + i) := by simp [marks, h]

set_option maxHeartbeats 400000 in
theorem heldI_yes (va : Value) (n : Nat) (k : Int) (w : World) (ha : Sl w va (marks k n)) (h0 : 0 ≤ k) (h1 : k + n ≤ 4611686018427387904) :
    Calls Tryd.prog 19 #[va, .int .i64 k] w fun e w' => e = .returned (.int .i64 (k + n)) ∧ Below w.heap.size w w' := by
  obtain ⟨a, ca, rfl, g1, g2, h3, h4, h5⟩ := ha
  rw [marks_len] at g1 ⊢
  go_enter Tryd.func19, Tryd.ntmps19
  go_wp2
  go_loopw [1, 5] (fun q i wr => ∃ j : Nat, j ≤ n ∧ i = .int .i64 j ∧ q = .int .i64 (k + j) ∧ Below w.heap.size w wr) (fun _ i _ => n - (intOf i).toNat)
  case atStart => exact ⟨0, Nat.zero_le _, rfl, by simp, Below.refl _ _⟩
  case round =>
    obtain ⟨j, hj, rfl, rfl, hB⟩ := hrel
    by_cases hlt : j < n
    · rcases h5 with h5 | ⟨p, o, rfl, hc⟩
      · have : (marks k n).length = 0 := by rw [h5]; rfl
        rw [marks_len] at this
        omega
      have hx := marks_get k n j hlt
      have c1 : wr.cell? ⟨p, o + j, none⟩ = some (.int .i64 (k + j)) := (hB.cell (p := ⟨p, o + j, none⟩) (cell_lt (hc j _ hx))).trans (hc j _ hx)
      have hn : (k + (j : Int) != k + (j : Int)) = false := by simp
      clear hx hc h3 h4
      go_wp2
      all_goals go_roundw
      case rel => exact ⟨j + 1, by omega, by go_num, by go_num, hB⟩
      case measure => simp [intOf]; omega
    · go_wp2
      go_ret
      exact ⟨ret_int (by omega), hB⟩

theorem marks_rng (k : Int) (n : Nat) (h0 : 0 ≤ k) (h1 : k + n ≤ 4611686018427387904) : ∀ x ∈ marks k n, R64 x := by
  intro x hx
  simp only [marks, List.mem_map, List.mem_range] at hx
  obtain ⟨i, hi, rfl⟩ := hx
  unfold R64
  omega

/-- Behind j rounds: the first j numbers are marks, the others are as they were. -/
def half (k : Int) (xs : List Int) (j : Nat) : List Int := marks k j ++ xs.drop j
theorem half_len (k : Int) (xs : List Int) (j : Nat) (h : j ≤ xs.length) : (half k xs j).length = xs.length := by simp [half, marks_len]; omega
theorem half_get (k : Int) (xs : List Int) (j : Nat) (h : j < xs.length) : (half k xs j)[j]? = xs[j]? := by
  rw [half, List.getElem?_append_right (by simp [marks_len]), marks_len, List.getElem?_drop]; simp
theorem half_set (k : Int) (xs : List Int) (j : Nat) (h : j < xs.length) : (half k xs j).set j (k + j) = half k xs (j + 1) := by
  rw [half, half, List.set_append_right _ _ (by simp [marks_len]), marks_len, Nat.sub_self, List.drop_eq_getElem_cons h, List.set_cons_zero, marks, marks, List.range_succ]
  simp

set_option maxHeartbeats 400000 in
theorem markI_any (va : Value) (xs : List Int) (k : Int) (B : Nat) (w : World) (ha : Own w B va xs) (h0 : 0 ≤ k) (h1 : k + xs.length ≤ 4611686018427387904) :
    Calls Tryd.prog 18 #[va, .int .i64 k] w fun e w' => e = .returned (.int .i64 (k + xs.length)) ∧ Own w' B va (marks k xs.length) ∧ w.grownBy w' va.ownBlock := by
  rcases ha with ⟨hown, hr⟩
  have hsh : va = .slice none 0 0 ∧ xs.length = 0 ∨ ∃ g cap, va = .slice (some ⟨g, 0, none⟩) xs.length cap ∧ xs.length ≤ cap ∧ cap ≤ maxLen := by
    rcases hown.2 with h | ⟨g, cap, cur, hv, _, _, hn, hm, _⟩
    · exact .inl h
    · exact .inr ⟨g, cap, hv, hn, hm⟩
  rcases hsh with ⟨rfl, hz⟩ | ⟨g, cap, rfl, hn, hm⟩
  · rw [hz]
    go_enter Tryd.func18, Tryd.ntmps18
    go_wp2
    refine wp_loop_rounds 1 ?_
    rw [rounds_succ]
    go_wp2
    go_ret
    exact ⟨ret_int (by simp), Own.nil _ _, World.grownBy.refl _ _⟩
  · unfold maxLen at hm
    go_enter Tryd.func18, Tryd.ntmps18
    go_wp2
    go_loopw [1, 5] (fun q i wr => ∃ j : Nat, j ≤ xs.length ∧ i = .int .i64 j ∧ q = .int .i64 (k + j) ∧ wr.ownsRow B 2 1 (.slice (some ⟨g, 0, none⟩) xs.length cap) xs.length ((half k xs j).map (Value.int .i64)) ∧ w.grownBy wr (some g)) (fun _ i _ => xs.length - (intOf i).toNat)
    case atStart => exact ⟨0, Nat.zero_le _, rfl, by simp, by simpa [half, marks] using hown, World.grownBy.refl _ _⟩
    case round =>
      obtain ⟨j, hj, rfl, rfl, hO, hG⟩ := hrel
      by_cases hlt : j < xs.length
      · obtain ⟨x, hx⟩ : ∃ x, xs[j]? = some x := ⟨_, List.getElem?_eq_getElem hlt⟩
        have c1 : wr.cell? ⟨g, j, none⟩ = some (.int .i64 x) := by
          rw [hO.cellAt j (by omega), List.getElem?_map, half_get k xs j hlt, hx]; rfl
        have c2 : wr.frozen? ⟨g, j, none⟩ = false := hO.frozenAt j
        have hS := hO.stored j (.int .i64 (k + j))
        have HS1 := hS.1
        rw [← List.map_set, half_set k xs j hlt] at HS1
        have HS2 := hS.2
        clear hx hS hown hr
        go_wp2
        go_roundw
        case rel => exact ⟨j + 1, by omega, by go_num, by go_num, HS1, ⟨HS2.os.trans hG.os, HS2.tape.trans hG.tape, HS2.output.trans hG.output, Nat.le_trans hG.size HS2.size, fun b hb hne => (HS2.block b (Nat.lt_of_lt_of_le hb hG.size) hne).trans (hG.block b hb hne)⟩⟩
        case measure => simp [intOf]; omega
      · go_wp2
        go_ret
        have hjl : j = xs.length := by omega
        subst hjl
        refine ⟨rfl, ⟨?_, marks_rng _ _ h0 h1⟩, hG⟩
        rw [marks_len]
        simpa [half] using hO

theorem info_i64 : (Tryd.prog.info? 2).map (fun i => (i.zero, i.size, i.bytes)) = some (some (.int .i64 0), 1, 8) := by kernel_rfl

/-- Behind j rounds of a copy: the first j numbers are there, the others are 0. -/
def part (xs : List Int) (j : Nat) : List Int := xs.take j ++ List.replicate (xs.length - j) 0
theorem part_get (xs : List Int) (j : Nat) (h : j < xs.length) : (part xs j)[j]? = some 0 := by
  rw [part, List.getElem?_append_right (by simp; omega)]
  simp [Nat.min_eq_left (Nat.le_of_lt h), List.getElem?_replicate]
  omega
theorem part_set (xs : List Int) (j : Nat) (x : Int) (h : xs[j]? = some x) : (part xs j).set j x = part xs (j + 1) := by
  have hj := (List.getElem?_eq_some_iff.1 h).1
  have e : xs.length - j = (xs.length - (j + 1)) + 1 := by omega
  rw [part, part, List.set_append_right _ _ (by simp; omega), List.take_add_one, h, e, List.replicate_succ]
  simp [Nat.min_eq_left (Nat.le_of_lt hj)]

set_option maxHeartbeats 400000 in
theorem toI_any (va : Value) (xs : List Int) (w : World) (ha : Sl w va xs) (h0 : xs.length ≤ 17592186044416) :
    Calls Tryd.prog 8 #[va] w fun e w' => ∃ a n c, e = .returned (.slice a n c) ∧ Own w' w.heap.size (.slice a n c) xs ∧ Below w.heap.size w w' := by
  obtain ⟨i0, hi, hz0, hz1, hz2⟩ := info_parts info_i64
  obtain ⟨a, ca, rfl, g1, g2, h3, h4, h5⟩ := ha
  go_enter Tryd.func8, Tryd.ntmps8
  go_wp2_with (at_make; refine wpList_make_full _ rfl _ _ 22 rfl w.heap.size 2 i0 (.int .i64 0) 1 Tryd.underlying22 hi hz0 hz1 .i64 .i64 _ _ xs.length rfl rfl rfl rfl ?c1 ?c2 ?c3 ?_)
  case c1 => rw [hz2]; omega
  case c2 => unfold maxLen; omega
  case c3 => exact Nat.le_refl _
  intro w1 hown1 hgrow1
  go_wp2
  go_loopw [4] (fun i wr => ∃ j : Nat, j ≤ xs.length ∧ i = .int .i64 j ∧ wr.ownsRow w.heap.size 2 1 (.slice (some ⟨w.heap.size, 0, none⟩) xs.length xs.length) xs.length ((part xs j).map (Value.int .i64)) ∧ Below w.heap.size w wr) (fun i _ => xs.length - (intOf i).toNat)
  case atStart => exact ⟨0, Nat.zero_le _, rfl, by simpa [part, toList_madeCells_one] using hown1, below_of_grown hgrow1⟩
  case round =>
    obtain ⟨j, hj, rfl, hO, hB⟩ := hrel
    by_cases hlt : j < xs.length
    · rcases h5 with h5 | ⟨p, o, rfl, hc⟩
      · have : xs.length = 0 := by rw [h5]; rfl
        omega
      obtain ⟨x, hx⟩ : ∃ x, xs[j]? = some x := ⟨_, List.getElem?_eq_getElem hlt⟩
      have c0 : wr.cell? ⟨p, o + j, none⟩ = some (.int .i64 x) := (hB.cell (p := ⟨p, o + j, none⟩) (cell_lt (hc j x hx))).trans (hc j x hx)
      have c1 : wr.cell? ⟨w.heap.size, j, none⟩ = some (.int .i64 0) := by
        rw [hO.cellAt j (by omega), List.getElem?_map, part_get xs j hlt]; rfl
      have c2 : wr.frozen? ⟨w.heap.size, j, none⟩ = false := hO.frozenAt j
      have hS := hO.stored j (.int .i64 x)
      have HS1 := hS.1
      rw [← List.map_set, part_set xs j x hx] at HS1
      have HS2 := hB.setCell (p := ⟨w.heap.size, j, none⟩) (Nat.le_refl _) (.int .i64 x)
      clear hx hS hc h3 h4 hown1 hgrow1
      go_wp2
      go_roundw
      case rel => exact ⟨j + 1, by omega, by go_num, HS1, HS2⟩
      case measure => simp [intOf]; omega
    · go_wp2
      go_ret
      have hjl : j = xs.length := by omega
      subst hjl
      exact ⟨_, _, _, rfl, ⟨by simpa [part] using hO, h3⟩, hB⟩

theorem Sl.form {w : World} {v : Value} {xs : List Int} (h : Sl w v xs) : ∃ a c, v = .slice a xs.length c ∧ xs.length ≤ c := by
  obtain ⟨a, cap, rfl, h1, _⟩ := h
  exact ⟨a, cap, rfl, h1⟩

end Go.Proofs.YtndblondleclpaaDoor
