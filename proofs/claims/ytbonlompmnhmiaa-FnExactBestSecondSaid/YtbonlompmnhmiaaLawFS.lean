/- The laws' own helpers on lists of fractions: equal, marks, held. No condition but what each theorem names. -/
import Derived.Test.YtbonlompmnhmiaaAppF
import Derived.Test.YtbonlompmnhmiaaLawF
import Derived.Test.YtbonlompmnhmiaaOnly
namespace Go.Proofs.Ytbonlompmnhmiaa
open Go.RowKit
set_option linter.unusedVariables false
set_option linter.unusedSimpArgs false

theorem SlF.atR {w w' : World} {p o n c k : Nat} {fs : List (Int × Int)} {x y : Int} (h : SlF w (.slice (some ⟨p, o, none⟩) n c) fs) (hb : Bl w w') (hx : fs[k]? = some (x, y)) :
    w'.cell? ⟨p, o + k * 2, none⟩ = some (.int .i64 x) ∧ w'.cell? ⟨p, o + k * 2 + 1, none⟩ = some (.int .i64 y) := by
  obtain ⟨p', o', e, x', y', hx', c1, c2⟩ := h.cellAt hb (List.getElem?_eq_some_iff.1 hx).1
  rw [hx] at hx'
  injection hx' with hx'
  injection hx' with h1 h2
  injection e with e
  injection e with e1 e2
  subst h1 h2 e1 e2
  exact ⟨c1, c2⟩
theorem take_pair {α : Type} {xs ys : List α} {k : Nat} {x y : α} (h : xs.take k = ys.take k) (hx : xs[k]? = some x) (hy : ys[k]? = some y) (e : x = y) : xs.take (k + 1) = ys.take (k + 1) := by
  rw [List.take_add_one, List.take_add_one, h, hx, hy, e]
theorem ne_of_at {α : Type} {xs ys : List α} {k : Nat} {x y : α} (hx : xs[k]? = some x) (hy : ys[k]? = some y) (e : x ≠ y) : xs ≠ ys := by
  intro h
  rw [h, hy] at hx
  exact e (Option.some.inj hx).symm

set_option maxRecDepth 100000 in
set_option maxHeartbeats 1600000 in
theorem eqFS_any (va vb : Value) (fs gs : List (Int × Int)) (w : World) (ha : SlF w va fs) (hb : SlF w vb gs) :
    Calls Try.prog 21 #[va, vb] w fun e w' => e = .returned (.bool (decide (fs = gs))) ∧ Bl w w' := by
  have la := ha.len
  have lb := hb.len
  obtain ⟨a, ca, rfl, hca⟩ := ha.form
  obtain ⟨b, cb, rfl, hcb⟩ := hb.form
  by_cases hl : fs.length = gs.length
  · have hne : ((fs.length : Int) != (gs.length : Int)) = false := by simp [hl]
    have HL := Lib.hid hl
    have hle : fs.length ≤ gs.length := by omega
    have HA := Lib.hid ha
    have HB := Lib.hid hb
    clear hl ha hb
    go_enter Try.func21, Try.ntmps21
    go_wp2
    go_loopw [5] (fun i wr => ∃ k : Nat, k ≤ fs.length ∧ i = .int .i64 k ∧ Hid (fs.take k = gs.take k) ∧ Bl w wr) (fun i _ => fs.length - (intOf i).toNat)
    case atStart => exact ⟨0, Nat.zero_le _, rfl, Lib.hid (by simp), bl_refl _⟩
    case round =>
      obtain ⟨k, hk, rfl, HT, hB⟩ := hrel
      by_cases hlt : k < fs.length
      · obtain ⟨p, o, rfl, n, d, hx, c1, c2⟩ := HA.out.cellAt hB hlt
        obtain ⟨p', o', rfl, n', d', hx', c1', c2'⟩ := HB.out.cellAt hB (k := k) (by omega)
        have HX := Lib.hid hx
        have HX' := Lib.hid hx'
        have hkg : k < gs.length := by omega
        clear hx hx'
        cases he : eqFr n d n' d' with
        | true =>
          have HE := Lib.hid he
          clear he
          have hnd : n = n' ∧ d = d' := by simpa [eqFr] using HE.out
          have HT2 := Lib.hid (take_pair HT.out HX.out HX'.out (by rw [hnd.1, hnd.2]))
          clear hnd
          go_wp2_with fail
          go_region_held3 (fun w' => w'.cell? ⟨p, o + k * 2, none⟩ = some (.int .i64 n) ∧ w'.cell? ⟨p, o + k * 2 + 1, none⟩ = some (.int .i64 d) ∧ w'.cell? ⟨p', o' + k * 2, none⟩ = some (.int .i64 n') ∧ w'.cell? ⟨p', o' + k * 2 + 1, none⟩ = some (.int .i64 d')) (first | (simp [*]; done) | (go_simp; done) | go_keep)
            ((go_at_call 63; refine (eqF_any n d n' d' _).mono ?_; rintro e w2 ⟨rfl, hb2⟩; rw [HE.out]; have B2 : Bl w w2 := bl_call (bl_drew hB) hb2; obtain ⟨q1, q2⟩ := HA.out.atR B2 HX.out; obtain ⟨q3, q4⟩ := HB.out.atR B2 HX'.out))
          all_goals go_wp2
          all_goals go_roundw
          case rel => exact ⟨k + 1, by omega, by go_num, HT2, B2⟩
          case measure => simp only [intOf]; omega
        | false =>
          have HE := Lib.hid he
          clear he
          have hnd : (n, d) ≠ (n', d') := by
            intro e
            injection e with e1 e2
            subst e1
            subst e2
            simp [eqFr] at HE
            exact absurd HE.out (by simp [eqFr])
          have HN := Lib.hid (ne_of_at HX.out HX'.out hnd)
          clear hnd
          go_wp2_with fail
          go_region_held3 (fun w' => w'.cell? ⟨p, o + k * 2, none⟩ = some (.int .i64 n) ∧ w'.cell? ⟨p, o + k * 2 + 1, none⟩ = some (.int .i64 d) ∧ w'.cell? ⟨p', o' + k * 2, none⟩ = some (.int .i64 n') ∧ w'.cell? ⟨p', o' + k * 2 + 1, none⟩ = some (.int .i64 d')) (first | (simp [*]; done) | (go_simp; done) | go_keep)
            ((go_at_call 63; refine (eqF_any n d n' d' _).mono ?_; rintro e w2 ⟨rfl, hb2⟩; rw [HE.out]; have B2 : Bl w w2 := bl_call (bl_drew hB) hb2; obtain ⟨q1, q2⟩ := HA.out.atR B2 HX.out; obtain ⟨q3, q4⟩ := HB.out.atR B2 HX'.out))
          all_goals go_wp2
          all_goals go_ret
          all_goals exact ⟨ret_bool (decide_eq_false HN.out).symm, B2⟩
      · go_wp2
        go_ret
        exact ⟨ret_bool (by
          refine (decide_eq_true ?_).symm
          have e := HT.out
          rw [List.take_of_length_le (by omega), List.take_of_length_le (by have := HL.out; omega)] at e
          exact e), hB⟩
  · have hne : ((fs.length : Int) != (gs.length : Int)) = true := by simp; omega
    go_enter Try.func21, Try.ntmps21
    go_wp2
    go_ret
    exact ⟨ret_bool (by refine (decide_eq_false ?_).symm; intro e; rw [e] at hl; exact hl rfl), bl_refl _⟩

/-- The marks that a list of n fractions gets: (k, k + 1), (k + 2, k + 3), .. -/
def marksF (k : Int) (n : Nat) : List (Int × Int) := (List.range n).map fun (i : Nat) => (k + 2 * (i : Int), k + 2 * (i : Int) + 1)
theorem marksF_len (k : Int) (n : Nat) : (marksF k n).length = n := by simp [marksF]
theorem marksF_get (k : Int) (n i : Nat) (h : i < n) : (marksF k n)[i]? = some (k + 2 * i, k + 2 * i + 1) := by simp [marksF, h]

set_option maxHeartbeats 800000 in
theorem heldF_yes (va : Value) (n : Nat) (k : Int) (w : World) (ha : SlF w va (marksF k n)) (h0 : 0 ≤ k) (hn : n ≤ 1048576) (h1 : k ≤ 4611686018427387904) :
    Calls Try.prog 23 #[va, .int .i64 k] w fun e w' => e = .returned (.int .i64 (k + 2 * n)) ∧ Bl w w' := by
  obtain ⟨a, ca, rfl, hca⟩ := ha.form
  have HA := Lib.hid ha
  clear ha
  rw [marksF_len] at HA hca ⊢
  go_enter Try.func23, Try.ntmps23
  go_wp2
  go_loopw [1, 5] (fun q i wr => ∃ j : Nat, j ≤ n ∧ i = .int .i64 j ∧ q = .int .i64 (k + 2 * j) ∧ Bl w wr) (fun _ i _ => n - (intOf i).toNat)
  case atStart => exact ⟨0, Nat.zero_le _, rfl, by simp, bl_refl _⟩
  case round =>
    obtain ⟨j, hj, rfl, rfl, hB⟩ := hrel
    by_cases hlt : j < n
    · obtain ⟨p, o, rfl, x, y, hx, c1, c2⟩ := HA.out.cellAt hB (k := j) (by rw [marksF_len]; exact hlt)
      rw [marksF_get k n j hlt] at hx
      injection hx with hx
      injection hx with hx hy
      subst hx
      subst hy
      have hn1 : (k + 2 * (j : Int) != k + 2 * (j : Int)) = false := by simp
      have hn2 : (k + 2 * (j : Int) + 1 != k + 2 * (j : Int) + 1) = false := by simp
      go_wp2
      all_goals go_roundw
      case rel => exact ⟨j + 1, by omega, by go_num, by go_num, hB⟩
      case measure => simp [intOf]; omega
    · go_wp2
      go_ret
      exact ⟨ret_int (by omega), hB⟩

/-- Behind j rounds: the first j fractions are marks, the others are as they were. -/
def halfF (k : Int) (fs : List (Int × Int)) (j : Nat) : List (Int × Int) := marksF k j ++ fs.drop j
theorem cellsF_set : ∀ (fs : List (Int × Int)) (j : Nat) (a b : Int), j < fs.length → ((cellsF fs).set (j * 2) (.int .i64 a)).set (j * 2 + 1) (.int .i64 b) = cellsF (fs.set j (a, b))
  | [], j, a, b, h => by simp at h
  | f :: fs, 0, a, b, h => by simp [cellsF]
  | f :: fs, j + 1, a, b, h => by
    have := cellsF_set fs j a b (by simpa using h)
    rw [show (j + 1) * 2 = j * 2 + 1 + 1 by omega]
    simp only [cellsF, List.set_cons_succ]
    rw [this]
theorem halfF_len (k : Int) (fs : List (Int × Int)) (j : Nat) (h : j ≤ fs.length) : (halfF k fs j).length = fs.length := by simp [halfF, marksF_len]; omega
theorem halfF_set (k : Int) (fs : List (Int × Int)) (j : Nat) (h : j < fs.length) : (halfF k fs j).set j (k + 2 * j, k + 2 * j + 1) = halfF k fs (j + 1) := by
  rw [halfF, halfF, List.set_append_right _ _ (by simp [marksF_len]), marksF_len, Nat.sub_self, List.drop_eq_getElem_cons h, List.set_cons_zero, marksF, marksF, List.range_succ]
  simp
theorem grown_step {w wr w' : World} {row : Option Nat} (hG : w.grownBy wr row) (h : wr.grownBy w' row) : w.grownBy w' row :=
  ⟨h.os.trans hG.os, h.tape.trans hG.tape, h.output.trans hG.output, Nat.le_trans hG.size h.size, fun b hb hne => (h.block b (Nat.lt_of_lt_of_le hb hG.size) hne).trans (hG.block b hb hne)⟩

set_option maxHeartbeats 1600000 in
theorem markF_any (va : Value) (fs : List (Int × Int)) (k : Int) (B : Nat) (w : World) (ha : OwnF w B va fs) (h0 : 0 ≤ k) (hl : fs.length ≤ 1048576) (h1 : k ≤ 4611686018427387904) :
    Calls Try.prog 22 #[va, .int .i64 k] w fun e w' => e = .returned (.int .i64 (k + 2 * fs.length)) ∧ OwnF w' B va (marksF k fs.length) ∧ w.grownBy w' va.ownBlock := by
  have hsh : va = .slice none 0 0 ∧ fs.length = 0 ∨ ∃ g cap, va = .slice (some ⟨g, 0, none⟩) fs.length cap ∧ fs.length ≤ cap ∧ cap ≤ maxLen := by
    rcases ha.2 with h | ⟨g, cap, cur, hv, _, _, hn, hm, _⟩
    · exact .inl h
    · exact .inr ⟨g, cap, hv, hn, hm⟩
  rcases hsh with ⟨rfl, hz⟩ | ⟨g, cap, rfl, hn, hm⟩
  · rw [hz]
    go_enter Try.func22, Try.ntmps22
    go_wp2
    refine wp_loop_rounds 1 ?_
    rw [rounds_succ]
    go_wp2
    go_ret
    exact ⟨ret_int (by simp), OwnF.nil _ _, World.grownBy.refl _ _⟩
  · unfold maxLen at hm
    go_enter Try.func22, Try.ntmps22
    go_wp2
    go_loopw [1, 5] (fun q i wr => ∃ j : Nat, j ≤ fs.length ∧ i = .int .i64 j ∧ q = .int .i64 (k + 2 * j) ∧ wr.ownsRow B 26 2 (.slice (some ⟨g, 0, none⟩) fs.length cap) fs.length (cellsF (halfF k fs j)) ∧ w.grownBy wr (some g)) (fun _ i _ => fs.length - (intOf i).toNat)
    case atStart => exact ⟨0, Nat.zero_le _, rfl, by simp, by have ha' : w.ownsRow B 26 2 _ fs.length (cellsF fs) := ha; simpa [halfF, marksF] using ha', World.grownBy.refl _ _⟩
    case round =>
      obtain ⟨j, hj, rfl, rfl, hO, hG⟩ := hrel
      by_cases hlt : j < fs.length
      · have hcl : (cellsF (halfF k fs j)).length = fs.length * 2 := by rw [cellsF_len, halfF_len k fs j hj]
        obtain ⟨u1, hu1⟩ : ∃ u, (cellsF (halfF k fs j))[j * 2]? = some u := ⟨_, List.getElem?_eq_getElem (by omega)⟩
        obtain ⟨u2, hu2⟩ : ∃ u, (cellsF (halfF k fs j))[j * 2 + 1]? = some u := ⟨_, List.getElem?_eq_getElem (by omega)⟩
        have c1 : wr.cell? ⟨g, j * 2, none⟩ = some u1 := by rw [hO.cellAt (j * 2) (by omega), hu1]
        have f1 : wr.frozen? ⟨g, j * 2, none⟩ = false := hO.frozenAt (j * 2)
        have c2 : wr.cell? ⟨g, j * 2 + 1, none⟩ = some u2 := by rw [hO.cellAt (j * 2 + 1) (by omega), hu2]
        have f2 : wr.frozen? ⟨g, j * 2 + 1, none⟩ = false := hO.frozenAt (j * 2 + 1)
        have hS := hO.stored (j * 2) (.int .i64 (k + 2 * j))
        have hS2 := hS.1.stored (j * 2 + 1) (.int .i64 (k + 2 * j + 1))
        have HS1 := hS2.1
        rw [cellsF_set _ j _ _ (by rw [halfF_len k fs j hj]; exact hlt), halfF_set k fs j hlt] at HS1
        have HS1 := Lib.hid HS1
        have HS2 := Lib.hid (grown_step (grown_step hG hS.2) hS2.2)
        clear hS hS2 hu1 hu2 ha hO hcl
        go_wp2
        go_roundw
        case rel => exact ⟨j + 1, by omega, by go_num, by go_num, HS1.out, HS2.out⟩
        case measure => simp [intOf]; omega
      · go_wp2
        go_ret
        have hjl : j = fs.length := by omega
        subst hjl
        refine ⟨rfl, ?_, hG⟩
        unfold OwnF
        rw [marksF_len]
        simpa [halfF] using hO

theorem OwnF.sl {w : World} {B : Nat} {v : Value} {fs : List (Int × Int)} (h : OwnF w B v fs) : SlF w v fs := h.slF
theorem OwnF.only {w w' : World} {B : Nat} {v : Value} {fs : List (Int × Int)} {S : Nat → Prop} (h : OwnF w B v fs) (ho : Only w w' S) (hn : ∀ k, v.ownBlock = some k → ¬ S k) : OwnF w' B v fs := by
  refine ⟨h.1, ?_⟩
  rcases h.2 with h2 | ⟨g, cap, cur, hv, hg, hh, r⟩
  · exact .inl h2
  · refine .inr ⟨g, cap, cur, hv, hg, ?_, r⟩
    exact (ho.block g (Array.getElem?_eq_some_iff.1 hh).1 (hn g (by rw [hv]; rfl))).trans hh

end Go.Proofs.Ytbonlompmnhmiaa
