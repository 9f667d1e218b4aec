/- How many first numbers two lists have in common. Each theorem names its conditions. -/
import Derived.Test.YteejfiflidfciaaCont
namespace Go.Proofs.Yteejfiflidfciaa
open Go.RowKit
set_option linter.unusedVariables false
set_option linter.unusedSimpArgs false

/-- How many first numbers two lists have in common. -/
def comL : List Int → List Int → Nat
  | x :: xs, y :: ys => if x = y then comL xs ys + 1 else 0
  | _, _ => 0
theorem drop_cons' {xs : List Int} {k : Nat} {t : Int} (h : xs[k]? = some t) : xs.drop k = t :: xs.drop (k + 1) := by
  obtain ⟨h1, h2⟩ := List.getElem?_eq_some_iff.1 h
  rw [List.drop_eq_getElem_cons h1, h2]
theorem comL_end1 {xs ys : List Int} {k C : Nat} (hk : xs.length ≤ k) (h : C = k + comL (xs.drop k) (ys.drop k)) : k = C := by
  rw [List.drop_eq_nil_of_le hk] at h
  rw [h]; simp [comL]
theorem comL_end2 {xs ys : List Int} {k C : Nat} (hk : ys.length ≤ k) (h : C = k + comL (xs.drop k) (ys.drop k)) : k = C := by
  rw [List.drop_eq_nil_of_le hk] at h
  rw [h]
  cases xs.drop k <;> simp [comL]
theorem comL_ne {xs ys : List Int} {k C : Nat} {x y : Int} (hx : xs[k]? = some x) (hy : ys[k]? = some y) (hne : x ≠ y) (h : C = k + comL (xs.drop k) (ys.drop k)) : k = C := by
  rw [drop_cons' hx, drop_cons' hy, comL, if_neg hne] at h
  omega
theorem comL_eq {xs ys : List Int} {k C : Nat} {x : Int} (hx : xs[k]? = some x) (hy : ys[k]? = some x) (h : C = k + comL (xs.drop k) (ys.drop k)) : C = k + 1 + comL (xs.drop (k + 1)) (ys.drop (k + 1)) := by
  rw [drop_cons' hx, drop_cons' hy, comL, if_pos rfl] at h
  omega

set_option maxRecDepth 100000 in
set_option maxHeartbeats 3200000 in
theorem icom_any (va vb : Value) (xs ys : List Int) (w : World) (ha : Sl w va xs) (hb : Sl w vb ys) (lx : xs.length ≤ 1048576) (ly : ys.length ≤ 1048576) :
    Calls Try.prog 77 #[va, vb] w fun e w' => e = .returned (.int .i64 (comL xs ys : Nat)) ∧ Bl w w' := by
  obtain ⟨aa, ca, rfl, hca⟩ := ha.form'
  obtain ⟨ab, cb, rfl, hcb⟩ := hb.form'
  obtain ⟨C, hC⟩ : ∃ C, C = comL xs ys := ⟨_, rfl⟩
  rw [← hC]
  have HC := Lib.hid hC
  have HA := Lib.hid ha
  have HB := Lib.hid hb
  clear ha hb hC
  go_enter Try.func77, Try.ntmps77
  go_wp2
  go_loopw [5] (fun s5 wr => ∃ k : Nat, s5 = .int .i64 k ∧ k ≤ xs.length ∧ k ≤ ys.length ∧ Hid (C = k + comL (xs.drop k) (ys.drop k)) ∧ Bl w wr) (fun s5 _ => xs.length - (intOf s5).toNat)
  case atStart => exact ⟨0, rfl, Nat.zero_le _, Nat.zero_le _, Lib.hid (by rw [HC.out]; simp), bl_refl _⟩
  case round =>
    rcases hrel with ⟨k, rfl, hk1, hk2, hG, Br⟩
    rcases Nat.lt_or_ge k xs.length with hx | hx
    · rcases Nat.lt_or_ge k ys.length with hy | hy
      · obtain ⟨b1, o1, rfl, x, hxx, cx, rx⟩ := HA.out.cellAt' Br hx
        obtain ⟨b2, o2, rfl, y, hyy, cy, ry⟩ := HB.out.cellAt' Br hy
        have i1 : (0 : Int) ≤ (k : Int) := by omega
        have i2 : (k : Int) < (xs.length : Int) := by omega
        have i3 : (k : Int) < (ys.length : Int) := by omega
        have g1 : decide (k < xs.length) = true := by simp [hx]
        have g2 : decide (k < ys.length) = true := by simp [hy]
        by_cases e : x = y
        · subst e
          have HE := Lib.hid (comL_eq hxx hyy hG.out)
          clear hxx hyy
          go_wp2_with fail
          go_quiet (fail)
          go_wp2
          go_roundw
          case rel => exact ⟨k + 1, by go_num, by omega, by omega, HE, bl_call Br (Drawn.below ⟨_, rfl⟩ _)⟩
          case measure => clear HE; simp only [intOf, Int.toNat_natCast]; omega
        ·
          have HE := Lib.hid (comL_ne hxx hyy e hG.out)
          have g3 : (x == y) = false := by simp [e]
          clear hxx hyy e
          go_wp2_with fail
          go_quiet (fail)
          go_wp2
          go_ret
          exact ⟨ret_int (by rw [HE.out]), bl_call Br (Drawn.below ⟨_, rfl⟩ _)⟩
      ·
        have HE := Lib.hid (comL_end2 hy hG.out)
        have g1 : decide (k < xs.length) = true := by simp [hx]
        have g2 : decide (k < ys.length) = false := decide_eq_false (by omega)
        go_wp2_with fail
        go_quiet (fail)
        go_wp2
        go_ret
        exact ⟨ret_int (by rw [HE.out]), bl_call Br (Drawn.below ⟨_, rfl⟩ _)⟩
    ·
      have HE := Lib.hid (comL_end1 hx hG.out)
      have g1 : decide (k < xs.length) = false := decide_eq_false (by omega)
      go_wp2_with fail
      go_quiet (fail)
      go_wp2
      go_ret
      exact ⟨ret_int (by rw [HE.out]), bl_call Br (Drawn.below ⟨_, rfl⟩ _)⟩

set_option maxRecDepth 100000 in
set_option maxHeartbeats 3200000 in
theorem scom_any (va vb : Value) (xs ys : List Int) (w : World) (ha : Sl w va xs) (hb : Sl w vb ys) (lx : xs.length ≤ 1048576) (ly : ys.length ≤ 1048576) :
    Calls Try.prog 74 #[va, vb] w fun e w' => e = .returned (.int .i64 (comL xs ys : Nat)) ∧ Bl w w' := by
  obtain ⟨aa, ca, rfl, hca⟩ := ha.form'
  obtain ⟨ab, cb, rfl, hcb⟩ := hb.form'
  obtain ⟨C, hC⟩ : ∃ C, C = comL xs ys := ⟨_, rfl⟩
  rw [← hC]
  have HC := Lib.hid hC
  have HA := Lib.hid ha
  have HB := Lib.hid hb
  clear ha hb hC
  go_enter Try.func74, Try.ntmps74
  go_wp2
  go_loopw [5] (fun s5 wr => ∃ k : Nat, s5 = .int .i64 k ∧ k ≤ xs.length ∧ k ≤ ys.length ∧ Hid (C = k + comL (xs.drop k) (ys.drop k)) ∧ Bl w wr) (fun s5 _ => xs.length - (intOf s5).toNat)
  case atStart => exact ⟨0, rfl, Nat.zero_le _, Nat.zero_le _, Lib.hid (by rw [HC.out]; simp), bl_refl _⟩
  case round =>
    rcases hrel with ⟨k, rfl, hk1, hk2, hG, Br⟩
    rcases Nat.lt_or_ge k xs.length with hx | hx
    · rcases Nat.lt_or_ge k ys.length with hy | hy
      · obtain ⟨b1, o1, rfl, x, hxx, cx, rx⟩ := HA.out.cellAt' Br hx
        obtain ⟨b2, o2, rfl, y, hyy, cy, ry⟩ := HB.out.cellAt' Br hy
        have i1 : (0 : Int) ≤ (k : Int) := by omega
        have i2 : (k : Int) < (xs.length : Int) := by omega
        have i3 : (k : Int) < (ys.length : Int) := by omega
        have g1 : decide (k < xs.length) = true := by simp [hx]
        have g2 : decide (k < ys.length) = true := by simp [hy]
        by_cases e : x = y
        · subst e
          have HE := Lib.hid (comL_eq hxx hyy hG.out)
          clear hxx hyy
          go_wp2_with fail
          go_quiet (fail)
          go_wp2
          go_roundw
          case rel => exact ⟨k + 1, by go_num, by omega, by omega, HE, bl_call Br (Drawn.below ⟨_, rfl⟩ _)⟩
          case measure => clear HE; simp only [intOf, Int.toNat_natCast]; omega
        ·
          have HE := Lib.hid (comL_ne hxx hyy e hG.out)
          have g3 : (x == y) = false := by simp [e]
          clear hxx hyy e
          go_wp2_with fail
          go_quiet (fail)
          go_wp2
          go_ret
          exact ⟨ret_int (by rw [HE.out]), bl_call Br (Drawn.below ⟨_, rfl⟩ _)⟩
      ·
        have HE := Lib.hid (comL_end2 hy hG.out)
        have g1 : decide (k < xs.length) = true := by simp [hx]
        have g2 : decide (k < ys.length) = false := decide_eq_false (by omega)
        go_wp2_with fail
        go_quiet (fail)
        go_wp2
        go_ret
        exact ⟨ret_int (by rw [HE.out]), bl_call Br (Drawn.below ⟨_, rfl⟩ _)⟩
    ·
      have HE := Lib.hid (comL_end1 hx hG.out)
      have g1 : decide (k < xs.length) = false := decide_eq_false (by omega)
      go_wp2_with fail
      go_quiet (fail)
      go_wp2
      go_ret
      exact ⟨ret_int (by rw [HE.out]), bl_call Br (Drawn.below ⟨_, rfl⟩ _)⟩

end Go.Proofs.Yteejfiflidfciaa
