/- The numeric leaves: bounds, absolute values, greatest common divisors, floors, comparisons. Each theorem names its conditions. -/
import Derived.Test.YtndblondleclpaaGreatDoorBase
namespace Go.Proofs.YtndblondleclpaaGreatDoor
open Go.RowKit
set_option linter.unusedVariables false
set_option linter.unusedSimpArgs false

/-- low ≤ n ≤ high, as a Bool of its own. -/
def inB (n lo hi : Int) : Bool := decide (lo ≤ n) && decide (n ≤ hi)
theorem inB_iff {n lo hi : Int} : inB n lo hi = true ↔ lo ≤ n ∧ n ≤ hi := by simp [inB]
theorem inB_no {n lo hi : Int} (h : ¬ (lo ≤ n ∧ n ≤ hi)) : inB n lo hi = false := by
  cases e : inB n lo hi
  · rfl
  · exact absurd (inB_iff.1 e) h

theorem in_any (n lo hi : Int) (w : World) : Calls Tryz.prog 49 #[.int .i64 n, .int .i64 lo, .int .i64 hi] w fun e w' => e = .returned (.bool (inB n lo hi)) ∧ w = w' := by
  by_cases h1 : lo ≤ n
  · by_cases h2 : n ≤ hi
    · go_enter Tryz.func49, Tryz.ntmps49
      go_wp2
      go_ret
      exact ⟨ret_bool (by simp [inB, h1, h2]), rfl⟩
    · go_enter Tryz.func49, Tryz.ntmps49
      go_wp2
      go_ret
      exact ⟨ret_bool (inB_no (by omega)).symm, rfl⟩
  · go_enter Tryz.func49, Tryz.ntmps49
    go_wp2
    go_ret
    exact ⟨ret_bool (inB_no (by omega)).symm, rfl⟩

theorem within_any (n lo hi : Int) (w : World) : Calls Tryz.prog 46 #[.int .i64 n, .int .i64 lo, .int .i64 hi] w fun e w' => e = .returned (.bool (inB n lo hi)) ∧ w = w' := by
  by_cases h1 : lo ≤ n
  · by_cases h2 : n ≤ hi
    · go_enter Tryz.func46, Tryz.ntmps46
      go_wp2
      go_ret
      exact ⟨ret_bool (by simp [inB, h1, h2]), rfl⟩
    · go_enter Tryz.func46, Tryz.ntmps46
      go_wp2
      go_ret
      exact ⟨ret_bool (inB_no (by omega)).symm, rfl⟩
  · go_enter Tryz.func46, Tryz.ntmps46
    go_wp2
    go_ret
    exact ⟨ret_bool (inB_no (by omega)).symm, rfl⟩

/-- The absolute value. -/
def ab (n : Int) : Int := n.natAbs
theorem ab_nonneg (n : Int) : 0 ≤ ab n := by unfold ab; omega
theorem ab_pos {n : Int} (h : 0 ≤ n) : ab n = n := by unfold ab; omega
theorem ab_neg {n : Int} (h : n ≤ 0) : ab n = -n := by unfold ab; omega
theorem ab_le {n m : Int} (h : -m ≤ n ∧ n ≤ m) : ab n ≤ m := by unfold ab; omega

theorem abs_any (n : Int) (w : World) (h : -9223372036854775808 < n) : Calls Tryz.prog 154 #[.int .i64 n] w fun e w' => e = .returned (.int .i64 (ab n)) ∧ w = w' := by
  by_cases c : n < 0
  · by_cases h2 : n ≤ 9223372036854775807
    · go_enter Tryz.func154, Tryz.ntmps154
      go_wp2
      go_ret
      exact ⟨ret_int (ab_neg (by omega)).symm, rfl⟩
    · omega
  · go_enter Tryz.func154, Tryz.ntmps154
    go_wp2
    go_ret
    exact ⟨ret_int (ab_pos (by omega)).symm, rfl⟩

theorem size_any (n : Int) (w : World) (h : -9223372036854775808 < n) : Calls Tryz.prog 123 #[.int .i64 n] w fun e w' => e = .returned (.int .i64 (ab n)) ∧ w = w' := by
  by_cases c : n < 0
  · go_enter Tryz.func123, Tryz.ntmps123
    go_wp2
    go_ret
    exact ⟨ret_int (ab_neg (by omega)).symm, rfl⟩
  · go_enter Tryz.func123, Tryz.ntmps123
    go_wp2
    go_ret
    exact ⟨ret_int (ab_pos (by omega)).symm, rfl⟩

/-- A world that has drawn some answers more. -/
def Drawn (w w' : World) : Prop := ∃ n, w' = w.drewN n
theorem Drawn.refl (w : World) : Drawn w w := ⟨0, rfl⟩
theorem Drawn.below {w w' : World} (h : Drawn w w') (B : Nat) : Below B w w' := by
  obtain ⟨n, rfl⟩ := h
  exact ⟨rfl, rfl, rfl, Nat.le_refl _, fun _ _ => rfl⟩

theorem Drawn.more {w w' : World} (h : Drawn w w') (n : Nat) : Drawn w (w'.drewN n) := by
  obtain ⟨m, rfl⟩ := h
  exact ⟨m + n, World.drewN_drewN _ _ _⟩

/-- The greatest common divisor, as an integer. -/
def gcdI (a b : Int) : Int := (Int.gcd a b : Nat)
theorem gcdI_zero (a : Int) (h : 0 ≤ a) : gcdI a 0 = a := by simp [gcdI]; omega
theorem gcdI_step (p q : Int) (hp : 0 ≤ p) (hq : 0 < q) : gcdI q (p % q) = gcdI p q := by
  obtain ⟨a, rfl⟩ := Int.eq_ofNat_of_zero_le hp
  obtain ⟨b, rfl⟩ := Int.eq_ofNat_of_zero_le (Int.le_of_lt hq)
  have e : ((a : Int) % (b : Int)) = ((a % b : Nat) : Int) := by omega
  rw [e]
  simp only [gcdI, Int.gcd, Int.natAbs_natCast]
  rw [Nat.gcd_comm a b, Nat.gcd_rec b a, Nat.gcd_comm]
theorem gcdI_ab (a b : Int) : gcdI (ab a) (ab b) = gcdI a b := by simp [gcdI, ab, Int.gcd]

set_option maxHeartbeats 400000 in
theorem lgcd_any (a b : Int) (w : World) (h1 : 0 ≤ a) (h2 : 0 ≤ b) (h3 : b ≤ 9223372036854775807) :
    Calls Tryz.prog 84 #[.int .i64 a, .int .i64 b] w fun e w' => e = .returned (.int .i64 (gcdI a b)) ∧ w = w' := by
  go_enter Tryz.func84, Tryz.ntmps84
  go_wp2
  go_loop [0, 1] (fun x y => ∃ p q : Int, 0 ≤ p ∧ 0 ≤ q ∧ q ≤ 9223372036854775807 ∧ x = .int .i64 p ∧ y = .int .i64 q ∧ gcdI p q = gcdI a b) (fun _ y => (intOf y).toNat)
  case atStart => exact ⟨a, b, h1, h2, h3, rfl, rfl, rfl⟩
  case round =>
    obtain ⟨p, q, hp, hq, hq3, rfl, rfl, hg⟩ := hrel
    have HG := Lib.hid hg
    clear hg
    by_cases hq0 : q = 0
    · subst hq0
      go_wp2
      go_ret
      exact ⟨ret_int (by rw [← HG.out, gcdI_zero p hp]), rfl⟩
    · have h0 : (q != 0) = true := by simp [hq0]
      have hm1 := Int.emod_nonneg p hq0
      have hm2 := Int.emod_lt_of_pos p (b := q) (by omega)
      have hq1 : 0 < q := by omega
      clear hq0
      go_wp2
      go_round
      case rel => exact ⟨q, p % q, by omega, by omega, by omega, rfl, rfl, by rw [gcdI_step p q hp hq1]; exact HG.out⟩
      case measure => simp [intOf]; omega

set_option maxHeartbeats 400000 in
theorem gcd_any (a b : Int) (w : World) (ha : -9223372036854775808 < a) (hb : -9223372036854775808 < b) (hb' : b ≤ 9223372036854775807) :
    Calls Tryz.prog 124 #[.int .i64 a, .int .i64 b] w fun e w' => e = .returned (.int .i64 (gcdI a b)) ∧ Drawn w w' := by
  have HA := Lib.hid (gcdI_ab a b)
  have ha0 := ab_nonneg a
  have hb0 := ab_nonneg b
  have hb1 : ab b ≤ 9223372036854775807 := ab_le (by omega)
  go_enter Tryz.func124, Tryz.ntmps124
  go_wp2_with (go_at_call 154; refine (abs_any _ _ (by omega)).mono ?_; rintro e w' ⟨rfl, rfl⟩)
  go_loopw [0, 1] (fun x y wr => ∃ p q : Int, 0 ≤ p ∧ 0 ≤ q ∧ q ≤ 9223372036854775807 ∧ x = .int .i64 p ∧ y = .int .i64 q ∧ gcdI p q = gcdI a b ∧ Drawn w wr) (fun _ y _ => (intOf y).toNat)
  case atStart => exact ⟨ab a, ab b, ha0, hb0, hb1, rfl, rfl, HA.out, Drawn.refl _⟩
  case round =>
    obtain ⟨p, q, hp, hq, hq3, rfl, rfl, hg, n, rfl⟩ := hrel
    have HG := Lib.hid hg
    clear hg
    by_cases hq0 : q = 0
    · subst hq0
      go_wp2
      go_ret
      exact ⟨ret_int (by rw [← HG.out, gcdI_zero p hp]), n, rfl⟩
    · have h0 : (q != 0) = true := by simp [hq0]
      have hm1 := Int.emod_nonneg p hq0
      have hm2 := Int.emod_lt_of_pos p (b := q) (by omega)
      have hq1 : 0 < q := by omega
      clear hq0
      go_wp2
      go_quiet (fail)
      go_wp2
      go_roundw
      case rel => exact ⟨q, p % q, by omega, by omega, by omega, rfl, rfl, by rw [gcdI_step p q hp hq1]; exact HG.out, Drawn.more ⟨n, rfl⟩ _⟩
      case measure => simp [intOf]; omega

/-- The quotient of a negative number, cut towards nought, and its floor. -/
theorem neg_quo (a b : Int) (ha : a < 0) (hb : 0 < b) : (a.tmod b = 0 → a.tdiv b = a / b) ∧ (a.tmod b ≠ 0 → a.tdiv b - 1 = a / b) ∧ a.tmod b ≤ 0 ∧ a ≤ a.tdiv b ∧ a.tdiv b ≤ 0 := by
  have e := Int.mul_tdiv_add_tmod a b
  have e1 : a.tmod b = -((-a).tmod b) := by rw [Int.neg_tmod]; omega
  have e2 : a.tdiv b = -((-a).tdiv b) := by rw [Int.neg_tdiv]; omega
  have m1 := Int.tmod_nonneg b (a := -a) (by omega)
  have m2 := Int.tmod_lt_of_pos (-a) hb
  have d1 := Int.tdiv_nonneg (a := -a) (b := b) (by omega) (by omega)
  have d2 : (-a).tdiv b ≤ -a := by
    rw [Int.tdiv_eq_ediv_of_nonneg (by omega)]
    exact Int.ediv_le_self _ (by omega)
  refine ⟨fun h => ?_, fun h => ?_, by omega, by omega, by omega⟩
  · exact ((Int.ediv_emod_unique (a := a) (b := b) (r := 0) (q := a.tdiv b) hb).2 ⟨by omega, by omega, by omega⟩).1.symm
  · refine ((Int.ediv_emod_unique (a := a) (b := b) (r := a.tmod b + b) (q := a.tdiv b - 1) hb).2 ⟨?_, by omega, by omega⟩).1.symm
    rw [Int.mul_sub]
    omega

set_option maxHeartbeats 400000 in
theorem floor_any (a b : Int) (w : World) (h1 : -9223372036854775808 < a) (h2 : a ≤ 9223372036854775807) (hb : 0 < b) (hb2 : b ≤ 9223372036854775807) :
    Calls Tryz.prog 181 #[.int .i64 a, .int .i64 b] w fun e w' => e = .returned (.int .i64 (a / b)) ∧ w = w' := by
  have hz : (b == 0) = false := by simp; omega
  by_cases c : 0 ≤ a
  · have hm := Int.emod_nonneg a (b := b) (by omega)
    go_enter Tryz.func181, Tryz.ntmps181
    go_wp2
    go_ret
    exact ⟨rfl, rfl⟩
  · obtain ⟨q1, q2, q3, q4, q5⟩ := neg_quo a b (by omega) hb
    by_cases hm : a.tmod b = 0
    · have Q := Lib.hid (q1 hm)
      have hn : ¬ a.tmod b < 0 := by omega
      clear q1 q2 hm
      go_enter Tryz.func181, Tryz.ntmps181
      go_wp2
      go_ret
      exact ⟨ret_int Q.out, rfl⟩
    · have Q := Lib.hid (q2 hm)
      have hn : a.tmod b < 0 := by omega
      clear q1 q2 hm
      go_enter Tryz.func181, Tryz.ntmps181
      go_wp2
      go_ret
      exact ⟨ret_int Q.out, rfl⟩

set_option maxHeartbeats 400000 in
theorem fdiv_any (a b : Int) (w : World) (h1 : -9223372036854775808 < a) (h2 : a ≤ 9223372036854775807) (hb : 0 < b) (hb2 : b ≤ 9223372036854775807) :
    Calls Tryz.prog 125 #[.int .i64 a, .int .i64 b] w fun e w' => e = .returned (.int .i64 (a / b)) ∧ w = w' := by
  have hz : (b == 0) = false := by simp; omega
  have hbn : decide (b < 0) = false := by simp; omega
  by_cases c : 0 ≤ a
  · have hm := Int.emod_nonneg a (b := b) (by omega)
    have han : decide (a < 0) = false := by simp; omega
    by_cases h0 : a % b = 0
    · have h0' : (a % b != 0) = false := by simp [h0]
      clear h0
      go_enter Tryz.func125, Tryz.ntmps125
      go_wp2
      go_ret
      exact ⟨rfl, rfl⟩
    · have h0' : (a % b != 0) = true := by simp [h0]
      clear h0
      go_enter Tryz.func125, Tryz.ntmps125
      go_wp2
      go_ret
      exact ⟨rfl, rfl⟩
  · obtain ⟨q1, q2, q3, q4, q5⟩ := neg_quo a b (by omega) hb
    have han : decide (a < 0) = true := by simp; omega
    by_cases hm : a.tmod b = 0
    · have Q := Lib.hid (q1 hm)
      have h0' : (a.tmod b != 0) = false := by simp [hm]
      clear q1 q2 hm
      go_enter Tryz.func125, Tryz.ntmps125
      go_wp2
      go_ret
      exact ⟨ret_int Q.out, rfl⟩
    · have Q := Lib.hid (q2 hm)
      have h0' : (a.tmod b != 0) = true := by simp [hm]
      clear q1 q2 hm
      go_enter Tryz.func125, Tryz.ntmps125
      go_wp2
      go_ret
      exact ⟨ret_int Q.out, rfl⟩

/-- A plain fraction. -/
def okF (n d : Int) : Bool := inB d 1 1000000000 && inB n (-1000000000) 1000000000 && (gcdI n d == 1)
theorem okF_iff {n d : Int} : okF n d = true ↔ (1 ≤ d ∧ d ≤ 1000000000) ∧ (-1000000000 ≤ n ∧ n ≤ 1000000000) ∧ gcdI n d = 1 := by
  simp [okF, inB_iff, and_assoc]

set_option maxHeartbeats 400000 in
theorem validF_any (n d : Int) (w : World) :
    Calls Tryz.prog 78 #[.agg #[.int .i64 n, .int .i64 d]] w fun e w' => e = .returned (.bool (okF n d)) ∧ Below w.heap.size w w' := by
  cases e1 : inB d 1 1000000000 with
  | false =>
    go_enter Tryz.func78, Tryz.ntmps78
    go_wp2_with (go_at_call 46; refine (within_any _ _ _ _).mono ?_; rintro e w' ⟨rfl, rfl⟩)
    go_ret
    exact ⟨ret_bool (by simp [okF, e1]), (Below.refl _ _).alloc (Nat.le_refl _) _⟩
  | true =>
    cases e2 : inB n (-1000000000) 1000000000 with
    | false =>
      go_enter Tryz.func78, Tryz.ntmps78
      go_wp2_with (go_at_call 46; refine (within_any _ _ _ _).mono ?_; rintro e w' ⟨rfl, rfl⟩)
      go_ret
      exact ⟨ret_bool (by simp [okF, e1, e2]), (Below.refl _ _).alloc (Nat.le_refl _) _⟩
    | true =>
      have hd := inB_iff.1 e1
      have hn := inB_iff.1 e2
      go_enter Tryz.func78, Tryz.ntmps78
      go_wp2_with (first | (go_at_call 46; refine (within_any _ _ _ _).mono ?_; rintro e w' ⟨rfl, rfl⟩) | (go_at_call 124; refine (gcd_any _ _ _ (by omega) (by omega) (by omega)).mono ?_; rintro e w' ⟨rfl, nd, rfl⟩))
      go_ret
      exact ⟨ret_bool (by simp [okF, e1, e2]), ((Below.refl _ _).alloc (Nat.le_refl _) _).trans (Drawn.below ⟨nd, rfl⟩ _)⟩

theorem lsize_any (a : Option Addr) (n c : Nat) (w : World) (hn : n ≤ 9223372036854775807) : Calls Tryz.prog 54 #[.slice a n c] w fun e w' => e = .returned (.int .i64 n) ∧ w = w' := by
  go_enter Tryz.func54, Tryz.ntmps54
  go_wp2
  go_ret
  exact ⟨rfl, rfl⟩

end Go.Proofs.YtndblondleclpaaGreatDoor
