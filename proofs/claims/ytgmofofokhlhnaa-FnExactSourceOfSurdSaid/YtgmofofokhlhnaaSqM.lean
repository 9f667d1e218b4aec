/- The square root of a small number as a float, cut to a whole number: a small number. Each theorem names its conditions. -/
import Derived.Laws.FloatArith
import Derived.Laws.Cover2
import Derived.Test.YtgmofofokhlhnaaNum
namespace Go.Proofs.Ytgmofofokhlhnaa
open Ieee
set_option linter.unusedVariables false
set_option linter.unusedSimpArgs false

theorem cut_even0 (neg : Bool) (n : Nat) : Toward.even.cut neg n 0 = n := by
  unfold Toward.cut
  have h : (1 <<< min 0 (n.log2 + 2) : Nat) = 1 := by simp
  simp only [h, Nat.div_one, Nat.mod_one]
  simp
theorem log2_lt {n : Nat} (h : n ≠ 0) : 2 ^ n.log2 ≤ n ∧ n < 2 ^ (n.log2 + 1) := ⟨Nat.log2_self_le h, Nat.lt_log2_self⟩
theorem two_pos (k : Nat) : 0 < 2 ^ k := Nat.two_pow_pos k
/-- A number that is rounded to its full digits is at most 2 ^ 53. -/
theorem kept_le {neg : Bool} {M : Nat} (hM : M ≠ 0) : Toward.even.cut neg (M <<< (52 - M.log2)) (M.log2 - 52) ≤ 2 ^ 53 := by
  obtain ⟨h1, h2⟩ := log2_lt hM
  generalize hl : M.log2 = l at *
  rcases Nat.lt_or_ge 52 l with g | g
  · have e : 52 - l = 0 := by omega
    rw [e, Nat.shiftLeft_zero]
    unfold Toward.cut
    rw [hl]
    have hm : min (l - 52) (l + 2) = l - 52 := by omega
    rw [hm]
    have hg : (1 <<< (l - 52) : Nat) = 2 ^ (l - 52) := by rw [Nat.shiftLeft_eq, Nat.one_mul]
    rw [hg]
    have hlow : M / 2 ^ (l - 52) < 2 ^ 53 := by
      rw [Nat.div_lt_iff_lt_mul (two_pos _), ← Nat.pow_add, show 53 + (l - 52) = l + 1 by omega]
      exact h2
    have hmore : ∀ b : Bool, b.toNat ≤ 1 := fun b => by cases b <;> simp
    simp only []
    have := hmore (decide (2 ^ (l - 52) < 2 * (M % 2 ^ (l - 52))) || (2 ^ (l - 52) == 2 * (M % 2 ^ (l - 52)) && M / 2 ^ (l - 52) % 2 == 1))
    omega
  · have e : l - 52 = 0 := by omega
    rw [e, cut_even0, Nat.shiftLeft_eq]
    have : M * 2 ^ (52 - l) < 2 ^ (l + 1) * 2 ^ (52 - l) := Nat.mul_lt_mul_of_pos_right h2 (two_pos _)
    rw [← Nat.pow_add, show l + 1 + (52 - l) = 53 by omega] at this
    omega
/-- Where a number is written whose size is below 2 ^ 13. -/
theorem near_le {M : Nat} {e : Int} (h : e + M.log2 ≤ 12) (he : -200 ≤ e) : ∃ R, double.nearest false M e = R ∧ R ≤ 1040 * 2 ^ 52 := by
  refine ⟨_, rfl, ?_⟩
  unfold Format.nearest
  by_cases hM : M = 0
  · rw [if_pos hM]; simp [Format.word]
  · rw [if_neg hM]
    have hf : (double.fractionBits : Int) = 52 := rfl
    have hlp : double.leastPlace = -1074 := by decide
    have hb : double.binade = 2 ^ 52 := rfl
    have hlast : max (e + (M.log2 : Int) - (double.fractionBits : Int)) double.leastPlace = e + (M.log2 : Int) - 52 := by rw [hf, hlp]; omega
    simp only []
    rw [hlast, hlp, hb]
    have e1 : (e - (e + (M.log2 : Int) - 52)).toNat = 52 - M.log2 := by omega
    have e2 : (e + (M.log2 : Int) - 52 - e).toNat = M.log2 - 52 := by omega
    rw [e1, e2]
    have hk := kept_le (neg := false) hM
    have h3 : (e + (M.log2 : Int) - 52 - -1074).toNat ≤ 1034 := by omega
    generalize Toward.even.cut false (M <<< (52 - M.log2)) (M.log2 - 52) = K at hk
    generalize (e + (M.log2 : Int) - 52 - -1074).toNat = j at h3
    have hmul := Nat.mul_le_mul_right (2 ^ 52) h3
    have hw : ∀ x : Nat, double.word false x = x := fun x => by unfold Format.word; rw [if_neg (by simp)]
    rw [hw]
    clear hlast hlp hb hf e1 e2 hw h he
    have h53 : (2 : Nat) ^ 53 = 2 * 2 ^ 52 := by decide
    rw [h53] at hk
    generalize (2 : Nat) ^ 52 = B at *
    exact Nat.le_trans (Nat.min_le_left _ _) (by omega)
/-- What is read there: a number below 2 ^ 31 when it is cut. -/
theorem read_int {R : Nat} (h : R ≤ 1040 * 2 ^ 52) : ∃ k : Int, floatToIntVal .f64 R .i64 = some k ∧ 0 ≤ k ∧ k ≤ 2147483648 := by
  have hs : double.signWeight = 2 ^ 63 := rfl
  have hb : double.binade = 2 ^ 52 := rfl
  have hi : double.infRung = 2047 * 2 ^ 52 := rfl
  have hlp : double.leastPlace = -1074 := by decide
  have hd0 : R / 2 ^ 63 = 0 := Nat.div_eq_of_lt (by omega)
  have hm0 : R % 2 ^ 63 = R := Nat.mod_eq_of_lt (by omega)
  obtain ⟨mag, pl, hr, hmag, hpl⟩ : ∃ (mag : Nat) (pl : Int), double.read R = .number false mag pl ∧ mag < 2 ^ 53 ∧ pl ≤ -30 := by
    unfold Format.read
    rw [hs, hd0, hm0, hb, hi, hlp]
    simp only []
    by_cases h1 : R < 2 ^ 52
    · rw [if_pos h1]
      exact ⟨R, -1074, rfl, by omega, by omega⟩
    · rw [if_neg h1, if_pos (by omega)]
      have hq : R / 2 ^ 52 ≤ 1040 := by
        rw [Nat.div_le_iff_le_mul_add_pred (by decide)]; omega
      exact ⟨2 ^ 52 + R % 2 ^ 52, _, rfl, by have := Nat.mod_lt R (two_pos 52); omega, by omega⟩
  have hcut : ∃ low : Nat, low ≤ 2147483648 ∧ Toward.zero.cut false (mag <<< pl.toNat) (-pl).toNat = low := by
    have e0 : pl.toNat = 0 := by omega
    rw [e0, Nat.shiftLeft_zero]
    refine ⟨_, ?_, rfl⟩
    unfold Toward.cut
    have hg : ∀ j : Nat, (1 <<< j : Nat) = 2 ^ j := fun j => by rw [Nat.shiftLeft_eq, Nat.one_mul]
    rw [hg]
    simp only [Bool.toNat_false, Nat.add_zero]
    rcases Nat.lt_or_ge (mag.log2 + 2) (-pl).toNat with g | g
    · rw [Nat.min_eq_right (by omega)]
      have hlt : mag < 2 ^ (mag.log2 + 2) := by
        rcases Nat.eq_zero_or_pos mag with z | z
        · rw [z]; exact two_pos _
        · have := (log2_lt (n := mag) (by omega)).2
          have := Nat.pow_le_pow_right (n := 2) (by omega) (show mag.log2 + 1 ≤ mag.log2 + 2 by omega)
          omega
      rw [Nat.div_eq_of_lt hlt]; omega
    · rw [Nat.min_eq_left g]
      have h30 : 2 ^ 22 ≤ 2 ^ (-pl).toNat := Nat.pow_le_pow_right (by omega) (by omega)
      have : mag / 2 ^ (-pl).toNat ≤ mag / 2 ^ 22 := Nat.div_le_div_left h30 (by decide)
      have : mag / 2 ^ 22 < 2 ^ 31 := by rw [Nat.div_lt_iff_lt_mul (by decide)]; omega
      omega
  obtain ⟨low, hl, hc⟩ := hcut
  refine ⟨(low : Int), ?_, by omega, by omega⟩
  unfold floatToIntVal
  have hdec : FloatKind.f64.decode R = .number false mag pl := hr
  have hti : (Datum.number false mag pl).toInt .zero = some (low : Int) := by
    show some (signed false (Toward.zero.cut false (mag <<< pl.toNat) (-pl).toNat) 0) = some (low : Int)
    rw [hc]
    simp [signed]
  rw [hdec, hti]
  refine if_pos ?_
  have : IntKind.i64.min = -9223372036854775808 := by decide
  have : IntKind.i64.max = 9223372036854775807 := by decide
  omega
theorem rootFrom_sq (n todo : Nat) : ∀ root, root * root ≤ n → Datum.rootFrom n todo root * Datum.rootFrom n todo root ≤ n := by
  induction todo with
  | zero => intro root h; exact h
  | succ t ih =>
    intro root h
    rw [Datum.rootFrom]
    split
    · rename_i g; exact ih _ g
    · exact ih _ h

theorem parts {B a K : Nat} (h1 : B ≤ K) (h2 : K < 2 * B) : (a * B + K) / B = a + 1 ∧ (a * B + K) % B = K - B := by
  have e : a * B + K = (K - B) + B * (a + 1) := by rw [Nat.mul_add, Nat.mul_comm B a]; omega
  have hB : 0 < B := by omega
  rw [e]
  refine ⟨?_, ?_⟩
  · rw [Nat.add_mul_div_left _ _ hB, Nat.div_eq_of_lt (by omega)]; omega
  · rw [Nat.add_mul_mod_self_left, Nat.mod_eq_of_lt (by omega)]
theorem near_int {N L : Nat} (hN : N ≠ 0) (hL : N.log2 = L) (h19 : L ≤ 19) : double.read (double.nearest false N 0) = .number false (N * 2 ^ (52 - L)) ((L : Int) - 52) ∧ 2 ^ 52 ≤ N * 2 ^ (52 - L) ∧ N * 2 ^ (52 - L) < 2 ^ 53 := by
  obtain ⟨h1, h2⟩ := log2_lt hN
  rw [hL] at h1 h2
  have b1 : 2 ^ 52 ≤ N * 2 ^ (52 - L) := by
    have := Nat.mul_le_mul_right (2 ^ (52 - L)) h1
    rw [← Nat.pow_add, show L + (52 - L) = 52 by omega] at this
    exact this
  have b2 : N * 2 ^ (52 - L) < 2 ^ 53 := by
    have := Nat.mul_lt_mul_of_pos_right h2 (two_pos (52 - L))
    rw [← Nat.pow_add, show L + 1 + (52 - L) = 53 by omega] at this
    exact this
  refine ⟨?_, b1, b2⟩
  have hf : (double.fractionBits : Int) = 52 := rfl
  have hlp : double.leastPlace = -1074 := by decide
  have hb : double.binade = 2 ^ 52 := rfl
  have hi : double.infRung = 2047 * 2 ^ 52 := rfl
  have hs : double.signWeight = 2048 * 2 ^ 52 := rfl
  have hw : ∀ x : Nat, double.word false x = x := fun x => by unfold Format.word; rw [if_neg (by simp)]
  have hnear : double.nearest false N 0 = (L + 1022) * 2 ^ 52 + N * 2 ^ (52 - L) := by
    unfold Format.nearest
    rw [if_neg hN]
    have hlast : max ((0 : Int) + (N.log2 : Int) - (double.fractionBits : Int)) double.leastPlace = (L : Int) - 52 := by rw [hf, hlp, hL]; omega
    simp only []
    rw [hlast, hlp, hb, hi, hw]
    have e1 : ((0 : Int) - ((L : Int) - 52)).toNat = 52 - L := by omega
    have e2 : ((L : Int) - 52 - 0).toNat = 0 := by omega
    have e3 : ((L : Int) - 52 - -1074).toNat = L + 1022 := by omega
    rw [e1, e2, e3, cut_even0, Nat.shiftLeft_eq]
    have h53 : (2 : Nat) ^ 53 = 2 * 2 ^ 52 := by decide
    rw [h53] at b2
    generalize N * 2 ^ (52 - L) = K at *
    clear hb hi hs hlp hlast e1 e2 e3 h53
    generalize (2 : Nat) ^ 52 = B at *
    have := Nat.mul_le_mul_right B (show L + 1022 ≤ 1041 by omega)
    exact Nat.min_eq_left (by omega)
  rw [hnear]
  have h53 : (2 : Nat) ^ 53 = 2 * 2 ^ 52 := by decide
  rw [h53] at b2
  unfold Format.read
  rw [hs, hb, hi, hlp]
  generalize N * 2 ^ (52 - L) = K at *
  clear hb hi hs hlp hnear h53 h1 h2 hL hN hw
  generalize (2 : Nat) ^ 52 = B at *
  obtain ⟨p1, p2⟩ := parts (a := L + 1022) b1 b2
  have m1 := Nat.mul_le_mul_right B (show L + 1022 ≤ 1041 by omega)
  have m2 := Nat.mul_le_mul_right B (show 0 ≤ L + 1022 by omega)
  have hd0 : ((L + 1022) * B + K) / (2048 * B) = 0 := Nat.div_eq_of_lt (by omega)
  have hm0 : ((L + 1022) * B + K) % (2048 * B) = (L + 1022) * B + K := Nat.mod_eq_of_lt (by omega)
  rw [hd0, hm0]
  simp only []
  rw [if_neg (by omega), if_pos (by omega), p1, p2]
  have e4 : B + (K - B) = K := by omega
  have e5 : (-1074 : Int) + ((L + 1022 + 1 - 1 : Nat) : Int) = (L : Int) - 52 := by omega
  rw [e4, e5]
  rfl
theorem sq_bd {x : Nat} {k : Nat} (h : x * x < 2 ^ (2 * k)) : x < 2 ^ k := by
  rcases Nat.lt_or_ge x (2 ^ k) with g | g
  · exact g
  · have := Nat.mul_le_mul g g
    rw [← Nat.pow_add, show k + k = 2 * k by omega] at this
    omega
/-- The program's first guess at a root is a small number. -/
theorem sqrt_int {n : Int} (h1 : 1 ≤ n) (h2 : n ≤ 1000000) : ∃ r k, FloatKind.f64.format.sqrt (floatOfInt .f64 n) = some r ∧ floatToIntVal .f64 r .i64 = some k ∧ 0 ≤ k ∧ k ≤ 2147483648 := by
  obtain ⟨N, rfl⟩ := Int.eq_ofNat_of_zero_le (show 0 ≤ n by omega)
  have hN : N ≠ 0 := by omega
  have hL : N.log2 ≤ 19 := by
    have := (log2_lt hN).1
    rcases Nat.lt_or_ge 19 N.log2 with g | g
    · have := Nat.pow_le_pow_right (n := 2) (by omega) (show 20 ≤ N.log2 by omega)
      omega
    · exact g
  obtain ⟨hr, hK1, hK2⟩ := near_int hN rfl hL
  have ef : floatOfInt .f64 (N : Int) = double.nearest false N 0 := by
    show double.nearest (decide ((N : Int) < 0)) (N : Int).natAbs 0 = _
    rw [show decide ((N : Int) < 0) = false by simp, Int.natAbs_natCast]
  generalize hKe : N * 2 ^ (52 - N.log2) = K at hr hK1 hK2
  have hroot : ∃ (M : Nat) (e : Int), (double.read (double.nearest false N 0)).root 54 = some (.number false M e) ∧ e + M.log2 ≤ 12 ∧ -200 ≤ e := by
    rw [hr]
    have hK0 : K ≠ 0 := by omega
    have hl : K.log2 = 52 := by
      have a := (log2_lt hK0).1
      have b := (log2_lt hK0).2
      rcases Nat.lt_trichotomy K.log2 52 with g | g | g
      · have := Nat.pow_le_pow_right (n := 2) (by omega) (show K.log2 + 1 ≤ 52 by omega)
        omega
      · exact g
      · have := Nat.pow_le_pow_right (n := 2) (by omega) (show 53 ≤ K.log2 by omega)
        omega
    simp only [Datum.root, hK0, if_false, hl]
    have hmo : ∃ mo : Nat, 2 * 54 - 52 + (((N.log2 : Int) - 52 - ((2 * 54 - 52 : Nat) : Int)) % 2).toNat = mo ∧ 56 ≤ mo ∧ mo ≤ 57 := ⟨_, rfl, by omega, by omega⟩
    obtain ⟨mo, hmoe, hm1, hm2⟩ := hmo
    simp only [Bool.false_eq_true, if_false]
    simp only [Nat.reduceMul, Nat.reduceSub] at hmoe ⊢
    rw [hmoe]
    have hsq := rootFrom_sq (K <<< mo) ((K <<< mo).log2 / 2 + 1) 0 (Nat.zero_le _)
    generalize Datum.rootFrom (K <<< mo) ((K <<< mo).log2 / 2 + 1) 0 = whole at hsq ⊢
    have hw : whole < 2 ^ 55 := by
      refine sq_bd (k := 55) (Nat.lt_of_le_of_lt hsq ?_)
      rw [Nat.shiftLeft_eq]
      have a := Nat.mul_lt_mul_of_pos_right hK2 (two_pos mo)
      rw [← Nat.pow_add] at a
      exact Nat.lt_of_lt_of_le a (Nat.pow_le_pow_right (by omega) (by omega))
    have hb : ∀ b : Bool, b.toNat ≤ 1 := fun b => by cases b <;> simp
    refine ⟨_, _, rfl, ?_, by omega⟩
    have hM : 2 * whole + (whole * whole != K <<< mo).toNat < 2 ^ 56 := by
      have := hb (whole * whole != K <<< mo)
      have e56 : (2 : Nat) ^ 56 = 2 * 2 ^ 55 := by decide
      rw [e56]
      generalize (2 : Nat) ^ 55 = B at *
      omega
    have hlog : (2 * whole + (whole * whole != K <<< mo).toNat).log2 ≤ 55 := by
      generalize 2 * whole + (whole * whole != K <<< mo).toNat = M at hM
      rcases Nat.eq_zero_or_pos M with z | z
      · rw [z]; decide
      · rcases Nat.lt_or_ge 55 M.log2 with g | g
        · have := (log2_lt (n := M) (by omega)).1
          have := Nat.pow_le_pow_right (n := 2) (by omega) (show 56 ≤ M.log2 by omega)
          omega
        · exact g
    omega
  obtain ⟨M, e, he, hle, hge⟩ := hroot
  obtain ⟨R, hR, hR2⟩ := near_le hle hge
  obtain ⟨k, hk, k0, k1⟩ := read_int hR2
  refine ⟨R, k, ?_, hk, k0, k1⟩
  rw [ef]
  show ((double.read (double.nearest false N 0)).root 54).map double.write = some R
  rw [he]
  show some (double.nearest false M e) = some R
  rw [hR]

end Go.Proofs.Ytgmofofokhlhnaa
