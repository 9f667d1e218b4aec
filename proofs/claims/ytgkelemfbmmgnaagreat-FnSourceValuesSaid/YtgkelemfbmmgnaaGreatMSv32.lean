/- Some of the texts of this claim, joined in one file: SqM, SurdI. -/
import Derived.Laws.FloatArith
import Derived.Laws.Cover2
import Derived.Test.YtgkelemfbmmgnaaGreatMSv1
import Derived.Test.YtgkelemfbmmgnaaGreatMSv11
import Derived.Laws.Externs
/- The square root of a small number as a float, cut to a whole number: a small number. Each theorem names its conditions. -/
namespace Go.Proofs.YtgkelemfbmmgnaaGreat
open Ieee
set_option linter.unusedVariables false
set_option linter.unusedSimpArgs false

theorem cut_even0 (neg : Bool) (n : Nat) : Toward.even.cut neg n 0 = n := by
  unfold Toward.cut
  have h : (1 <<< min 0 (n.log2 + 2) : Nat) = 1 := by simp
  simp only [h, Nat.div_one, Nat.mod_one]
  simp
theorem log2_lt {n : Nat} (h : n ≠ 0) : 2 ^ n.log2 ≤ n ∧ n < 2 ^ (n.log2 + 1) := ⟨Nat.log2_self_le h, Nat.lt_log2_self⟩
theorem two_pos (k : Nat) : 0 < 2 ^ k := Nat.two_pow_pos k
/-- A number that is rounded to its full digits is at most 2 ^ 53. -/
theorem kept_le {neg : Bool} {M : Nat} (hM : M ≠ 0) : Toward.even.cut neg (M <<< (52 - M.log2)) (M.log2 - 52) ≤ 2 ^ 53 := by
  obtain ⟨h1, h2⟩ := log2_lt hM
  generalize hl : M.log2 = l at *
  rcases Nat.lt_or_ge 52 l with g | g
  · have e : 52 - l = 0 := by omega
    rw [e, Nat.shiftLeft_zero]
    unfold Toward.cut
    rw [hl]
    have hm : min (l - 52) (l + 2) = l - 52 := by omega
    rw [hm]
    have hg : (1 <<< (l - 52) : Nat) = 2 ^ (l - 52) := by rw [Nat.shiftLeft_eq, Nat.one_mul]
    rw [hg]
    have hlow : M / 2 ^ (l - 52) < 2 ^ 53 := by
      rw [Nat.div_lt_iff_lt_mul (two_pos _), ← Nat.pow_add, show 53 + (l - 52) = l + 1 by omega]
      exact h2
    have hmore : ∀ b : Bool, b.toNat ≤ 1 := fun b => by cases b <;> simp
    simp only []
    have := hmore (decide (2 ^ (l - 52) < 2 * (M % 2 ^ (l - 52))) || (2 ^ (l - 52) == 2 * (M % 2 ^ (l - 52)) && M / 2 ^ (l - 52) % 2 == 1))
    omega
  · have e : l - 52 = 0 := by omega
    rw [e, cut_even0, Nat.shiftLeft_eq]
    have : M * 2 ^ (52 - l) < 2 ^ (l + 1) * 2 ^ (52 - l) := Nat.mul_lt_mul_of_pos_right h2 (two_pos _)
    rw [← Nat.pow_add, show l + 1 + (52 - l) = 53 by omega] at this
    omega
/-- Where a number is written whose size is below 2 ^ 13. -/
theorem near_le {M : Nat} {e : Int} (h : e + M.log2 ≤ 12) (he : -200 ≤ e) : ∃ R, double.nearest false M e = R ∧ R ≤ 1040 * 2 ^ 52 := by
  refine ⟨_, rfl, ?_⟩
  unfold Format.nearest
  by_cases hM : M = 0
  · rw [if_pos hM]; simp [Format.word]
  · rw [if_neg hM]
    have hf : (double.fractionBits : Int) = 52 := rfl
    have hlp : double.leastPlace = -1074 := by decide
    have hb : double.binade = 2 ^ 52 := rfl
    have hlast : max (e + (M.log2 : Int) - (double.fractionBits : Int)) double.leastPlace = e + (M.log2 : Int) - 52 := by rw [hf, hlp]; omega
    simp only []
    rw [hlast, hlp, hb]
    have e1 : (e - (e + (M.log2 : Int) - 52)).toNat = 52 - M.log2 := by omega
    have e2 : (e + (M.log2 : Int) - 52 - e).toNat = M.log2 - 52 := by omega
    rw [e1, e2]
    have hk := kept_le (neg := false) hM
    have h3 : (e + (M.log2 : Int) - 52 - -1074).toNat ≤ 1034 := by omega
    generalize Toward.even.cut false (M <<< (52 - M.log2)) (M.log2 - 52) = K at hk
    generalize (e + (M.log2 : Int) - 52 - -1074).toNat = j at h3
    have hmul := Nat.mul_le_mul_right (2 ^ 52) h3
    have hw : ∀ x : Nat, double.word false x = x := fun x => by unfold Format.word; rw [if_neg (by simp)]
    rw [hw]
    clear hlast hlp hb hf e1 e2 hw h he
    have h53 : (2 : Nat) ^ 53 = 2 * 2 ^ 52 := by decide
    rw [h53] at hk
    generalize (2 : Nat) ^ 52 = B at *
    exact Nat.le_trans (Nat.min_le_left _ _) (by omega)
/-- What is read there: a number below 2 ^ 31 when it is cut. -/
theorem read_int {R : Nat} (h : R ≤ 1040 * 2 ^ 52) : ∃ k : Int, floatToIntVal .f64 R .i64 = some k ∧ 0 ≤ k ∧ k ≤ 2147483648 := by
  have hs : double.signWeight = 2 ^ 63 := rfl
  have hb : double.binade = 2 ^ 52 := rfl
  have hi : double.infRung = 2047 * 2 ^ 52 := rfl
  have hlp : double.leastPlace = -1074 := by decide
  have hd0 : R / 2 ^ 63 = 0 := Nat.div_eq_of_lt (by omega)
  have hm0 : R % 2 ^ 63 = R := Nat.mod_eq_of_lt (by omega)
  obtain ⟨mag, pl, hr, hmag, hpl⟩ : ∃ (mag : Nat) (pl : Int), double.read R = .number false mag pl ∧ mag < 2 ^ 53 ∧ pl ≤ -30 := by
    unfold Format.read
    rw [hs, hd0, hm0, hb, hi, hlp]
    simp only []
    by_cases h1 : R < 2 ^ 52
    · rw [if_pos h1]
      exact ⟨R, -1074, rfl, by omega, by omega⟩
    · rw [if_neg h1, if_pos (by omega)]
      have hq : R / 2 ^ 52 ≤ 1040 := by
        rw [Nat.div_le_iff_le_mul_add_pred (by decide)]; omega
      exact ⟨2 ^ 52 + R % 2 ^ 52, _, rfl, by have := Nat.mod_lt R (two_pos 52); omega, by omega⟩
  have hcut : ∃ low : Nat, low ≤ 2147483648 ∧ Toward.zero.cut false (mag <<< pl.toNat) (-pl).toNat = low := by
    have e0 : pl.toNat = 0 := by omega
    rw [e0, Nat.shiftLeft_zero]
    refine ⟨_, ?_, rfl⟩
    unfold Toward.cut
    have hg : ∀ j : Nat, (1 <<< j : Nat) = 2 ^ j := fun j => by rw [Nat.shiftLeft_eq, Nat.one_mul]
    rw [hg]
    simp only [Bool.toNat_false, Nat.add_zero]
    rcases Nat.lt_or_ge (mag.log2 + 2) (-pl).toNat with g | g
    · rw [Nat.min_eq_right (by omega)]
      have hlt : mag < 2 ^ (mag.log2 + 2) := by
        rcases Nat.eq_zero_or_pos mag with z | z
        · rw [z]; exact two_pos _
        · have := (log2_lt (n := mag) (by omega)).2
          have := Nat.pow_le_pow_right (n := 2) (by omega) (show mag.log2 + 1 ≤ mag.log2 + 2 by omega)
          omega
      rw [Nat.div_eq_of_lt hlt]; omega
    · rw [Nat.min_eq_left g]
      have h30 : 2 ^ 22 ≤ 2 ^ (-pl).toNat := Nat.pow_le_pow_right (by omega) (by omega)
      have : mag / 2 ^ (-pl).toNat ≤ mag / 2 ^ 22 := Nat.div_le_div_left h30 (by decide)
      have : mag / 2 ^ 22 < 2 ^ 31 := by rw [Nat.div_lt_iff_lt_mul (by decide)]; omega
      omega
  obtain ⟨low, hl, hc⟩ := hcut
  refine ⟨(low : Int), ?_, by omega, by omega⟩
  unfold floatToIntVal
  have hdec : FloatKind.f64.decode R = .number false mag pl := hr
  have hti : (Datum.number false mag pl).toInt .zero = some (low : Int) := by
    show some (signed false (Toward.zero.cut false (mag <<< pl.toNat) (-pl).toNat) 0) = some (low : Int)
    rw [hc]
    simp [signed]
  rw [hdec, hti]
  refine if_pos ?_
  have : IntKind.i64.min = -9223372036854775808 := by decide
  have : IntKind.i64.max = 9223372036854775807 := by decide
  omega
theorem rootFrom_sq (n todo : Nat) : ∀ root, root * root ≤ n → Datum.rootFrom n todo root * Datum.rootFrom n todo root ≤ n := by
  induction todo with
  | zero => intro root h; exact h
  | succ t ih =>
    intro root h
    rw [Datum.rootFrom]
    split
    · rename_i g; exact ih _ g
    · exact ih _ h

theorem parts {B a K : Nat} (h1 : B ≤ K) (h2 : K < 2 * B) : (a * B + K) / B = a + 1 ∧ (a * B + K) % B = K - B := by
  have e : a * B + K = (K - B) + B * (a + 1) := by rw [Nat.mul_add, Nat.mul_comm B a]; omega
  have hB : 0 < B := by omega
  rw [e]
  refine ⟨?_, ?_⟩
  · rw [Nat.add_mul_div_left _ _ hB, Nat.div_eq_of_lt (by omega)]; omega
  · rw [Nat.add_mul_mod_self_left, Nat.mod_eq_of_lt (by omega)]
theorem near_int {N L : Nat} (hN : N ≠ 0) (hL : N.log2 = L) (h19 : L ≤ 19) : double.read (double.nearest false N 0) = .number false (N * 2 ^ (52 - L)) ((L : Int) - 52) ∧ 2 ^ 52 ≤ N * 2 ^ (52 - L) ∧ N * 2 ^ (52 - L) < 2 ^ 53 := by
  obtain ⟨h1, h2⟩ := log2_lt hN
  rw [hL] at h1 h2
  have b1 : 2 ^ 52 ≤ N * 2 ^ (52 - L) := by
    have := Nat.mul_le_mul_right (2 ^ (52 - L)) h1
    rw [← Nat.pow_add, show L + (52 - L) = 52 by omega] at this
    exact this
  have b2 : N * 2 ^ (52 - L) < 2 ^ 53 := by
    have := Nat.mul_lt_mul_of_pos_right h2 (two_pos (52 - L))
    rw [← Nat.pow_add, show L + 1 + (52 - L) = 53 by omega] at this
    exact this
  refine ⟨?_, b1, b2⟩
  have hf : (double.fractionBits : Int) = 52 := rfl
  have hlp : double.leastPlace = -1074 := by decide
  have hb : double.binade = 2 ^ 52 := rfl
  have hi : double.infRung = 2047 * 2 ^ 52 := rfl
  have hs : double.signWeight = 2048 * 2 ^ 52 := rfl
  have hw : ∀ x : Nat, double.word false x = x := fun x => by unfold Format.word; rw [if_neg (by simp)]
  have hnear : double.nearest false N 0 = (L + 1022) * 2 ^ 52 + N * 2 ^ (52 - L) := by
    unfold Format.nearest
    rw [if_neg hN]
    have hlast : max ((0 : Int) + (N.log2 : Int) - (double.fractionBits : Int)) double.leastPlace = (L : Int) - 52 := by rw [hf, hlp, hL]; omega
    simp only []
    rw [hlast, hlp, hb, hi, hw]
    have e1 : ((0 : Int) - ((L : Int) - 52)).toNat = 52 - L := by omega
    have e2 : ((L : Int) - 52 - 0).toNat = 0 := by omega
    have e3 : ((L : Int) - 52 - -1074).toNat = L + 1022 := by omega
    rw [e1, e2, e3, cut_even0, Nat.shiftLeft_eq]
    have h53 : (2 : Nat) ^ 53 = 2 * 2 ^ 52 := by decide
    rw [h53] at b2
    generalize N * 2 ^ (52 - L) = K at *
    clear hb hi hs hlp hlast e1 e2 e3 h53
    generalize (2 : Nat) ^ 52 = B at *
    have := Nat.mul_le_mul_right B (show L + 1022 ≤ 1041 by omega)
    exact Nat.min_eq_left (by omega)
  rw [hnear]
  have h53 : (2 : Nat) ^ 53 = 2 * 2 ^ 52 := by decide
  rw [h53] at b2
  unfold Format.read
  rw [hs, hb, hi, hlp]
  generalize N * 2 ^ (52 - L) = K at *
  clear hb hi hs hlp hnear h53 h1 h2 hL hN hw
  generalize (2 : Nat) ^ 52 = B at *
  obtain ⟨p1, p2⟩ := parts (a := L + 1022) b1 b2
  have m1 := Nat.mul_le_mul_right B (show L + 1022 ≤ 1041 by omega)
  have m2 := Nat.mul_le_mul_right B (show 0 ≤ L + 1022 by omega)
  have hd0 : ((L + 1022) * B + K) / (2048 * B) = 0 := Nat.div_eq_of_lt (by omega)
  have hm0 : ((L + 1022) * B + K) % (2048 * B) = (L + 1022) * B + K := Nat.mod_eq_of_lt (by omega)
  rw [hd0, hm0]
  simp only []
  rw [if_neg (by omega), if_pos (by omega), p1, p2]
  have e4 : B + (K - B) = K := by omega
  have e5 : (-1074 : Int) + ((L + 1022 + 1 - 1 : Nat) : Int) = (L : Int) - 52 := by omega
  rw [e4, e5]
  rfl
theorem sq_bd {x : Nat} {k : Nat} (h : x * x < 2 ^ (2 * k)) : x < 2 ^ k := by
  rcases Nat.lt_or_ge x (2 ^ k) with g | g
  · exact g
  · have := Nat.mul_le_mul g g
    rw [← Nat.pow_add, show k + k = 2 * k by omega] at this
    omega
/-- The program's first guess at a root is a small number. -/
theorem sqrt_int {n : Int} (h1 : 1 ≤ n) (h2 : n ≤ 1000000) : ∃ r k, FloatKind.f64.format.sqrt (floatOfInt .f64 n) = some r ∧ floatToIntVal .f64 r .i64 = some k ∧ 0 ≤ k ∧ k ≤ 2147483648 := by
  obtain ⟨N, rfl⟩ := Int.eq_ofNat_of_zero_le (show 0 ≤ n by omega)
  have hN : N ≠ 0 := by omega
  have hL : N.log2 ≤ 19 := by
    have := (log2_lt hN).1
    rcases Nat.lt_or_ge 19 N.log2 with g | g
    · have := Nat.pow_le_pow_right (n := 2) (by omega) (show 20 ≤ N.log2 by omega)
      omega
    · exact g
  obtain ⟨hr, hK1, hK2⟩ := near_int hN rfl hL
  have ef : floatOfInt .f64 (N : Int) = double.nearest false N 0 := by
    show double.nearest (decide ((N : Int) < 0)) (N : Int).natAbs 0 = _
    rw [show decide ((N : Int) < 0) = false by simp, Int.natAbs_natCast]
  generalize hKe : N * 2 ^ (52 - N.log2) = K at hr hK1 hK2
  have hroot : ∃ (M : Nat) (e : Int), (double.read (double.nearest false N 0)).root 54 = some (.number false M e) ∧ e + M.log2 ≤ 12 ∧ -200 ≤ e := by
    rw [hr]
    have hK0 : K ≠ 0 := by omega
    have hl : K.log2 = 52 := by
      have a := (log2_lt hK0).1
      have b := (log2_lt hK0).2
      rcases Nat.lt_trichotomy K.log2 52 with g | g | g
      · have := Nat.pow_le_pow_right (n := 2) (by omega) (show K.log2 + 1 ≤ 52 by omega)
        omega
      · exact g
      · have := Nat.pow_le_pow_right (n := 2) (by omega) (show 53 ≤ K.log2 by omega)
        omega
    simp only [Datum.root, hK0, if_false, hl]
    have hmo : ∃ mo : Nat, 2 * 54 - 52 + (((N.log2 : Int) - 52 - ((2 * 54 - 52 : Nat) : Int)) % 2).toNat = mo ∧ 56 ≤ mo ∧ mo ≤ 57 := ⟨_, rfl, by omega, by omega⟩
    obtain ⟨mo, hmoe, hm1, hm2⟩ := hmo
    simp only [Bool.false_eq_true, if_false]
    simp only [Nat.reduceMul, Nat.reduceSub] at hmoe ⊢
    rw [hmoe]
    have hsq := rootFrom_sq (K <<< mo) ((K <<< mo).log2 / 2 + 1) 0 (Nat.zero_le _)
    generalize Datum.rootFrom (K <<< mo) ((K <<< mo).log2 / 2 + 1) 0 = whole at hsq ⊢
    have hw : whole < 2 ^ 55 := by
      refine sq_bd (k := 55) (Nat.lt_of_le_of_lt hsq ?_)
      rw [Nat.shiftLeft_eq]
      have a := Nat.mul_lt_mul_of_pos_right hK2 (two_pos mo)
      rw [← Nat.pow_add] at a
      exact Nat.lt_of_lt_of_le a (Nat.pow_le_pow_right (by omega) (by omega))
    have hb : ∀ b : Bool, b.toNat ≤ 1 := fun b => by cases b <;> simp
    refine ⟨_, _, rfl, ?_, by omega⟩
    have hM : 2 * whole + (whole * whole != K <<< mo).toNat < 2 ^ 56 := by
      have := hb (whole * whole != K <<< mo)
      have e56 : (2 : Nat) ^ 56 = 2 * 2 ^ 55 := by decide
      rw [e56]
      generalize (2 : Nat) ^ 55 = B at *
      omega
    have hlog : (2 * whole + (whole * whole != K <<< mo).toNat).log2 ≤ 55 := by
      generalize 2 * whole + (whole * whole != K <<< mo).toNat = M at hM
      rcases Nat.eq_zero_or_pos M with z | z
      · rw [z]; decide
      · rcases Nat.lt_or_ge 55 M.log2 with g | g
        · have := (log2_lt (n := M) (by omega)).1
          have := Nat.pow_le_pow_right (n := 2) (by omega) (show 56 ≤ M.log2 by omega)
          omega
        · exact g
    omega
  obtain ⟨M, e, he, hle, hge⟩ := hroot
  obtain ⟨R, hR, hR2⟩ := near_le hle hge
  obtain ⟨k, hk, k0, k1⟩ := read_int hR2
  refine ⟨R, k, ?_, hk, k0, k1⟩
  rw [ef]
  show ((double.read (double.nearest false N 0)).root 54).map double.write = some R
  rw [he]
  show some (double.nearest false M e) = some R
  rw [hR]

end Go.Proofs.YtgkelemfbmmgnaaGreat

/- Surds: the program's small functions. Each theorem names its conditions. -/
namespace Go.Proofs.YtgkelemfbmmgnaaGreat
open Go.RowKit
set_option linter.unusedVariables false
set_option linter.unusedSimpArgs false

set_option maxRecDepth 100000 in
set_option maxHeartbeats 3200000 in
theorem msqrt_any {x r : Nat} (w : World) (h : FloatKind.f64.format.sqrt x = some r) : Calls Tryz.prog 112 #[.float .f64 x] w fun e w' => e = .returned (.float .f64 r) ∧ w = w' := by
  have hc : ∀ w, (callFunc 113 #[.float .f64 x]).run Tryz.prog w = .ok (.value (.float .f64 r)) w := fun w => by
    rw [run_callFunc_extern Tryz.func113 (by kernel_rfl) (by kernel_rfl) (by kernel_rfl) (e := Extern.MathSqrt.sqrt) (by kernel_rfl)]
    show (Sem.run Tryz.prog (match FloatKind.f64.format.sqrt x with | some r => pure (Value.float .f64 r) | none => do pure (.float .f64 (← choose (.nanBits .f64 x x)))) w).andThen _ = _
    rw [h]
    rfl
  go_enter Tryz.func112, Tryz.ntmps112
  go_wp2
  go_ret
  exact ⟨rfl, rfl⟩
set_option maxRecDepth 100000 in
set_option maxHeartbeats 3200000 in
theorem iroot_any (n : Int) (w : World) (h1 : 1 ≤ n) (h2 : n ≤ 1000000) : Calls Tryz.prog 109 #[.int .i64 n] w fun e w' => e = .returned (.int .i64 (rootZ n)) ∧ w = w' := by
  obtain ⟨r, k, hr, hk, hk0, hk1⟩ := sqrt_int h1 h2
  have hc1 : ∀ w, (convert 2 135 (.int .i64 n)).run Tryz.prog w = .ok (.float .f64 (floatOfInt .f64 n)) w := fun w => run_convert_int_float w _ _ _ _ _ (by rw [Tryz.underlying2]; rfl) Tryz.underlying135
  have hc2 : ∀ w, (convert 135 2 (.float .f64 r)).run Tryz.prog w = .ok (.int .i64 k) w := fun w => run_convert_float_int w _ _ _ _ _ _ (by rw [Tryz.underlying135]; rfl) Tryz.underlying2 hk
  have HR := Lib.hid hr
  clear hr hk
  generalize floatOfInt .f64 n = x at *
  go_enter Tryz.func109, Tryz.ntmps109
  go_wp2_with fail
  refine (msqrt_any _ HR.out).mono ?_
  rintro e w9 ⟨rfl, hw9⟩
  subst hw9
  go_wp2_with fail
  go_loopw [3] (fun s3 wr => ∃ a : Int, s3 = .int .i64 a ∧ 0 ≤ a ∧ a ≤ 2147483648 ∧ wr = w) (fun s3 _ => (intOf s3).toNat)
  case atStart => exact ⟨k, rfl, hk0, hk1, rfl⟩
  case round =>
    obtain ⟨a, rfl, ha, hab, hw⟩ := hrel
    subst hw
    have hq := mulQ (X := 2147483648) (x := a) (y := a) (by omega) (by omega) (show -2147483648 ≤ a ∧ a ≤ 2147483648 by omega)
    by_cases hg : n < a * a
    · have ha1 : 1 ≤ a := by
        rcases Int.lt_or_le 0 a with g | g
        · exact g
        · obtain rfl : a = 0 := by omega
          omega
      go_wp2
      go_roundw
      case rel => exact ⟨a - 1, by go_num, by omega, by omega, by first | rfl | trivial⟩
      case measure => simp only [intOf]; omega
    · have HG := Lib.hid (show a * a ≤ n by omega)
      have ha2 : a ≤ 1000 := by
        have := sq_lt (a := a) (b := 1001) ha (by have := HG.out; omega) (by omega)
        omega
      go_wp2_with fail
      go_loopw [3] (fun s3 wq => ∃ b : Int, s3 = .int .i64 b ∧ 0 ≤ b ∧ b ≤ 1000 ∧ Hid (b * b ≤ n) ∧ wq = wr) (fun s3 _ => (1001 - intOf s3).toNat)
      case atStart => exact ⟨a, rfl, ha, ha2, HG, by first | rfl | trivial⟩
      case round =>
        obtain ⟨b, rfl, hb, hbb, HB, hw⟩ := hrel
        subst hw
        clear hq hg
        have hq := mulQ (X := 1001) (x := b + 1) (y := b + 1) (by omega) (by omega) (show -1001 ≤ b + 1 ∧ b + 1 ≤ 1001 by omega)
        by_cases hg : (b + 1) * (b + 1) ≤ n
        · have HB2 := Lib.hid hg
          have hb1 : b + 1 ≤ 1000 := by
            have := sq_lt (a := b + 1) (b := 1001) (by omega) (by have := HB2.out; omega) (by omega)
            omega
          go_wp2
          go_roundw
          case rel => exact ⟨b + 1, by go_num, by omega, by omega, HB2, by first | rfl | trivial⟩
          case measure => simp only [intOf]; omega
        · have HE := Lib.hid (show b = rootZ n from (rootZ_eq hb HB.out (by omega)).symm)
          go_wp2
          go_ret
          exact ⟨ret_int HE.out, by first | rfl | trivial⟩
set_option maxRecDepth 100000 in
set_option maxHeartbeats 3200000 in
theorem isqr_any (n : Int) (w : World) (h0 : 1 ≤ n) (h1 : n ≤ 1000000) : Calls Tryz.prog 93 #[.int .i64 n] w fun e w' => e = .returned (.bool (sqrZ n)) ∧ w = w' := by
  have hr := rootZ_ok (n := n) (by omega)
  have hb := Int.mul_nonneg hr.1 hr.1
  have HR := Lib.hid (show (rootZ n * rootZ n == n) = sqrZ n from rfl)
  go_enter Tryz.func93, Tryz.ntmps93
  go_wp2_with fail
  refine (iroot_any n _ h0 h1).mono ?_
  rintro e w9 ⟨rfl, hw9⟩
  subst hw9
  go_wp2
  go_ret
  exact ⟨ret_bool HR.out, rfl⟩
theorem isqr_eq {n : Int} {b : Bool} (h : sqrZ n = b) (w : World) (h0 : 1 ≤ n) (h1 : n ≤ 1000000) : Calls Tryz.prog 93 #[.int .i64 n] w fun e w' => e = .returned (.bool b) ∧ w = w' := h ▸ isqr_any n w h0 h1
theorem with_eqU {n lo hi : Int} {b : Bool} (h : inB n lo hi = b) (w : World) : Calls Tryz.prog 38 #[.int .i64 n, .int .i64 lo, .int .i64 hi] w fun e w' => e = .returned (.bool b) ∧ w = w' := h ▸ within_any n lo hi w
set_option maxRecDepth 100000 in
set_option maxHeartbeats 3200000 in
theorem iokU_any (p d q : Int) (w : World) : Calls Tryz.prog 60 #[.agg #[.int .i64 p, .int .i64 d, .int .i64 q]] w fun e w' => e = .returned (.bool (okU p d q)) ∧ Bl w w' := by
  cases e1 : inB d 2 1000000 with
  | false =>
    have E1 := Lib.hid e1
    have HR := Lib.hid (show false = okU p d q by simp [okU, e1])
    go_enter Tryz.func60, Tryz.ntmps60
    go_wp2_with fail
    have B1 : Bl w (w.alloc (.cells #[.int .i64 p, .int .i64 d, .int .i64 q] 33)) := (bl_alloc (bl_refl _) _)
    have xS_1 : Bx (w.alloc (.cells #[.int .i64 p, .int .i64 d, .int .i64 q] 33)) (w.heap.size) #[.int .i64 p, .int .i64 d, .int .i64 q] := (Bx.new (b := w.heap.size) _ #[.int .i64 p, .int .i64 d, .int .i64 q] 33 (by first | rfl | simp))
    have zz1 : w.heap.size + 1 ≤ (w.alloc (.cells #[.int .i64 p, .int .i64 d, .int .i64 q] 33)).heap.size := (by simp)
    generalize (w.alloc (.cells #[.int .i64 p, .int .i64 d, .int .i64 q] 33)) = w1 at *
    obtain ⟨cS_1, fS_1, zS_1⟩ := xS_1.out
    refine (with_eqU E1.out _).mono ?_
    rintro e w9 ⟨rfl, hw9⟩
    subst hw9
    go_wp2
    go_ret
    exact ⟨ret_bool HR.out, B1⟩
  | true =>
    have E1 := Lib.hid e1
    have hd := inB_iff.1 e1
    cases e4 : sqrZ d with
    | true =>
      have E4 := Lib.hid e4
      have HR := Lib.hid (show false = okU p d q by simp [okU, e1, e4])
      go_enter Tryz.func60, Tryz.ntmps60
      go_wp2_with fail
      have B1 : Bl w (w.alloc (.cells #[.int .i64 p, .int .i64 d, .int .i64 q] 33)) := (bl_alloc (bl_refl _) _)
      have xS_1 : Bx (w.alloc (.cells #[.int .i64 p, .int .i64 d, .int .i64 q] 33)) (w.heap.size) #[.int .i64 p, .int .i64 d, .int .i64 q] := (Bx.new (b := w.heap.size) _ #[.int .i64 p, .int .i64 d, .int .i64 q] 33 (by first | rfl | simp))
      have zz1 : w.heap.size + 1 ≤ (w.alloc (.cells #[.int .i64 p, .int .i64 d, .int .i64 q] 33)).heap.size := (by simp)
      generalize (w.alloc (.cells #[.int .i64 p, .int .i64 d, .int .i64 q] 33)) = w1 at *
      obtain ⟨cS_1, fS_1, zS_1⟩ := xS_1.out
      refine (with_eqU E1.out _).mono ?_
      rintro e w9 ⟨rfl, hw9⟩
      subst hw9
      go_wp2_with fail
      refine (isqr_eq E4.out _ (by omega) (by omega)).mono ?_
      rintro e w9 ⟨rfl, hw9⟩
      subst hw9
      go_wp2
      go_ret
      exact ⟨ret_bool HR.out, B1⟩
    | false =>
      have E4 := Lib.hid e4
      cases e2 : inB p (-1000000) 1000000 with
      | false =>
        have E2 := Lib.hid e2
        have HR := Lib.hid (show false = okU p d q by simp [okU, e1, e2])
        go_enter Tryz.func60, Tryz.ntmps60
        go_wp2_with fail
        have B1 : Bl w (w.alloc (.cells #[.int .i64 p, .int .i64 d, .int .i64 q] 33)) := (bl_alloc (bl_refl _) _)
        have xS_1 : Bx (w.alloc (.cells #[.int .i64 p, .int .i64 d, .int .i64 q] 33)) (w.heap.size) #[.int .i64 p, .int .i64 d, .int .i64 q] := (Bx.new (b := w.heap.size) _ #[.int .i64 p, .int .i64 d, .int .i64 q] 33 (by first | rfl | simp))
        have zz1 : w.heap.size + 1 ≤ (w.alloc (.cells #[.int .i64 p, .int .i64 d, .int .i64 q] 33)).heap.size := (by simp)
        generalize (w.alloc (.cells #[.int .i64 p, .int .i64 d, .int .i64 q] 33)) = w1 at *
        obtain ⟨cS_1, fS_1, zS_1⟩ := xS_1.out
        refine (with_eqU E1.out _).mono ?_
        rintro e w9 ⟨rfl, hw9⟩
        subst hw9
        go_wp2_with fail
        refine (isqr_eq E4.out _ (by omega) (by omega)).mono ?_
        rintro e w9 ⟨rfl, hw9⟩
        subst hw9
        go_wp2_with fail
        refine (with_eqU E2.out _).mono ?_
        rintro e w9 ⟨rfl, hw9⟩
        subst hw9
        go_wp2
        go_ret
        exact ⟨ret_bool HR.out, B1⟩
      | true =>
        have E2 := Lib.hid e2
        have hp := inB_iff.1 e2
        cases e3 : inB q (-1000000) 1000000 with
        | false =>
          have E3 := Lib.hid e3
          have HR := Lib.hid (show false = okU p d q by simp [okU, e1, e2, e3])
          go_enter Tryz.func60, Tryz.ntmps60
          go_wp2_with fail
          have B1 : Bl w (w.alloc (.cells #[.int .i64 p, .int .i64 d, .int .i64 q] 33)) := (bl_alloc (bl_refl _) _)
          have xS_1 : Bx (w.alloc (.cells #[.int .i64 p, .int .i64 d, .int .i64 q] 33)) (w.heap.size) #[.int .i64 p, .int .i64 d, .int .i64 q] := (Bx.new (b := w.heap.size) _ #[.int .i64 p, .int .i64 d, .int .i64 q] 33 (by first | rfl | simp))
          have zz1 : w.heap.size + 1 ≤ (w.alloc (.cells #[.int .i64 p, .int .i64 d, .int .i64 q] 33)).heap.size := (by simp)
          generalize (w.alloc (.cells #[.int .i64 p, .int .i64 d, .int .i64 q] 33)) = w1 at *
          obtain ⟨cS_1, fS_1, zS_1⟩ := xS_1.out
          refine (with_eqU E1.out _).mono ?_
          rintro e w9 ⟨rfl, hw9⟩
          subst hw9
          go_wp2_with fail
          refine (isqr_eq E4.out _ (by omega) (by omega)).mono ?_
          rintro e w9 ⟨rfl, hw9⟩
          subst hw9
          go_wp2_with fail
          refine (with_eqU E2.out _).mono ?_
          rintro e w9 ⟨rfl, hw9⟩
          subst hw9
          go_wp2_with fail
          refine (with_eqU E3.out _).mono ?_
          rintro e w9 ⟨rfl, hw9⟩
          subst hw9
          go_wp2
          go_ret
          exact ⟨ret_bool HR.out, B1⟩
        | true =>
          have E3 := Lib.hid e3
          have hq := inB_iff.1 e3
          by_cases hz : q = 0
          · subst hz
            have HR := Lib.hid (show false = okU p d 0 by simp [okU, e1, e2, e3])
            go_enter Tryz.func60, Tryz.ntmps60
            go_wp2_with fail
            have B1 : Bl w (w.alloc (.cells #[.int .i64 p, .int .i64 d, .int .i64 0] 33)) := (bl_alloc (bl_refl _) _)
            have xS_1 : Bx (w.alloc (.cells #[.int .i64 p, .int .i64 d, .int .i64 0] 33)) (w.heap.size) #[.int .i64 p, .int .i64 d, .int .i64 0] := (Bx.new (b := w.heap.size) _ #[.int .i64 p, .int .i64 d, .int .i64 0] 33 (by first | rfl | simp))
            have zz1 : w.heap.size + 1 ≤ (w.alloc (.cells #[.int .i64 p, .int .i64 d, .int .i64 0] 33)).heap.size := (by simp)
            generalize (w.alloc (.cells #[.int .i64 p, .int .i64 d, .int .i64 0] 33)) = w1 at *
            obtain ⟨cS_1, fS_1, zS_1⟩ := xS_1.out
            refine (with_eqU E1.out _).mono ?_
            rintro e w9 ⟨rfl, hw9⟩
            subst hw9
            go_wp2_with fail
            refine (isqr_eq E4.out _ (by omega) (by omega)).mono ?_
            rintro e w9 ⟨rfl, hw9⟩
            subst hw9
            go_wp2_with fail
            refine (with_eqU E2.out _).mono ?_
            rintro e w9 ⟨rfl, hw9⟩
            subst hw9
            go_wp2_with fail
            refine (with_eqU E3.out _).mono ?_
            rintro e w9 ⟨rfl, hw9⟩
            subst hw9
            go_wp2
            go_ret
            exact ⟨ret_bool HR.out, B1⟩
          · have hz2 : (q == 0) = false := by simp [hz]
            have m1 := mulQ (by omega) hp hp
            have m2 := tmod_bd (d - p * p) hz hq
            have m3 : IntKind.i64.wrap ((d - p * p).tmod q) = (d - p * p).tmod q := IntWalk.i64_in _ (by omega)
            have HR := Lib.hid (show (q != 0 && (d - p * p).tmod q == 0) = okU p d q by simp [okU, e1, e2, e3, e4, hz])
            go_enter Tryz.func60, Tryz.ntmps60
            go_wp2_with fail
            have B1 : Bl w (w.alloc (.cells #[.int .i64 p, .int .i64 d, .int .i64 q] 33)) := (bl_alloc (bl_refl _) _)
            have xS_1 : Bx (w.alloc (.cells #[.int .i64 p, .int .i64 d, .int .i64 q] 33)) (w.heap.size) #[.int .i64 p, .int .i64 d, .int .i64 q] := (Bx.new (b := w.heap.size) _ #[.int .i64 p, .int .i64 d, .int .i64 q] 33 (by first | rfl | simp))
            have zz1 : w.heap.size + 1 ≤ (w.alloc (.cells #[.int .i64 p, .int .i64 d, .int .i64 q] 33)).heap.size := (by simp)
            generalize (w.alloc (.cells #[.int .i64 p, .int .i64 d, .int .i64 q] 33)) = w1 at *
            obtain ⟨cS_1, fS_1, zS_1⟩ := xS_1.out
            refine (with_eqU E1.out _).mono ?_
            rintro e w9 ⟨rfl, hw9⟩
            subst hw9
            go_wp2_with fail
            refine (isqr_eq E4.out _ (by omega) (by omega)).mono ?_
            rintro e w9 ⟨rfl, hw9⟩
            subst hw9
            go_wp2_with fail
            refine (with_eqU E2.out _).mono ?_
            rintro e w9 ⟨rfl, hw9⟩
            subst hw9
            go_wp2_with fail
            refine (with_eqU E3.out _).mono ?_
            rintro e w9 ⟨rfl, hw9⟩
            subst hw9
            go_wp2
            go_ret
            exact ⟨ret_bool HR.out, B1⟩
theorem iokU_eq {p d q : Int} {b : Bool} (h : okU p d q = b) (w : World) : Calls Tryz.prog 60 #[.agg #[.int .i64 p, .int .i64 d, .int .i64 q]] w fun e w' => e = .returned (.bool b) ∧ Bl w w' := h ▸ iokU_any p d q w
theorem flU_neg {x m : Int} (hm : 0 < m) : -(x / m) - 1 = (-x - 1) / m := by
  have e1 := Int.mul_ediv_add_emod x m
  have e2 := Int.emod_nonneg x (show m ≠ 0 by omega)
  have e3 := Int.emod_lt_of_pos x hm
  generalize x / m = t at *
  generalize x % m = u at *
  have e : -x - 1 = (m - 1 - u) + m * (-t - 1) := by
    have : m * (-t - 1) = -(m * t) - m := by grind
    rw [this]
    generalize m * t = y at *
    omega
  rw [e, Int.add_mul_ediv_left _ _ (by omega), Int.ediv_eq_zero_of_lt (by omega) (by omega)]
  omega
set_option maxRecDepth 100000 in
set_option maxHeartbeats 3200000 in
theorem iflU_any {p d q : Int} (w : World) (h : okU p d q = true) : Calls Tryz.prog 94 #[.agg #[.int .i64 p, .int .i64 d, .int .i64 q]] w fun e w' => e = .returned (.int .i64 (flU p d q)) ∧ Bl w w' := by
  obtain ⟨h1, h2, h3, h4, _⟩ := okU_iff.1 h
  have r := rootZ_bd (n := d) (M := 1001) (by omega) (by omega) (by omega)
  clear h
  by_cases hq : 0 < q
  · have HR := Lib.hid (show (p + rootZ d) / q = flU p d q by rw [flU, if_pos hq])
    go_enter Tryz.func94, Tryz.ntmps94
    go_wp2_with fail
    have B1 : Bl w (w.alloc (.cells #[.int .i64 p, .int .i64 d, .int .i64 q] 33)) := (bl_alloc (bl_refl _) _)
    have xS_1 : Bx (w.alloc (.cells #[.int .i64 p, .int .i64 d, .int .i64 q] 33)) (w.heap.size) #[.int .i64 p, .int .i64 d, .int .i64 q] := (Bx.new (b := w.heap.size) _ #[.int .i64 p, .int .i64 d, .int .i64 q] 33 (by first | rfl | simp))
    have zz1 : w.heap.size + 1 ≤ (w.alloc (.cells #[.int .i64 p, .int .i64 d, .int .i64 q] 33)).heap.size := (by simp)
    generalize (w.alloc (.cells #[.int .i64 p, .int .i64 d, .int .i64 q] 33)) = w1 at *
    obtain ⟨cS_1, fS_1, zS_1⟩ := xS_1.out
    refine (iroot_any d _ (by omega) (by omega)).mono ?_
    rintro e w9 ⟨rfl, hw9⟩
    subst hw9
    go_wp2_with fail
    refine (fdiv_any _ _ _ (by omega) (by omega) (by omega) (by omega)).mono ?_
    rintro e w9 ⟨rfl, hw9⟩
    subst hw9
    go_wp2
    go_ret
    exact ⟨ret_int HR.out, B1⟩
  · obtain ⟨m, hm⟩ : ∃ m, m = -q := ⟨_, rfl⟩
    have hm0 : 0 < m := by omega
    have HR := Lib.hid (show -((p + rootZ d) / m) - 1 = flU p d q by rw [flU, if_neg hq, flU_neg hm0, ← hm, show -p - rootZ d - 1 = -(p + rootZ d) - 1 by omega])
    have hwm : IntKind.i64.wrap (-q) = m := by rw [IntKind.wrap_i64]; omega
    have hm1 : m ≤ 1000000 := by omega
    have hb := ediv_bd (p + rootZ d) m 1002001 (by omega) (by omega) (by omega)
    clear hm
    go_enter Tryz.func94, Tryz.ntmps94
    go_wp2_with fail
    have B1 : Bl w (w.alloc (.cells #[.int .i64 p, .int .i64 d, .int .i64 q] 33)) := (bl_alloc (bl_refl _) _)
    have xS_1 : Bx (w.alloc (.cells #[.int .i64 p, .int .i64 d, .int .i64 q] 33)) (w.heap.size) #[.int .i64 p, .int .i64 d, .int .i64 q] := (Bx.new (b := w.heap.size) _ #[.int .i64 p, .int .i64 d, .int .i64 q] 33 (by first | rfl | simp))
    have zz1 : w.heap.size + 1 ≤ (w.alloc (.cells #[.int .i64 p, .int .i64 d, .int .i64 q] 33)).heap.size := (by simp)
    generalize (w.alloc (.cells #[.int .i64 p, .int .i64 d, .int .i64 q] 33)) = w1 at *
    obtain ⟨cS_1, fS_1, zS_1⟩ := xS_1.out
    refine (iroot_any d _ (by omega) (by omega)).mono ?_
    rintro e w9 ⟨rfl, hw9⟩
    subst hw9
    go_wp2_with fail
    refine (fdiv_any _ _ _ (by omega) (by omega) (by omega) (by omega)).mono ?_
    rintro e w9 ⟨rfl, hw9⟩
    subst hw9
    go_wp2
    go_ret
    exact ⟨ret_int HR.out, B1⟩
theorem iflU_eq {p d q a : Int} (h : flU p d q = a) (w : World) (h1 : okU p d q = true) : Calls Tryz.prog 94 #[.agg #[.int .i64 p, .int .i64 d, .int .i64 q]] w fun e w' => e = .returned (.int .i64 a) ∧ Bl w w' := h ▸ iflU_any w h1
set_option maxRecDepth 100000 in
set_option maxHeartbeats 3200000 in
theorem inxU_any {p d q : Int} (w : World) (h : okU p d q = true) : Calls Tryz.prog 61 #[.agg #[.int .i64 p, .int .i64 d, .int .i64 q]] w fun e w' => ∃ x z : Int, e = .returned (.tuple #[.int .i64 (flU p d q), .agg #[.int .i64 x, .int .i64 d, .int .i64 z], .bool (nxU p d q (flU p d q)).2]) ∧ ((nxU p d q (flU p d q)).2 = true → (nxU p d q (flU p d q)).1 = (x, d, z)) ∧ Bl w w' := by
  obtain ⟨h1, h2, h3, h4, _⟩ := okU_iff.1 h
  have ha := flU_bd h
  have HOK := Lib.hid h
  obtain ⟨a, hfa⟩ : ∃ a, flU p d q = a := ⟨_, rfl⟩
  have HFA := Lib.hid hfa
  rw [hfa] at ha ⊢
  have m1 := mulQ (by omega) ha h3
  clear h hfa
  have hz2 : (q == 0) = false := by simp [h4]
  obtain ⟨x, hx⟩ : ∃ x, a * q - p = x := ⟨_, rfl⟩
  have hwx : IntKind.i64.wrap (a * q - p) = x := by rw [hx, IntKind.wrap_i64]; omega
  have hxb : -1003002000000 ≤ x ∧ x ≤ 1003002000000 := by omega
  obtain ⟨s, hs⟩ : ∃ s, IntKind.i64.wrap (x * x) = s := ⟨_, rfl⟩
  obtain ⟨u, hu⟩ : ∃ u, IntKind.i64.wrap (d - s) = u := ⟨_, rfl⟩
  obtain ⟨z, hz⟩ : ∃ z, IntKind.i64.wrap (u.tdiv q) = z := ⟨_, rfl⟩
  have HN : Hid ((nxU p d q a).2 = okU x d z ∧ ((nxU p d q a).2 = true → (nxU p d q a).1 = (x, d, z))) := Lib.hid (by
    unfold nxU
    rw [hx]
    cases e1 : inB x (-1000000) 1000000 with
    | false => exact ⟨by simp [okU, e1], fun e => by cases e⟩
    | true =>
      have hb := inB_iff.1 e1
      have m2 := mulQ (by omega) hb hb
      have es : s = x * x := by rw [← hs]; exact IntWalk.i64_in _ (by omega)
      have eu : u = d - x * x := by rw [← hu, es]; exact IntWalk.i64_in _ (by omega)
      have ez : z = (d - x * x).tdiv q := by
        have := tdiv_bd (a := d - x * x) (M := 1000001000000) q (by omega)
        rw [← hz, eu]; exact IntWalk.i64_in _ (by omega)
      rw [ez]
      exact ⟨rfl, fun _ => rfl⟩)
  clear hx
  go_enter Tryz.func61, Tryz.ntmps61
  go_wp2_with fail
  have B1 : Bl w ((w.alloc (.cells #[.int .i64 p, .int .i64 d, .int .i64 q] 33)).alloc (.cells #[.int .i64 0, .int .i64 0, .int .i64 0] 33)) := (bl_alloc (bl_alloc (bl_refl _) _) _)
  have xS_1 : Bx ((w.alloc (.cells #[.int .i64 p, .int .i64 d, .int .i64 q] 33)).alloc (.cells #[.int .i64 0, .int .i64 0, .int .i64 0] 33)) (w.heap.size) #[.int .i64 p, .int .i64 d, .int .i64 q] := ((Bx.new (b := w.heap.size) _ #[.int .i64 p, .int .i64 d, .int .i64 q] 33 (by first | rfl | simp)).alloc _)
  have xR_1 : Bx ((w.alloc (.cells #[.int .i64 p, .int .i64 d, .int .i64 q] 33)).alloc (.cells #[.int .i64 0, .int .i64 0, .int .i64 0] 33)) (w.heap.size + 1) #[.int .i64 0, .int .i64 0, .int .i64 0] := (Bx.new (b := w.heap.size + 1) _ #[.int .i64 0, .int .i64 0, .int .i64 0] 33 (by first | rfl | simp))
  have zz1 : w.heap.size + 2 ≤ ((w.alloc (.cells #[.int .i64 p, .int .i64 d, .int .i64 q] 33)).alloc (.cells #[.int .i64 0, .int .i64 0, .int .i64 0] 33)).heap.size := (by simp)
  generalize ((w.alloc (.cells #[.int .i64 p, .int .i64 d, .int .i64 q] 33)).alloc (.cells #[.int .i64 0, .int .i64 0, .int .i64 0] 33)) = w1 at *
  obtain ⟨cS_1, fS_1, zS_1⟩ := xS_1.out
  obtain ⟨cR_1, fR_1, zR_1⟩ := xR_1.out
  go_wp2_with fail
  refine ((iflU_eq HFA.out _ HOK.out)).mono ?_
  rintro e w2 ⟨rfl, hb2⟩
  have B2 : Bl w w2 := bl_call B1 hb2
  have xS_2 : Bx w2 (w.heap.size) #[.int .i64 p, .int .i64 d, .int .i64 q] := xS_1.below hb2
  have xR_2 : Bx w2 (w.heap.size + 1) #[.int .i64 0, .int .i64 0, .int .i64 0] := xR_1.below hb2
  clear cS_1 fS_1 zS_1 cR_1 fR_1 zR_1
  obtain ⟨cS_2, fS_2, zS_2⟩ := xS_2.out
  obtain ⟨cR_2, fR_2, zR_2⟩ := xR_2.out
  go_wp2_with fail
  go_region
  all_goals
    have xN : Bx (w2.alloc (.cells #[.int .i64 x, .int .i64 d, .int .i64 z] 33)).drew (w2).heap.size #[.int .i64 x, .int .i64 d, .int .i64 z] := (Bx.new (b := (w2).heap.size) w2 _ 33 rfl).drew
    have xR2 := (xR_2.alloc (.cells #[.int .i64 x, .int .i64 d, .int .i64 z] 33)).drew
    have BN : Bl w (w2.alloc (.cells #[.int .i64 x, .int .i64 d, .int .i64 z] 33)).drew := bl_drew (bl_alloc B2 _)
    have zN : (w2).heap.size + 1 ≤ ((w2.alloc (.cells #[.int .i64 x, .int .i64 d, .int .i64 z] 33)).drew).heap.size := by simp
    have zlt := xR_2.out.2.2
    clear cS_2 fS_2 zS_2 cR_2 fR_2 zR_2
    generalize (w2.alloc (.cells #[.int .i64 x, .int .i64 d, .int .i64 z] 33)).drew = w2 at *
    obtain ⟨cN, fN, zN'⟩ := xN.out
    obtain ⟨cR, fR, zR⟩ := xR2.out
    go_wp2_with fail
    go_region_with
      ((go_at_call 60; go_must (refine (iokU_any x d z _).mono ?_; rintro e w3 ⟨rfl, hb3⟩; have xN3 := xN.drew.below hb3; have xR3 := xR2.drew.below hb3; have B3 : Bl w w3 := bl_call (bl_drew BN) hb3; clear cN fN zN' cR fR zR; obtain ⟨cN, fN, zN'⟩ := xN3.out; obtain ⟨cR, fR, zR⟩ := xR3.out)))
    all_goals
      go_wp2
      refine bodyPost_ret (v := .tuple #[.int .i64 a, .agg #[.int .i64 x, .int .i64 d, .int .i64 z], .bool (okU x d z)]) (by simp only [results, Tryz.results61]; go_simp) rfl ?_
      exact ⟨x, z, by rw [HN.out.1], HN.out.2, (bl_set (bl_set (bl_set B3 (p := ⟨w.heap.size + 1, 0, none⟩) (by first | (simp; done) | (simp; omega)) _) (p := ⟨w.heap.size + 1, 1, none⟩) (by first | (simp; done) | (simp; omega)) _) (p := ⟨w.heap.size + 1, 2, none⟩) (by first | (simp; done) | (simp; omega)) _)⟩

end Go.Proofs.YtgkelemfbmmgnaaGreat

