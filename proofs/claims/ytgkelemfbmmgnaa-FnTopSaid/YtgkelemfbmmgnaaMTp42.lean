/- Some of the texts of this claim, joined in one file: SurdI, MpU. -/
import Derived.Test.YtgkelemfbmmgnaaMTp34
import Derived.Test.YtgkelemfbmmgnaaMTp41
import Derived.Laws.Externs
import Derived.Maps.OwnSet
import Derived.DeepKeys4
/- Surds: the program's small functions. Each theorem names its conditions. -/
namespace Go.Proofs.Ytgkelemfbmmgnaa
open Go.RowKit
set_option linter.unusedVariables false
set_option linter.unusedSimpArgs false

set_option maxRecDepth 100000 in
set_option maxHeartbeats 3200000 in
theorem msqrt_any {x r : Nat} (w : World) (h : FloatKind.f64.format.sqrt x = some r) : Calls Try.prog 137 #[.float .f64 x] w fun e w' => e = .returned (.float .f64 r) ∧ w = w' := by
  have hc : ∀ w, (callFunc 142 #[.float .f64 x]).run Try.prog w = .ok (.value (.float .f64 r)) w := fun w => by
    rw [run_callFunc_extern Try.func142 (by kernel_rfl) (by kernel_rfl) (by kernel_rfl) (e := Extern.MathSqrt.sqrt) (by kernel_rfl)]
    show (Sem.run Try.prog (match FloatKind.f64.format.sqrt x with | some r => pure (Value.float .f64 r) | none => do pure (.float .f64 (← choose (.nanBits .f64 x x)))) w).andThen _ = _
    rw [h]
    rfl
  go_enter Try.func137, Try.ntmps137
  go_wp2
  go_ret
  exact ⟨rfl, rfl⟩
set_option maxRecDepth 100000 in
set_option maxHeartbeats 3200000 in
theorem iroot_any (n : Int) (w : World) (h1 : 1 ≤ n) (h2 : n ≤ 1000000) : Calls Try.prog 124 #[.int .i64 n] w fun e w' => e = .returned (.int .i64 (rootZ n)) ∧ w = w' := by
  obtain ⟨r, k, hr, hk, hk0, hk1⟩ := sqrt_int h1 h2
  have hc1 : ∀ w, (convert 2 155 (.int .i64 n)).run Try.prog w = .ok (.float .f64 (floatOfInt .f64 n)) w := fun w => run_convert_int_float w _ _ _ _ _ (by rw [Try.underlying2]; rfl) Try.underlying155
  have hc2 : ∀ w, (convert 155 2 (.float .f64 r)).run Try.prog w = .ok (.int .i64 k) w := fun w => run_convert_float_int w _ _ _ _ _ _ (by rw [Try.underlying155]; rfl) Try.underlying2 hk
  have HR := Lib.hid hr
  clear hr hk
  generalize floatOfInt .f64 n = x at *
  go_enter Try.func124, Try.ntmps124
  go_wp2_with fail
  refine (msqrt_any _ HR.out).mono ?_
  rintro e w9 ⟨rfl, hw9⟩
  subst hw9
  go_wp2_with fail
  go_loopw [3] (fun s3 wr => ∃ a : Int, s3 = .int .i64 a ∧ 0 ≤ a ∧ a ≤ 2147483648 ∧ wr = w) (fun s3 _ => (intOf s3).toNat)
  case atStart => exact ⟨k, rfl, hk0, hk1, rfl⟩
  case round =>
    obtain ⟨a, rfl, ha, hab, hw⟩ := hrel
    subst hw
    have hq := mulQ (X := 2147483648) (x := a) (y := a) (by omega) (by omega) (show -2147483648 ≤ a ∧ a ≤ 2147483648 by omega)
    by_cases hg : n < a * a
    · have ha1 : 1 ≤ a := by
        rcases Int.lt_or_le 0 a with g | g
        · exact g
        · obtain rfl : a = 0 := by omega
          omega
      go_wp2
      go_roundw
      case rel => exact ⟨a - 1, by go_num, by omega, by omega, by first | rfl | trivial⟩
      case measure => simp only [intOf]; omega
    · have HG := Lib.hid (show a * a ≤ n by omega)
      have ha2 : a ≤ 1000 := by
        have := sq_lt (a := a) (b := 1001) ha (by have := HG.out; omega) (by omega)
        omega
      go_wp2_with fail
      go_loopw [3] (fun s3 wq => ∃ b : Int, s3 = .int .i64 b ∧ 0 ≤ b ∧ b ≤ 1000 ∧ Hid (b * b ≤ n) ∧ wq = wr) (fun s3 _ => (1001 - intOf s3).toNat)
      case atStart => exact ⟨a, rfl, ha, ha2, HG, by first | rfl | trivial⟩
      case round =>
        obtain ⟨b, rfl, hb, hbb, HB, hw⟩ := hrel
        subst hw
        clear hq hg
        have hq := mulQ (X := 1001) (x := b + 1) (y := b + 1) (by omega) (by omega) (show -1001 ≤ b + 1 ∧ b + 1 ≤ 1001 by omega)
        by_cases hg : (b + 1) * (b + 1) ≤ n
        · have HB2 := Lib.hid hg
          have hb1 : b + 1 ≤ 1000 := by
            have := sq_lt (a := b + 1) (b := 1001) (by omega) (by have := HB2.out; omega) (by omega)
            omega
          go_wp2
          go_roundw
          case rel => exact ⟨b + 1, by go_num, by omega, by omega, HB2, by first | rfl | trivial⟩
          case measure => simp only [intOf]; omega
        · have HE := Lib.hid (show b = rootZ n from (rootZ_eq hb HB.out (by omega)).symm)
          go_wp2
          go_ret
          exact ⟨ret_int HE.out, by first | rfl | trivial⟩
set_option maxRecDepth 100000 in
set_option maxHeartbeats 3200000 in
theorem isqr_any (n : Int) (w : World) (h0 : 1 ≤ n) (h1 : n ≤ 1000000) : Calls Try.prog 101 #[.int .i64 n] w fun e w' => e = .returned (.bool (sqrZ n)) ∧ w = w' := by
  have hr := rootZ_ok (n := n) (by omega)
  have hb := Int.mul_nonneg hr.1 hr.1
  have HR := Lib.hid (show (rootZ n * rootZ n == n) = sqrZ n from rfl)
  go_enter Try.func101, Try.ntmps101
  go_wp2_with fail
  refine (iroot_any n _ h0 h1).mono ?_
  rintro e w9 ⟨rfl, hw9⟩
  subst hw9
  go_wp2
  go_ret
  exact ⟨ret_bool HR.out, rfl⟩
theorem isqr_eq {n : Int} {b : Bool} (h : sqrZ n = b) (w : World) (h0 : 1 ≤ n) (h1 : n ≤ 1000000) : Calls Try.prog 101 #[.int .i64 n] w fun e w' => e = .returned (.bool b) ∧ w = w' := h ▸ isqr_any n w h0 h1
theorem with_eqU {n lo hi : Int} {b : Bool} (h : inB n lo hi = b) (w : World) : Calls Try.prog 67 #[.int .i64 n, .int .i64 lo, .int .i64 hi] w fun e w' => e = .returned (.bool b) ∧ w = w' := h ▸ within_any n lo hi w
set_option maxRecDepth 100000 in
set_option maxHeartbeats 3200000 in
theorem iokU_any (p d q : Int) (w : World) : Calls Try.prog 65 #[.agg #[.int .i64 p, .int .i64 d, .int .i64 q]] w fun e w' => e = .returned (.bool (okU p d q)) ∧ Bl w w' := by
  cases e1 : inB d 2 1000000 with
  | false =>
    have E1 := Lib.hid e1
    have HR := Lib.hid (show false = okU p d q by simp [okU, e1])
    go_enter Try.func65, Try.ntmps65
    go_wp2_with fail
    have B1 : Bl w (w.alloc (.cells #[.int .i64 p, .int .i64 d, .int .i64 q] 52)) := (bl_alloc (bl_refl _) _)
    have xS_1 : Bx (w.alloc (.cells #[.int .i64 p, .int .i64 d, .int .i64 q] 52)) (w.heap.size) #[.int .i64 p, .int .i64 d, .int .i64 q] := (Bx.new (b := w.heap.size) _ #[.int .i64 p, .int .i64 d, .int .i64 q] 52 (by first | rfl | simp))
    have zz1 : w.heap.size + 1 ≤ (w.alloc (.cells #[.int .i64 p, .int .i64 d, .int .i64 q] 52)).heap.size := (by simp)
    generalize (w.alloc (.cells #[.int .i64 p, .int .i64 d, .int .i64 q] 52)) = w1 at *
    obtain ⟨cS_1, fS_1, zS_1⟩ := xS_1.out
    refine (with_eqU E1.out _).mono ?_
    rintro e w9 ⟨rfl, hw9⟩
    subst hw9
    go_wp2
    go_ret
    exact ⟨ret_bool HR.out, B1⟩
  | true =>
    have E1 := Lib.hid e1
    have hd := inB_iff.1 e1
    cases e4 : sqrZ d with
    | true =>
      have E4 := Lib.hid e4
      have HR := Lib.hid (show false = okU p d q by simp [okU, e1, e4])
      go_enter Try.func65, Try.ntmps65
      go_wp2_with fail
      have B1 : Bl w (w.alloc (.cells #[.int .i64 p, .int .i64 d, .int .i64 q] 52)) := (bl_alloc (bl_refl _) _)
      have xS_1 : Bx (w.alloc (.cells #[.int .i64 p, .int .i64 d, .int .i64 q] 52)) (w.heap.size) #[.int .i64 p, .int .i64 d, .int .i64 q] := (Bx.new (b := w.heap.size) _ #[.int .i64 p, .int .i64 d, .int .i64 q] 52 (by first | rfl | simp))
      have zz1 : w.heap.size + 1 ≤ (w.alloc (.cells #[.int .i64 p, .int .i64 d, .int .i64 q] 52)).heap.size := (by simp)
      generalize (w.alloc (.cells #[.int .i64 p, .int .i64 d, .int .i64 q] 52)) = w1 at *
      obtain ⟨cS_1, fS_1, zS_1⟩ := xS_1.out
      refine (with_eqU E1.out _).mono ?_
      rintro e w9 ⟨rfl, hw9⟩
      subst hw9
      go_wp2_with fail
      refine (isqr_eq E4.out _ (by omega) (by omega)).mono ?_
      rintro e w9 ⟨rfl, hw9⟩
      subst hw9
      go_wp2
      go_ret
      exact ⟨ret_bool HR.out, B1⟩
    | false =>
      have E4 := Lib.hid e4
      cases e2 : inB p (-1000000) 1000000 with
      | false =>
        have E2 := Lib.hid e2
        have HR := Lib.hid (show false = okU p d q by simp [okU, e1, e2])
        go_enter Try.func65, Try.ntmps65
        go_wp2_with fail
        have B1 : Bl w (w.alloc (.cells #[.int .i64 p, .int .i64 d, .int .i64 q] 52)) := (bl_alloc (bl_refl _) _)
        have xS_1 : Bx (w.alloc (.cells #[.int .i64 p, .int .i64 d, .int .i64 q] 52)) (w.heap.size) #[.int .i64 p, .int .i64 d, .int .i64 q] := (Bx.new (b := w.heap.size) _ #[.int .i64 p, .int .i64 d, .int .i64 q] 52 (by first | rfl | simp))
        have zz1 : w.heap.size + 1 ≤ (w.alloc (.cells #[.int .i64 p, .int .i64 d, .int .i64 q] 52)).heap.size := (by simp)
        generalize (w.alloc (.cells #[.int .i64 p, .int .i64 d, .int .i64 q] 52)) = w1 at *
        obtain ⟨cS_1, fS_1, zS_1⟩ := xS_1.out
        refine (with_eqU E1.out _).mono ?_
        rintro e w9 ⟨rfl, hw9⟩
        subst hw9
        go_wp2_with fail
        refine (isqr_eq E4.out _ (by omega) (by omega)).mono ?_
        rintro e w9 ⟨rfl, hw9⟩
        subst hw9
        go_wp2_with fail
        refine (with_eqU E2.out _).mono ?_
        rintro e w9 ⟨rfl, hw9⟩
        subst hw9
        go_wp2
        go_ret
        exact ⟨ret_bool HR.out, B1⟩
      | true =>
        have E2 := Lib.hid e2
        have hp := inB_iff.1 e2
        cases e3 : inB q (-1000000) 1000000 with
        | false =>
          have E3 := Lib.hid e3
          have HR := Lib.hid (show false = okU p d q by simp [okU, e1, e2, e3])
          go_enter Try.func65, Try.ntmps65
          go_wp2_with fail
          have B1 : Bl w (w.alloc (.cells #[.int .i64 p, .int .i64 d, .int .i64 q] 52)) := (bl_alloc (bl_refl _) _)
          have xS_1 : Bx (w.alloc (.cells #[.int .i64 p, .int .i64 d, .int .i64 q] 52)) (w.heap.size) #[.int .i64 p, .int .i64 d, .int .i64 q] := (Bx.new (b := w.heap.size) _ #[.int .i64 p, .int .i64 d, .int .i64 q] 52 (by first | rfl | simp))
          have zz1 : w.heap.size + 1 ≤ (w.alloc (.cells #[.int .i64 p, .int .i64 d, .int .i64 q] 52)).heap.size := (by simp)
          generalize (w.alloc (.cells #[.int .i64 p, .int .i64 d, .int .i64 q] 52)) = w1 at *
          obtain ⟨cS_1, fS_1, zS_1⟩ := xS_1.out
          refine (with_eqU E1.out _).mono ?_
          rintro e w9 ⟨rfl, hw9⟩
          subst hw9
          go_wp2_with fail
          refine (isqr_eq E4.out _ (by omega) (by omega)).mono ?_
          rintro e w9 ⟨rfl, hw9⟩
          subst hw9
          go_wp2_with fail
          refine (with_eqU E2.out _).mono ?_
          rintro e w9 ⟨rfl, hw9⟩
          subst hw9
          go_wp2_with fail
          refine (with_eqU E3.out _).mono ?_
          rintro e w9 ⟨rfl, hw9⟩
          subst hw9
          go_wp2
          go_ret
          exact ⟨ret_bool HR.out, B1⟩
        | true =>
          have E3 := Lib.hid e3
          have hq := inB_iff.1 e3
          by_cases hz : q = 0
          · subst hz
            have HR := Lib.hid (show false = okU p d 0 by simp [okU, e1, e2, e3])
            go_enter Try.func65, Try.ntmps65
            go_wp2_with fail
            have B1 : Bl w (w.alloc (.cells #[.int .i64 p, .int .i64 d, .int .i64 0] 52)) := (bl_alloc (bl_refl _) _)
            have xS_1 : Bx (w.alloc (.cells #[.int .i64 p, .int .i64 d, .int .i64 0] 52)) (w.heap.size) #[.int .i64 p, .int .i64 d, .int .i64 0] := (Bx.new (b := w.heap.size) _ #[.int .i64 p, .int .i64 d, .int .i64 0] 52 (by first | rfl | simp))
            have zz1 : w.heap.size + 1 ≤ (w.alloc (.cells #[.int .i64 p, .int .i64 d, .int .i64 0] 52)).heap.size := (by simp)
            generalize (w.alloc (.cells #[.int .i64 p, .int .i64 d, .int .i64 0] 52)) = w1 at *
            obtain ⟨cS_1, fS_1, zS_1⟩ := xS_1.out
            refine (with_eqU E1.out _).mono ?_
            rintro e w9 ⟨rfl, hw9⟩
            subst hw9
            go_wp2_with fail
            refine (isqr_eq E4.out _ (by omega) (by omega)).mono ?_
            rintro e w9 ⟨rfl, hw9⟩
            subst hw9
            go_wp2_with fail
            refine (with_eqU E2.out _).mono ?_
            rintro e w9 ⟨rfl, hw9⟩
            subst hw9
            go_wp2_with fail
            refine (with_eqU E3.out _).mono ?_
            rintro e w9 ⟨rfl, hw9⟩
            subst hw9
            go_wp2
            go_ret
            exact ⟨ret_bool HR.out, B1⟩
          · have hz2 : (q == 0) = false := by simp [hz]
            have m1 := mulQ (by omega) hp hp
            have m2 := tmod_bd (d - p * p) hz hq
            have m3 : IntKind.i64.wrap ((d - p * p).tmod q) = (d - p * p).tmod q := IntWalk.i64_in _ (by omega)
            have HR := Lib.hid (show (q != 0 && (d - p * p).tmod q == 0) = okU p d q by simp [okU, e1, e2, e3, e4, hz])
            go_enter Try.func65, Try.ntmps65
            go_wp2_with fail
            have B1 : Bl w (w.alloc (.cells #[.int .i64 p, .int .i64 d, .int .i64 q] 52)) := (bl_alloc (bl_refl _) _)
            have xS_1 : Bx (w.alloc (.cells #[.int .i64 p, .int .i64 d, .int .i64 q] 52)) (w.heap.size) #[.int .i64 p, .int .i64 d, .int .i64 q] := (Bx.new (b := w.heap.size) _ #[.int .i64 p, .int .i64 d, .int .i64 q] 52 (by first | rfl | simp))
            have zz1 : w.heap.size + 1 ≤ (w.alloc (.cells #[.int .i64 p, .int .i64 d, .int .i64 q] 52)).heap.size := (by simp)
            generalize (w.alloc (.cells #[.int .i64 p, .int .i64 d, .int .i64 q] 52)) = w1 at *
            obtain ⟨cS_1, fS_1, zS_1⟩ := xS_1.out
            refine (with_eqU E1.out _).mono ?_
            rintro e w9 ⟨rfl, hw9⟩
            subst hw9
            go_wp2_with fail
            refine (isqr_eq E4.out _ (by omega) (by omega)).mono ?_
            rintro e w9 ⟨rfl, hw9⟩
            subst hw9
            go_wp2_with fail
            refine (with_eqU E2.out _).mono ?_
            rintro e w9 ⟨rfl, hw9⟩
            subst hw9
            go_wp2_with fail
            refine (with_eqU E3.out _).mono ?_
            rintro e w9 ⟨rfl, hw9⟩
            subst hw9
            go_wp2
            go_ret
            exact ⟨ret_bool HR.out, B1⟩
theorem iokU_eq {p d q : Int} {b : Bool} (h : okU p d q = b) (w : World) : Calls Try.prog 65 #[.agg #[.int .i64 p, .int .i64 d, .int .i64 q]] w fun e w' => e = .returned (.bool b) ∧ Bl w w' := h ▸ iokU_any p d q w
theorem flU_neg {x m : Int} (hm : 0 < m) : -(x / m) - 1 = (-x - 1) / m := by
  have e1 := Int.mul_ediv_add_emod x m
  have e2 := Int.emod_nonneg x (show m ≠ 0 by omega)
  have e3 := Int.emod_lt_of_pos x hm
  generalize x / m = t at *
  generalize x % m = u at *
  have e : -x - 1 = (m - 1 - u) + m * (-t - 1) := by
    have : m * (-t - 1) = -(m * t) - m := by grind
    rw [this]
    generalize m * t = y at *
    omega
  rw [e, Int.add_mul_ediv_left _ _ (by omega), Int.ediv_eq_zero_of_lt (by omega) (by omega)]
  omega
set_option maxRecDepth 100000 in
set_option maxHeartbeats 3200000 in
theorem iflU_any {p d q : Int} (w : World) (h : okU p d q = true) : Calls Try.prog 103 #[.agg #[.int .i64 p, .int .i64 d, .int .i64 q]] w fun e w' => e = .returned (.int .i64 (flU p d q)) ∧ Bl w w' := by
  obtain ⟨h1, h2, h3, h4, _⟩ := okU_iff.1 h
  have r := rootZ_bd (n := d) (M := 1001) (by omega) (by omega) (by omega)
  clear h
  by_cases hq : 0 < q
  · have HR := Lib.hid (show (p + rootZ d) / q = flU p d q by rw [flU, if_pos hq])
    go_enter Try.func103, Try.ntmps103
    go_wp2_with fail
    have B1 : Bl w (w.alloc (.cells #[.int .i64 p, .int .i64 d, .int .i64 q] 52)) := (bl_alloc (bl_refl _) _)
    have xS_1 : Bx (w.alloc (.cells #[.int .i64 p, .int .i64 d, .int .i64 q] 52)) (w.heap.size) #[.int .i64 p, .int .i64 d, .int .i64 q] := (Bx.new (b := w.heap.size) _ #[.int .i64 p, .int .i64 d, .int .i64 q] 52 (by first | rfl | simp))
    have zz1 : w.heap.size + 1 ≤ (w.alloc (.cells #[.int .i64 p, .int .i64 d, .int .i64 q] 52)).heap.size := (by simp)
    generalize (w.alloc (.cells #[.int .i64 p, .int .i64 d, .int .i64 q] 52)) = w1 at *
    obtain ⟨cS_1, fS_1, zS_1⟩ := xS_1.out
    refine (iroot_any d _ (by omega) (by omega)).mono ?_
    rintro e w9 ⟨rfl, hw9⟩
    subst hw9
    go_wp2_with fail
    refine (fdiv_any _ _ _ (by omega) (by omega) (by omega) (by omega)).mono ?_
    rintro e w9 ⟨rfl, hw9⟩
    subst hw9
    go_wp2
    go_ret
    exact ⟨ret_int HR.out, B1⟩
  · obtain ⟨m, hm⟩ : ∃ m, m = -q := ⟨_, rfl⟩
    have hm0 : 0 < m := by omega
    have HR := Lib.hid (show -((p + rootZ d) / m) - 1 = flU p d q by rw [flU, if_neg hq, flU_neg hm0, ← hm, show -p - rootZ d - 1 = -(p + rootZ d) - 1 by omega])
    have hwm : IntKind.i64.wrap (-q) = m := by rw [IntKind.wrap_i64]; omega
    have hm1 : m ≤ 1000000 := by omega
    have hb := ediv_bd (p + rootZ d) m 1002001 (by omega) (by omega) (by omega)
    clear hm
    go_enter Try.func103, Try.ntmps103
    go_wp2_with fail
    have B1 : Bl w (w.alloc (.cells #[.int .i64 p, .int .i64 d, .int .i64 q] 52)) := (bl_alloc (bl_refl _) _)
    have xS_1 : Bx (w.alloc (.cells #[.int .i64 p, .int .i64 d, .int .i64 q] 52)) (w.heap.size) #[.int .i64 p, .int .i64 d, .int .i64 q] := (Bx.new (b := w.heap.size) _ #[.int .i64 p, .int .i64 d, .int .i64 q] 52 (by first | rfl | simp))
    have zz1 : w.heap.size + 1 ≤ (w.alloc (.cells #[.int .i64 p, .int .i64 d, .int .i64 q] 52)).heap.size := (by simp)
    generalize (w.alloc (.cells #[.int .i64 p, .int .i64 d, .int .i64 q] 52)) = w1 at *
    obtain ⟨cS_1, fS_1, zS_1⟩ := xS_1.out
    refine (iroot_any d _ (by omega) (by omega)).mono ?_
    rintro e w9 ⟨rfl, hw9⟩
    subst hw9
    go_wp2_with fail
    refine (fdiv_any _ _ _ (by omega) (by omega) (by omega) (by omega)).mono ?_
    rintro e w9 ⟨rfl, hw9⟩
    subst hw9
    go_wp2
    go_ret
    exact ⟨ret_int HR.out, B1⟩
theorem iflU_eq {p d q a : Int} (h : flU p d q = a) (w : World) (h1 : okU p d q = true) : Calls Try.prog 103 #[.agg #[.int .i64 p, .int .i64 d, .int .i64 q]] w fun e w' => e = .returned (.int .i64 a) ∧ Bl w w' := h ▸ iflU_any w h1
set_option maxRecDepth 100000 in
set_option maxHeartbeats 3200000 in
theorem inxU_any {p d q : Int} (w : World) (h : okU p d q = true) : Calls Try.prog 69 #[.agg #[.int .i64 p, .int .i64 d, .int .i64 q]] w fun e w' => ∃ x z : Int, e = .returned (.tuple #[.int .i64 (flU p d q), .agg #[.int .i64 x, .int .i64 d, .int .i64 z], .bool (nxU p d q (flU p d q)).2]) ∧ ((nxU p d q (flU p d q)).2 = true → (nxU p d q (flU p d q)).1 = (x, d, z)) ∧ Bl w w' := by
  obtain ⟨h1, h2, h3, h4, _⟩ := okU_iff.1 h
  have ha := flU_bd h
  have HOK := Lib.hid h
  obtain ⟨a, hfa⟩ : ∃ a, flU p d q = a := ⟨_, rfl⟩
  have HFA := Lib.hid hfa
  rw [hfa] at ha ⊢
  have m1 := mulQ (by omega) ha h3
  clear h hfa
  have hz2 : (q == 0) = false := by simp [h4]
  obtain ⟨x, hx⟩ : ∃ x, a * q - p = x := ⟨_, rfl⟩
  have hwx : IntKind.i64.wrap (a * q - p) = x := by rw [hx, IntKind.wrap_i64]; omega
  have hxb : -1003002000000 ≤ x ∧ x ≤ 1003002000000 := by omega
  obtain ⟨s, hs⟩ : ∃ s, IntKind.i64.wrap (x * x) = s := ⟨_, rfl⟩
  obtain ⟨u, hu⟩ : ∃ u, IntKind.i64.wrap (d - s) = u := ⟨_, rfl⟩
  obtain ⟨z, hz⟩ : ∃ z, IntKind.i64.wrap (u.tdiv q) = z := ⟨_, rfl⟩
  have HN : Hid ((nxU p d q a).2 = okU x d z ∧ ((nxU p d q a).2 = true → (nxU p d q a).1 = (x, d, z))) := Lib.hid (by
    unfold nxU
    rw [hx]
    cases e1 : inB x (-1000000) 1000000 with
    | false => exact ⟨by simp [okU, e1], fun e => by cases e⟩
    | true =>
      have hb := inB_iff.1 e1
      have m2 := mulQ (by omega) hb hb
      have es : s = x * x := by rw [← hs]; exact IntWalk.i64_in _ (by omega)
      have eu : u = d - x * x := by rw [← hu, es]; exact IntWalk.i64_in _ (by omega)
      have ez : z = (d - x * x).tdiv q := by
        have := tdiv_bd (a := d - x * x) (M := 1000001000000) q (by omega)
        rw [← hz, eu]; exact IntWalk.i64_in _ (by omega)
      rw [ez]
      exact ⟨rfl, fun _ => rfl⟩)
  clear hx
  go_enter Try.func69, Try.ntmps69
  go_wp2_with fail
  have B1 : Bl w ((w.alloc (.cells #[.int .i64 p, .int .i64 d, .int .i64 q] 52)).alloc (.cells #[.int .i64 0, .int .i64 0, .int .i64 0] 52)) := (bl_alloc (bl_alloc (bl_refl _) _) _)
  have xS_1 : Bx ((w.alloc (.cells #[.int .i64 p, .int .i64 d, .int .i64 q] 52)).alloc (.cells #[.int .i64 0, .int .i64 0, .int .i64 0] 52)) (w.heap.size) #[.int .i64 p, .int .i64 d, .int .i64 q] := ((Bx.new (b := w.heap.size) _ #[.int .i64 p, .int .i64 d, .int .i64 q] 52 (by first | rfl | simp)).alloc _)
  have xR_1 : Bx ((w.alloc (.cells #[.int .i64 p, .int .i64 d, .int .i64 q] 52)).alloc (.cells #[.int .i64 0, .int .i64 0, .int .i64 0] 52)) (w.heap.size + 1) #[.int .i64 0, .int .i64 0, .int .i64 0] := (Bx.new (b := w.heap.size + 1) _ #[.int .i64 0, .int .i64 0, .int .i64 0] 52 (by first | rfl | simp))
  have zz1 : w.heap.size + 2 ≤ ((w.alloc (.cells #[.int .i64 p, .int .i64 d, .int .i64 q] 52)).alloc (.cells #[.int .i64 0, .int .i64 0, .int .i64 0] 52)).heap.size := (by simp)
  generalize ((w.alloc (.cells #[.int .i64 p, .int .i64 d, .int .i64 q] 52)).alloc (.cells #[.int .i64 0, .int .i64 0, .int .i64 0] 52)) = w1 at *
  obtain ⟨cS_1, fS_1, zS_1⟩ := xS_1.out
  obtain ⟨cR_1, fR_1, zR_1⟩ := xR_1.out
  go_wp2_with fail
  refine ((iflU_eq HFA.out _ HOK.out)).mono ?_
  rintro e w2 ⟨rfl, hb2⟩
  have B2 : Bl w w2 := bl_call B1 hb2
  have xS_2 : Bx w2 (w.heap.size) #[.int .i64 p, .int .i64 d, .int .i64 q] := xS_1.below hb2
  have xR_2 : Bx w2 (w.heap.size + 1) #[.int .i64 0, .int .i64 0, .int .i64 0] := xR_1.below hb2
  clear cS_1 fS_1 zS_1 cR_1 fR_1 zR_1
  obtain ⟨cS_2, fS_2, zS_2⟩ := xS_2.out
  obtain ⟨cR_2, fR_2, zR_2⟩ := xR_2.out
  go_wp2_with fail
  go_region
  all_goals
    have xN : Bx (w2.alloc (.cells #[.int .i64 x, .int .i64 d, .int .i64 z] 52)).drew (w2).heap.size #[.int .i64 x, .int .i64 d, .int .i64 z] := (Bx.new (b := (w2).heap.size) w2 _ 52 rfl).drew
    have xR2 := (xR_2.alloc (.cells #[.int .i64 x, .int .i64 d, .int .i64 z] 52)).drew
    have BN : Bl w (w2.alloc (.cells #[.int .i64 x, .int .i64 d, .int .i64 z] 52)).drew := bl_drew (bl_alloc B2 _)
    have zN : (w2).heap.size + 1 ≤ ((w2.alloc (.cells #[.int .i64 x, .int .i64 d, .int .i64 z] 52)).drew).heap.size := by simp
    have zlt := xR_2.out.2.2
    clear cS_2 fS_2 zS_2 cR_2 fR_2 zR_2
    generalize (w2.alloc (.cells #[.int .i64 x, .int .i64 d, .int .i64 z] 52)).drew = w2 at *
    obtain ⟨cN, fN, zN'⟩ := xN.out
    obtain ⟨cR, fR, zR⟩ := xR2.out
    go_wp2_with fail
    go_region_with
      ((go_at_call 65; go_must (refine (iokU_any x d z _).mono ?_; rintro e w3 ⟨rfl, hb3⟩; have xN3 := xN.drew.below hb3; have xR3 := xR2.drew.below hb3; have B3 : Bl w w3 := bl_call (bl_drew BN) hb3; clear cN fN zN' cR fR zR; obtain ⟨cN, fN, zN'⟩ := xN3.out; obtain ⟨cR, fR, zR⟩ := xR3.out)))
    all_goals
      go_wp2
      refine bodyPost_ret (v := .tuple #[.int .i64 a, .agg #[.int .i64 x, .int .i64 d, .int .i64 z], .bool (okU x d z)]) (by simp only [results, Try.results69]; go_simp) rfl ?_
      exact ⟨x, z, by rw [HN.out.1], HN.out.2, (bl_set (bl_set (bl_set B3 (p := ⟨w.heap.size + 1, 0, none⟩) (by first | (simp; done) | (simp; omega)) _) (p := ⟨w.heap.size + 1, 1, none⟩) (by first | (simp; done) | (simp; omega)) _) (p := ⟨w.heap.size + 1, 2, none⟩) (by first | (simp; done) | (simp; omega)) _)⟩

end Go.Proofs.Ytgkelemfbmmgnaa

/- Surds: a map from surds to places that the call makes. Each theorem names its conditions. -/
namespace Go.Proofs.Ytgkelemfbmmgnaa
open Go.RowKit Go.Maps
set_option linter.unusedVariables false
set_option linter.unusedSimpArgs false
set_option maxRecDepth 100000

abbrev agU (p d q : Int) : Value := .agg #[.int .i64 p, .int .i64 d, .int .i64 q]
theorem laidU : laidOutB Try.prog = true := by kernel_rfl
theorem rowU : (52 : TypeId) < Try.prog.types.size := of_decide_eq_true (by kernel_rfl)
theorem wideU : (match Try.prog.underlying 52 with | some (.array _ _) | some (.struct _) => true | _ => false) = true := by kernel_rfl
theorem lawU : Keyed Try.prog 52 := Keyed.of_law (deep_law_laid laidU (m := 2) (by omega) rowU (by kernel_rfl) wideU)
theorem keytU : Try.prog.keyType 52 = true := by kernel_rfl
theorem zeroU (w : World) : (zeroValue 3).run Try.prog w = .ok (.int .i64 0) w := by kernel_rfl
theorem szU : ∃ m, Try.prog.types.size = m + 2 := ⟨Try.prog.types.size - 2, by have h : 2 ≤ Try.prog.types.size := of_decide_eq_true (by kernel_rfl); omega⟩
theorem keyU {p d q : Int} (hp : R64 p) (hd : R64 d) (hq : R64 q) : ∃ kl, keyOf Try.prog 52 (agU p d q) = some kl := by
  have hkt := keytU
  obtain ⟨m, hm⟩ := szU
  have wp := WalkArith.wf_i64 hp
  have wd := WalkArith.wf_i64 hd
  have wq := WalkArith.wf_i64 hq
  have c1 : Try.prog.cellsOf 2 = 1 := by kernel_rfl
  have c3 : Try.prog.cellsOf 52 = 3 := by kernel_rfl
  have ui := Try.underlying2
  unfold keyOf
  simp only [Try.underlying52]
  rw [if_pos (by simp [hkt, agU, Value.formed, Try.underlying52, c3]), hm]
  unfold Program.keyLits
  simp only [Try.underlying52, Value.cells, agU]
  rw [if_pos (by rw [c3]; refine ⟨rfl, by simp⟩)]
  simp [c1, Program.keyLits, ui, wp, wd, wq]

/-- A map of the call's own from the surds of a list to their places. -/
def MpU (w : World) (b : Nat) (L : List Sud) : Prop :=
  ∃ D : DataW Unit, w.ownsMap Try.prog 52 (plainElem Try.prog 3) b L.length D ∧ IsMap D ∧
    ∀ (p d q : Int) (kl : Lit), keyOf Try.prog 52 (agU p d q) = some kl → has D kl = (fiU (p, d, q) L 0).isSome ∧ ∀ k, fiU (p, d, q) L 0 = some k → D.atKey kl (.lit (.int .i64 0)) = .lit (.int .i64 (k : Nat))
theorem MpU.made (w : World) : MpU (w.alloc (.map #[] 0)) w.heap.size [] :=
  ⟨.map [], World.ownsMap_made _ _ _ _, isMap_empty, fun p d q kl h => ⟨rfl, fun k e => by cases e⟩⟩
theorem MpU.lt {w : World} {b : Nat} {L : List Sud} (h : MpU w b L) : b < w.heap.size := by
  obtain ⟨D, h, _⟩ := h
  exact h.lt
theorem MpU.kept {w w' : World} {b : Nat} {L : List Sud} {row : Option Nat} (h : MpU w b L) (hg : w.grownBy w' row) (hne : some b ≠ row) : MpU w' b L := by
  obtain ⟨D, h, r⟩ := h
  exact ⟨D, h.kept hg hne, r⟩
theorem MpU.below {w w' : World} {b : Nat} {L : List Sud} (h : MpU w b L) (hb : Bl w w') : MpU w' b L := h.kept (grown_of_below hb none) (by simp)
theorem MpU.drew {w : World} {b : Nat} {L : List Sud} (h : MpU w b L) : MpU w.drew b L := h
theorem MpU.far {w : World} {b : Nat} {L : List Sud} (h : MpU w b L) {p : Addr} (hp : b ≠ p.block) (u : Value) : MpU (w.setCell p u) b L :=
  h.kept (row := some p.block) ⟨rfl, rfl, rfl, by simp, fun k hk hne => Below.heap_setCell w p u k (fun e => hne (by rw [e]))⟩ (by simpa using hp)
theorem fiU_app {x s : Sud} (L : List Sud) : ∀ k, fiU x (L ++ [s]) k = match fiU x L k with | some j => some j | none => if s = x then some (k + L.length) else none := by
  induction L with
  | nil => intro k; simp [fiU]
  | cons y L ih =>
    intro k
    simp only [List.cons_append, fiU]
    by_cases h : y = x
    · simp [h]
    · simp only [h, if_false]
      rw [ih]
      simp only [List.length_cons, show k + 1 + L.length = k + (L.length + 1) by omega]
/-- The look-up. -/
theorem MpU.look {w : World} {b : Nat} {L : List Sud} {p d q : Int} (h : MpU w b L) (hp : R64 p) (hd : R64 d) (hq : R64 q) :
    ∃ c : Int, (∀ {em : Bool}, em = true → (Instr.lookup 144 (.map (some b)) (agU p d q) em).run Try.prog w = .ok (.tuple #[.int .i64 c, .bool (fiU (p, d, q) L 0).isSome]) w) ∧ ∀ k, fiU (p, d, q) L 0 = some k → c = (k : Nat) := by
  obtain ⟨D, ho, hm, hr⟩ := h
  obtain ⟨kl, hk⟩ := keyU hp hd hq
  obtain ⟨v, ps, hrun, hv⟩ := ho.look_ok lawU Try.underlying144 (zeroU w) (plainElem_int Try.underlying3 (by decide)) hk
  obtain ⟨c, rfl, hc, hwc⟩ := plainElem_int_inv Try.underlying3 hv
  simp only [Prod.mk.injEq] at hc
  obtain ⟨e1, e2⟩ := hr p d q kl hk
  refine ⟨c, fun he => by rw [he, hrun, e1], fun k hf => ?_⟩
  have := (e2 k hf).symm.trans hc.1
  injection this with this
  injection this with _ this
  exact this.symm
/-- The store at a key that is not there. -/
theorem MpU.store {w : World} {b : Nat} {L : List Sud} {p d q : Int} (h : MpU w b L) (hp : R64 p) (hd : R64 d) (hq : R64 q) (hl : L.length ≤ 400) (hn : fiU (p, d, q) L 0 = none) :
    ∃ w', (Instr.mapUpdate 144 (.map (some b)) (agU p d q) (.int .i64 L.length)).run Try.prog w = .ok () w' ∧ MpU w' b (L ++ [(p, d, q)]) ∧ w.grownBy w' (some b) := by
  obtain ⟨D, ho, hm, hr⟩ := h
  obtain ⟨kl, hk⟩ := keyU hp hd hq
  obtain ⟨w', hrun, ho', hg⟩ := ho.update lawU Try.underlying144 (by unfold maxLen; omega) hk (plainElem_int Try.underlying3 (WalkArith.wf_i64 (n := (L.length : Int)) (by omega)))
  refine ⟨w', hrun, ⟨_, by rw [List.length_append]; exact ho', hm.put _ _, fun p1 d1 q1 kl1 hk1 => ?_⟩, hg⟩
  by_cases he : (p1, d1, q1) = (p, d, q)
  · simp only [Prod.mk.injEq] at he
    obtain ⟨rfl, rfl, rfl⟩ := he
    obtain rfl : kl1 = kl := by rw [hk] at hk1; injection hk1 with e; exact e.symm
    have hf : fiU (p1, d1, q1) (L ++ [(p1, d1, q1)]) 0 = some L.length := by rw [fiU_app, hn]; simp
    refine ⟨by rw [has_put_same hm (lawU.key hk), hf]; rfl, fun k e => ?_⟩
    rw [hf] at e
    injection e with e
    rw [← e]
    exact atKey_put_same hm (lawU.key hk) _ _
  · have hkk : kl1 ≠ kl := by
      intro e
      subst e
      have := lawU.inj hk hk1
      simp only [agU, Value.agg.injEq] at this
      have := congrArg Array.toList this
      simp at this
      exact he (by simp [this.1, this.2.1, this.2.2])
    have hf : fiU (p1, d1, q1) (L ++ [(p, d, q)]) 0 = fiU (p1, d1, q1) L 0 := by
      rw [fiU_app]
      have e2 : ¬ (p, d, q) = (p1, d1, q1) := fun e => he e.symm
      cases fiU (p1, d1, q1) L 0 with
      | some j => rfl
      | none => simp only [if_neg e2]
    rw [hf, has_put_other hkk, atKey_put_other hkk]
    exact hr p1 d1 q1 kl1 hk1

end Go.Proofs.Ytgkelemfbmmgnaa

