/- Surds: the reference's small functions. Each theorem names its conditions. -/
import Derived.Test.YtndblondleclpaaGreatDoorSurdM
import Derived.Test.YtndblondleclpaaGreatDoorNum
import Derived.BigQuiet
namespace Go.Proofs.YtndblondleclpaaGreatDoor
open Go.RowKit
set_option linter.unusedVariables false
set_option linter.unusedSimpArgs false

theorem mulQ {x y X Y : Int} (hX : 0 ≤ X) (h1 : -X ≤ x ∧ x ≤ X) (h2 : -Y ≤ y ∧ y ≤ Y) : -(X * Y) ≤ x * y ∧ x * y ≤ X * Y := by
  have a := Int.mul_nonneg (show 0 ≤ X + x by omega) (show 0 ≤ Y + y by omega)
  have b := Int.mul_nonneg (show 0 ≤ X - x by omega) (show 0 ≤ Y - y by omega)
  have c := Int.mul_nonneg (show 0 ≤ X + x by omega) (show 0 ≤ Y - y by omega)
  have d := Int.mul_nonneg (show 0 ≤ X - x by omega) (show 0 ≤ Y + y by omega)
  have e1 : (X + x) * (Y + y) = X * Y + X * y + x * Y + x * y := by grind
  have e2 : (X - x) * (Y - y) = X * Y - X * y - x * Y + x * y := by grind
  have e3 : (X + x) * (Y - y) = X * Y - X * y + x * Y - x * y := by grind
  have e4 : (X - x) * (Y + y) = X * Y + X * y - x * Y - x * y := by grind
  constructor <;> omega
theorem tmod_bd (a : Int) {b M : Int} (hb : b ≠ 0) (h : -M ≤ b ∧ b ≤ M) : -M ≤ a.tmod b ∧ a.tmod b ≤ M := by
  have e := Int.natAbs_tmod a b
  have := Nat.mod_lt a.natAbs (show 0 < b.natAbs by omega)
  omega
theorem tdiv_bd {a M : Int} (b : Int) (h : -M ≤ a ∧ a ≤ M) : -M ≤ a.tdiv b ∧ a.tdiv b ≤ M := by
  have e : (a.tdiv b).natAbs ≤ a.natAbs := by rw [Int.natAbs_tdiv]; exact Nat.div_le_self _ _
  omega
theorem in_eqU {n lo hi : Int} {b : Bool} (h : inB n lo hi = b) (w : World) : Calls Tryz.prog 49 #[.int .i64 n, .int .i64 lo, .int .i64 hi] w fun e w' => e = .returned (.bool b) ∧ w = w' := h ▸ in_any n lo hi w
set_option maxRecDepth 100000 in
set_option maxHeartbeats 3200000 in
theorem sroot_any (n : Int) (w : World) (h0 : 0 ≤ n) (h1 : n ≤ 1000000000000000000) : Calls Tryz.prog 198 #[.int .i64 n] w fun e w' => e = .returned (.int .i64 (rootZ n)) ∧ w = w' := by
  go_enter Tryz.func198, Tryz.ntmps198
  go_wp2_with fail
  go_loopw [3, 4] (fun s3 s4 wr => ∃ a b : Int, s3 = .int .i64 a ∧ s4 = .int .i64 b ∧ 0 ≤ a ∧ a < b ∧ b ≤ 1000000001 ∧ Hid (a * a ≤ n) ∧ Hid (n < b * b) ∧ wr = w) (fun s3 s4 _ => (intOf s4 - intOf s3).toNat)
  case atStart => exact ⟨0, 1000000001, rfl, rfl, by omega, by omega, by omega, Lib.hid (by omega), Lib.hid (by omega), rfl⟩
  case round =>
    obtain ⟨a, b, rfl, rfl, ha, hab, hb, HA, HB, hw⟩ := hrel
    subst hw
    by_cases h2 : 1 < b - a
    · obtain ⟨m, hm⟩ : ∃ m, (a + b).tdiv 2 = m := ⟨_, rfl⟩
      have hm1 : a < m ∧ m < b := by
        rw [Int.tdiv_eq_ediv_of_nonneg (by omega)] at hm
        omega
      have hq := mulQ (X := 1000000000) (x := m) (y := m) (by omega) (by omega) (show -1000000000 ≤ m ∧ m ≤ 1000000000 by omega)
      have hwm : IntKind.i64.wrap ((a + b).tdiv 2) = m := by rw [hm, IntKind.wrap_i64]; omega
      clear hm
      by_cases hle : m * m ≤ n
      · have HA2 := Lib.hid hle
        go_wp2
        go_roundw
        case rel => exact ⟨m, b, rfl, rfl, by omega, by omega, hb, HA2, HB, by first | rfl | trivial⟩
        case measure => simp only [intOf]; omega
      · have HB2 := Lib.hid (show n < m * m by omega)
        go_wp2
        go_roundw
        case rel => exact ⟨a, m, rfl, rfl, by omega, by omega, by omega, HA, HB2, by first | rfl | trivial⟩
        case measure => simp only [intOf]; omega
    · have e : b = a + 1 := by omega
      have HR := Lib.hid (show a = rootZ n from (rootZ_eq ha HA.out (by rw [← e]; exact HB.out)).symm)
      go_wp2
      go_ret
      exact ⟨ret_int HR.out, rfl⟩
set_option maxRecDepth 100000 in
set_option maxHeartbeats 3200000 in
theorem ssqr_any (n : Int) (w : World) (h0 : 0 ≤ n) (h1 : n ≤ 1000000000000000000) : Calls Tryz.prog 180 #[.int .i64 n] w fun e w' => e = .returned (.bool (sqrZ n)) ∧ w = w' := by
  have hr := rootZ_ok h0
  have hb := Int.mul_nonneg hr.1 hr.1
  have HR := Lib.hid (show (rootZ n * rootZ n == n) = sqrZ n from rfl)
  go_enter Tryz.func180, Tryz.ntmps180
  go_wp2_with fail
  refine (sroot_any n _ h0 h1).mono ?_
  rintro e w9 ⟨rfl, rfl⟩
  go_wp2
  go_ret
  exact ⟨ret_bool HR.out, rfl⟩
theorem ssqr_eq {n : Int} {b : Bool} (h : sqrZ n = b) (w : World) (h0 : 0 ≤ n) (h1 : n ≤ 1000000000000000000) : Calls Tryz.prog 180 #[.int .i64 n] w fun e w' => e = .returned (.bool b) ∧ w = w' := h ▸ ssqr_any n w h0 h1
set_option maxRecDepth 100000 in
set_option maxHeartbeats 3200000 in
theorem sokU_any (p d q : Int) (w : World) : Calls Tryz.prog 178 #[.agg #[.int .i64 p, .int .i64 d, .int .i64 q]] w fun e w' => e = .returned (.bool (okU p d q)) ∧ Bl w w' := by
  cases e1 : inB d 2 1000000 with
  | false =>
    have E1 := Lib.hid e1
    have HR := Lib.hid (show false = okU p d q by simp [okU, e1])
    go_enter Tryz.func178, Tryz.ntmps178
    go_wp2_with fail
    have B1 : Bl w (w.alloc (.cells #[.int .i64 p, .int .i64 d, .int .i64 q] 143)) := (bl_alloc (bl_refl _) _)
    have xS_1 : Bx (w.alloc (.cells #[.int .i64 p, .int .i64 d, .int .i64 q] 143)) (w.heap.size) #[.int .i64 p, .int .i64 d, .int .i64 q] := (Bx.new (b := w.heap.size) _ #[.int .i64 p, .int .i64 d, .int .i64 q] 143 (by first | rfl | simp))
    have zz1 : w.heap.size + 1 ≤ (w.alloc (.cells #[.int .i64 p, .int .i64 d, .int .i64 q] 143)).heap.size := (by simp)
    generalize (w.alloc (.cells #[.int .i64 p, .int .i64 d, .int .i64 q] 143)) = w1 at *
    obtain ⟨cS_1, fS_1, zS_1⟩ := xS_1.out
    refine (in_eqU E1.out _).mono ?_
    rintro e w9 ⟨rfl, hw9⟩
    subst hw9
    go_wp2
    go_ret
    exact ⟨ret_bool HR.out, B1⟩
  | true =>
    have E1 := Lib.hid e1
    have hd := inB_iff.1 e1
    cases e2 : inB p (-1000000) 1000000 with
    | false =>
      have E2 := Lib.hid e2
      have HR := Lib.hid (show false = okU p d q by simp [okU, e1, e2])
      go_enter Tryz.func178, Tryz.ntmps178
      go_wp2_with fail
      have B1 : Bl w (w.alloc (.cells #[.int .i64 p, .int .i64 d, .int .i64 q] 143)) := (bl_alloc (bl_refl _) _)
      have xS_1 : Bx (w.alloc (.cells #[.int .i64 p, .int .i64 d, .int .i64 q] 143)) (w.heap.size) #[.int .i64 p, .int .i64 d, .int .i64 q] := (Bx.new (b := w.heap.size) _ #[.int .i64 p, .int .i64 d, .int .i64 q] 143 (by first | rfl | simp))
      have zz1 : w.heap.size + 1 ≤ (w.alloc (.cells #[.int .i64 p, .int .i64 d, .int .i64 q] 143)).heap.size := (by simp)
      generalize (w.alloc (.cells #[.int .i64 p, .int .i64 d, .int .i64 q] 143)) = w1 at *
      obtain ⟨cS_1, fS_1, zS_1⟩ := xS_1.out
      refine (in_eqU E1.out _).mono ?_
      rintro e w9 ⟨rfl, hw9⟩
      subst hw9
      go_wp2_with fail
      refine (in_eqU E2.out _).mono ?_
      rintro e w9 ⟨rfl, hw9⟩
      subst hw9
      go_wp2
      go_ret
      exact ⟨ret_bool HR.out, B1⟩
    | true =>
      have E2 := Lib.hid e2
      have hp := inB_iff.1 e2
      cases e3 : inB q (-1000000) 1000000 with
      | false =>
        have E3 := Lib.hid e3
        have HR := Lib.hid (show false = okU p d q by simp [okU, e1, e2, e3])
        go_enter Tryz.func178, Tryz.ntmps178
        go_wp2_with fail
        have B1 : Bl w (w.alloc (.cells #[.int .i64 p, .int .i64 d, .int .i64 q] 143)) := (bl_alloc (bl_refl _) _)
        have xS_1 : Bx (w.alloc (.cells #[.int .i64 p, .int .i64 d, .int .i64 q] 143)) (w.heap.size) #[.int .i64 p, .int .i64 d, .int .i64 q] := (Bx.new (b := w.heap.size) _ #[.int .i64 p, .int .i64 d, .int .i64 q] 143 (by first | rfl | simp))
        have zz1 : w.heap.size + 1 ≤ (w.alloc (.cells #[.int .i64 p, .int .i64 d, .int .i64 q] 143)).heap.size := (by simp)
        generalize (w.alloc (.cells #[.int .i64 p, .int .i64 d, .int .i64 q] 143)) = w1 at *
        obtain ⟨cS_1, fS_1, zS_1⟩ := xS_1.out
        refine (in_eqU E1.out _).mono ?_
        rintro e w9 ⟨rfl, hw9⟩
        subst hw9
        go_wp2_with fail
        refine (in_eqU E2.out _).mono ?_
        rintro e w9 ⟨rfl, hw9⟩
        subst hw9
        go_wp2_with fail
        refine (in_eqU E3.out _).mono ?_
        rintro e w9 ⟨rfl, hw9⟩
        subst hw9
        go_wp2
        go_ret
        exact ⟨ret_bool HR.out, B1⟩
      | true =>
        have E3 := Lib.hid e3
        have hq := inB_iff.1 e3
        by_cases hz : q = 0
        · subst hz
          have HR := Lib.hid (show false = okU p d 0 by simp [okU, e1, e2, e3])
          go_enter Tryz.func178, Tryz.ntmps178
          go_wp2_with fail
          have B1 : Bl w (w.alloc (.cells #[.int .i64 p, .int .i64 d, .int .i64 0] 143)) := (bl_alloc (bl_refl _) _)
          have xS_1 : Bx (w.alloc (.cells #[.int .i64 p, .int .i64 d, .int .i64 0] 143)) (w.heap.size) #[.int .i64 p, .int .i64 d, .int .i64 0] := (Bx.new (b := w.heap.size) _ #[.int .i64 p, .int .i64 d, .int .i64 0] 143 (by first | rfl | simp))
          have zz1 : w.heap.size + 1 ≤ (w.alloc (.cells #[.int .i64 p, .int .i64 d, .int .i64 0] 143)).heap.size := (by simp)
          generalize (w.alloc (.cells #[.int .i64 p, .int .i64 d, .int .i64 0] 143)) = w1 at *
          obtain ⟨cS_1, fS_1, zS_1⟩ := xS_1.out
          refine (in_eqU E1.out _).mono ?_
          rintro e w9 ⟨rfl, hw9⟩
          subst hw9
          go_wp2_with fail
          refine (in_eqU E2.out _).mono ?_
          rintro e w9 ⟨rfl, hw9⟩
          subst hw9
          go_wp2_with fail
          refine (in_eqU E3.out _).mono ?_
          rintro e w9 ⟨rfl, hw9⟩
          subst hw9
          go_wp2
          go_ret
          exact ⟨ret_bool HR.out, B1⟩
        · have hz2 : (q == 0) = false := by simp [hz]
          cases e4 : sqrZ d with
          | true =>
            have E4 := Lib.hid e4
            have HR := Lib.hid (show false = okU p d q by simp [okU, e1, e2, e3, e4])
            clear hz
            go_enter Tryz.func178, Tryz.ntmps178
            go_wp2_with fail
            have B1 : Bl w (w.alloc (.cells #[.int .i64 p, .int .i64 d, .int .i64 q] 143)) := (bl_alloc (bl_refl _) _)
            have xS_1 : Bx (w.alloc (.cells #[.int .i64 p, .int .i64 d, .int .i64 q] 143)) (w.heap.size) #[.int .i64 p, .int .i64 d, .int .i64 q] := (Bx.new (b := w.heap.size) _ #[.int .i64 p, .int .i64 d, .int .i64 q] 143 (by first | rfl | simp))
            have zz1 : w.heap.size + 1 ≤ (w.alloc (.cells #[.int .i64 p, .int .i64 d, .int .i64 q] 143)).heap.size := (by simp)
            generalize (w.alloc (.cells #[.int .i64 p, .int .i64 d, .int .i64 q] 143)) = w1 at *
            obtain ⟨cS_1, fS_1, zS_1⟩ := xS_1.out
            refine (in_eqU E1.out _).mono ?_
            rintro e w9 ⟨rfl, hw9⟩
            subst hw9
            go_wp2_with fail
            refine (in_eqU E2.out _).mono ?_
            rintro e w9 ⟨rfl, hw9⟩
            subst hw9
            go_wp2_with fail
            refine (in_eqU E3.out _).mono ?_
            rintro e w9 ⟨rfl, hw9⟩
            subst hw9
            go_wp2_with fail
            refine (ssqr_eq E4.out _ (by omega) (by omega)).mono ?_
            rintro e w9 ⟨rfl, hw9⟩
            subst hw9
            go_wp2
            go_ret
            exact ⟨ret_bool HR.out, B1⟩
          | false =>
            have E4 := Lib.hid e4
            have m1 := mulQ (by omega) hp hp
            have m2 := tmod_bd (d - p * p) hz hq
            have m3 : IntKind.i64.wrap ((d - p * p).tmod q) = (d - p * p).tmod q := IntWalk.i64_in _ (by omega)
            have HR := Lib.hid (show ((d - p * p).tmod q == 0) = okU p d q by simp [okU, e1, e2, e3, e4, hz])
            go_enter Tryz.func178, Tryz.ntmps178
            go_wp2_with fail
            have B1 : Bl w (w.alloc (.cells #[.int .i64 p, .int .i64 d, .int .i64 q] 143)) := (bl_alloc (bl_refl _) _)
            have xS_1 : Bx (w.alloc (.cells #[.int .i64 p, .int .i64 d, .int .i64 q] 143)) (w.heap.size) #[.int .i64 p, .int .i64 d, .int .i64 q] := (Bx.new (b := w.heap.size) _ #[.int .i64 p, .int .i64 d, .int .i64 q] 143 (by first | rfl | simp))
            have zz1 : w.heap.size + 1 ≤ (w.alloc (.cells #[.int .i64 p, .int .i64 d, .int .i64 q] 143)).heap.size := (by simp)
            generalize (w.alloc (.cells #[.int .i64 p, .int .i64 d, .int .i64 q] 143)) = w1 at *
            obtain ⟨cS_1, fS_1, zS_1⟩ := xS_1.out
            refine (in_eqU E1.out _).mono ?_
            rintro e w9 ⟨rfl, hw9⟩
            subst hw9
            go_wp2_with fail
            refine (in_eqU E2.out _).mono ?_
            rintro e w9 ⟨rfl, hw9⟩
            subst hw9
            go_wp2_with fail
            refine (in_eqU E3.out _).mono ?_
            rintro e w9 ⟨rfl, hw9⟩
            subst hw9
            go_wp2_with fail
            refine (ssqr_eq E4.out _ (by omega) (by omega)).mono ?_
            rintro e w9 ⟨rfl, hw9⟩
            subst hw9
            go_wp2
            go_ret
            exact ⟨ret_bool HR.out, B1⟩
theorem sokU_eq {p d q : Int} {b : Bool} (h : okU p d q = b) (w : World) : Calls Tryz.prog 178 #[.agg #[.int .i64 p, .int .i64 d, .int .i64 q]] w fun e w' => e = .returned (.bool b) ∧ Bl w w' := h ▸ sokU_any p d q w
set_option maxRecDepth 100000 in
set_option maxHeartbeats 3200000 in
theorem sflU_any {p d q : Int} (w : World) (h : okU p d q = true) : Calls Tryz.prog 196 #[.agg #[.int .i64 p, .int .i64 d, .int .i64 q]] w fun e w' => e = .returned (.int .i64 (flU p d q)) ∧ Bl w w' := by
  obtain ⟨h1, h2, h3, h4, _⟩ := okU_iff.1 h
  have r := rootZ_bd (n := d) (M := 1001) (by omega) (by omega) (by omega)
  clear h
  by_cases hq : 0 < q
  · have HR := Lib.hid (show (p + rootZ d) / q = flU p d q by rw [flU, if_pos hq])
    go_enter Tryz.func196, Tryz.ntmps196
    go_wp2_with fail
    have B1 : Bl w (w.alloc (.cells #[.int .i64 p, .int .i64 d, .int .i64 q] 143)) := (bl_alloc (bl_refl _) _)
    have xS_1 : Bx (w.alloc (.cells #[.int .i64 p, .int .i64 d, .int .i64 q] 143)) (w.heap.size) #[.int .i64 p, .int .i64 d, .int .i64 q] := (Bx.new (b := w.heap.size) _ #[.int .i64 p, .int .i64 d, .int .i64 q] 143 (by first | rfl | simp))
    have zz1 : w.heap.size + 1 ≤ (w.alloc (.cells #[.int .i64 p, .int .i64 d, .int .i64 q] 143)).heap.size := (by simp)
    generalize (w.alloc (.cells #[.int .i64 p, .int .i64 d, .int .i64 q] 143)) = w1 at *
    obtain ⟨cS_1, fS_1, zS_1⟩ := xS_1.out
    refine (sroot_any d _ (by omega) (by omega)).mono ?_
    rintro e w9 ⟨rfl, hw9⟩
    subst hw9
    go_wp2_with fail
    refine (floor_any _ _ _ (by omega) (by omega) (by omega) (by omega)).mono ?_
    rintro e w9 ⟨rfl, hw9⟩
    subst hw9
    go_wp2
    go_ret
    exact ⟨ret_int HR.out, B1⟩
  · obtain ⟨m, hm⟩ : ∃ m, m = -q := ⟨_, rfl⟩
    have HR := Lib.hid (show (-p - rootZ d - 1) / m = flU p d q by rw [flU, if_neg hq, hm])
    have hwm : IntKind.i64.wrap (-q) = m := by rw [IntKind.wrap_i64]; omega
    have hm0 : 0 < m := by omega
    have hm1 : m ≤ 1000000 := by omega
    clear hm
    go_enter Tryz.func196, Tryz.ntmps196
    go_wp2_with fail
    have B1 : Bl w (w.alloc (.cells #[.int .i64 p, .int .i64 d, .int .i64 q] 143)) := (bl_alloc (bl_refl _) _)
    have xS_1 : Bx (w.alloc (.cells #[.int .i64 p, .int .i64 d, .int .i64 q] 143)) (w.heap.size) #[.int .i64 p, .int .i64 d, .int .i64 q] := (Bx.new (b := w.heap.size) _ #[.int .i64 p, .int .i64 d, .int .i64 q] 143 (by first | rfl | simp))
    have zz1 : w.heap.size + 1 ≤ (w.alloc (.cells #[.int .i64 p, .int .i64 d, .int .i64 q] 143)).heap.size := (by simp)
    generalize (w.alloc (.cells #[.int .i64 p, .int .i64 d, .int .i64 q] 143)) = w1 at *
    obtain ⟨cS_1, fS_1, zS_1⟩ := xS_1.out
    refine (sroot_any d _ (by omega) (by omega)).mono ?_
    rintro e w9 ⟨rfl, hw9⟩
    subst hw9
    go_wp2_with fail
    refine (floor_any _ _ _ (by omega) (by omega) (by omega) (by omega)).mono ?_
    rintro e w9 ⟨rfl, hw9⟩
    subst hw9
    go_wp2
    go_ret
    exact ⟨ret_int HR.out, B1⟩
set_option maxRecDepth 100000 in
set_option maxHeartbeats 3200000 in
theorem snxU_any {p d q a : Int} (w : World) (h : okU p d q = true) (ha : -1002001 ≤ a ∧ a ≤ 1002001) : Calls Tryz.prog 197 #[.agg #[.int .i64 p, .int .i64 d, .int .i64 q], .int .i64 a] w fun e w' => e = .returned (.tuple #[.agg #[.int .i64 (nxU p d q a).1.1, .int .i64 (nxU p d q a).1.2.1, .int .i64 (nxU p d q a).1.2.2], .bool (nxU p d q a).2]) ∧ Bl w w' := by
  obtain ⟨h1, h2, h3, h4, _⟩ := okU_iff.1 h
  have m1 := mulQ (by omega) ha h3
  clear h
  have hz2 : (q == 0) = false := by simp [h4]
  obtain ⟨x, hx⟩ : ∃ x, a * q - p = x := ⟨_, rfl⟩
  have hwx : IntKind.i64.wrap (a * q - p) = x := by rw [hx, IntKind.wrap_i64]; omega
  cases e1 : inB x (-1000000) 1000000 with
  | false =>
    have HR := Lib.hid (show nxU p d q a = ((0, 0, 0), false) by unfold nxU; rw [hx, e1]; rfl)
    have E1 := Lib.hid e1
    rw [HR.out]
    clear e1 hx
    go_enter Tryz.func197, Tryz.ntmps197
    go_wp2_with fail
    have B1 : Bl w ((w.alloc (.cells #[.int .i64 p, .int .i64 d, .int .i64 q] 143)).alloc (.cells #[.int .i64 0, .int .i64 0, .int .i64 0] 143)) := (bl_alloc (bl_alloc (bl_refl _) _) _)
    have xS_1 : Bx ((w.alloc (.cells #[.int .i64 p, .int .i64 d, .int .i64 q] 143)).alloc (.cells #[.int .i64 0, .int .i64 0, .int .i64 0] 143)) (w.heap.size) #[.int .i64 p, .int .i64 d, .int .i64 q] := ((Bx.new (b := w.heap.size) _ #[.int .i64 p, .int .i64 d, .int .i64 q] 143 (by first | rfl | simp)).alloc _)
    have xR_1 : Bx ((w.alloc (.cells #[.int .i64 p, .int .i64 d, .int .i64 q] 143)).alloc (.cells #[.int .i64 0, .int .i64 0, .int .i64 0] 143)) (w.heap.size + 1) #[.int .i64 0, .int .i64 0, .int .i64 0] := (Bx.new (b := w.heap.size + 1) _ #[.int .i64 0, .int .i64 0, .int .i64 0] 143 (by first | rfl | simp))
    have zz1 : w.heap.size + 2 ≤ ((w.alloc (.cells #[.int .i64 p, .int .i64 d, .int .i64 q] 143)).alloc (.cells #[.int .i64 0, .int .i64 0, .int .i64 0] 143)).heap.size := (by simp)
    generalize ((w.alloc (.cells #[.int .i64 p, .int .i64 d, .int .i64 q] 143)).alloc (.cells #[.int .i64 0, .int .i64 0, .int .i64 0] 143)) = w1 at *
    obtain ⟨cS_1, fS_1, zS_1⟩ := xS_1.out
    obtain ⟨cR_1, fR_1, zR_1⟩ := xR_1.out
    refine (in_eqU E1.out _).mono ?_
    rintro e w9 ⟨rfl, hw9⟩
    subst hw9
    go_wp2
    refine bodyPost_ret (v := .tuple #[.agg #[.int .i64 0, .int .i64 0, .int .i64 0], .bool false]) (by simp only [results, Tryz.results197]; go_simp) rfl ?_
    exact ⟨rfl, (bl_set (bl_set (bl_set B1 (p := ⟨w.heap.size + 1, 0, none⟩) (by first | (simp; done) | (simp; omega)) _) (p := ⟨w.heap.size + 1, 1, none⟩) (by first | (simp; done) | (simp; omega)) _) (p := ⟨w.heap.size + 1, 2, none⟩) (by first | (simp; done) | (simp; omega)) _)⟩
  | true =>
    have hxb := inB_iff.1 e1
    have m2 := mulQ (by omega) hxb hxb
    obtain ⟨y, hy⟩ : ∃ y, (d - x * x).tdiv q = y := ⟨_, rfl⟩
    have hyb : -1000001000000 ≤ y ∧ y ≤ 1000001000000 := by rw [← hy]; exact tdiv_bd q (by omega)
    have hwy : IntKind.i64.wrap ((d - x * x).tdiv q) = y := by rw [hy]; exact IntWalk.i64_in _ (by omega)
    have HR := Lib.hid (show nxU p d q a = ((x, d, y), okU x d y) by unfold nxU; rw [hx, e1, hy]; rfl)
    have E1 := Lib.hid e1
    rw [HR.out]
    clear e1 hx hy
    go_enter Tryz.func197, Tryz.ntmps197
    go_wp2_with fail
    have B1 : Bl w ((w.alloc (.cells #[.int .i64 p, .int .i64 d, .int .i64 q] 143)).alloc (.cells #[.int .i64 0, .int .i64 0, .int .i64 0] 143)) := (bl_alloc (bl_alloc (bl_refl _) _) _)
    have xS_1 : Bx ((w.alloc (.cells #[.int .i64 p, .int .i64 d, .int .i64 q] 143)).alloc (.cells #[.int .i64 0, .int .i64 0, .int .i64 0] 143)) (w.heap.size) #[.int .i64 p, .int .i64 d, .int .i64 q] := ((Bx.new (b := w.heap.size) _ #[.int .i64 p, .int .i64 d, .int .i64 q] 143 (by first | rfl | simp)).alloc _)
    have xR_1 : Bx ((w.alloc (.cells #[.int .i64 p, .int .i64 d, .int .i64 q] 143)).alloc (.cells #[.int .i64 0, .int .i64 0, .int .i64 0] 143)) (w.heap.size + 1) #[.int .i64 0, .int .i64 0, .int .i64 0] := (Bx.new (b := w.heap.size + 1) _ #[.int .i64 0, .int .i64 0, .int .i64 0] 143 (by first | rfl | simp))
    have zz1 : w.heap.size + 2 ≤ ((w.alloc (.cells #[.int .i64 p, .int .i64 d, .int .i64 q] 143)).alloc (.cells #[.int .i64 0, .int .i64 0, .int .i64 0] 143)).heap.size := (by simp)
    generalize ((w.alloc (.cells #[.int .i64 p, .int .i64 d, .int .i64 q] 143)).alloc (.cells #[.int .i64 0, .int .i64 0, .int .i64 0] 143)) = w1 at *
    obtain ⟨cS_1, fS_1, zS_1⟩ := xS_1.out
    obtain ⟨cR_1, fR_1, zR_1⟩ := xR_1.out
    refine (in_eqU E1.out _).mono ?_
    rintro e w9 ⟨rfl, hw9⟩
    subst hw9
    go_wp2_with fail
    go_region
    all_goals
      have xN : Bx (w1.alloc (.cells #[.int .i64 x, .int .i64 d, .int .i64 y] 143)).drew w1.heap.size #[.int .i64 x, .int .i64 d, .int .i64 y] := (Bx.new (b := w1.heap.size) w1 _ 143 rfl).drew
      have xR2 := (xR_1.alloc (.cells #[.int .i64 x, .int .i64 d, .int .i64 y] 143)).drew
      have BN : Bl w (w1.alloc (.cells #[.int .i64 x, .int .i64 d, .int .i64 y] 143)).drew := bl_drew (bl_alloc B1 _)
      have zN : w1.heap.size + 1 ≤ ((w1.alloc (.cells #[.int .i64 x, .int .i64 d, .int .i64 y] 143)).drew).heap.size := by simp
      clear cS_1 fS_1 zS_1 cR_1 fR_1 zR_1
      generalize (w1.alloc (.cells #[.int .i64 x, .int .i64 d, .int .i64 y] 143)).drew = w2 at *
      obtain ⟨cN, fN, zN'⟩ := xN.out
      obtain ⟨cR, fR, zR⟩ := xR2.out
      go_wp2_with fail
      go_region_with
        ((go_at_call 178; go_must (refine (sokU_any x d y _).mono ?_; rintro e w3 ⟨rfl, hb3⟩; have xN3 := xN.drew.below hb3; have xR3 := xR2.drew.below hb3; have B3 : Bl w w3 := bl_call (bl_drew BN) hb3; clear cN fN zN' cR fR zR; obtain ⟨cN, fN, zN'⟩ := xN3.out; obtain ⟨cR, fR, zR⟩ := xR3.out)))
      all_goals
        go_wp2
        refine bodyPost_ret (v := .tuple #[.agg #[.int .i64 x, .int .i64 d, .int .i64 y], .bool (okU x d y)]) (by simp only [results, Tryz.results197]; go_simp) rfl ?_
        exact ⟨rfl, (bl_set (bl_set (bl_set B3 (p := ⟨w.heap.size + 1, 0, none⟩) (by first | (simp; done) | (simp; omega)) _) (p := ⟨w.heap.size + 1, 1, none⟩) (by first | (simp; done) | (simp; omega)) _) (p := ⟨w.heap.size + 1, 2, none⟩) (by first | (simp; done) | (simp; omega)) _)⟩

/-- What the search gives. -/
def fiO (r : Option Nat) : Int := match r with | some k => (k : Int) | none => -1
def fiZ (s : Sud) (L : List Sud) : Int := fiO (fiU s L 0)
theorem fiU_drop {s x : Sud} {L : List Sud} {k : Nat} (h : L[k]? = some x) : fiU s (L.drop k) k = if x = s then some k else fiU s (L.drop (k + 1)) (k + 1) := by
  obtain ⟨hk, rfl⟩ := List.getElem?_eq_some_iff.1 h
  rw [List.drop_eq_getElem_cons hk, fiU]
set_option maxRecDepth 100000 in
set_option maxHeartbeats 3200000 in
theorem sfind_any {va : Value} {L : List Sud} (p d q : Int) (w : World) (ha : SlU w va L) : Calls Tryz.prog 195 #[va, .agg #[.int .i64 p, .int .i64 d, .int .i64 q]] w fun e w' => e = .returned (.int .i64 (fiZ (p, d, q) L)) ∧ Bl w w' := by
  have hl := ha.len
  have HA := Lib.hid ha
  obtain ⟨av, cv, rfl, _⟩ := ha.form
  clear ha
  obtain ⟨R, hR⟩ : ∃ R, fiU (p, d, q) L 0 = R := ⟨_, rfl⟩
  have HR := Lib.hid hR
  have HZ := Lib.hid (show fiZ (p, d, q) L = fiO R by unfold fiZ; rw [hR])
  clear hR
  go_enter Tryz.func195, Tryz.ntmps195
  go_wp2_with fail
  have x0 : Bx (w.alloc (.cells #[.int .i64 p, .int .i64 d, .int .i64 q] 143)) w.heap.size #[.int .i64 p, .int .i64 d, .int .i64 q] := Bx.new (b := w.heap.size) _ _ _ rfl
  have B0 : Bl w (w.alloc (.cells #[.int .i64 p, .int .i64 d, .int .i64 q] 143)) := bl_alloc (bl_refl w) _
  go_loopw [5] (fun s5 wr => ∃ k : Nat, k ≤ L.length ∧ s5 = .int .i64 k ∧ Hid (fiU (p, d, q) (L.drop k) k = R) ∧ Bl w wr ∧ Bx wr w.heap.size #[.int .i64 p, .int .i64 d, .int .i64 q]) (fun s5 _ => L.length - (intOf s5).toNat)
  case atStart => exact ⟨0, Nat.zero_le _, rfl, HR, B0, x0⟩
  case round =>
    obtain ⟨k, hk, rfl, HK, hB, xb⟩ := hrel
    clear x0 B0
    by_cases hlt : k < L.length
    · obtain ⟨b, o, rfl, p1, d1, q1, hx, c1, c2, c3⟩ := HA.out.cellAt hB hlt
      obtain ⟨cS, fS, zS⟩ := xb.out
      have HD := Lib.hid (fiU_drop (s := (p, d, q)) hx)
      clear hx
      by_cases heq : (p1, d1, q1) = (p, d, q)
      · have HF := Lib.hid (show (k : Int) = fiZ (p, d, q) L by rw [HZ.out, ← HK.out, HD.out, if_pos heq]; rfl)
        simp only [Prod.mk.injEq] at heq
        obtain ⟨rfl, rfl, rfl⟩ := heq
        go_wp2_with fail
        go_quiet (fail)
        rename_i nq
        have Bq : Bl w (wr.drewN nq) := bl_call hB (Drawn.below ⟨_, rfl⟩ _)
        go_wp2
        go_ret
        exact ⟨ret_int HF.out, Bq⟩
      · have HK2 := Lib.hid (show fiU (p, d, q) (L.drop (k + 1)) (k + 1) = R by rw [← HK.out, HD.out, if_neg heq])
        have hne : ((p1 == p) && ((d1 == d) && (q1 == q))) = false := by
          cases h : ((p1 == p) && ((d1 == d) && (q1 == q))) with
          | false => rfl
          | true =>
            simp only [Bool.and_eq_true, beq_iff_eq] at h
            exact absurd (by rw [h.1, h.2.1, h.2.2]) heq
        by_cases g1 : p1 = p
        · by_cases g2 : d1 = d
          · have g3 : ¬ q1 = q := fun g3 => heq (by rw [g1, g2, g3])
            have g3' : (q1 == q) = false := by simp [g3]
            subst g1
            subst g2
            clear heq hne g3
            go_wp2_with fail
            go_quiet (fail)
            rename_i nq
            have Bq : Bl w (wr.drewN nq) := bl_call hB (Drawn.below ⟨_, rfl⟩ _)
            have xq := xb.below (Drawn.below ⟨nq, rfl⟩ wr.heap.size)
            go_wp2
            go_roundw
            case rel => exact ⟨k + 1, by omega, by go_num, HK2, Bq, xq⟩
            case measure => simp only [intOf]; omega
          · have g2' : (d1 == d) = false := by simp [g2]
            clear heq hne g2
            subst g1
            go_wp2_with fail
            go_quiet (fail)
            rename_i nq
            have Bq : Bl w (wr.drewN nq) := bl_call hB (Drawn.below ⟨_, rfl⟩ _)
            have xq := xb.below (Drawn.below ⟨nq, rfl⟩ wr.heap.size)
            go_wp2
            go_roundw
            case rel => exact ⟨k + 1, by omega, by go_num, HK2, Bq, xq⟩
            case measure => simp only [intOf]; omega
        · have g1' : (p1 == p) = false := by simp [g1]
          clear heq hne g1
          go_wp2_with fail
          go_quiet (fail)
          rename_i nq
          have Bq : Bl w (wr.drewN nq) := bl_call hB (Drawn.below ⟨_, rfl⟩ _)
          have xq := xb.below (Drawn.below ⟨nq, rfl⟩ wr.heap.size)
          go_wp2
          go_roundw
          case rel => exact ⟨k + 1, by omega, by go_num, HK2, Bq, xq⟩
          case measure => simp only [intOf]; omega
    · have HF := Lib.hid (show (-1 : Int) = fiZ (p, d, q) L by
        rw [HZ.out, ← HK.out, List.drop_of_length_le (by omega)]; rfl)
      go_wp2
      go_ret
      exact ⟨ret_int HF.out, hB⟩

end Go.Proofs.YtndblondleclpaaGreatDoor
