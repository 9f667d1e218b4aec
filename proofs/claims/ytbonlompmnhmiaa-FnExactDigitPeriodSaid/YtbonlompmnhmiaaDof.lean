/- DigitsOfFraction: the program and the reference give the same. Each theorem names its conditions. -/
import Derived.Test.YtbonlompmnhmiaaDigs
import Derived.Test.YtbonlompmnhmiaaDig
import Derived.Test.YtbonlompmnhmiaaOk
namespace Go.Proofs.Ytbonlompmnhmiaa
open Go.RowKit
set_option linter.unusedVariables false
set_option linter.unusedSimpArgs false

/-- The digits of a fraction: floor, digits, code. -/
def dofF (n d b m : Int) : Int × List Int × Int :=
  if okF n d then (if inB b 2 36 then (if inB m 0 1000 then (n / d, digsG d b m.toNat (n - n / d * d), 0) else (0, [], 2)) else (0, [], 2)) else (0, [], 1)
theorem dof_bad {n d b m : Int} (h : okF n d = false) : dofF n d b m = (0, [], 1) := by simp [dofF, h]
theorem dof_base {n d b m : Int} (h : okF n d = true) (h2 : inB b 2 36 = false) : dofF n d b m = (0, [], 2) := by simp [dofF, h, h2]
theorem dof_cnt {n d b m : Int} (h : okF n d = true) (h2 : inB b 2 36 = true) (h3 : inB m 0 1000 = false) : dofF n d b m = (0, [], 2) := by simp [dofF, h, h2, h3]
theorem dof_yes {n d b : Int} {M : Nat} (h : okF n d = true) (h2 : inB b 2 36 = true) (h3 : inB (M : Int) 0 1000 = true) : dofF n d b M = (n / d, digsG d b M (n - n / d * d), 0) := by simp [dofF, h, h2, h3]
theorem dofF_len (n d b m : Int) : (dofF n d b m).2.1.length ≤ 1048576 := by
  cases e1 : okF n d
  · rw [dof_bad e1]; simp
  · cases e2 : inB b 2 36
    · rw [dof_base e1 e2]; simp
    · cases e3 : inB m 0 1000
      · rw [dof_cnt e1 e2 e3]; simp
      · have hm := inB_iff.1 e3
        obtain ⟨M, rfl⟩ := Int.eq_ofNat_of_zero_le hm.1
        rw [dof_yes e1 e2 e3]
        simp only [digsG_len]
        omega
theorem rest_ok {n d : Int} (hd : 1 ≤ d) : 0 ≤ n - n / d * d ∧ n - n / d * d < d := by
  have h1 := Int.emod_nonneg n (show d ≠ 0 by omega)
  have h2 := Int.emod_lt_of_pos n (show 0 < d by omega)
  have h3 := Int.mul_ediv_add_emod n d
  have h4 : n / d * d = d * (n / d) := Int.mul_comm _ _
  omega
theorem floor_ok {n d : Int} (hd : 1 ≤ d) (hn : -1000000000 ≤ n ∧ n ≤ 1000000000) : -1000000000 ≤ n / d ∧ n / d ≤ 1000000000 := by
  have a := Int.mul_le_mul_of_nonneg_left hd (show (0 : Int) ≤ 1000000000 by omega)
  exact ⟨(Int.le_ediv_iff_mul_le (by omega)).2 (by omega), Int.ediv_le_of_le_mul (by omega) (by omega)⟩
theorem validF_eq {n d : Int} {b : Bool} (h : okF n d = b) (w : World) : Calls Try.prog 49 #[.agg #[.int .i64 n, .int .i64 d]] w fun e w' => e = .returned (.bool b) ∧ Bl w w' := h ▸ validF_any n d w
theorem ok_eq {n d : Int} {b : Bool} (h : okF n d = b) (w : World) : Calls Try.prog 46 #[.agg #[.int .i64 n, .int .i64 d]] w fun e w' => e = .returned (.bool b) ∧ Bl w w' := h ▸ ok_any n d w

set_option maxRecDepth 100000 in
set_option maxHeartbeats 1600000 in
theorem impl_DigitsOfFraction (n d b m : Int) (w : World) :
    Calls Try.prog 15 #[.agg #[.int .i64 n, .int .i64 d], .int .i64 b, .int .i64 m] w fun e w' => ∃ a k c, e = .returned (.tuple #[.int .i64 (dofF n d b m).1, .slice a k c, .int .i64 (dofF n d b m).2.2]) ∧ Own w' w.heap.size (.slice a k c) (dofF n d b m).2.1 ∧ Bl w w' := by
  cases e1 : okF n d with
  | false =>
    have HR := Lib.hid (dof_bad (b := b) (m := m) e1)
    have E1 := Lib.hid e1
    clear e1
    go_enter Try.func15, Try.ntmps15
    go_wp2_with fail
    refine (validF_eq E1.out _).mono ?_
    rintro e w1 ⟨rfl, hb1⟩
    have B1 : Bl w w1 := bl_call (bl_alloc (bl_refl _) _) hb1
    have xF_1 : Bx w1 (w.heap.size) #[.int .i64 n, .int .i64 d] := (Bx.new (b := w.heap.size) _ #[.int .i64 n, .int .i64 d] 26 (by first | rfl | simp)).below hb1
    obtain ⟨cF_1, fF_1, zF_1⟩ := xF_1.out
    go_wp2
    go_ret3
    rw [HR.out]
    exact ⟨none, 0, 0, rfl, Own.nil _ _, B1⟩
  | true =>
    have hF := okF_iff.1 e1
    cases e2 : inB b 2 36 with
    | false =>
      have HR := Lib.hid (dof_base (m := m) e1 e2)
      have E1 := Lib.hid e1
      clear e1
      have E2 := Lib.hid e2
      clear e2
      go_enter Try.func15, Try.ntmps15
      go_wp2_with fail
      refine (validF_eq E1.out _).mono ?_
      rintro e w1 ⟨rfl, hb1⟩
      have B1 : Bl w w1 := bl_call (bl_alloc (bl_refl _) _) hb1
      have xF_1 : Bx w1 (w.heap.size) #[.int .i64 n, .int .i64 d] := (Bx.new (b := w.heap.size) _ #[.int .i64 n, .int .i64 d] 26 (by first | rfl | simp)).below hb1
      obtain ⟨cF_1, fF_1, zF_1⟩ := xF_1.out
      go_wp2_with fail
      refine (ibase_eq E2.out _).mono ?_
      rintro e w9 ⟨rfl, rfl⟩
      go_wp2
      go_ret3
      rw [HR.out]
      exact ⟨none, 0, 0, rfl, Own.nil _ _, B1⟩
    | true =>
      have hb := inB_iff.1 e2
      cases e3 : inB m 0 1000 with
      | false =>
        have HR := Lib.hid (dof_cnt e1 e2 e3)
        have E1 := Lib.hid e1
        clear e1
        have E2 := Lib.hid e2
        clear e2
        have E3 := Lib.hid e3
        clear e3
        go_enter Try.func15, Try.ntmps15
        go_wp2_with fail
        refine (validF_eq E1.out _).mono ?_
        rintro e w1 ⟨rfl, hb1⟩
        have B1 : Bl w w1 := bl_call (bl_alloc (bl_refl _) _) hb1
        have xF_1 : Bx w1 (w.heap.size) #[.int .i64 n, .int .i64 d] := (Bx.new (b := w.heap.size) _ #[.int .i64 n, .int .i64 d] 26 (by first | rfl | simp)).below hb1
        obtain ⟨cF_1, fF_1, zF_1⟩ := xF_1.out
        go_wp2_with fail
        refine (ibase_eq E2.out _).mono ?_
        rintro e w9 ⟨rfl, rfl⟩
        go_wp2_with fail
        refine (inB_eq E3.out _).mono ?_
        rintro e w9 ⟨rfl, rfl⟩
        go_wp2
        go_ret3
        rw [HR.out]
        exact ⟨none, 0, 0, rfl, Own.nil _ _, B1⟩
      | true =>
        have hm := inB_iff.1 e3
        obtain ⟨M, rfl⟩ := Int.eq_ofNat_of_zero_le hm.1
        obtain ⟨hd, hn, _⟩ := hF
        have HR := Lib.hid (dof_yes e1 e2 e3)
        have E1 := Lib.hid e1
        clear e1
        have E2 := Lib.hid e2
        clear e2
        have E3 := Lib.hid e3
        clear e3
        go_enter Try.func15, Try.ntmps15
        go_wp2_with fail
        refine (validF_eq E1.out _).mono ?_
        rintro e w1 ⟨rfl, hb1⟩
        have B1 : Bl w w1 := bl_call (bl_alloc (bl_refl _) _) hb1
        have xF_1 : Bx w1 (w.heap.size) #[.int .i64 n, .int .i64 d] := (Bx.new (b := w.heap.size) _ #[.int .i64 n, .int .i64 d] 26 (by first | rfl | simp)).below hb1
        obtain ⟨cF_1, fF_1, zF_1⟩ := xF_1.out
        go_wp2_with fail
        refine (ibase_eq E2.out _).mono ?_
        rintro e w9 ⟨rfl, rfl⟩
        go_wp2_with fail
        refine (inB_eq E3.out _).mono ?_
        rintro e w9 ⟨rfl, rfl⟩
        go_wp2_with fail
        refine (fdigs_any n d b M _ (by omega) (by omega) hb (by omega)).mono ?_
        rintro e w2 ⟨xa, xc, rfl, HX, hb2⟩
        have B2 : Bl w w2 := bl_call B1 hb2
        have xF_2 : Bx w2 (w.heap.size) #[.int .i64 n, .int .i64 d] := xF_1.below hb2
        clear cF_1 fF_1 zF_1
        obtain ⟨cF_2, fF_2, zF_2⟩ := xF_2.out
        have HX := Lib.hid HX
        go_wp2
        go_ret3
        rw [HR.out]
        exact ⟨xa, M, xc, rfl, HX.out.mono B1.size, B2⟩

set_option maxRecDepth 100000 in
set_option maxHeartbeats 1600000 in
theorem spec_DigitsOfFraction (n d b m : Int) (w : World) :
    Calls Try.prog 14 #[.agg #[.int .i64 n, .int .i64 d], .int .i64 b, .int .i64 m] w fun e w' => ∃ a k c, e = .returned (.tuple #[.int .i64 (dofF n d b m).1, .slice a k c, .int .i64 (dofF n d b m).2.2]) ∧ Own w' w.heap.size (.slice a k c) (dofF n d b m).2.1 ∧ Bl w w' := by
  cases e1 : okF n d with
  | false =>
    have HR := Lib.hid (dof_bad (b := b) (m := m) e1)
    have E1 := Lib.hid e1
    clear e1
    go_enter Try.func14, Try.ntmps14
    go_wp2_with fail
    refine (ok_eq E1.out _).mono ?_
    rintro e w1 ⟨rfl, hb1⟩
    have B1 : Bl w w1 := bl_call (bl_alloc (bl_refl _) _) hb1
    have xF_1 : Bx w1 (w.heap.size) #[.int .i64 n, .int .i64 d] := (Bx.new (b := w.heap.size) _ #[.int .i64 n, .int .i64 d] 26 (by first | rfl | simp)).below hb1
    obtain ⟨cF_1, fF_1, zF_1⟩ := xF_1.out
    go_wp2
    go_ret3
    rw [HR.out]
    exact ⟨none, 0, 0, rfl, Own.nil _ _, B1⟩
  | true =>
    have hF := okF_iff.1 e1
    cases e2 : inB b 2 36 with
    | false =>
      have HR := Lib.hid (dof_base (m := m) e1 e2)
      have E1 := Lib.hid e1
      clear e1
      have E2 := Lib.hid e2
      clear e2
      go_enter Try.func14, Try.ntmps14
      go_wp2_with fail
      refine (ok_eq E1.out _).mono ?_
      rintro e w1 ⟨rfl, hb1⟩
      have B1 : Bl w w1 := bl_call (bl_alloc (bl_refl _) _) hb1
      have xF_1 : Bx w1 (w.heap.size) #[.int .i64 n, .int .i64 d] := (Bx.new (b := w.heap.size) _ #[.int .i64 n, .int .i64 d] 26 (by first | rfl | simp)).below hb1
      obtain ⟨cF_1, fF_1, zF_1⟩ := xF_1.out
      go_wp2_with fail
      refine (sbase_eq E2.out _).mono ?_
      rintro e w9 ⟨rfl, rfl⟩
      go_wp2
      go_ret3
      rw [HR.out]
      exact ⟨none, 0, 0, rfl, Own.nil _ _, B1⟩
    | true =>
      have hb := inB_iff.1 e2
      cases e3 : inB m 0 1000 with
      | false =>
        have HR := Lib.hid (dof_cnt e1 e2 e3)
        have E1 := Lib.hid e1
        clear e1
        have E2 := Lib.hid e2
        clear e2
        have E3 := Lib.hid e3
        clear e3
        go_enter Try.func14, Try.ntmps14
        go_wp2_with fail
        refine (ok_eq E1.out _).mono ?_
        rintro e w1 ⟨rfl, hb1⟩
        have B1 : Bl w w1 := bl_call (bl_alloc (bl_refl _) _) hb1
        have xF_1 : Bx w1 (w.heap.size) #[.int .i64 n, .int .i64 d] := (Bx.new (b := w.heap.size) _ #[.int .i64 n, .int .i64 d] 26 (by first | rfl | simp)).below hb1
        obtain ⟨cF_1, fF_1, zF_1⟩ := xF_1.out
        go_wp2_with fail
        refine (sbase_eq E2.out _).mono ?_
        rintro e w9 ⟨rfl, rfl⟩
        go_wp2_with fail
        refine (in_eq' E3.out _).mono ?_
        rintro e w9 ⟨rfl, rfl⟩
        go_wp2
        go_ret3
        rw [HR.out]
        exact ⟨none, 0, 0, rfl, Own.nil _ _, B1⟩
      | true =>
        have hm := inB_iff.1 e3
        obtain ⟨M, rfl⟩ := Int.eq_ofNat_of_zero_le hm.1
        obtain ⟨hd, hn, _⟩ := hF
        have rA := rest_ok (n := n) (d := d) (by omega)
        have fA := floor_ok (n := n) (d := d) (by omega) (by omega)
        have qA : n - d ≤ n / d * d ∧ n / d * d ≤ n := by omega
        have HR := Lib.hid (dof_yes e1 e2 e3)
        have E1 := Lib.hid e1
        clear e1
        have E2 := Lib.hid e2
        clear e2
        have E3 := Lib.hid e3
        clear e3
        go_enter Try.func14, Try.ntmps14
        go_wp2_with fail
        refine (ok_eq E1.out _).mono ?_
        rintro e w1 ⟨rfl, hb1⟩
        have B1 : Bl w w1 := bl_call (bl_alloc (bl_refl _) _) hb1
        have xF_1 : Bx w1 (w.heap.size) #[.int .i64 n, .int .i64 d] := (Bx.new (b := w.heap.size) _ #[.int .i64 n, .int .i64 d] 26 (by first | rfl | simp)).below hb1
        obtain ⟨cF_1, fF_1, zF_1⟩ := xF_1.out
        go_wp2_with fail
        refine (sbase_eq E2.out _).mono ?_
        rintro e w9 ⟨rfl, rfl⟩
        go_wp2_with fail
        refine (in_eq' E3.out _).mono ?_
        rintro e w9 ⟨rfl, rfl⟩
        go_wp2_with fail
        refine (floor_any _ _ _ (by omega) (by omega) (by omega) (by omega)).mono ?_
        rintro e w9 ⟨rfl, rfl⟩
        go_wp2_with fail
        refine (sdigs_any (n - n / d * d) d b M _ (by omega) (by omega) hb (by omega)).mono ?_
        rintro e w2 ⟨xa, xc, rfl, HX, hb2⟩
        have B2 : Bl w w2 := bl_call B1 hb2
        have xF_2 : Bx w2 (w.heap.size) #[.int .i64 n, .int .i64 d] := xF_1.below hb2
        clear cF_1 fF_1 zF_1
        obtain ⟨cF_2, fF_2, zF_2⟩ := xF_2.out
        have HX := Lib.hid HX
        go_wp2
        go_ret3
        rw [HR.out]
        exact ⟨xa, M, xc, rfl, HX.out.mono B1.size, B2⟩

end Go.Proofs.Ytbonlompmnhmiaa
