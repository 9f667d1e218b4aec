/- The code of a fraction and a limit, by both programs. Each theorem names its conditions. -/
import Derived.Test.YtbonlompmnhmiaaArd
import Derived.Test.YtbonlompmnhmiaaOk
namespace Go.Proofs.Ytbonlompmnhmiaa
open Go.RowKit
set_option linter.unusedVariables false
set_option linter.unusedSimpArgs false

/-- The code of a fraction and a limit. -/
def askC (n d m hi : Int) : Int := if okF n d then (if inB m 1 hi then 0 else 2) else 1

set_option maxHeartbeats 800000 in
theorem asked_any (n d m : Int) (w : World) :
    Calls Try.prog 89 #[.agg #[.int .i64 n, .int .i64 d], .int .i64 m] w fun r w' => r = .returned (.int .i64 (askC n d m 1000000000)) ∧ Bl w w' := by
  cases e1 : okF n d with
  | false =>
    have HR := Lib.hid (show (1 : Int) = askC n d m 1000000000 by simp [askC, e1])
    go_enter Try.func89, Try.ntmps89
    go_wp2_with fail
    refine (ok_any n d _).mono ?_
    rintro e w1 ⟨rfl, hb1⟩
    have B1 : Bl w w1 := bl_call (bl_alloc (bl_refl _) _) hb1
    have xF_1 : Bx w1 (w.heap.size) #[.int .i64 (n), .int .i64 (d)] := (Bx.new (b := w.heap.size) _ #[.int .i64 (n), .int .i64 (d)] 26 (by first | rfl | simp)).below hb1
    obtain ⟨cF_1, fF_1, zF_1⟩ := xF_1.out
    go_wp2
    go_ret
    exact ⟨ret_int HR.out, B1⟩
  | true =>
    cases e2 : inB m 1 1000000000 with
    | false =>
      have HR := Lib.hid (show (2 : Int) = askC n d m 1000000000 by simp [askC, e1, e2])
      have HI := Lib.hid e2
      clear e2
      go_enter Try.func89, Try.ntmps89
      go_wp2_with fail
      refine (ok_any n d _).mono ?_
      rintro e w1 ⟨rfl, hb1⟩
      have B1 : Bl w w1 := bl_call (bl_alloc (bl_refl _) _) hb1
      have xF_1 : Bx w1 (w.heap.size) #[.int .i64 (n), .int .i64 (d)] := (Bx.new (b := w.heap.size) _ #[.int .i64 (n), .int .i64 (d)] 26 (by first | rfl | simp)).below hb1
      obtain ⟨cF_1, fF_1, zF_1⟩ := xF_1.out
      go_wp2_with fail
      refine (in_any _ _ _ _).mono ?_
      rintro _ _ ⟨rfl, rfl⟩
      rw [HI.out]
      go_wp2
      go_ret
      exact ⟨ret_int HR.out, B1⟩
    | true =>
      have HR := Lib.hid (show (0 : Int) = askC n d m 1000000000 by simp [askC, e1, e2])
      have HI := Lib.hid e2
      clear e2
      go_enter Try.func89, Try.ntmps89
      go_wp2_with fail
      refine (ok_any n d _).mono ?_
      rintro e w1 ⟨rfl, hb1⟩
      have B1 : Bl w w1 := bl_call (bl_alloc (bl_refl _) _) hb1
      have xF_1 : Bx w1 (w.heap.size) #[.int .i64 (n), .int .i64 (d)] := (Bx.new (b := w.heap.size) _ #[.int .i64 (n), .int .i64 (d)] 26 (by first | rfl | simp)).below hb1
      obtain ⟨cF_1, fF_1, zF_1⟩ := xF_1.out
      go_wp2_with fail
      refine (in_any _ _ _ _).mono ?_
      rintro _ _ ⟨rfl, rfl⟩
      rw [HI.out]
      go_wp2
      go_ret
      exact ⟨ret_int HR.out, B1⟩

set_option maxHeartbeats 800000 in
theorem between_any (n d m hi : Int) (w : World) :
    Calls Try.prog 61 #[.agg #[.int .i64 n, .int .i64 d], .int .i64 m, .int .i64 hi] w fun r w' => r = .returned (.int .i64 (askC n d m hi)) ∧ Bl w w' := by
  cases e1 : okF n d with
  | false =>
    have HR := Lib.hid (show (1 : Int) = askC n d m hi by simp [askC, e1])
    go_enter Try.func61, Try.ntmps61
    go_wp2_with fail
    refine (validF_any n d _).mono ?_
    rintro e w1 ⟨rfl, hb1⟩
    have B1 : Bl w w1 := bl_call (bl_alloc (bl_refl _) _) hb1
    have xF_1 : Bx w1 (w.heap.size) #[.int .i64 (n), .int .i64 (d)] := (Bx.new (b := w.heap.size) _ #[.int .i64 (n), .int .i64 (d)] 26 (by first | rfl | simp)).below hb1
    obtain ⟨cF_1, fF_1, zF_1⟩ := xF_1.out
    go_wp2
    go_ret
    exact ⟨ret_int HR.out, B1⟩
  | true =>
    cases e2 : inB m 1 hi with
    | false =>
      have HR := Lib.hid (show (2 : Int) = askC n d m hi by simp [askC, e1, e2])
      have HI := Lib.hid e2
      clear e2
      go_enter Try.func61, Try.ntmps61
      go_wp2_with fail
      refine (validF_any n d _).mono ?_
      rintro e w1 ⟨rfl, hb1⟩
      have B1 : Bl w w1 := bl_call (bl_alloc (bl_refl _) _) hb1
      have xF_1 : Bx w1 (w.heap.size) #[.int .i64 (n), .int .i64 (d)] := (Bx.new (b := w.heap.size) _ #[.int .i64 (n), .int .i64 (d)] 26 (by first | rfl | simp)).below hb1
      obtain ⟨cF_1, fF_1, zF_1⟩ := xF_1.out
      go_wp2_with fail
      refine (within_any _ _ _ _).mono ?_
      rintro _ _ ⟨rfl, rfl⟩
      rw [HI.out]
      go_wp2
      go_ret
      exact ⟨ret_int HR.out, B1⟩
    | true =>
      have HR := Lib.hid (show (0 : Int) = askC n d m hi by simp [askC, e1, e2])
      have HI := Lib.hid e2
      clear e2
      go_enter Try.func61, Try.ntmps61
      go_wp2_with fail
      refine (validF_any n d _).mono ?_
      rintro e w1 ⟨rfl, hb1⟩
      have B1 : Bl w w1 := bl_call (bl_alloc (bl_refl _) _) hb1
      have xF_1 : Bx w1 (w.heap.size) #[.int .i64 (n), .int .i64 (d)] := (Bx.new (b := w.heap.size) _ #[.int .i64 (n), .int .i64 (d)] 26 (by first | rfl | simp)).below hb1
      obtain ⟨cF_1, fF_1, zF_1⟩ := xF_1.out
      go_wp2_with fail
      refine (within_any _ _ _ _).mono ?_
      rintro _ _ ⟨rfl, rfl⟩
      rw [HI.out]
      go_wp2
      go_ret
      exact ⟨ret_int HR.out, B1⟩

theorem askC_zero {n d m hi : Int} (h : askC n d m hi = 0) : okF n d = true ∧ 1 ≤ m ∧ m ≤ hi := by
  unfold askC at h
  split at h
  · rename_i h1
    split at h
    · rename_i h2
      have := inB_iff.1 h2
      exact ⟨h1, this.1, this.2⟩
    · simp at h
  · simp at h

end Go.Proofs.Ytbonlompmnhmiaa
