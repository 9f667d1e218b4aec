/- The reference's test of a plain fraction: one region that draws its order. No condition. -/
import Derived.Test.YtndblondleclpaaGreatDoorNum
namespace Go.Proofs.YtndblondleclpaaGreatDoor
open Go.RowKit
set_option linter.unusedVariables false
set_option linter.unusedSimpArgs false

set_option maxHeartbeats 800000 in
theorem ok_any (n d : Int) (w : World) :
    Calls Tryz.prog 82 #[.agg #[.int .i64 n, .int .i64 d]] w fun e w' => e = .returned (.bool (okF n d)) ∧ Below w.heap.size w w' := by
  cases e2 : inB n (-1000000000) 1000000000 with
  | false =>
    have HR := Lib.hid (show false = okF n d by simp [okF, e2])
    go_enter Tryz.func82, Tryz.ntmps82
    go_wp2_with fail
    go_quiet ((go_at_call 49; exact Calls.quiet_of_same ((in_any _ _ _ _).mono fun _ _ h => ⟨h.1, h.2.symm⟩)))
    go_wp2
    go_ret
    exact ⟨ret_bool HR.out, ((Below.refl _ _).alloc (Nat.le_refl _) _).trans (Drawn.below ⟨_, rfl⟩ _)⟩
  | true =>
    cases e1 : inB d 1 1000000000 with
    | false =>
      have HR := Lib.hid (show false = okF n d by simp [okF, e1])
      go_enter Tryz.func82, Tryz.ntmps82
      go_wp2_with fail
      go_quiet ((go_at_call 49; exact Calls.quiet_of_same ((in_any _ _ _ _).mono fun _ _ h => ⟨h.1, h.2.symm⟩)))
      go_wp2
      go_ret
      exact ⟨ret_bool HR.out, ((Below.refl _ _).alloc (Nat.le_refl _) _).trans (Drawn.below ⟨_, rfl⟩ _)⟩
    | true =>
      have hd := inB_iff.1 e1
      have hn := inB_iff.1 e2
      have ha := ab_nonneg n
      have HR := Lib.hid (show (gcdI (ab n) d == 1) = okF n d by
        have : gcdI (ab n) d = gcdI n d := by rw [← gcdI_ab n d, ab_pos (show 0 ≤ d by omega)]
        simp [okF, e1, e2, this])
      go_enter Tryz.func82, Tryz.ntmps82
      go_wp2_with fail
      go_quiet ((first | (go_at_call 49; exact Calls.quiet_of_same ((in_any _ _ _ _).mono fun _ _ h => ⟨h.1, h.2.symm⟩)) | (go_at_call 123; exact Calls.quiet_of_same ((size_any _ _ (by omega)).mono fun _ _ h => ⟨h.1, h.2.symm⟩)) | (go_at_call 84; exact Calls.quiet_of_same ((lgcd_any _ _ _ (by omega) (by omega) (by omega)).mono fun _ _ h => ⟨h.1, h.2.symm⟩))))
      go_wp2
      go_ret
      exact ⟨ret_bool HR.out, ((Below.refl _ _).alloc (Nat.le_refl _) _).trans (Drawn.below ⟨_, rfl⟩ _)⟩

end Go.Proofs.YtndblondleclpaaGreatDoor
