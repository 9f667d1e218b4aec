/- Functions of two numbers: validity. Each theorem names its conditions. -/
import Derived.Test.YtgmofofokhlhnaaDb1
namespace Go.Proofs.Ytgmofofokhlhnaa
open Go.RowKit
set_option linter.unusedVariables false
set_option linter.unusedSimpArgs false

theorem bdD_sw {d : Db} (h : bdD d = true) : bdD (swD d) = true := by
  rw [bdD_iff] at h ⊢
  exact ⟨h.1, h.2.2.1, h.2.1, h.2.2.2.1, h.2.2.2.2.1, h.2.2.2.2.2.2.1, h.2.2.2.2.2.1, h.2.2.2.2.2.2.2⟩
set_option maxRecDepth 100000 in
set_option maxHeartbeats 1600000 in
theorem iend_D (d : Db) (w : World) : Calls Try.prog 162 #[.agg #[.int .i64 d.a, .int .i64 d.b, .int .i64 d.c, .int .i64 d.d, .int .i64 d.e, .int .i64 d.f, .int .i64 d.g, .int .i64 d.h]] w fun e w' => e = .returned (.bool (enD d)) ∧ Bl w w' := by
  by_cases h0 : d.e = 0
  case neg =>
    have b0 : (d.e == 0) = false := by simp [h0]
    have HR := Lib.hid (show false = enD d by simp [enD, h0])
    clear h0
    go_enter Try.func162, Try.ntmps162
    go_wp2
    go_ret
    exact ⟨ret_bool HR.out, (bl_alloc (bl_refl _) _)⟩
  by_cases h1 : d.f = 0
  case neg =>
    have b0 : (d.e == 0) = true := by simp [h0]
    have b1 : (d.f == 0) = false := by simp [h1]
    have HR := Lib.hid (show false = enD d by simp [enD, h0, h1])
    clear h0 h1
    go_enter Try.func162, Try.ntmps162
    go_wp2
    go_ret
    exact ⟨ret_bool HR.out, (bl_alloc (bl_refl _) _)⟩
  by_cases h2 : d.g = 0
  case neg =>
    have b0 : (d.e == 0) = true := by simp [h0]
    have b1 : (d.f == 0) = true := by simp [h1]
    have b2 : (d.g == 0) = false := by simp [h2]
    have HR := Lib.hid (show false = enD d by simp [enD, h0, h1, h2])
    clear h0 h1 h2
    go_enter Try.func162, Try.ntmps162
    go_wp2
    go_ret
    exact ⟨ret_bool HR.out, (bl_alloc (bl_refl _) _)⟩
  by_cases h3 : d.h = 0
  case neg =>
    have b0 : (d.e == 0) = true := by simp [h0]
    have b1 : (d.f == 0) = true := by simp [h1]
    have b2 : (d.g == 0) = true := by simp [h2]
    have b3 : (d.h == 0) = false := by simp [h3]
    have HR := Lib.hid (show false = enD d by simp [enD, h0, h1, h2, h3])
    clear h0 h1 h2 h3
    go_enter Try.func162, Try.ntmps162
    go_wp2
    go_ret
    exact ⟨ret_bool HR.out, (bl_alloc (bl_refl _) _)⟩
  have b0 : (d.e == 0) = true := by simp [h0]
  have b1 : (d.f == 0) = true := by simp [h1]
  have b2 : (d.g == 0) = true := by simp [h2]
  have b3 : (d.h == 0) = true := by simp [h3]
  have HR := Lib.hid (show true = enD d by simp [enD, h0, h1, h2, h3])
  clear h0 h1 h2 h3
  go_enter Try.func162, Try.ntmps162
  go_wp2
  go_ret
  exact ⟨ret_bool HR.out, (bl_alloc (bl_refl _) _)⟩

end Go.Proofs.Ytgmofofokhlhnaa
