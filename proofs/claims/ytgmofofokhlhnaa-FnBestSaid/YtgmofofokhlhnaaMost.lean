/- The code of a fraction and a greatest denominator. Each theorem names its conditions. -/
import Derived.Test.YtgmofofokhlhnaaArd
namespace Go.Proofs.Ytgmofofokhlhnaa
open Go.RowKit
set_option linter.unusedVariables false
set_option linter.unusedSimpArgs false

/-- The code of a fraction and a greatest denominator. -/
def mostC (n d m : Int) : Int := bestC (inB m 1 1000000) [(n, d)]
theorem withinB {n lo hi : Int} {b : Bool} (h : inB n lo hi = b) (w : World) : Calls Try.prog 95 #[.int .i64 n, .int .i64 lo, .int .i64 hi] w fun e w' => e = .returned (.bool b) ∧ Bl w w' :=
  (within_any n lo hi w).mono (by rintro e w' ⟨h1, rfl⟩; exact ⟨h ▸ h1, bl_refl _⟩)
theorem checkBest_eq {fits : Bool} {v : Value} {fs : List (Int × Int)} {c : Int} (h : bestC fits fs = c) (w : World) (hv : SlF w v fs) :
    Calls Try.prog 112 #[.bool fits, v] w fun r w' => r = .returned (.int .i64 c) ∧ Bl w w' := h ▸ checkBest_any fits v fs w hv
structure Most (n d m : Int) : Prop where
  n1 : -1000000 ≤ n
  n2 : n ≤ 1000000
  d1 : 1 ≤ d
  d2 : d ≤ 1000000
  m1 : 1 ≤ m
  m2 : m ≤ 1000000
  o : okF n d = true
theorem mostC_zero {n d m : Int} (h : mostC n d m = 0) : Most n d m := by
  obtain ⟨h0, h1, h2⟩ := bestC_zero h
  have q := h1 (n, d) (by simp)
  have o1 := okP_bd (h1 (n, d) (by simp)); have s1 := smP_bd (h2 (n, d) (by simp))
  have i := inB_iff.1 h0
  exact ⟨by omega, by omega, by omega, by omega, i.1, i.2, q⟩
theorem bestC_fits {b : Bool} {fs : List (Int × Int)} : bestC b fs = if bestC true fs = 0 then (if b then 0 else 2) else bestC true fs := by
  unfold bestC
  cases fs.all okP <;> cases fs.all smP <;> cases b <;> simp

set_option maxHeartbeats 1600000 in
theorem most_any (n d m : Int) (w : World) :
    Calls Try.prog 122 #[.agg #[.int .i64 n, .int .i64 d], .int .i64 m] w fun r w' => r = .returned (.int .i64 (mostC n d m)) ∧ Bl w w' := by
  by_cases hc : bestC true [(n, d)] = 0
  · cases e2 : inB m 1 1000000 with
    | true =>
      have HR := Lib.hid (show (0 : Int) = mostC n d m by rw [mostC, bestC_fits (b := inB m 1 1000000)]; simp [hc, e2])
      have HC := Lib.hid hc
      clear hc
      have HI := Lib.hid e2
      clear e2
      go_enter Try.func122, Try.ntmps122
      go_wp2_with fail
      refine (l18Code_any _ _ _ (SlF.lit (fs := [(n, d)]) (Bx.new (b := w.heap.size + 1) _ #[.int .i64 (n), .int .i64 (d)] 55 (by first | rfl | simp)) rfl (Nat.le_refl _) (by simp [maxLen]) (lit1 n d))).mono ?_
      rintro e w1 ⟨rfl, hb1⟩
      have B1 : Bl w w1 := bl_call (bl_alloc (bl_alloc (bl_refl _) _) _) hb1
      have xF_1 : Bx w1 (w.heap.size) #[.int .i64 (n), .int .i64 (d)] := ((Bx.new (b := w.heap.size) _ #[.int .i64 (n), .int .i64 (d)] 55 (by first | rfl | simp)).alloc _).below hb1
      have xL_1 : Bx w1 (w.heap.size + 1) #[.int .i64 (n), .int .i64 (d)] := (Bx.new (b := w.heap.size + 1) _ #[.int .i64 (n), .int .i64 (d)] 55 (by first | rfl | simp)).below hb1
      obtain ⟨cF_1, fF_1, zF_1⟩ := xF_1.out
      obtain ⟨cL_1, fL_1, zL_1⟩ := xL_1.out
      rw [HC.out]
      go_wp2_with fail
      refine (in_any _ _ _ _).mono ?_
      rintro _ _ ⟨rfl, rfl⟩
      rw [HI.out]
      go_wp2
      go_ret
      exact ⟨ret_int HR.out, B1⟩
    | false =>
      have HR := Lib.hid (show (2 : Int) = mostC n d m by rw [mostC, bestC_fits (b := inB m 1 1000000)]; simp [hc, e2])
      have HC := Lib.hid hc
      clear hc
      have HI := Lib.hid e2
      clear e2
      go_enter Try.func122, Try.ntmps122
      go_wp2_with fail
      refine (l18Code_any _ _ _ (SlF.lit (fs := [(n, d)]) (Bx.new (b := w.heap.size + 1) _ #[.int .i64 (n), .int .i64 (d)] 55 (by first | rfl | simp)) rfl (Nat.le_refl _) (by simp [maxLen]) (lit1 n d))).mono ?_
      rintro e w1 ⟨rfl, hb1⟩
      have B1 : Bl w w1 := bl_call (bl_alloc (bl_alloc (bl_refl _) _) _) hb1
      have xF_1 : Bx w1 (w.heap.size) #[.int .i64 (n), .int .i64 (d)] := ((Bx.new (b := w.heap.size) _ #[.int .i64 (n), .int .i64 (d)] 55 (by first | rfl | simp)).alloc _).below hb1
      have xL_1 : Bx w1 (w.heap.size + 1) #[.int .i64 (n), .int .i64 (d)] := (Bx.new (b := w.heap.size + 1) _ #[.int .i64 (n), .int .i64 (d)] 55 (by first | rfl | simp)).below hb1
      obtain ⟨cF_1, fF_1, zF_1⟩ := xF_1.out
      obtain ⟨cL_1, fL_1, zL_1⟩ := xL_1.out
      rw [HC.out]
      go_wp2_with fail
      refine (in_any _ _ _ _).mono ?_
      rintro _ _ ⟨rfl, rfl⟩
      rw [HI.out]
      go_wp2
      go_ret
      exact ⟨ret_int HR.out, B1⟩
  ·
    have HR := Lib.hid (show (bestC true [(n, d)] : Int) = mostC n d m by rw [mostC, bestC_fits (b := inB m 1 1000000)]; simp [hc])
    have hb : (bestC true [(n, d)] == 0) = false := by simp [hc]
    clear hc
    go_enter Try.func122, Try.ntmps122
    go_wp2_with fail
    refine (l18Code_any _ _ _ (SlF.lit (fs := [(n, d)]) (Bx.new (b := w.heap.size + 1) _ #[.int .i64 (n), .int .i64 (d)] 55 (by first | rfl | simp)) rfl (Nat.le_refl _) (by simp [maxLen]) (lit1 n d))).mono ?_
    rintro e w1 ⟨rfl, hb1⟩
    have B1 : Bl w w1 := bl_call (bl_alloc (bl_alloc (bl_refl _) _) _) hb1
    have xF_1 : Bx w1 (w.heap.size) #[.int .i64 (n), .int .i64 (d)] := ((Bx.new (b := w.heap.size) _ #[.int .i64 (n), .int .i64 (d)] 55 (by first | rfl | simp)).alloc _).below hb1
    have xL_1 : Bx w1 (w.heap.size + 1) #[.int .i64 (n), .int .i64 (d)] := (Bx.new (b := w.heap.size + 1) _ #[.int .i64 (n), .int .i64 (d)] 55 (by first | rfl | simp)).below hb1
    obtain ⟨cF_1, fF_1, zF_1⟩ := xF_1.out
    obtain ⟨cL_1, fL_1, zL_1⟩ := xL_1.out
    generalize bestC true [(n, d)] = cc at *
    go_wp2
    go_ret
    exact ⟨ret_int HR.out, B1⟩

end Go.Proofs.Ytgmofofokhlhnaa
