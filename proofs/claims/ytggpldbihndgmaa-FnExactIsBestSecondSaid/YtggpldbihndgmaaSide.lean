/- The reference's walk to one side of a fraction. Each theorem names its conditions. -/
import Derived.Test.YtggpldbihndgmaaSides
namespace Go.Proofs.Ytggpldbihndgmaa
open Go.RowKit
set_option linter.unusedVariables false
set_option linter.unusedSimpArgs false

/-- The lesser of two numbers. -/
theorem lmin_any {a b k : Int} (h : min a b = k) (w : World) : Calls Try.prog 93 #[.int .i64 a, .int .i64 b] w fun e w' => e = .returned (.int .i64 k) ∧ Bl w w' := by
  by_cases h1 : a < b
  · have H := Lib.hid (show a = k by omega)
    clear h
    go_enter Try.func93, Try.ntmps93
    go_wp2
    go_ret
    exact ⟨ret_int H.out, bl_refl _⟩
  · have H := Lib.hid (show b = k by omega)
    clear h
    go_enter Try.func93, Try.ntmps93
    go_wp2
    go_ret
    exact ⟨ret_int H.out, bl_refl _⟩
/-- One side alone: the lower one for a positive sign. -/
noncomputable def sideF (N D m s : Int) : Int × Int := if 0 < s then (sidesF N D m).1 else (sidesF N D m).2
theorem ret_f {r : Int × Int} {a b : Int} (h : r = (a, b)) : Ending.returned (.agg #[.int .i64 a, .int .i64 b]) = .returned (.agg #[.int .i64 r.1, .int .i64 r.2]) := by subst h; rfl

set_option maxHeartbeats 3200000 in
set_option maxRecDepth 100000 in
theorem side_own (N D m s : Int) (w : World) (hm : D ≤ m) :
    Calls Try.prog 78 #[.agg #[.int .i64 N, .int .i64 D], .int .i64 m, .int .i64 s] w fun r w' => r = .returned (.agg #[.int .i64 (sideF N D m s).1, .int .i64 (sideF N D m s).2]) ∧ Bl w w' := by
  have HR := Lib.hid (show sideF N D m s = (N, D) by unfold sideF; rw [sidesF_own hm]; split <;> rfl)
  go_enter Try.func78, Try.ntmps78
  go_wp2
  refine bodyPost_ret (v := .agg #[.int .i64 N, .int .i64 D]) (by simp only [results, Try.results78]; go_simp) rfl ?_
  refine ⟨ret_f HR.out, ?_⟩
  repeat first | (with_reducible exact bl_refl _) | (with_reducible refine bl_alloc ?_ _) | (with_reducible refine bl_drew ?_) | (with_reducible refine bl_set ?_ (by first | exact Nat.le_refl _ | (simp; done) | (simp; omega)) _)

set_option maxHeartbeats 6400000 in
set_option maxRecDepth 100000 in
theorem side_far (N D m s : Int) (w : World) (h1 : 1 ≤ m) (hm : ¬ D ≤ m) (hN : -1000000000 ≤ N ∧ N ≤ 1000000000) (hD : D ≤ 1000000000) (hg : gcdI N D = 1) :
    Calls Try.prog 78 #[.agg #[.int .i64 N, .int .i64 D], .int .i64 m, .int .i64 s] w fun r w' => r = .returned (.agg #[.int .i64 (sideF N D m s).1, .int .i64 (sideF N D m s).2]) ∧ Bl w w' := by
  have S0 := Lib.hid (SP.start hg (show m < D by omega) h1)
  have HR := Lib.hid (show ∀ a b c d, SP N D m a b c d → m < b + d → sidesF N D m = ((a, b), (c, d)) from fun a b c d x hx => sidesF_eq (by omega) hm x hx)
  have HG := Lib.hid hg
  clear hg
  have q0 : (((2 * m - 2).toNat : Nat) : Int) = 2 * m - 1 - 1 := by omega
  have W0 : IntKind.i64.wrap (N / D + 1) = N / D + 1 := IntWalk.i64_in _ (by have := (SP.bds hN hD (show m < D by omega) S0.out); omega)
  go_enter Try.func78, Try.ntmps78
  go_wp2_with fail
  refine (floorB_any N D _ (by omega) (by omega) (by omega) (by omega)).mono ?_
  rintro e w1 ⟨rfl, hb1⟩
  have B1 : Bl w w1 := bl_call (bl_alloc (bl_alloc (bl_refl _) _) _) hb1
  have xF_1 : Bx w1 (w.heap.size) #[.int .i64 (N), .int .i64 (D)] := ((Bx.new (b := w.heap.size) _ #[.int .i64 (N), .int .i64 (D)] 35 (by first | rfl | simp)).alloc _).below hb1
  have xR_1 : Bx w1 (w.heap.size + 1) #[.int .i64 (0), .int .i64 (0)] := (Bx.new (b := w.heap.size + 1) _ #[.int .i64 (0), .int .i64 (0)] 35 (by first | rfl | simp)).below hb1
  obtain ⟨cF_1, fF_1, zF_1⟩ := xF_1.out
  obtain ⟨cR_1, fR_1, zR_1⟩ := xR_1.out
  go_wp2_with fail
  go_loopg [8, 9] (2 * m - 2).toNat (fun k s8 s9 wr => ∃ a b c d, Hid (SP N D m a b c d) ∧ ((k : Int) = 2 * m - b - d) ∧ Bx wr (w.heap.size) #[.int .i64 (N), .int .i64 (D)] ∧ Bx wr (w.heap.size + 1) #[.int .i64 (0), .int .i64 (0)] ∧ Bx wr (w1.heap.size) #[.int .i64 (a), .int .i64 (b), .int .i64 (c), .int .i64 (d)] ∧ Bl w wr)
  case atStart =>
    refine ⟨N / D, 1, N / D + 1, 1, S0, q0, (xF_1.alloc _), (xR_1.alloc _), (Bx.new (b := w1.heap.size) _ #[.int .i64 (N / D), .int .i64 (1), .int .i64 (N / D + 1), .int .i64 (1)] 94 (by first | rfl | simp)), (bl_alloc B1 _)⟩
  clear hb1 cF_1 fF_1 cR_1 fR_1 xF_1 xR_1 W0 q0
  case round =>
    rcases hrel with ⟨a, b, c, d, S, hk, xF, xR, xL, Br⟩
    obtain ⟨cF, fF, zF⟩ := xF.out
    obtain ⟨cR, fR, zR⟩ := xR.out
    obtain ⟨cL, fL, zL⟩ := xL.out
    obtain ⟨b1, b2, b3, b4, b5, b6⟩ := SP.bds hN hD hm S.out
    have p1 := S.out.lo; have p2 := S.out.lo'; have p3 := S.out.hi; have p4 := S.out.hi'
    have p5 := S.out.hb; have p6 := S.out.hd; have p7 := S.out.bm; have p8 := S.out.dm
    have z1 : (c * D - N * d == 0) = false := by simp; omega
    have z2 : (d == 0) = false := by simp; omega
    obtain ⟨q1, hq1⟩ : ∃ q, q = (N * b - a * D).tdiv (c * D - N * d) := ⟨_, rfl⟩
    obtain ⟨q2, hq2⟩ : ∃ q, q = (m - b).tdiv d := ⟨_, rfl⟩
    have t1 := tdiv_le (P := N * b - a * D) (Q := c * D - N * d) (by omega) (by omega)
    have t2 := tdiv_le (P := m - b) (Q := d) (by omega) (by omega)
    rw [← hq1] at t1
    rw [← hq2] at t2
    have W1 : IntKind.i64.wrap ((N * b - a * D).tdiv (c * D - N * d)) = q1 := by rw [← hq1]; exact IntWalk.i64_in _ (by omega)
    have W3 : IntKind.i64.wrap ((m - b).tdiv d) = q2 := by rw [← hq2]; exact IntWalk.i64_in _ (by omega)
    obtain ⟨K, hK⟩ : ∃ K, K = min q2 q1 := ⟨_, rfl⟩
    have HK := Lib.hid hK
    clear hK
    obtain ⟨s1, s2, s3, s4, s5⟩ := steps_ok (P := N * b - a * D) (Q := c * D - N * d) (m := m) (b := b) (d := d) (k := K) (by omega) (by omega) p7 (by omega) (by rw [← hq1, ← hq2, HK.out]; omega)
    have S2 := Lib.hid (SP.stepLow S.out HG.out (show m < D by omega) s1 s2 s3)
    have S5 := Lib.hid s5
    clear s5
    obtain ⟨b7, b8, b9, b10, b11, b12⟩ := SP.bds hN hD hm S2.out
    have p9 := S2.out.lo; have p10 := S2.out.lo'
    have n1 := Int.mul_nonneg s1 (show 0 ≤ d by omega)
    have n3 : -4000000001000000000 ≤ K * c ∧ K * c ≤ 4000000001000000000 := by omega
    have z3 : (N * (b + K * d) - (a + K * c) * D == 0) = false := by simp; omega
    have z5 : (N * (b + K * d) == (a + K * c) * D) = false := by simp; omega
    have z6 : (N * (b + K * d) != (a + K * c) * D) = true := by simp; omega
    have z4 : (b + K * d == 0) = false := by simp; omega
    obtain ⟨r1, hr1⟩ : ∃ q, q = (c * D - N * d).tdiv (N * (b + K * d) - (a + K * c) * D) := ⟨_, rfl⟩
    obtain ⟨r2, hr2⟩ : ∃ q, q = (m - d).tdiv (b + K * d) := ⟨_, rfl⟩
    have t3 := tdiv_le (P := c * D - N * d) (Q := N * (b + K * d) - (a + K * c) * D) (by omega) (by omega)
    have t4 := tdiv_le (P := m - d) (Q := b + K * d) (by omega) (by omega)
    rw [← hr1] at t3
    rw [← hr2] at t4
    have W4 : IntKind.i64.wrap ((c * D - N * d).tdiv (N * (b + K * d) - (a + K * c) * D)) = r1 := by rw [← hr1]; exact IntWalk.i64_in _ (by omega)
    have W6 : IntKind.i64.wrap ((m - d).tdiv (b + K * d)) = r2 := by rw [← hr2]; exact IntWalk.i64_in _ (by omega)
    obtain ⟨M, hM⟩ : ∃ M, M = min r2 r1 := ⟨_, rfl⟩
    have HM0 := Lib.hid hM
    clear hM
    obtain ⟨u1, u2, u3, u4, u5⟩ := steps_ok (P := c * D - N * d) (Q := N * (b + K * d) - (a + K * c) * D) (m := m) (b := d) (d := b + K * d) (k := M) (by omega) (by omega) p8 (by omega) (by rw [← hr1, ← hr2, HM0.out]; omega)
    have S3 := Lib.hid (SP.stepHigh S2.out HG.out (show m < D by omega) u1 u2 u3)
    have S6 := Lib.hid u5
    clear u5
    obtain ⟨b13, b14, b15, b16, b17, b18⟩ := SP.bds hN hD hm S3.out
    have n4 := Int.mul_nonneg u1 (show 0 ≤ b + K * d by omega)
    have n5 : -4000000001000000000 ≤ M * (a + K * c) ∧ M * (a + K * c) ≤ 4000000001000000000 := by omega
    clear hq1 hq2 hr1 hr2
    go_wp2_with fail
    refine (lmin_any (a := q2) (b := q1) (k := K) HK.out.symm _).mono ?_
    rintro e wr1 ⟨rfl, hbr1⟩
    have Br1 : Bl w wr1 := bl_call Br hbr1
    have xF_r1 : Bx wr1 (w.heap.size) #[.int .i64 (N), .int .i64 (D)] := xF.below hbr1
    have xR_r1 : Bx wr1 (w.heap.size + 1) #[.int .i64 (0), .int .i64 (0)] := xR.below hbr1
    have xL_r1 : Bx wr1 (w1.heap.size) #[.int .i64 (a), .int .i64 (b), .int .i64 (c), .int .i64 (d)] := xL.below hbr1
    clear cF fF zF cR fR zR cL fL zL
    obtain ⟨cF_r1, fF_r1, zF_r1⟩ := xF_r1.out
    obtain ⟨cR_r1, fR_r1, zR_r1⟩ := xR_r1.out
    obtain ⟨cL_r1, fL_r1, zL_r1⟩ := xL_r1.out
    go_wp2_with fail
    refine (lmin_any (a := r2) (b := r1) (k := M) HM0.out.symm _).mono ?_
    rintro e wr2 ⟨rfl, hbr2⟩
    have Br2 : Bl w wr2 := bl_call (bl_set (bl_set Br1 (p := ⟨w1.heap.size, 0, none⟩) (by first | exact Nat.le_refl _ | (simp; done) | (have := Br1.size; simp at this ⊢; omega)) _) (p := ⟨w1.heap.size, 1, none⟩) (by first | exact Nat.le_refl _ | (simp; done) | (have := Br1.size; simp at this ⊢; omega)) _) hbr2
    have xF_r2 : Bx wr2 (w.heap.size) #[.int .i64 (N), .int .i64 (D)] := ((xF_r1.far (by first | (simp; done) | (simp; omega)) _).far (by first | (simp; done) | (simp; omega)) _).below hbr2
    have xR_r2 : Bx wr2 (w.heap.size + 1) #[.int .i64 (0), .int .i64 (0)] := ((xR_r1.far (by first | (simp; done) | (simp; omega)) _).far (by first | (simp; done) | (simp; omega)) _).below hbr2
    have xL_r2 : Bx wr2 (w1.heap.size) #[.int .i64 (a + K * c), .int .i64 (b + K * d), .int .i64 (c), .int .i64 (d)] := ((xL_r1.set 0 (.int .i64 (a + K * c))).set 1 (.int .i64 (b + K * d))).below hbr2
    clear cF_r1 fF_r1 zF_r1 cR_r1 fR_r1 zR_r1 cL_r1 fL_r1 zL_r1
    obtain ⟨cF_r2, fF_r2, zF_r2⟩ := xF_r2.out
    obtain ⟨cR_r2, fR_r2, zR_r2⟩ := xR_r2.out
    obtain ⟨cL_r2, fL_r2, zL_r2⟩ := xL_r2.out
    rcases (show K ≠ 0 ∨ (K = 0 ∧ M ≠ 0) ∨ ((K = 0 ∧ M = 0) ∧ 0 < s) ∨ ((K = 0 ∧ M = 0) ∧ ¬ 0 < s) by omega) with hz | hz | hz | hz
    ·
      have k0 : (K == 0) = false := by simpa using hz
      have HM : ((2 * m - (b + K * d) - (d + M * (b + K * d))).toNat : Int) = 2 * m - (b + K * d) - (d + M * (b + K * d)) ∧ (2 * m - (b + K * d) - (d + M * (b + K * d))).toNat < gk := by
        have g1 := le_mul_pos (b := K) (x := d) s1 (by omega)
        have g2 := le_mul_pos (b := M) (x := b + K * d) u1 (by omega)
        omega
      clear hz
      go_wp2_with fail
      go_roundg (2 * m - (b + K * d) - (d + M * (b + K * d))).toNat
      case measure => exact HM.2
      case rel => exact ⟨_, _, _, _, S3, HM.1, ((xF_r2.far (by first | (simp; done) | (simp; omega)) _).far (by first | (simp; done) | (simp; omega)) _), ((xR_r2.far (by first | (simp; done) | (simp; omega)) _).far (by first | (simp; done) | (simp; omega)) _), ((xL_r2.set 2 (.int .i64 (c + M * (a + K * c)))).set 3 (.int .i64 (d + M * (b + K * d)))), (bl_set (bl_set Br2 (p := ⟨w1.heap.size, 2, none⟩) (by first | exact Nat.le_refl _ | (simp; done) | (have := Br2.size; simp at this ⊢; omega)) _) (p := ⟨w1.heap.size, 3, none⟩) (by first | exact Nat.le_refl _ | (simp; done) | (have := Br2.size; simp at this ⊢; omega)) _)⟩
    ·
      have k0 : (K == 0) = true := by simpa using hz.1
      have k1 : (M == 0) = false := by simpa using hz.2
      have HM : ((2 * m - (b + K * d) - (d + M * (b + K * d))).toNat : Int) = 2 * m - (b + K * d) - (d + M * (b + K * d)) ∧ (2 * m - (b + K * d) - (d + M * (b + K * d))).toNat < gk := by
        have g1 := le_mul_pos (b := K) (x := d) s1 (by omega)
        have g2 := le_mul_pos (b := M) (x := b + K * d) u1 (by omega)
        omega
      clear hz
      go_wp2_with fail
      go_roundg (2 * m - (b + K * d) - (d + M * (b + K * d))).toNat
      case measure => exact HM.2
      case rel => exact ⟨_, _, _, _, S3, HM.1, ((xF_r2.far (by first | (simp; done) | (simp; omega)) _).far (by first | (simp; done) | (simp; omega)) _), ((xR_r2.far (by first | (simp; done) | (simp; omega)) _).far (by first | (simp; done) | (simp; omega)) _), ((xL_r2.set 2 (.int .i64 (c + M * (a + K * c)))).set 3 (.int .i64 (d + M * (b + K * d)))), (bl_set (bl_set Br2 (p := ⟨w1.heap.size, 2, none⟩) (by first | exact Nat.le_refl _ | (simp; done) | (have := Br2.size; simp at this ⊢; omega)) _) (p := ⟨w1.heap.size, 3, none⟩) (by first | exact Nat.le_refl _ | (simp; done) | (have := Br2.size; simp at this ⊢; omega)) _)⟩
    ·
      have k0 : (K == 0) = true := by simpa using hz.1.1
      have k1 : (M == 0) = true := by simpa using hz.1.2
      have HL := Lib.hid (show m < b + K * d + (d + M * (b + K * d)) from by have e1 := S5.out hz.1.1; have e2 := S6.out hz.1.2; rw [hz.1.1] at e2 ⊢; rw [hz.1.2]; simp only [Int.zero_mul, Int.add_zero] at e2 ⊢; omega)
      have hs := hz.2
      have HE := Lib.hid (show sideF N D m s = (a + K * c, b + K * d) by rw [sideF, if_pos hs, HR.out _ _ _ _ S3.out HL.out])
      clear hz
      go_wp2
      refine bodyPost_ret (v := .agg #[.int .i64 (a + K * c), .int .i64 (b + K * d)]) (by simp only [results, Try.results78]; go_simp) rfl ?_
      refine ⟨ret_f HE.out, ?_⟩
      all_goals repeat first | (with_reducible exact Br2) | (with_reducible refine bl_drew ?_) | (with_reducible refine bl_set ?_ (by first | exact Nat.le_refl _ | (simp; done) | (have := B1.size; simp at this ⊢; omega)) _)
    ·
      have k0 : (K == 0) = true := by simpa using hz.1.1
      have k1 : (M == 0) = true := by simpa using hz.1.2
      have HL := Lib.hid (show m < b + K * d + (d + M * (b + K * d)) from by have e1 := S5.out hz.1.1; have e2 := S6.out hz.1.2; rw [hz.1.1] at e2 ⊢; rw [hz.1.2]; simp only [Int.zero_mul, Int.add_zero] at e2 ⊢; omega)
      have hs := hz.2
      have HE := Lib.hid (show sideF N D m s = (c + M * (a + K * c), d + M * (b + K * d)) by rw [sideF, if_neg hs, HR.out _ _ _ _ S3.out HL.out])
      clear hz
      go_wp2
      refine bodyPost_ret (v := .agg #[.int .i64 (c + M * (a + K * c)), .int .i64 (d + M * (b + K * d))]) (by simp only [results, Try.results78]; go_simp) rfl ?_
      refine ⟨ret_f HE.out, ?_⟩
      all_goals repeat first | (with_reducible exact Br2) | (with_reducible refine bl_drew ?_) | (with_reducible refine bl_set ?_ (by first | exact Nat.le_refl _ | (simp; done) | (have := B1.size; simp at this ⊢; omega)) _)

end Go.Proofs.Ytggpldbihndgmaa
