/- The reference's two sides of a fraction. Each theorem names its conditions. -/
import Derived.Test.YtgmofofokhlhnaaMin
namespace Go.Proofs.Ytgmofofokhlhnaa
open Go.RowKit
set_option linter.unusedVariables false
set_option linter.unusedSimpArgs false


set_option maxHeartbeats 800000 in
theorem sign_lt (n d m e : Int) (w : World) (h1 : -4000000000000000000 ≤ n * e) (h2 : n * e ≤ 4000000000000000000) (h3 : -4000000000000000000 ≤ m * d) (h4 : m * d ≤ 4000000000000000000) (h : n * e < m * d) :
    Calls Try.prog 192 #[.agg #[.int .i64 n, .int .i64 d], .agg #[.int .i64 m, .int .i64 e]] w fun r w' => r = .returned (.int .i64 (-1)) ∧ Bl w w' := by
  have k1 := (show n * e ≤ m * d by omega)
  have k2 := (show n * e < m * d by omega)
  clear h
  go_enter Try.func192, Try.ntmps192
  go_wp2
  go_ret
  exact ⟨rfl, bl_alloc (bl_alloc (bl_refl _) _) _⟩
set_option maxHeartbeats 800000 in
theorem less_lt (n d m e : Int) (w : World) (h1 : -4000000000000000000 ≤ n * e) (h2 : n * e ≤ 4000000000000000000) (h3 : -4000000000000000000 ≤ m * d) (h4 : m * d ≤ 4000000000000000000) (h : n * e < m * d) :
    Calls Try.prog 179 #[.agg #[.int .i64 n, .int .i64 d], .agg #[.int .i64 m, .int .i64 e]] w fun r w' => r = .returned (.bool true) ∧ Bl w w' := by
  have HH := Lib.hid h
  clear h
  go_enter Try.func179, Try.ntmps179
  go_wp2_with fail
  refine (sign_lt n d m e _ h1 h2 h3 h4 HH.out).mono ?_
  rintro e w1 ⟨rfl, hb1⟩
  have B1 : Bl w w1 := bl_call (bl_alloc (bl_alloc (bl_refl _) _) _) hb1
  have xA_1 : Bx w1 (w.heap.size) #[.int .i64 (n), .int .i64 (d)] := ((Bx.new (b := w.heap.size) _ #[.int .i64 (n), .int .i64 (d)] 55 (by first | rfl | simp)).alloc _).below hb1
  have xB_1 : Bx w1 (w.heap.size + 1) #[.int .i64 (m), .int .i64 (e)] := (Bx.new (b := w.heap.size + 1) _ #[.int .i64 (m), .int .i64 (e)] 55 (by first | rfl | simp)).below hb1
  obtain ⟨cA_1, fA_1, zA_1⟩ := xA_1.out
  obtain ⟨cB_1, fB_1, zB_1⟩ := xB_1.out
  go_wp2
  go_ret
  exact ⟨rfl, B1⟩

set_option maxHeartbeats 800000 in
theorem sign_gt (n d m e : Int) (w : World) (h1 : -4000000000000000000 ≤ n * e) (h2 : n * e ≤ 4000000000000000000) (h3 : -4000000000000000000 ≤ m * d) (h4 : m * d ≤ 4000000000000000000) (h : m * d < n * e) :
    Calls Try.prog 192 #[.agg #[.int .i64 n, .int .i64 d], .agg #[.int .i64 m, .int .i64 e]] w fun r w' => r = .returned (.int .i64 (1)) ∧ Bl w w' := by
  have k1 := (show m * d < n * e by omega)
  have k2 := (show m * d ≤ n * e by omega)
  clear h
  go_enter Try.func192, Try.ntmps192
  go_wp2
  go_ret
  exact ⟨rfl, bl_alloc (bl_alloc (bl_refl _) _) _⟩
set_option maxHeartbeats 800000 in
theorem less_gt (n d m e : Int) (w : World) (h1 : -4000000000000000000 ≤ n * e) (h2 : n * e ≤ 4000000000000000000) (h3 : -4000000000000000000 ≤ m * d) (h4 : m * d ≤ 4000000000000000000) (h : m * d < n * e) :
    Calls Try.prog 179 #[.agg #[.int .i64 n, .int .i64 d], .agg #[.int .i64 m, .int .i64 e]] w fun r w' => r = .returned (.bool false) ∧ Bl w w' := by
  have HH := Lib.hid h
  clear h
  go_enter Try.func179, Try.ntmps179
  go_wp2_with fail
  refine (sign_gt n d m e _ h1 h2 h3 h4 HH.out).mono ?_
  rintro e w1 ⟨rfl, hb1⟩
  have B1 : Bl w w1 := bl_call (bl_alloc (bl_alloc (bl_refl _) _) _) hb1
  have xA_1 : Bx w1 (w.heap.size) #[.int .i64 (n), .int .i64 (d)] := ((Bx.new (b := w.heap.size) _ #[.int .i64 (n), .int .i64 (d)] 55 (by first | rfl | simp)).alloc _).below hb1
  have xB_1 : Bx w1 (w.heap.size + 1) #[.int .i64 (m), .int .i64 (e)] := (Bx.new (b := w.heap.size + 1) _ #[.int .i64 (m), .int .i64 (e)] 55 (by first | rfl | simp)).below hb1
  obtain ⟨cA_1, fA_1, zA_1⟩ := xA_1.out
  obtain ⟨cB_1, fB_1, zB_1⟩ := xB_1.out
  go_wp2
  go_ret
  exact ⟨rfl, B1⟩

set_option maxHeartbeats 800000 in
theorem sign_eq (n d m e : Int) (w : World) (h1 : -4000000000000000000 ≤ n * e) (h2 : n * e ≤ 4000000000000000000) (h3 : -4000000000000000000 ≤ m * d) (h4 : m * d ≤ 4000000000000000000) (h : n * e = m * d) :
    Calls Try.prog 192 #[.agg #[.int .i64 n, .int .i64 d], .agg #[.int .i64 m, .int .i64 e]] w fun r w' => r = .returned (.int .i64 (0)) ∧ Bl w w' := by
  have k1 := (show n * e ≤ m * d by omega)
  have k2 := (show m * d ≤ n * e by omega)
  clear h
  go_enter Try.func192, Try.ntmps192
  go_wp2
  go_ret
  exact ⟨rfl, bl_alloc (bl_alloc (bl_refl _) _) _⟩
set_option maxHeartbeats 800000 in
theorem less_eq (n d m e : Int) (w : World) (h1 : -4000000000000000000 ≤ n * e) (h2 : n * e ≤ 4000000000000000000) (h3 : -4000000000000000000 ≤ m * d) (h4 : m * d ≤ 4000000000000000000) (h : n * e = m * d) :
    Calls Try.prog 179 #[.agg #[.int .i64 n, .int .i64 d], .agg #[.int .i64 m, .int .i64 e]] w fun r w' => r = .returned (.bool false) ∧ Bl w w' := by
  have HH := Lib.hid h
  clear h
  go_enter Try.func179, Try.ntmps179
  go_wp2_with fail
  refine (sign_eq n d m e _ h1 h2 h3 h4 HH.out).mono ?_
  rintro e w1 ⟨rfl, hb1⟩
  have B1 : Bl w w1 := bl_call (bl_alloc (bl_alloc (bl_refl _) _) _) hb1
  have xA_1 : Bx w1 (w.heap.size) #[.int .i64 (n), .int .i64 (d)] := ((Bx.new (b := w.heap.size) _ #[.int .i64 (n), .int .i64 (d)] 55 (by first | rfl | simp)).alloc _).below hb1
  have xB_1 : Bx w1 (w.heap.size + 1) #[.int .i64 (m), .int .i64 (e)] := (Bx.new (b := w.heap.size + 1) _ #[.int .i64 (m), .int .i64 (e)] 55 (by first | rfl | simp)).below hb1
  obtain ⟨cA_1, fA_1, zA_1⟩ := xA_1.out
  obtain ⟨cB_1, fB_1, zB_1⟩ := xB_1.out
  go_wp2
  go_ret
  exact ⟨rfl, B1⟩

set_option maxHeartbeats 6400000 in
set_option maxRecDepth 100000 in
theorem sides_far (N D m : Int) (w : World) (h1 : 1 ≤ m) (hm : ¬ D ≤ m) (hN : -1000000000 ≤ N ∧ N ≤ 1000000000) (hD : D ≤ 1000000000) (hg : gcdI N D = 1) :
    Calls Try.prog 156 #[.agg #[.int .i64 N, .int .i64 D], .int .i64 m] w fun r w' => r = .returned (.tuple #[.agg #[.int .i64 (sidesF N D m).1.1, .int .i64 (sidesF N D m).1.2], .agg #[.int .i64 (sidesF N D m).2.1, .int .i64 (sidesF N D m).2.2]]) ∧ Bl w w' := by
  have S0 := Lib.hid (SP.start hg (show m < D by omega) h1)
  have HR := Lib.hid (show ∀ a b c d, SP N D m a b c d → m < b + d → sidesF N D m = ((a, b), (c, d)) from fun a b c d x hx => sidesF_eq (by omega) hm x hx)
  have HG := Lib.hid hg
  clear hg
  have q0 : (((2 * m - 2).toNat : Nat) : Int) = 2 * m - 1 - 1 := by omega
  have W0 : IntKind.i64.wrap (N / D + 1) = N / D + 1 := IntWalk.i64_in _ (by have := (SP.bds hN hD (show m < D by omega) S0.out); omega)
  go_enter Try.func156, Try.ntmps156
  go_wp2_with fail
  refine (floorB_any N D _ (by omega) (by omega) (by omega) (by omega)).mono ?_
  rintro e w1 ⟨rfl, hb1⟩
  have B1 : Bl w w1 := bl_call (bl_alloc (bl_alloc (bl_alloc (bl_refl _) _) _) _) hb1
  have xF_1 : Bx w1 (w.heap.size) #[.int .i64 (N), .int .i64 (D)] := (((Bx.new (b := w.heap.size) _ #[.int .i64 (N), .int .i64 (D)] 55 (by first | rfl | simp)).alloc _).alloc _).below hb1
  have xR1_1 : Bx w1 (w.heap.size + 1) #[.int .i64 (0), .int .i64 (0)] := ((Bx.new (b := w.heap.size + 1) _ #[.int .i64 (0), .int .i64 (0)] 55 (by first | rfl | simp)).alloc _).below hb1
  have xR2_1 : Bx w1 (w.heap.size + 1 + 1) #[.int .i64 (0), .int .i64 (0)] := (Bx.new (b := w.heap.size + 1 + 1) _ #[.int .i64 (0), .int .i64 (0)] 55 (by first | rfl | simp)).below hb1
  obtain ⟨cF_1, fF_1, zF_1⟩ := xF_1.out
  obtain ⟨cR1_1, fR1_1, zR1_1⟩ := xR1_1.out
  obtain ⟨cR2_1, fR2_1, zR2_1⟩ := xR2_1.out
  go_wp2_with fail
  go_loopg [9, 10, 11] (2 * m - 2).toNat (fun k s9 s10 s11 wr => ∃ a b c d, Hid (SP N D m a b c d) ∧ ((k : Int) = 2 * m - b - d) ∧ Bx wr (w.heap.size) #[.int .i64 (N), .int .i64 (D)] ∧ Bx wr (w.heap.size + 1) #[.int .i64 (0), .int .i64 (0)] ∧ Bx wr (w.heap.size + 1 + 1) #[.int .i64 (0), .int .i64 (0)] ∧ Bx wr (w1.heap.size) #[.int .i64 (a), .int .i64 (b)] ∧ Bx wr (w1.heap.size + 1) #[.int .i64 (c), .int .i64 (d)] ∧ Bl w wr)
  case atStart =>
    refine ⟨N / D, 1, N / D + 1, 1, S0, q0, ((xF_1.alloc _).alloc _), ((xR1_1.alloc _).alloc _), ((xR2_1.alloc _).alloc _), ((Bx.new (b := w1.heap.size) _ #[.int .i64 (N / D), .int .i64 (1)] 55 (by first | rfl | simp)).alloc _), (Bx.new (b := w1.heap.size + 1) _ #[.int .i64 (N / D + 1), .int .i64 (1)] 55 (by first | rfl | simp)), (bl_alloc (bl_alloc B1 _) _)⟩
  clear hb1 cF_1 fF_1 cR1_1 fR1_1 cR2_1 fR2_1 xF_1 xR1_1 xR2_1 W0 q0
  case round =>
    rcases hrel with ⟨a, b, c, d, S, hk, xF, xR1, xR2, xL, xH, Br⟩
    obtain ⟨cF, fF, zF⟩ := xF.out
    obtain ⟨cR1, fR1, zR1⟩ := xR1.out
    obtain ⟨cR2, fR2, zR2⟩ := xR2.out
    obtain ⟨cL, fL, zL⟩ := xL.out
    obtain ⟨cH, fH, zH⟩ := xH.out
    obtain ⟨P, hP⟩ : ∃ P, P = N * b - a * D := ⟨_, rfl⟩
    obtain ⟨Q, hQ⟩ : ∃ Q, Q = c * D - N * d := ⟨_, rfl⟩
    obtain ⟨b1, b2, b3, b4, b5, b6⟩ := SP.bds hN hD hm S.out
    have p1 := S.out.lo; have p2 := S.out.lo'; have p3 := S.out.hi; have p4 := S.out.hi'
    have p5 := S.out.hb; have p6 := S.out.hd; have p7 := S.out.bm; have p8 := S.out.dm
    rw [← hP] at p1 p2
    rw [← hQ] at p3 p4
    have E1 : offF N D a b = P := by rw [offF, ab_pos (by omega)]; exact hP.symm
    have E2 : offF N D c d = Q := by rw [offF, ab_neg (by omega)]; omega
    have e3 : (a + c) * D = a * D + c * D := by grind
    have e4 : N * (b + d) = N * b + N * d := by grind
    have e5 : (a + c) * D - N * (b + d) = Q - P := by omega
    have g1 : -2000000002000000000 ≤ (a + c) * D := by omega
    have g2 : (a + c) * D ≤ 2000000002000000000 := by omega
    have g3 : -2000000002000000000 ≤ N * (b + d) := by omega
    have g4 : N * (b + d) ≤ 2000000002000000000 := by omega
    have H5 := Lib.hid e5
    clear e3 e4 e5
    have HA := Lib.hid (And.intro hP hQ)
    clear hP hQ
    by_cases hx : m < b + d
    ·
      have HL := Lib.hid hx
      go_wp2_with fail
      go_region
      all_goals go_wp2
      all_goals refine bodyPost_ret (v := .tuple #[.agg #[.int .i64 a, .int .i64 b], .agg #[.int .i64 c, .int .i64 d]]) (by simp only [results, Try.results156]; go_simp) rfl ?_
      all_goals refine ⟨ret_ff (HR.out _ _ _ _ S.out HL.out), ?_⟩
      all_goals repeat first | (with_reducible exact Br) | (with_reducible refine bl_alloc ?_ _) | (with_reducible refine bl_drew ?_) | (with_reducible refine bl_set ?_ (by first | exact Nat.le_refl _ | (simp; done) | (have := B1.size; simp at this ⊢; omega)) _)
    · have Hne := Lib.hid (show P ≠ Q by intro hpq; exact not_own (N := N) (D := D) (a := a + c) (b := b + d) HG.out (by omega) (by omega) (by rw [show N * (b + d) - (a + c) * D = P - Q by rw [HA.out.1, HA.out.2]; grind]; omega))
      rcases (show Q < P ∨ P < Q by have := Hne.out; omega) with hy | hy
      ·
        have HY := Lib.hid (show (a + c) * D < N * (b + d) by have := H5.out; omega)
        have z1 : (Q == 0) = false := by simp; omega
        have z1a : Q ≠ 0 := by omega
        have z2a : d ≠ 0 := by omega
        have z2 : (d == 0) = false := by simp; omega
        obtain ⟨q1, hq1⟩ : ∃ q, q = P.tdiv Q := ⟨_, rfl⟩
        obtain ⟨q2, hq2⟩ : ∃ q, q = (m - b).tdiv d := ⟨_, rfl⟩
        have t1 := tdiv_le (P := P) (Q := Q) (by omega) (by omega)
        have t2 := tdiv_le (P := m - b) (Q := d) (by omega) (by omega)
        rw [← hq1] at t1
        rw [← hq2] at t2
        obtain ⟨K, hK⟩ : ∃ K, K = min q1 q2 := ⟨_, rfl⟩
        have HK := Lib.hid hK
        clear hK
        obtain ⟨s1, s2, s3, s4, s5⟩ := steps_ok (P := P) (Q := Q) (m := m) (b := b) (d := d) (k := K) (by omega) (by omega) (by omega) (by omega) (by rw [← hq1, ← hq2]; exact HK.out)
        have kpos : 1 ≤ K := by
          rcases Int.lt_or_le K 1 with hk1 | hk1
          · have := s5 (by omega)
            omega
          · exact hk1
        clear s5
        have S2 := Lib.hid (SP.stepLow S.out HG.out (show m < D by omega) s1 (by rw [← HA.out.1, ← HA.out.2]; exact s2) s3)
        obtain ⟨b7, b8, b9, b10, b11, b12⟩ := SP.bds hN hD hm S2.out
        have n1 := Int.mul_nonneg s1 (show 0 ≤ d by omega)
        have n2 := le_mul_pos (b := K) (x := d) s1 (by omega)
        have n3 : -4000000001000000000 ≤ K * c ∧ K * c ≤ 4000000001000000000 := by omega
        have HM : (2 * m - (b + K * d) - (d)).toNat = 2 * m - (b + K * d) - (d) ∧ (2 * m - (b + K * d) - (d)).toNat < gk := by omega
        have W1 : IntKind.i64.wrap (P.tdiv Q) = q1 := by rw [← hq1]; exact IntWalk.i64_in _ (by omega)
        have W2 : IntKind.i64.wrap (m - b) = m - b := IntWalk.i64_in _ (by omega)
        have W3 : IntKind.i64.wrap ((m - b).tdiv d) = q2 := by rw [← hq2]; exact IntWalk.i64_in _ (by omega)
        clear hq1 hq2
        go_wp2_with fail
        refine (less_lt (a + c) (b + d) N D _ (by omega) (by omega) (by omega) (by omega) HY.out).mono ?_
        rintro e wr1 ⟨rfl, hbr1⟩
        have Br1 : Bl w wr1 := bl_call (bl_alloc Br _) hbr1
        have xF_r1 : Bx wr1 (w.heap.size) #[.int .i64 (N), .int .i64 (D)] := (xF.alloc _).below hbr1
        have xR1_r1 : Bx wr1 (w.heap.size + 1) #[.int .i64 (0), .int .i64 (0)] := (xR1.alloc _).below hbr1
        have xR2_r1 : Bx wr1 (w.heap.size + 1 + 1) #[.int .i64 (0), .int .i64 (0)] := (xR2.alloc _).below hbr1
        have xL_r1 : Bx wr1 (w1.heap.size) #[.int .i64 (a), .int .i64 (b)] := (xL.alloc _).below hbr1
        have xH_r1 : Bx wr1 (w1.heap.size + 1) #[.int .i64 (c), .int .i64 (d)] := (xH.alloc _).below hbr1
        have xM_r1 : Bx wr1 (wr.heap.size) #[.int .i64 (a + c), .int .i64 (b + d)] := (Bx.new (b := wr.heap.size) _ #[.int .i64 (a + c), .int .i64 (b + d)] 55 (by first | rfl | simp)).below hbr1
        clear cF fF zF cR1 fR1 zR1 cR2 fR2 zR2 cL fL zL cH fH zH
        obtain ⟨cF_r1, fF_r1, zF_r1⟩ := xF_r1.out
        obtain ⟨cR1_r1, fR1_r1, zR1_r1⟩ := xR1_r1.out
        obtain ⟨cR2_r1, fR2_r1, zR2_r1⟩ := xR2_r1.out
        obtain ⟨cL_r1, fL_r1, zL_r1⟩ := xL_r1.out
        obtain ⟨cH_r1, fH_r1, zH_r1⟩ := xH_r1.out
        obtain ⟨cM_r1, fM_r1, zM_r1⟩ := xM_r1.out
        go_wp2_with fail
        go_region_held3 (fun w' => w'.cell? ⟨w.heap.size, 0, none⟩ = some (.int .i64 (N)) ∧ w'.cell? ⟨w.heap.size, 1, none⟩ = some (.int .i64 (D)) ∧ w'.cell? ⟨w1.heap.size, 0, none⟩ = some (.int .i64 (a)) ∧ w'.cell? ⟨w1.heap.size, 1, none⟩ = some (.int .i64 (b)) ∧ w'.cell? ⟨w1.heap.size + 1, 0, none⟩ = some (.int .i64 (c)) ∧ w'.cell? ⟨w1.heap.size + 1, 1, none⟩ = some (.int .i64 (d))) (first | (simp [*]; done) | (go_simp; done) | go_keep)
          (first | (go_at_call_of 157 (Value.agg #[Value.int IntKind.i64 a, Value.int IntKind.i64 b]); go_must (refine (soffE E1 _ (by omega) (by omega) (by omega) (by omega)).mono ?_; rintro e wr2 ⟨rfl, hbr2⟩; have Br2 : Bl w wr2 := bl_call (bl_drew Br1) hbr2; have xF_r2 : Bx wr2 (w.heap.size) #[.int .i64 (N), .int .i64 (D)] := xF_r1.drew.below hbr2; have xR1_r2 : Bx wr2 (w.heap.size + 1) #[.int .i64 (0), .int .i64 (0)] := xR1_r1.drew.below hbr2; have xR2_r2 : Bx wr2 (w.heap.size + 1 + 1) #[.int .i64 (0), .int .i64 (0)] := xR2_r1.drew.below hbr2; have xL_r2 : Bx wr2 (w1.heap.size) #[.int .i64 (a), .int .i64 (b)] := xL_r1.drew.below hbr2; have xH_r2 : Bx wr2 (w1.heap.size + 1) #[.int .i64 (c), .int .i64 (d)] := xH_r1.drew.below hbr2; have xM_r2 : Bx wr2 (wr.heap.size) #[.int .i64 (a + c), .int .i64 (b + d)] := xM_r1.drew.below hbr2; clear cF_r1 fF_r1 zF_r1 cR1_r1 fR1_r1 zR1_r1 cR2_r1 fR2_r1 zR2_r1 cL_r1 fL_r1 zL_r1 cH_r1 fH_r1 zH_r1 cM_r1 fM_r1 zM_r1; obtain ⟨cF_r2, fF_r2, zF_r2⟩ := xF_r2.out; obtain ⟨cR1_r2, fR1_r2, zR1_r2⟩ := xR1_r2.out; obtain ⟨cR2_r2, fR2_r2, zR2_r2⟩ := xR2_r2.out; obtain ⟨cL_r2, fL_r2, zL_r2⟩ := xL_r2.out; obtain ⟨cH_r2, fH_r2, zH_r2⟩ := xH_r2.out; obtain ⟨cM_r2, fM_r2, zM_r2⟩ := xM_r2.out)) | (go_at_call_of 157 (Value.agg #[Value.int IntKind.i64 c, Value.int IntKind.i64 d]); go_must (refine (soffE E2 _ (by omega) (by omega) (by omega) (by omega)).mono ?_; rintro e wr3 ⟨rfl, hbr3⟩; have Br3 : Bl w wr3 := bl_call Br2 hbr3; have xF_r3 : Bx wr3 (w.heap.size) #[.int .i64 (N), .int .i64 (D)] := xF_r2.below hbr3; have xR1_r3 : Bx wr3 (w.heap.size + 1) #[.int .i64 (0), .int .i64 (0)] := xR1_r2.below hbr3; have xR2_r3 : Bx wr3 (w.heap.size + 1 + 1) #[.int .i64 (0), .int .i64 (0)] := xR2_r2.below hbr3; have xL_r3 : Bx wr3 (w1.heap.size) #[.int .i64 (a), .int .i64 (b)] := xL_r2.below hbr3; have xH_r3 : Bx wr3 (w1.heap.size + 1) #[.int .i64 (c), .int .i64 (d)] := xH_r2.below hbr3; have xM_r3 : Bx wr3 (wr.heap.size) #[.int .i64 (a + c), .int .i64 (b + d)] := xM_r2.below hbr3; clear cF_r2 fF_r2 zF_r2 cR1_r2 fR1_r2 zR1_r2 cR2_r2 fR2_r2 zR2_r2 cL_r2 fL_r2 zL_r2 cH_r2 fH_r2 zH_r2 cM_r2 fM_r2 zM_r2; obtain ⟨cF_r3, fF_r3, zF_r3⟩ := xF_r3.out; obtain ⟨cR1_r3, fR1_r3, zR1_r3⟩ := xR1_r3.out; obtain ⟨cR2_r3, fR2_r3, zR2_r3⟩ := xR2_r3.out; obtain ⟨cL_r3, fL_r3, zL_r3⟩ := xL_r3.out; obtain ⟨cH_r3, fH_r3, zH_r3⟩ := xH_r3.out; obtain ⟨cM_r3, fM_r3, zM_r3⟩ := xM_r3.out)) | (go_at_call 180; go_must (refine (lmin_any (a := q1) (b := q2) (k := K) HK.out.symm _).mono ?_; rintro e wr4 ⟨rfl, hbr4⟩; have Br4 : Bl w wr4 := bl_call Br3 hbr4; have xF_r4 : Bx wr4 (w.heap.size) #[.int .i64 (N), .int .i64 (D)] := xF_r3.below hbr4; have xR1_r4 : Bx wr4 (w.heap.size + 1) #[.int .i64 (0), .int .i64 (0)] := xR1_r3.below hbr4; have xR2_r4 : Bx wr4 (w.heap.size + 1 + 1) #[.int .i64 (0), .int .i64 (0)] := xR2_r3.below hbr4; have xL_r4 : Bx wr4 (w1.heap.size) #[.int .i64 (a), .int .i64 (b)] := xL_r3.below hbr4; have xH_r4 : Bx wr4 (w1.heap.size + 1) #[.int .i64 (c), .int .i64 (d)] := xH_r3.below hbr4; have xM_r4 : Bx wr4 (wr.heap.size) #[.int .i64 (a + c), .int .i64 (b + d)] := xM_r3.below hbr4; clear cF_r3 fF_r3 zF_r3 cR1_r3 fR1_r3 zR1_r3 cR2_r3 fR2_r3 zR2_r3 cL_r3 fL_r3 zL_r3 cH_r3 fH_r3 zH_r3 cM_r3 fM_r3 zM_r3; obtain ⟨cF_r4, fF_r4, zF_r4⟩ := xF_r4.out; obtain ⟨cR1_r4, fR1_r4, zR1_r4⟩ := xR1_r4.out; obtain ⟨cR2_r4, fR2_r4, zR2_r4⟩ := xR2_r4.out; obtain ⟨cL_r4, fL_r4, zL_r4⟩ := xL_r4.out; obtain ⟨cH_r4, fH_r4, zH_r4⟩ := xH_r4.out; obtain ⟨cM_r4, fM_r4, zM_r4⟩ := xM_r4.out)))
        go_wp2_with fail
        go_roundg (2 * m - (b + K * d) - (d)).toNat
        case measure => exact HM.2
        case rel => exact ⟨_, _, _, _, S2, HM.1, ((xF_r4.far (by first | (simp; done) | (simp; omega)) _).far (by first | (simp; done) | (simp; omega)) _), ((xR1_r4.far (by first | (simp; done) | (simp; omega)) _).far (by first | (simp; done) | (simp; omega)) _), ((xR2_r4.far (by first | (simp; done) | (simp; omega)) _).far (by first | (simp; done) | (simp; omega)) _), ((xL_r4.set 0 (.int .i64 (a + K * c))).set 1 (.int .i64 (b + K * d))), ((xH_r4.far (by first | (simp; done) | (simp; omega)) _).far (by first | (simp; done) | (simp; omega)) _), (bl_set (bl_set Br4 (p := ⟨w1.heap.size, 0, none⟩) (by first | exact Nat.le_refl _ | (simp; done) | (have := Br4.size; simp at this ⊢; omega)) _) (p := ⟨w1.heap.size, 1, none⟩) (by first | exact Nat.le_refl _ | (simp; done) | (have := Br4.size; simp at this ⊢; omega)) _)⟩
      ·
        have HY := Lib.hid (show N * (b + d) < (a + c) * D by have := H5.out; omega)
        have z1 : (P == 0) = false := by simp; omega
        have z1a : P ≠ 0 := by omega
        have z2a : b ≠ 0 := by omega
        have z2 : (b == 0) = false := by simp; omega
        obtain ⟨q1, hq1⟩ : ∃ q, q = Q.tdiv P := ⟨_, rfl⟩
        obtain ⟨q2, hq2⟩ : ∃ q, q = (m - d).tdiv b := ⟨_, rfl⟩
        have t1 := tdiv_le (P := Q) (Q := P) (by omega) (by omega)
        have t2 := tdiv_le (P := m - d) (Q := b) (by omega) (by omega)
        rw [← hq1] at t1
        rw [← hq2] at t2
        obtain ⟨K, hK⟩ : ∃ K, K = min q1 q2 := ⟨_, rfl⟩
        have HK := Lib.hid hK
        clear hK
        obtain ⟨s1, s2, s3, s4, s5⟩ := steps_ok (P := Q) (Q := P) (m := m) (b := d) (d := b) (k := K) (by omega) (by omega) (by omega) (by omega) (by rw [← hq1, ← hq2]; exact HK.out)
        have kpos : 1 ≤ K := by
          rcases Int.lt_or_le K 1 with hk1 | hk1
          · have := s5 (by omega)
            omega
          · exact hk1
        clear s5
        have S2 := Lib.hid (SP.stepHigh S.out HG.out (show m < D by omega) s1 (by rw [← HA.out.1, ← HA.out.2]; exact s2) s3)
        obtain ⟨b7, b8, b9, b10, b11, b12⟩ := SP.bds hN hD hm S2.out
        have n1 := Int.mul_nonneg s1 (show 0 ≤ b by omega)
        have n2 := le_mul_pos (b := K) (x := b) s1 (by omega)
        have n3 : -4000000001000000000 ≤ K * a ∧ K * a ≤ 4000000001000000000 := by omega
        have HM : (2 * m - b - (d + K * b)).toNat = 2 * m - b - (d + K * b) ∧ (2 * m - b - (d + K * b)).toNat < gk := by omega
        have W1 : IntKind.i64.wrap (Q.tdiv P) = q1 := by rw [← hq1]; exact IntWalk.i64_in _ (by omega)
        have W2 : IntKind.i64.wrap (m - d) = m - d := IntWalk.i64_in _ (by omega)
        have W3 : IntKind.i64.wrap ((m - d).tdiv b) = q2 := by rw [← hq2]; exact IntWalk.i64_in _ (by omega)
        clear hq1 hq2
        go_wp2_with fail
        refine (less_gt (a + c) (b + d) N D _ (by omega) (by omega) (by omega) (by omega) HY.out).mono ?_
        rintro e wr1 ⟨rfl, hbr1⟩
        have Br1 : Bl w wr1 := bl_call (bl_alloc Br _) hbr1
        have xF_r1 : Bx wr1 (w.heap.size) #[.int .i64 (N), .int .i64 (D)] := (xF.alloc _).below hbr1
        have xR1_r1 : Bx wr1 (w.heap.size + 1) #[.int .i64 (0), .int .i64 (0)] := (xR1.alloc _).below hbr1
        have xR2_r1 : Bx wr1 (w.heap.size + 1 + 1) #[.int .i64 (0), .int .i64 (0)] := (xR2.alloc _).below hbr1
        have xL_r1 : Bx wr1 (w1.heap.size) #[.int .i64 (a), .int .i64 (b)] := (xL.alloc _).below hbr1
        have xH_r1 : Bx wr1 (w1.heap.size + 1) #[.int .i64 (c), .int .i64 (d)] := (xH.alloc _).below hbr1
        have xM_r1 : Bx wr1 (wr.heap.size) #[.int .i64 (a + c), .int .i64 (b + d)] := (Bx.new (b := wr.heap.size) _ #[.int .i64 (a + c), .int .i64 (b + d)] 55 (by first | rfl | simp)).below hbr1
        clear cF fF zF cR1 fR1 zR1 cR2 fR2 zR2 cL fL zL cH fH zH
        obtain ⟨cF_r1, fF_r1, zF_r1⟩ := xF_r1.out
        obtain ⟨cR1_r1, fR1_r1, zR1_r1⟩ := xR1_r1.out
        obtain ⟨cR2_r1, fR2_r1, zR2_r1⟩ := xR2_r1.out
        obtain ⟨cL_r1, fL_r1, zL_r1⟩ := xL_r1.out
        obtain ⟨cH_r1, fH_r1, zH_r1⟩ := xH_r1.out
        obtain ⟨cM_r1, fM_r1, zM_r1⟩ := xM_r1.out
        go_wp2_with fail
        go_region_held3 (fun w' => w'.cell? ⟨w.heap.size, 0, none⟩ = some (.int .i64 (N)) ∧ w'.cell? ⟨w.heap.size, 1, none⟩ = some (.int .i64 (D)) ∧ w'.cell? ⟨w1.heap.size, 0, none⟩ = some (.int .i64 (a)) ∧ w'.cell? ⟨w1.heap.size, 1, none⟩ = some (.int .i64 (b)) ∧ w'.cell? ⟨w1.heap.size + 1, 0, none⟩ = some (.int .i64 (c)) ∧ w'.cell? ⟨w1.heap.size + 1, 1, none⟩ = some (.int .i64 (d))) (first | (simp [*]; done) | (go_simp; done) | go_keep)
          (first | (go_at_call_of 157 (Value.agg #[Value.int IntKind.i64 c, Value.int IntKind.i64 d]); go_must (refine (soffE E2 _ (by omega) (by omega) (by omega) (by omega)).mono ?_; rintro e wr2 ⟨rfl, hbr2⟩; have Br2 : Bl w wr2 := bl_call (bl_drew Br1) hbr2; have xF_r2 : Bx wr2 (w.heap.size) #[.int .i64 (N), .int .i64 (D)] := xF_r1.drew.below hbr2; have xR1_r2 : Bx wr2 (w.heap.size + 1) #[.int .i64 (0), .int .i64 (0)] := xR1_r1.drew.below hbr2; have xR2_r2 : Bx wr2 (w.heap.size + 1 + 1) #[.int .i64 (0), .int .i64 (0)] := xR2_r1.drew.below hbr2; have xL_r2 : Bx wr2 (w1.heap.size) #[.int .i64 (a), .int .i64 (b)] := xL_r1.drew.below hbr2; have xH_r2 : Bx wr2 (w1.heap.size + 1) #[.int .i64 (c), .int .i64 (d)] := xH_r1.drew.below hbr2; have xM_r2 : Bx wr2 (wr.heap.size) #[.int .i64 (a + c), .int .i64 (b + d)] := xM_r1.drew.below hbr2; clear cF_r1 fF_r1 zF_r1 cR1_r1 fR1_r1 zR1_r1 cR2_r1 fR2_r1 zR2_r1 cL_r1 fL_r1 zL_r1 cH_r1 fH_r1 zH_r1 cM_r1 fM_r1 zM_r1; obtain ⟨cF_r2, fF_r2, zF_r2⟩ := xF_r2.out; obtain ⟨cR1_r2, fR1_r2, zR1_r2⟩ := xR1_r2.out; obtain ⟨cR2_r2, fR2_r2, zR2_r2⟩ := xR2_r2.out; obtain ⟨cL_r2, fL_r2, zL_r2⟩ := xL_r2.out; obtain ⟨cH_r2, fH_r2, zH_r2⟩ := xH_r2.out; obtain ⟨cM_r2, fM_r2, zM_r2⟩ := xM_r2.out)) | (go_at_call_of 157 (Value.agg #[Value.int IntKind.i64 a, Value.int IntKind.i64 b]); go_must (refine (soffE E1 _ (by omega) (by omega) (by omega) (by omega)).mono ?_; rintro e wr3 ⟨rfl, hbr3⟩; have Br3 : Bl w wr3 := bl_call Br2 hbr3; have xF_r3 : Bx wr3 (w.heap.size) #[.int .i64 (N), .int .i64 (D)] := xF_r2.below hbr3; have xR1_r3 : Bx wr3 (w.heap.size + 1) #[.int .i64 (0), .int .i64 (0)] := xR1_r2.below hbr3; have xR2_r3 : Bx wr3 (w.heap.size + 1 + 1) #[.int .i64 (0), .int .i64 (0)] := xR2_r2.below hbr3; have xL_r3 : Bx wr3 (w1.heap.size) #[.int .i64 (a), .int .i64 (b)] := xL_r2.below hbr3; have xH_r3 : Bx wr3 (w1.heap.size + 1) #[.int .i64 (c), .int .i64 (d)] := xH_r2.below hbr3; have xM_r3 : Bx wr3 (wr.heap.size) #[.int .i64 (a + c), .int .i64 (b + d)] := xM_r2.below hbr3; clear cF_r2 fF_r2 zF_r2 cR1_r2 fR1_r2 zR1_r2 cR2_r2 fR2_r2 zR2_r2 cL_r2 fL_r2 zL_r2 cH_r2 fH_r2 zH_r2 cM_r2 fM_r2 zM_r2; obtain ⟨cF_r3, fF_r3, zF_r3⟩ := xF_r3.out; obtain ⟨cR1_r3, fR1_r3, zR1_r3⟩ := xR1_r3.out; obtain ⟨cR2_r3, fR2_r3, zR2_r3⟩ := xR2_r3.out; obtain ⟨cL_r3, fL_r3, zL_r3⟩ := xL_r3.out; obtain ⟨cH_r3, fH_r3, zH_r3⟩ := xH_r3.out; obtain ⟨cM_r3, fM_r3, zM_r3⟩ := xM_r3.out)) | (go_at_call 180; go_must (refine (lmin_any (a := q1) (b := q2) (k := K) HK.out.symm _).mono ?_; rintro e wr4 ⟨rfl, hbr4⟩; have Br4 : Bl w wr4 := bl_call Br3 hbr4; have xF_r4 : Bx wr4 (w.heap.size) #[.int .i64 (N), .int .i64 (D)] := xF_r3.below hbr4; have xR1_r4 : Bx wr4 (w.heap.size + 1) #[.int .i64 (0), .int .i64 (0)] := xR1_r3.below hbr4; have xR2_r4 : Bx wr4 (w.heap.size + 1 + 1) #[.int .i64 (0), .int .i64 (0)] := xR2_r3.below hbr4; have xL_r4 : Bx wr4 (w1.heap.size) #[.int .i64 (a), .int .i64 (b)] := xL_r3.below hbr4; have xH_r4 : Bx wr4 (w1.heap.size + 1) #[.int .i64 (c), .int .i64 (d)] := xH_r3.below hbr4; have xM_r4 : Bx wr4 (wr.heap.size) #[.int .i64 (a + c), .int .i64 (b + d)] := xM_r3.below hbr4; clear cF_r3 fF_r3 zF_r3 cR1_r3 fR1_r3 zR1_r3 cR2_r3 fR2_r3 zR2_r3 cL_r3 fL_r3 zL_r3 cH_r3 fH_r3 zH_r3 cM_r3 fM_r3 zM_r3; obtain ⟨cF_r4, fF_r4, zF_r4⟩ := xF_r4.out; obtain ⟨cR1_r4, fR1_r4, zR1_r4⟩ := xR1_r4.out; obtain ⟨cR2_r4, fR2_r4, zR2_r4⟩ := xR2_r4.out; obtain ⟨cL_r4, fL_r4, zL_r4⟩ := xL_r4.out; obtain ⟨cH_r4, fH_r4, zH_r4⟩ := xH_r4.out; obtain ⟨cM_r4, fM_r4, zM_r4⟩ := xM_r4.out)))
        go_wp2_with fail
        go_roundg (2 * m - b - (d + K * b)).toNat
        case measure => exact HM.2
        case rel => exact ⟨_, _, _, _, S2, HM.1, ((xF_r4.far (by first | (simp; done) | (simp; omega)) _).far (by first | (simp; done) | (simp; omega)) _), ((xR1_r4.far (by first | (simp; done) | (simp; omega)) _).far (by first | (simp; done) | (simp; omega)) _), ((xR2_r4.far (by first | (simp; done) | (simp; omega)) _).far (by first | (simp; done) | (simp; omega)) _), ((xL_r4.far (by first | (simp; done) | (simp; omega)) _).far (by first | (simp; done) | (simp; omega)) _), ((xH_r4.set 0 (.int .i64 (c + K * a))).set 1 (.int .i64 (d + K * b))), (bl_set (bl_set Br4 (p := ⟨w1.heap.size + 1, 0, none⟩) (by first | exact Nat.le_refl _ | (simp; done) | (have := Br4.size; simp at this ⊢; omega)) _) (p := ⟨w1.heap.size + 1, 1, none⟩) (by first | exact Nat.le_refl _ | (simp; done) | (have := Br4.size; simp at this ⊢; omega)) _)⟩

end Go.Proofs.Ytgmofofokhlhnaa
