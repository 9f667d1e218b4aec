/- Some of the texts of this claim, joined in one file: Sides, Min. -/
import Derived.Test.YtgkelemfbmmgnaaMTp25
/- Both neighbours of a fraction with bounded denominators, as the program finds them. Each theorem names its conditions. -/
namespace Go.Proofs.Ytgkelemfbmmgnaa
open Go.RowKit
set_option linter.unusedVariables false
set_option linter.unusedSimpArgs false

/-- Two fractions handed back. -/
theorem ret_ff {r : (Int × Int) × (Int × Int)} {a b c d : Int} (h : r = ((a, b), (c, d))) : Ending.returned (.tuple #[.agg #[.int .i64 a, .int .i64 b], .agg #[.int .i64 c, .int .i64 d]]) = .returned (.tuple #[.agg #[.int .i64 r.1.1, .int .i64 r.1.2], .agg #[.int .i64 r.2.1, .int .i64 r.2.2]]) := by subst h; rfl
theorem fdivB_any (a b : Int) (w : World) (h1 : -9223372036854775808 < a) (h2 : a ≤ 9223372036854775807) (hb : 0 < b) (hb2 : b ≤ 9223372036854775807) :
    Calls Try.prog 125 #[.int .i64 a, .int .i64 b] w fun e w' => e = .returned (.int .i64 (a / b)) ∧ Bl w w' :=
  (fdiv_any a b w h1 h2 hb hb2).mono (by rintro e w' ⟨h, rfl⟩; exact ⟨h, bl_refl _⟩)
theorem floorB_any (a b : Int) (w : World) (h1 : -9223372036854775808 < a) (h2 : a ≤ 9223372036854775807) (hb : 0 < b) (hb2 : b ≤ 9223372036854775807) :
    Calls Try.prog 89 #[.int .i64 a, .int .i64 b] w fun e w' => e = .returned (.int .i64 (a / b)) ∧ Bl w w' :=
  (floor_any a b w h1 h2 hb hb2).mono (by rintro e w' ⟨h, rfl⟩; exact ⟨h, bl_refl _⟩)
theorem ioffE {n d m e P : Int} (h : offF n d m e = P) (w : World) (h1 : -4000000000000000000 ≤ n * e) (h2 : n * e ≤ 4000000000000000000) (h3 : -4000000000000000000 ≤ m * d) (h4 : m * d ≤ 4000000000000000000) :
    Calls Try.prog 127 #[.agg #[.int .i64 n, .int .i64 d], .agg #[.int .i64 m, .int .i64 e]] w fun r w' => r = .returned (.int .i64 P) ∧ Bl w w' := h ▸ ioff_any n d m e w h1 h2 h3 h4
theorem soffE {n d m e P : Int} (h : offF n d m e = P) (w : World) (h1 : -4000000000000000000 ≤ n * e) (h2 : n * e ≤ 4000000000000000000) (h3 : -4000000000000000000 ≤ m * d) (h4 : m * d ≤ 4000000000000000000) :
    Calls Try.prog 108 #[.agg #[.int .i64 n, .int .i64 d], .agg #[.int .i64 m, .int .i64 e]] w fun r w' => r = .returned (.int .i64 P) ∧ Bl w w' := h ▸ soff_any n d m e w h1 h2 h3 h4

set_option maxHeartbeats 1600000 in
set_option maxRecDepth 100000 in
theorem around_own (N D m : Int) (w : World) (hm : D ≤ m) :
    Calls Try.prog 105 #[.agg #[.int .i64 N, .int .i64 D], .int .i64 m] w fun r w' => r = .returned (.tuple #[.agg #[.int .i64 (sidesF N D m).1.1, .int .i64 (sidesF N D m).1.2], .agg #[.int .i64 (sidesF N D m).2.1, .int .i64 (sidesF N D m).2.2]]) ∧ Bl w w' := by
  have HR := Lib.hid (sidesF_own (N := N) hm)
  go_enter Try.func105, Try.ntmps105
  go_wp2_with fail
  go_region
  all_goals go_wp2
  all_goals refine bodyPost_ret (v := .tuple #[.agg #[.int .i64 N, .int .i64 D], .agg #[.int .i64 N, .int .i64 D]]) (by simp only [results, Try.results105]; go_simp) rfl ?_
  all_goals refine ⟨ret_ff HR.out, ?_⟩
  all_goals repeat first | exact (bl_alloc (bl_alloc (bl_alloc (bl_refl w) _) _) _) | refine bl_drew ?_ | refine bl_set ?_ (by first | exact Nat.le_refl _ | (simp; done) | (simp; omega)) _

/-- What stands in the loop's three blocks. -/
theorem SP.bds {N D m a b c d : Int} (hN : -1000000000 ≤ N ∧ N ≤ 1000000000) (hD : D ≤ 1000000000) (hm : m < D) (x : SP N D m a b c d) :
    (-1000000000000000000 ≤ N * b ∧ N * b ≤ 1000000000000000000) ∧ (-1000000000000000000 ≤ N * d ∧ N * d ≤ 1000000000000000000) ∧ (-1000000001000000000 ≤ a * D ∧ a * D ≤ 1000000001000000000) ∧ (-1000000001000000000 ≤ c * D ∧ c * D ≤ 1000000001000000000) ∧ (-1000000001 ≤ a ∧ a ≤ 1000000001) ∧ (-1000000001 ≤ c ∧ c ≤ 1000000001) := by
  have p1 := mul_bd hN.1 hN.2 (show 0 ≤ b by have := x.hb; omega) (show b ≤ 1000000000 by have := x.bm; omega)
  have p2 := mul_bd hN.1 hN.2 (show 0 ≤ d by have := x.hd; omega) (show d ≤ 1000000000 by have := x.dm; omega)
  have hD0 : 0 < D := by have := x.hb; have := x.bm; omega
  have e1 := x.lo; have e2 := x.lo'; have e3 := x.hi; have e4 := x.hi'
  have q1 : -1000000001 ≤ a ∧ a ≤ 1000000001 := by
    have l1 : N * b ≤ 1000000000 * D := by
      have := Int.mul_le_mul_of_nonneg_right hN.2 (show 0 ≤ b by have := x.hb; omega)
      have := x.bm; omega
    have l2 : -(1000000000 * D) ≤ N * b := by
      have := Int.mul_le_mul_of_nonneg_right hN.1 (show 0 ≤ b by have := x.hb; omega)
      have := x.bm; omega
    constructor
    · rcases Int.lt_or_le a (-1000000001) with h | h
      · have := Int.mul_le_mul_of_nonneg_right (show a ≤ -1000000002 by omega) (show 0 ≤ D by omega); omega
      · exact h
    · rcases Int.lt_or_le 1000000001 a with h | h
      · have := Int.mul_le_mul_of_nonneg_right (show (1000000002 : Int) ≤ a by omega) (show 0 ≤ D by omega); omega
      · exact h
  have q2 : -1000000001 ≤ c ∧ c ≤ 1000000001 := by
    have l1 : N * d ≤ 1000000000 * D := by
      have := Int.mul_le_mul_of_nonneg_right hN.2 (show 0 ≤ d by have := x.hd; omega)
      have := x.dm; omega
    have l2 : -(1000000000 * D) ≤ N * d := by
      have := Int.mul_le_mul_of_nonneg_right hN.1 (show 0 ≤ d by have := x.hd; omega)
      have := x.dm; omega
    constructor
    · rcases Int.lt_or_le c (-1000000001) with h | h
      · have := Int.mul_le_mul_of_nonneg_right (show c ≤ -1000000002 by omega) (show 0 ≤ D by omega); omega
      · exact h
    · rcases Int.lt_or_le 1000000001 c with h | h
      · have := Int.mul_le_mul_of_nonneg_right (show (1000000002 : Int) ≤ c by omega) (show 0 ≤ D by omega); omega
      · exact h
  refine ⟨?_, ?_, ?_, ?_, q1, q2⟩ <;> omega

/-- How often the lower side may go on towards the higher one: quotient. -/
theorem tdiv_le {P Q : Int} (hP : 0 ≤ P) (hQ : 0 < Q) : 0 ≤ P.tdiv Q ∧ P.tdiv Q * Q ≤ P ∧ P < (P.tdiv Q + 1) * Q ∧ P.tdiv Q ≤ P := by
  rw [Int.tdiv_eq_ediv_of_nonneg hP]
  have e := Int.mul_ediv_add_emod P Q
  have r1 := Int.emod_nonneg P (show Q ≠ 0 by omega)
  have r2 := Int.emod_lt_of_pos P hQ
  have c1 : P / Q * Q = Q * (P / Q) := Int.mul_comm _ _
  have c2 : (P / Q + 1) * Q = Q * (P / Q) + Q := by grind
  have n := Int.ediv_nonneg hP (show 0 ≤ Q by omega)
  refine ⟨n, by omega, by omega, ?_⟩
  have := le_mul_pos (b := P / Q) (x := Q) n (by omega)
  omega
/-- The number of steps k: the least of the two quotients; what is known of it. -/
theorem steps_ok {P Q m b d k : Int} (hP : 0 ≤ P) (hQ : 0 < Q) (hb : b ≤ m) (hd : 0 < d) (hk : k = min (P.tdiv Q) ((m - b).tdiv d)) : 0 ≤ k ∧ k * Q ≤ P ∧ b + k * d ≤ m ∧ k ≤ m - b ∧ (k = 0 → P < Q ∨ m < b + d) := by
  have x := tdiv_le hP hQ
  have y := tdiv_le (P := m - b) (Q := d) (by omega) hd
  have l1 : k ≤ P.tdiv Q := by omega
  have l2 : k ≤ (m - b).tdiv d := by omega
  have := Int.mul_le_mul_of_nonneg_right l1 (show 0 ≤ Q by omega)
  have := Int.mul_le_mul_of_nonneg_right l2 (show 0 ≤ d by omega)
  refine ⟨by omega, by omega, by omega, by omega, fun h0 => ?_⟩
  subst h0
  rcases Int.le_total (P.tdiv Q) ((m - b).tdiv d) with q | q
  · left
    have e : P.tdiv Q = 0 := by omega
    rw [e] at x; omega
  · right
    have e : (m - b).tdiv d = 0 := by omega
    rw [e] at y; omega

set_option maxHeartbeats 1600000 in
set_option maxRecDepth 100000 in
theorem around_far (N D m : Int) (w : World) (h1 : 1 ≤ m) (hm : ¬ D ≤ m) (hN : -1000000000 ≤ N ∧ N ≤ 1000000000) (hD : D ≤ 1000000000) (hg : gcdI N D = 1) :
    Calls Try.prog 105 #[.agg #[.int .i64 N, .int .i64 D], .int .i64 m] w fun r w' => r = .returned (.tuple #[.agg #[.int .i64 (sidesF N D m).1.1, .int .i64 (sidesF N D m).1.2], .agg #[.int .i64 (sidesF N D m).2.1, .int .i64 (sidesF N D m).2.2]]) ∧ Bl w w' := by
  have S0 := Lib.hid (SP.start hg (show m < D by omega) h1)
  have HR := Lib.hid (show ∀ a b c d, SP N D m a b c d → m < b + d → sidesF N D m = ((a, b), (c, d)) from fun a b c d x hx => sidesF_eq (by omega) hm x hx)
  have HG := Lib.hid hg
  clear hg
  have q0 : (((2 * m - 2).toNat : Nat) : Int) = 2 * m - 1 - 1 := by omega
  have W0 : IntKind.i64.wrap (N / D + 1) = N / D + 1 := IntWalk.i64_in _ (by have := (SP.bds hN hD (show m < D by omega) S0.out); omega)
  go_enter Try.func105, Try.ntmps105
  go_wp2_with fail
  refine (fdivB_any N D _ (by omega) (by omega) (by omega) (by omega)).mono ?_
  rintro e w1 ⟨rfl, hb1⟩
  have B1 : Bl w w1 := bl_call (bl_alloc (bl_alloc (bl_alloc (bl_refl _) _) _) _) hb1
  have xF_1 : Bx w1 (w.heap.size) #[.int .i64 (N), .int .i64 (D)] := (((Bx.new (b := w.heap.size) _ #[.int .i64 (N), .int .i64 (D)] 44 (by first | rfl | simp)).alloc _).alloc _).below hb1
  have xR1_1 : Bx w1 (w.heap.size + 1) #[.int .i64 (0), .int .i64 (0)] := ((Bx.new (b := w.heap.size + 1) _ #[.int .i64 (0), .int .i64 (0)] 44 (by first | rfl | simp)).alloc _).below hb1
  have xR2_1 : Bx w1 (w.heap.size + 1 + 1) #[.int .i64 (0), .int .i64 (0)] := (Bx.new (b := w.heap.size + 1 + 1) _ #[.int .i64 (0), .int .i64 (0)] 44 (by first | rfl | simp)).below hb1
  obtain ⟨cF_1, fF_1, zF_1⟩ := xF_1.out
  obtain ⟨cR1_1, fR1_1, zR1_1⟩ := xR1_1.out
  obtain ⟨cR2_1, fR2_1, zR2_1⟩ := xR2_1.out
  go_wp2_with fail
  go_loopg [9, 10, 11, 12] (2 * m - 2).toNat (fun k s9 s10 s11 s12 wr => ∃ a b c d, Hid (SP N D m a b c d) ∧ ((k : Int) = 2 * m - b - d) ∧ Bx wr (w.heap.size) #[.int .i64 (N), .int .i64 (D)] ∧ Bx wr (w.heap.size + 1) #[.int .i64 (0), .int .i64 (0)] ∧ Bx wr (w.heap.size + 1 + 1) #[.int .i64 (0), .int .i64 (0)] ∧ Bx wr (w1.heap.size) #[.int .i64 (a), .int .i64 (b)] ∧ Bx wr (w1.heap.size + 1) #[.int .i64 (c), .int .i64 (d)] ∧ Bl w wr)
  case atStart =>
    refine ⟨N / D, 1, N / D + 1, 1, S0, q0, ((xF_1.alloc _).alloc _), ((xR1_1.alloc _).alloc _), ((xR2_1.alloc _).alloc _), ((Bx.new (b := w1.heap.size) _ #[.int .i64 (N / D), .int .i64 (1)] 44 (by first | rfl | simp)).alloc _), (Bx.new (b := w1.heap.size + 1) _ #[.int .i64 (N / D + 1), .int .i64 (1)] 44 (by first | rfl | simp)), (bl_alloc (bl_alloc B1 _) _)⟩
  clear hb1 cF_1 fF_1 cR1_1 fR1_1 cR2_1 fR2_1 xF_1 xR1_1 xR2_1 W0 q0
  case round =>
    rcases hrel with ⟨a, b, c, d, S, hk, xF, xR1, xR2, xL, xH, Br⟩
    obtain ⟨cF, fF, zF⟩ := xF.out
    obtain ⟨cR1, fR1, zR1⟩ := xR1.out
    obtain ⟨cR2, fR2, zR2⟩ := xR2.out
    obtain ⟨cL, fL, zL⟩ := xL.out
    obtain ⟨cH, fH, zH⟩ := xH.out
    obtain ⟨P, hP⟩ : ∃ P, P = N * b - a * D := ⟨_, rfl⟩
    obtain ⟨Q, hQ⟩ : ∃ Q, Q = c * D - N * d := ⟨_, rfl⟩
    obtain ⟨b1, b2, b3, b4, b5, b6⟩ := SP.bds hN hD hm S.out
    have p1 := S.out.lo; have p2 := S.out.lo'; have p3 := S.out.hi; have p4 := S.out.hi'
    have p5 := S.out.hb; have p6 := S.out.hd; have p7 := S.out.bm; have p8 := S.out.dm
    rw [← hP] at p1 p2
    rw [← hQ] at p3 p4
    have E1 : offF N D a b = P := by rw [offF, ab_pos (by omega)]; exact hP.symm
    have E2 : offF N D c d = Q := by rw [offF, ab_neg (by omega)]; omega
    have z1 : (Q == 0) = false := by simp; omega
    have z2 : (d == 0) = false := by simp; omega
    obtain ⟨q1, hq1⟩ : ∃ q, q = P.tdiv Q := ⟨_, rfl⟩
    obtain ⟨q2, hq2⟩ : ∃ q, q = (m - b).tdiv d := ⟨_, rfl⟩
    have t1 := tdiv_le (P := P) (Q := Q) (by omega) (by omega)
    have t2 := tdiv_le (P := m - b) (Q := d) (by omega) (by omega)
    rw [← hq1] at t1
    rw [← hq2] at t2
    have W1 : IntKind.i64.wrap (P.tdiv Q) = q1 := by rw [← hq1]; exact IntWalk.i64_in _ (by omega)
    have W2 : IntKind.i64.wrap (m - b) = m - b := IntWalk.i64_in _ (by omega)
    have W3 : IntKind.i64.wrap ((m - b).tdiv d) = q2 := by rw [← hq2]; exact IntWalk.i64_in _ (by omega)
    have HA := Lib.hid (And.intro hP (And.intro hQ (And.intro hq1 hq2)))
    clear hP hQ hq1 hq2
    go_wp2_with fail
    go_region_held3 (fun w' => w'.cell? ⟨w.heap.size, 0, none⟩ = some (.int .i64 (N)) ∧ w'.cell? ⟨w.heap.size, 1, none⟩ = some (.int .i64 (D)) ∧ w'.cell? ⟨w1.heap.size, 0, none⟩ = some (.int .i64 (a)) ∧ w'.cell? ⟨w1.heap.size, 1, none⟩ = some (.int .i64 (b)) ∧ w'.cell? ⟨w1.heap.size + 1, 0, none⟩ = some (.int .i64 (c)) ∧ w'.cell? ⟨w1.heap.size + 1, 1, none⟩ = some (.int .i64 (d))) (first | (simp [*]; done) | (go_simp; done) | go_keep)
      (first | (go_at_call_of 127 (Value.agg #[Value.int IntKind.i64 a, Value.int IntKind.i64 b]); go_must (refine (ioffE E1 _ (by omega) (by omega) (by omega) (by omega)).mono ?_; rintro e wr1 ⟨rfl, hbr1⟩; have Br1 : Bl w wr1 := bl_call (bl_drew Br) hbr1; have xF_r1 : Bx wr1 (w.heap.size) #[.int .i64 (N), .int .i64 (D)] := xF.drew.below hbr1; have xR1_r1 : Bx wr1 (w.heap.size + 1) #[.int .i64 (0), .int .i64 (0)] := xR1.drew.below hbr1; have xR2_r1 : Bx wr1 (w.heap.size + 1 + 1) #[.int .i64 (0), .int .i64 (0)] := xR2.drew.below hbr1; have xL_r1 : Bx wr1 (w1.heap.size) #[.int .i64 (a), .int .i64 (b)] := xL.drew.below hbr1; have xH_r1 : Bx wr1 (w1.heap.size + 1) #[.int .i64 (c), .int .i64 (d)] := xH.drew.below hbr1; clear cF fF zF cR1 fR1 zR1 cR2 fR2 zR2 cL fL zL cH fH zH; obtain ⟨cF_r1, fF_r1, zF_r1⟩ := xF_r1.out; obtain ⟨cR1_r1, fR1_r1, zR1_r1⟩ := xR1_r1.out; obtain ⟨cR2_r1, fR2_r1, zR2_r1⟩ := xR2_r1.out; obtain ⟨cL_r1, fL_r1, zL_r1⟩ := xL_r1.out; obtain ⟨cH_r1, fH_r1, zH_r1⟩ := xH_r1.out)) | (go_at_call_of 127 (Value.agg #[Value.int IntKind.i64 c, Value.int IntKind.i64 d]); go_must (refine (ioffE E2 _ (by omega) (by omega) (by omega) (by omega)).mono ?_; rintro e wr2 ⟨rfl, hbr2⟩; have Br2 : Bl w wr2 := bl_call Br1 hbr2; have xF_r2 : Bx wr2 (w.heap.size) #[.int .i64 (N), .int .i64 (D)] := xF_r1.below hbr2; have xR1_r2 : Bx wr2 (w.heap.size + 1) #[.int .i64 (0), .int .i64 (0)] := xR1_r1.below hbr2; have xR2_r2 : Bx wr2 (w.heap.size + 1 + 1) #[.int .i64 (0), .int .i64 (0)] := xR2_r1.below hbr2; have xL_r2 : Bx wr2 (w1.heap.size) #[.int .i64 (a), .int .i64 (b)] := xL_r1.below hbr2; have xH_r2 : Bx wr2 (w1.heap.size + 1) #[.int .i64 (c), .int .i64 (d)] := xH_r1.below hbr2; clear cF_r1 fF_r1 zF_r1 cR1_r1 fR1_r1 zR1_r1 cR2_r1 fR2_r1 zR2_r1 cL_r1 fL_r1 zL_r1 cH_r1 fH_r1 zH_r1; obtain ⟨cF_r2, fF_r2, zF_r2⟩ := xF_r2.out; obtain ⟨cR1_r2, fR1_r2, zR1_r2⟩ := xR1_r2.out; obtain ⟨cR2_r2, fR2_r2, zR2_r2⟩ := xR2_r2.out; obtain ⟨cL_r2, fL_r2, zL_r2⟩ := xL_r2.out; obtain ⟨cH_r2, fH_r2, zH_r2⟩ := xH_r2.out)))
    go_wp2_with fail
    go_cut [9, 10, 11] (fun s9 s10 s11 wx => ∃ K, s11 = .int .i64 K ∧ s9 = .int .i64 P ∧ s10 = .int .i64 Q ∧ Hid (K = min q1 q2) ∧ Bl wr2 wx)
    case first =>
      go_region
      all_goals (go_wp2_with fail; all_goals go_meet; all_goals refine ⟨_, rfl, rfl, rfl, Lib.hid (by omega), bl_drew (bl_refl _)⟩)
    case rest =>
      obtain ⟨K, rfl, rfl, rfl, hK, hj⟩ := hcut
      obtain ⟨wr3, rfl⟩ : ∃ x : World, x = wc := ⟨_, rfl⟩
      have Br3 : Bl w wr3 := bl_call Br2 hj
      have xF_r3 : Bx wr3 (w.heap.size) #[.int .i64 (N), .int .i64 (D)] := xF_r2.below hj
      have xR1_r3 : Bx wr3 (w.heap.size + 1) #[.int .i64 (0), .int .i64 (0)] := xR1_r2.below hj
      have xR2_r3 : Bx wr3 (w.heap.size + 1 + 1) #[.int .i64 (0), .int .i64 (0)] := xR2_r2.below hj
      have xL_r3 : Bx wr3 (w1.heap.size) #[.int .i64 (a), .int .i64 (b)] := xL_r2.below hj
      have xH_r3 : Bx wr3 (w1.heap.size + 1) #[.int .i64 (c), .int .i64 (d)] := xH_r2.below hj
      clear cF_r2 fF_r2 zF_r2 cR1_r2 fR1_r2 zR1_r2 cR2_r2 fR2_r2 zR2_r2 cL_r2 fL_r2 zL_r2 cH_r2 fH_r2 zH_r2
      obtain ⟨cF_r3, fF_r3, zF_r3⟩ := xF_r3.out
      obtain ⟨cR1_r3, fR1_r3, zR1_r3⟩ := xR1_r3.out
      obtain ⟨cR2_r3, fR2_r3, zR2_r3⟩ := xR2_r3.out
      obtain ⟨cL_r3, fL_r3, zL_r3⟩ := xL_r3.out
      obtain ⟨cH_r3, fH_r3, zH_r3⟩ := xH_r3.out
      have st := steps_ok (P := P) (Q := Q) (m := m) (b := b) (d := d) (k := K) (by omega) (by omega) p7 (by omega) (by rw [← HA.out.2.2.1, ← HA.out.2.2.2]; exact hK.out)
      obtain ⟨s1, s2, s3, s4, s5⟩ := st
      have S2 := Lib.hid (SP.stepLow S.out HG.out (show m < D by omega) s1 (by have := HA.out.1; have := HA.out.2.1; rw [← this, ← HA.out.1]; exact s2) s3)
      have S5 := Lib.hid s5
      clear s5
      obtain ⟨b7, b8, b9, b10, b11, b12⟩ := SP.bds hN hD hm S2.out
      have p9 := S2.out.lo
      have p10 : 0 < P - K * Q := by have := HA.out.1; have := HA.out.2.1; have e : N * (b + K * d) - (a + K * c) * D = P - K * Q := (by rw [HA.out.1, HA.out.2.1]; grind); omega
      clear p9
      have n1 := Int.mul_nonneg s1 (show 0 ≤ d by omega)
      have n2 := Int.mul_nonneg s1 (show 0 ≤ Q by omega)
      have z3 : (P - K * Q == 0) = false := by simp; omega
      have z4 : (b + K * d == 0) = false := by simp; omega
      obtain ⟨r1, hr1⟩ : ∃ q, q = Q.tdiv (P - K * Q) := ⟨_, rfl⟩
      obtain ⟨r2, hr2⟩ : ∃ q, q = (m - d).tdiv (b + K * d) := ⟨_, rfl⟩
      have t3 := tdiv_le (P := Q) (Q := P - K * Q) (by omega) (by omega)
      have t4 := tdiv_le (P := m - d) (Q := b + K * d) (by omega) (by omega)
      rw [← hr1] at t3
      rw [← hr2] at t4
      have W4 : IntKind.i64.wrap (Q.tdiv (P - K * Q)) = r1 := by rw [← hr1]; exact IntWalk.i64_in _ (by omega)
      have W5 : IntKind.i64.wrap (m - d) = m - d := IntWalk.i64_in _ (by omega)
      have W6 : IntKind.i64.wrap ((m - d).tdiv (b + K * d)) = r2 := by rw [← hr2]; exact IntWalk.i64_in _ (by omega)
      have n3 : -4000000001000000000 ≤ K * c ∧ K * c ≤ 4000000001000000000 := by omega
      have HB := Lib.hid (And.intro hr1 hr2)
      clear hr1 hr2
      go_wp2_with fail
      go_cut [9, 10, 11, 12] (fun s9 s10 s11 s12 wx => ∃ M, s12 = .int .i64 M ∧ s9 = .int .i64 (P - K * Q) ∧ s10 = .int .i64 Q ∧ s11 = .int .i64 K ∧ Hid (M = min r1 r2) ∧ Bx wx (w.heap.size) #[.int .i64 (N), .int .i64 (D)] ∧ Bx wx (w.heap.size + 1) #[.int .i64 (0), .int .i64 (0)] ∧ Bx wx (w.heap.size + 1 + 1) #[.int .i64 (0), .int .i64 (0)] ∧ Bx wx (w1.heap.size) #[.int .i64 (a + K * c), .int .i64 (b + K * d)] ∧ Bx wx (w1.heap.size + 1) #[.int .i64 (c), .int .i64 (d)] ∧ Bl w wx)
      case first =>
        go_region
        all_goals (go_wp2_with fail; all_goals go_meet; all_goals refine ⟨_, rfl, rfl, rfl, rfl, Lib.hid (by omega), (((xF_r3.far (by first | (simp; done) | (simp; omega)) _).far (by first | (simp; done) | (simp; omega)) _).drew), (((xR1_r3.far (by first | (simp; done) | (simp; omega)) _).far (by first | (simp; done) | (simp; omega)) _).drew), (((xR2_r3.far (by first | (simp; done) | (simp; omega)) _).far (by first | (simp; done) | (simp; omega)) _).drew), (((xL_r3.set 0 (.int .i64 (a + K * c))).set 1 (.int .i64 (b + K * d))).drew), (((xH_r3.far (by first | (simp; done) | (simp; omega)) _).far (by first | (simp; done) | (simp; omega)) _).drew), (bl_drew (bl_set (bl_set Br3 (p := ⟨w1.heap.size, 0, none⟩) (by first | exact Nat.le_refl _ | (simp; done) | (have := Br3.size; simp at this ⊢; omega)) _) (p := ⟨w1.heap.size, 1, none⟩) (by first | exact Nat.le_refl _ | (simp; done) | (have := Br3.size; simp at this ⊢; omega)) _))⟩)
      case rest =>
        obtain ⟨M, rfl, rfl, rfl, rfl, hM, yF, yR1, yR2, yL, yH, Bs⟩ := hcut
        obtain ⟨ws, rfl⟩ : ∃ x : World, x = wc := ⟨_, rfl⟩
        clear cF_r3 fF_r3 zF_r3 cR1_r3 fR1_r3 zR1_r3 cR2_r3 fR2_r3 zR2_r3 cL_r3 fL_r3 zL_r3 cH_r3 fH_r3 zH_r3
        obtain ⟨cF, fF, zF⟩ := yF.out
        obtain ⟨cR1, fR1, zR1⟩ := yR1.out
        obtain ⟨cR2, fR2, zR2⟩ := yR2.out
        obtain ⟨cL, fL, zL⟩ := yL.out
        obtain ⟨cH, fH, zH⟩ := yH.out
        have st2 := steps_ok (P := Q) (Q := P - K * Q) (m := m) (b := d) (d := b + K * d) (k := M) (by omega) (by omega) p8 (by omega) (by rw [← HB.out.1, ← HB.out.2]; exact hM.out)
        obtain ⟨u1, u2, u3, u4, u5⟩ := st2
        have S3 := Lib.hid (SP.stepHigh S2.out HG.out (show m < D by omega) u1 (by have e : N * (b + K * d) - (a + K * c) * D = P - K * Q := (by rw [HA.out.1, HA.out.2.1]; grind); rw [e, ← HA.out.2.1]; exact u2) u3)
        have S6 := Lib.hid u5
        clear u5
        obtain ⟨b13, b14, b15, b16, b17, b18⟩ := SP.bds hN hD hm S3.out
        have n4 := Int.mul_nonneg u1 (show 0 ≤ b + K * d by omega)
        rcases (show K ≠ 0 ∨ (K = 0 ∧ M ≠ 0) ∨ (K = 0 ∧ M = 0) by omega) with hz | hz | hz
        ·
          have k0 : (K == 0) = false := by simpa using hz
          have HM : ((2 * m - (b + K * d) - (d + M * (b + K * d))).toNat : Int) = 2 * m - (b + K * d) - (d + M * (b + K * d)) ∧ (2 * m - (b + K * d) - (d + M * (b + K * d))).toNat < gk := by
            have g1 := le_mul_pos (b := K) (x := d) s1 (by omega)
            have g2 := le_mul_pos (b := M) (x := b + K * d) u1 (by omega)
            omega
          clear hz
          go_wp2_with fail
          go_roundg (2 * m - (b + K * d) - (d + M * (b + K * d))).toNat
          case measure => exact HM.2
          case rel => exact ⟨_, _, _, _, S3, HM.1, ((yF.far (by first | (simp; done) | (simp; omega)) _).far (by first | (simp; done) | (simp; omega)) _), ((yR1.far (by first | (simp; done) | (simp; omega)) _).far (by first | (simp; done) | (simp; omega)) _), ((yR2.far (by first | (simp; done) | (simp; omega)) _).far (by first | (simp; done) | (simp; omega)) _), ((yL.far (by first | (simp; done) | (simp; omega)) _).far (by first | (simp; done) | (simp; omega)) _), ((yH.set 0 (.int .i64 (c + M * (a + K * c)))).set 1 (.int .i64 (d + M * (b + K * d)))), (bl_set (bl_set Bs (p := ⟨w1.heap.size + 1, 0, none⟩) (by first | exact Nat.le_refl _ | (simp; done) | (have := Bs.size; simp at this ⊢; omega)) _) (p := ⟨w1.heap.size + 1, 1, none⟩) (by first | exact Nat.le_refl _ | (simp; done) | (have := Bs.size; simp at this ⊢; omega)) _)⟩
        ·
          have k0 : (K == 0) = true := by simpa using hz.1
          have k1 : (M == 0) = false := by simpa using hz.2
          have HM : ((2 * m - (b + K * d) - (d + M * (b + K * d))).toNat : Int) = 2 * m - (b + K * d) - (d + M * (b + K * d)) ∧ (2 * m - (b + K * d) - (d + M * (b + K * d))).toNat < gk := by
            have g1 := le_mul_pos (b := K) (x := d) s1 (by omega)
            have g2 := le_mul_pos (b := M) (x := b + K * d) u1 (by omega)
            omega
          clear hz
          go_wp2_with fail
          go_roundg (2 * m - (b + K * d) - (d + M * (b + K * d))).toNat
          case measure => exact HM.2
          case rel => exact ⟨_, _, _, _, S3, HM.1, ((yF.far (by first | (simp; done) | (simp; omega)) _).far (by first | (simp; done) | (simp; omega)) _), ((yR1.far (by first | (simp; done) | (simp; omega)) _).far (by first | (simp; done) | (simp; omega)) _), ((yR2.far (by first | (simp; done) | (simp; omega)) _).far (by first | (simp; done) | (simp; omega)) _), ((yL.far (by first | (simp; done) | (simp; omega)) _).far (by first | (simp; done) | (simp; omega)) _), ((yH.set 0 (.int .i64 (c + M * (a + K * c)))).set 1 (.int .i64 (d + M * (b + K * d)))), (bl_set (bl_set Bs (p := ⟨w1.heap.size + 1, 0, none⟩) (by first | exact Nat.le_refl _ | (simp; done) | (have := Bs.size; simp at this ⊢; omega)) _) (p := ⟨w1.heap.size + 1, 1, none⟩) (by first | exact Nat.le_refl _ | (simp; done) | (have := Bs.size; simp at this ⊢; omega)) _)⟩
        ·
          have k0 : (K == 0) = true := by simpa using hz.1
          have k1 : (M == 0) = true := by simpa using hz.2
          have HL := Lib.hid (show m < b + K * d + (d + M * (b + K * d)) from by have e1 := S5.out hz.1; have e2 := S6.out hz.2; rw [hz.1] at e2 ⊢; rw [hz.2]; omega)
          clear hz
          go_wp2_with fail
          go_region
          all_goals go_wp2
          all_goals refine bodyPost_ret (v := .tuple #[.agg #[.int .i64 (a + K * c), .int .i64 (b + K * d)], .agg #[.int .i64 (c + M * (a + K * c)), .int .i64 (d + M * (b + K * d))]]) (by simp only [results, Try.results105]; go_simp) rfl ?_
          all_goals refine ⟨ret_ff (HR.out _ _ _ _ S3.out HL.out), ?_⟩
          all_goals repeat first | (with_reducible exact Bs) | (with_reducible refine bl_drew ?_) | (with_reducible refine bl_set ?_ (by first | exact Nat.le_refl _ | (simp; done) | (have := B1.size; simp at this ⊢; omega)) _)

end Go.Proofs.Ytgkelemfbmmgnaa

/- The lesser of two numbers. No condition. -/
namespace Go.Proofs.Ytgkelemfbmmgnaa
open Go.RowKit
set_option linter.unusedVariables false
set_option linter.unusedSimpArgs false

end Go.Proofs.Ytgkelemfbmmgnaa

