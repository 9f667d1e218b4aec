/- The comparison of two errors. Each theorem names its conditions. -/
import Derived.Test.YtgmofofokhlhnaaOff
namespace Go.Proofs.Ytgmofofokhlhnaa
open Go.RowKit
set_option linter.unusedVariables false
set_option linter.unusedSimpArgs false

/-- The comparison of the errors of a / b and p / q for n / d. -/
def cmpErrF (n d a b p q : Int) : Int := cmpF (offF n d a b * q) (offF n d p q * b)
/-- Numbers so small that no product on the way is too great. -/
structure SmallP (n d a b p q : Int) : Prop where
  n1 : -2000000 ≤ n
  n2 : n ≤ 2000000
  d1 : 0 ≤ d
  d2 : d ≤ 1000000
  a1 : -2000000 ≤ a
  a2 : a ≤ 2000000
  b1 : 0 ≤ b
  b2 : b ≤ 1000000
  p1 : -2000000 ≤ p
  p2 : p ≤ 2000000
  q1 : 0 ≤ q
  q2 : q ≤ 1000000
theorem mul_bd {x y X Y : Int} (h1 : -X ≤ x) (h2 : x ≤ X) (h3 : 0 ≤ y) (h4 : y ≤ Y) : -(X * Y) ≤ x * y ∧ x * y ≤ X * Y := by
  have hX : 0 ≤ X := by omega
  have e1 := Int.mul_le_mul_of_nonneg_right h2 h3
  have e2 := Int.mul_le_mul_of_nonneg_right h1 h3
  have e3 := Int.mul_le_mul_of_nonneg_left h4 hX
  have e4 : -X * y = -(X * y) := Int.neg_mul _ _
  omega
theorem SmallP.prods {n d a b p q : Int} (h : SmallP n d a b p q) : (-2000000000000 ≤ n * b ∧ n * b ≤ 2000000000000) ∧ (-2000000000000 ≤ a * d ∧ a * d ≤ 2000000000000) ∧ (-2000000000000 ≤ n * q ∧ n * q ≤ 2000000000000) ∧ (-2000000000000 ≤ p * d ∧ p * d ≤ 2000000000000) ∧ True ∧ True ∧ True ∧ True :=
  ⟨mul_bd h.n1 h.n2 h.b1 h.b2, mul_bd h.a1 h.a2 h.d1 h.d2, mul_bd h.n1 h.n2 h.q1 h.q2, mul_bd h.p1 h.p2 h.d1 h.d2, trivial, trivial, trivial, trivial⟩
theorem SmallP.outs {n d a b p q : Int} (h : SmallP n d a b p q) : 0 ≤ offF n d a b * q ∧ offF n d a b * q ≤ 4000000000000000000 ∧ 0 ≤ offF n d p q * b ∧ offF n d p q * b ≤ 4000000000000000000 := by
  obtain ⟨u1, u2, u3, u4, _⟩ := h.prods
  have o1 : offF n d a b ≤ 4000000000000 := ab_le (by omega)
  have o2 : offF n d p q ≤ 4000000000000 := ab_le (by omega)
  have m1 := mul_bd (X := 4000000000000) (by have := offF_nonneg n d a b; omega) o1 h.q1 h.q2
  have m2 := mul_bd (X := 4000000000000) (by have := offF_nonneg n d p q; omega) o2 h.b1 h.b2
  exact ⟨Int.mul_nonneg (offF_nonneg _ _ _ _) h.q1, by omega, Int.mul_nonneg (offF_nonneg _ _ _ _) h.b1, by omega⟩
theorem cmpB_any (a b : Int) (w : World) : Calls Try.prog 138 #[.int .i64 a, .int .i64 b] w fun e w' => e = .returned (.int .i64 (cmpF a b)) ∧ Bl w w' :=
  (cmp_any a b w).mono fun _ _ h => ⟨h.1, by rw [← h.2]; exact bl_refl w⟩

set_option maxRecDepth 100000 in
set_option maxHeartbeats 1600000 in
theorem scmpErr_any (n d a b p q : Int) (w : World) (ok : SmallP n d a b p q) :
    Calls Try.prog 120 #[.agg #[.int .i64 n, .int .i64 d], .agg #[.int .i64 a, .int .i64 b], .agg #[.int .i64 p, .int .i64 q]] w fun r w' => r = .returned (.int .i64 (cmpErrF n d a b p q)) ∧ Bl w w' := by
  obtain ⟨u1, u2, u3, u4, v1, v2, v3, v4⟩ := ok.prods
  obtain ⟨t1, t2, t3, t4⟩ := ok.outs
  have W1 : IntKind.i64.wrap (offF n d a b * q) = offF n d a b * q := IntWalk.i64_in _ (by omega)
  have W2 : IntKind.i64.wrap (offF n d p q * b) = offF n d p q * b := IntWalk.i64_in _ (by omega)
  by_cases e1 : offF n d a b * q < offF n d p q * b
  · have HR := Lib.hid (show (-1 : Int) = cmpErrF n d a b p q by rw [cmpErrF, cmpF, if_pos e1])
    go_enter Try.func120, Try.ntmps120
    go_wp2_with fail
    have B1 : Bl w (((w.alloc (.cells #[.int .i64 n, .int .i64 d] 55)).alloc (.cells #[.int .i64 a, .int .i64 b] 55)).alloc (.cells #[.int .i64 p, .int .i64 q] 55)) := (bl_alloc (bl_alloc (bl_alloc (bl_refl _) _) _) _)
    have xF_1 : Bx (((w.alloc (.cells #[.int .i64 n, .int .i64 d] 55)).alloc (.cells #[.int .i64 a, .int .i64 b] 55)).alloc (.cells #[.int .i64 p, .int .i64 q] 55)) (w.heap.size) #[.int .i64 n, .int .i64 d] := (((Bx.new (b := w.heap.size) _ #[.int .i64 n, .int .i64 d] 55 (by first | rfl | simp)).alloc _).alloc _)
    have xA_1 : Bx (((w.alloc (.cells #[.int .i64 n, .int .i64 d] 55)).alloc (.cells #[.int .i64 a, .int .i64 b] 55)).alloc (.cells #[.int .i64 p, .int .i64 q] 55)) (w.heap.size + 1) #[.int .i64 a, .int .i64 b] := ((Bx.new (b := w.heap.size + 1) _ #[.int .i64 a, .int .i64 b] 55 (by first | rfl | simp)).alloc _)
    have xB_1 : Bx (((w.alloc (.cells #[.int .i64 n, .int .i64 d] 55)).alloc (.cells #[.int .i64 a, .int .i64 b] 55)).alloc (.cells #[.int .i64 p, .int .i64 q] 55)) (w.heap.size + 1 + 1) #[.int .i64 p, .int .i64 q] := (Bx.new (b := w.heap.size + 1 + 1) _ #[.int .i64 p, .int .i64 q] 55 (by first | rfl | simp))
    have zz1 : w.heap.size + 3 ≤ (((w.alloc (.cells #[.int .i64 n, .int .i64 d] 55)).alloc (.cells #[.int .i64 a, .int .i64 b] 55)).alloc (.cells #[.int .i64 p, .int .i64 q] 55)).heap.size := (by simp)
    generalize (((w.alloc (.cells #[.int .i64 n, .int .i64 d] 55)).alloc (.cells #[.int .i64 a, .int .i64 b] 55)).alloc (.cells #[.int .i64 p, .int .i64 q] 55)) = w1 at *
    obtain ⟨cF_1, fF_1, zF_1⟩ := xF_1.out
    obtain ⟨cA_1, fA_1, zA_1⟩ := xA_1.out
    obtain ⟨cB_1, fB_1, zB_1⟩ := xB_1.out
    go_region_held3 (fun w' => w'.cell? ⟨w.heap.size, 0, none⟩ = some (.int .i64 n) ∧ w'.cell? ⟨w.heap.size, 1, none⟩ = some (.int .i64 d) ∧ w'.cell? ⟨w.heap.size + 1, 0, none⟩ = some (.int .i64 a) ∧ w'.cell? ⟨w.heap.size + 1, 1, none⟩ = some (.int .i64 b) ∧ w'.cell? ⟨w.heap.size + 1 + 1, 0, none⟩ = some (.int .i64 p) ∧ w'.cell? ⟨w.heap.size + 1 + 1, 1, none⟩ = some (.int .i64 q)) (first | (simp [*]; done) | go_keep)
      (first | (go_at_call_of 157 (Value.agg #[Value.int IntKind.i64 a, Value.int IntKind.i64 b]); go_must (refine (soff_any n d a b _ (by omega) (by omega) (by omega) (by omega)).mono ?_; rintro e w2 ⟨rfl, hb2⟩; have B2 : Bl w w2 := bl_call (bl_drew B1) hb2; have xF_2 : Bx w2 (w.heap.size) #[.int .i64 n, .int .i64 d] := xF_1.drew.below hb2; have xA_2 : Bx w2 (w.heap.size + 1) #[.int .i64 a, .int .i64 b] := xA_1.drew.below hb2; have xB_2 : Bx w2 (w.heap.size + 1 + 1) #[.int .i64 p, .int .i64 q] := xB_1.drew.below hb2; clear cF_1 fF_1 zF_1 cA_1 fA_1 zA_1 cB_1 fB_1 zB_1; obtain ⟨cF_2, fF_2, zF_2⟩ := xF_2.out; obtain ⟨cA_2, fA_2, zA_2⟩ := xA_2.out; obtain ⟨cB_2, fB_2, zB_2⟩ := xB_2.out)))
    go_wp2
    go_region_held3 (fun w' => w'.cell? ⟨w.heap.size, 0, none⟩ = some (.int .i64 n) ∧ w'.cell? ⟨w.heap.size, 1, none⟩ = some (.int .i64 d) ∧ w'.cell? ⟨w.heap.size + 1, 0, none⟩ = some (.int .i64 a) ∧ w'.cell? ⟨w.heap.size + 1, 1, none⟩ = some (.int .i64 b) ∧ w'.cell? ⟨w.heap.size + 1 + 1, 0, none⟩ = some (.int .i64 p) ∧ w'.cell? ⟨w.heap.size + 1 + 1, 1, none⟩ = some (.int .i64 q)) (first | (simp [*]; done) | go_keep)
      (first | (go_at_call_of 157 (Value.agg #[Value.int IntKind.i64 p, Value.int IntKind.i64 q]); go_must (refine (soff_any n d p q _ (by omega) (by omega) (by omega) (by omega)).mono ?_; rintro e w3 ⟨rfl, hb3⟩; have B3 : Bl w w3 := bl_call (bl_drew B2) hb3; have xF_3 : Bx w3 (w.heap.size) #[.int .i64 n, .int .i64 d] := xF_2.drew.below hb3; have xA_3 : Bx w3 (w.heap.size + 1) #[.int .i64 a, .int .i64 b] := xA_2.drew.below hb3; have xB_3 : Bx w3 (w.heap.size + 1 + 1) #[.int .i64 p, .int .i64 q] := xB_2.drew.below hb3; clear cF_2 fF_2 zF_2 cA_2 fA_2 zA_2 cB_2 fB_2 zB_2; obtain ⟨cF_3, fF_3, zF_3⟩ := xF_3.out; obtain ⟨cA_3, fA_3, zA_3⟩ := xA_3.out; obtain ⟨cB_3, fB_3, zB_3⟩ := xB_3.out)))
    go_wp2
    go_ret
    exact ⟨ret_int HR.out, B3⟩
  · by_cases e2 : offF n d p q * b < offF n d a b * q
    · have HR := Lib.hid (show (1 : Int) = cmpErrF n d a b p q by rw [cmpErrF, cmpF, if_neg e1, if_pos e2])
      go_enter Try.func120, Try.ntmps120
      go_wp2_with fail
      have B1 : Bl w (((w.alloc (.cells #[.int .i64 n, .int .i64 d] 55)).alloc (.cells #[.int .i64 a, .int .i64 b] 55)).alloc (.cells #[.int .i64 p, .int .i64 q] 55)) := (bl_alloc (bl_alloc (bl_alloc (bl_refl _) _) _) _)
      have xF_1 : Bx (((w.alloc (.cells #[.int .i64 n, .int .i64 d] 55)).alloc (.cells #[.int .i64 a, .int .i64 b] 55)).alloc (.cells #[.int .i64 p, .int .i64 q] 55)) (w.heap.size) #[.int .i64 n, .int .i64 d] := (((Bx.new (b := w.heap.size) _ #[.int .i64 n, .int .i64 d] 55 (by first | rfl | simp)).alloc _).alloc _)
      have xA_1 : Bx (((w.alloc (.cells #[.int .i64 n, .int .i64 d] 55)).alloc (.cells #[.int .i64 a, .int .i64 b] 55)).alloc (.cells #[.int .i64 p, .int .i64 q] 55)) (w.heap.size + 1) #[.int .i64 a, .int .i64 b] := ((Bx.new (b := w.heap.size + 1) _ #[.int .i64 a, .int .i64 b] 55 (by first | rfl | simp)).alloc _)
      have xB_1 : Bx (((w.alloc (.cells #[.int .i64 n, .int .i64 d] 55)).alloc (.cells #[.int .i64 a, .int .i64 b] 55)).alloc (.cells #[.int .i64 p, .int .i64 q] 55)) (w.heap.size + 1 + 1) #[.int .i64 p, .int .i64 q] := (Bx.new (b := w.heap.size + 1 + 1) _ #[.int .i64 p, .int .i64 q] 55 (by first | rfl | simp))
      have zz1 : w.heap.size + 3 ≤ (((w.alloc (.cells #[.int .i64 n, .int .i64 d] 55)).alloc (.cells #[.int .i64 a, .int .i64 b] 55)).alloc (.cells #[.int .i64 p, .int .i64 q] 55)).heap.size := (by simp)
      generalize (((w.alloc (.cells #[.int .i64 n, .int .i64 d] 55)).alloc (.cells #[.int .i64 a, .int .i64 b] 55)).alloc (.cells #[.int .i64 p, .int .i64 q] 55)) = w1 at *
      obtain ⟨cF_1, fF_1, zF_1⟩ := xF_1.out
      obtain ⟨cA_1, fA_1, zA_1⟩ := xA_1.out
      obtain ⟨cB_1, fB_1, zB_1⟩ := xB_1.out
      go_region_held3 (fun w' => w'.cell? ⟨w.heap.size, 0, none⟩ = some (.int .i64 n) ∧ w'.cell? ⟨w.heap.size, 1, none⟩ = some (.int .i64 d) ∧ w'.cell? ⟨w.heap.size + 1, 0, none⟩ = some (.int .i64 a) ∧ w'.cell? ⟨w.heap.size + 1, 1, none⟩ = some (.int .i64 b) ∧ w'.cell? ⟨w.heap.size + 1 + 1, 0, none⟩ = some (.int .i64 p) ∧ w'.cell? ⟨w.heap.size + 1 + 1, 1, none⟩ = some (.int .i64 q)) (first | (simp [*]; done) | go_keep)
        (first | (go_at_call_of 157 (Value.agg #[Value.int IntKind.i64 a, Value.int IntKind.i64 b]); go_must (refine (soff_any n d a b _ (by omega) (by omega) (by omega) (by omega)).mono ?_; rintro e w2 ⟨rfl, hb2⟩; have B2 : Bl w w2 := bl_call (bl_drew B1) hb2; have xF_2 : Bx w2 (w.heap.size) #[.int .i64 n, .int .i64 d] := xF_1.drew.below hb2; have xA_2 : Bx w2 (w.heap.size + 1) #[.int .i64 a, .int .i64 b] := xA_1.drew.below hb2; have xB_2 : Bx w2 (w.heap.size + 1 + 1) #[.int .i64 p, .int .i64 q] := xB_1.drew.below hb2; clear cF_1 fF_1 zF_1 cA_1 fA_1 zA_1 cB_1 fB_1 zB_1; obtain ⟨cF_2, fF_2, zF_2⟩ := xF_2.out; obtain ⟨cA_2, fA_2, zA_2⟩ := xA_2.out; obtain ⟨cB_2, fB_2, zB_2⟩ := xB_2.out)))
      go_wp2
      go_region_held3 (fun w' => w'.cell? ⟨w.heap.size, 0, none⟩ = some (.int .i64 n) ∧ w'.cell? ⟨w.heap.size, 1, none⟩ = some (.int .i64 d) ∧ w'.cell? ⟨w.heap.size + 1, 0, none⟩ = some (.int .i64 a) ∧ w'.cell? ⟨w.heap.size + 1, 1, none⟩ = some (.int .i64 b) ∧ w'.cell? ⟨w.heap.size + 1 + 1, 0, none⟩ = some (.int .i64 p) ∧ w'.cell? ⟨w.heap.size + 1 + 1, 1, none⟩ = some (.int .i64 q)) (first | (simp [*]; done) | go_keep)
        (first | (go_at_call_of 157 (Value.agg #[Value.int IntKind.i64 p, Value.int IntKind.i64 q]); go_must (refine (soff_any n d p q _ (by omega) (by omega) (by omega) (by omega)).mono ?_; rintro e w3 ⟨rfl, hb3⟩; have B3 : Bl w w3 := bl_call (bl_drew B2) hb3; have xF_3 : Bx w3 (w.heap.size) #[.int .i64 n, .int .i64 d] := xF_2.drew.below hb3; have xA_3 : Bx w3 (w.heap.size + 1) #[.int .i64 a, .int .i64 b] := xA_2.drew.below hb3; have xB_3 : Bx w3 (w.heap.size + 1 + 1) #[.int .i64 p, .int .i64 q] := xB_2.drew.below hb3; clear cF_2 fF_2 zF_2 cA_2 fA_2 zA_2 cB_2 fB_2 zB_2; obtain ⟨cF_3, fF_3, zF_3⟩ := xF_3.out; obtain ⟨cA_3, fA_3, zA_3⟩ := xA_3.out; obtain ⟨cB_3, fB_3, zB_3⟩ := xB_3.out)))
      go_wp2
      go_ret
      exact ⟨ret_int HR.out, B3⟩
    · have HR := Lib.hid (show (0 : Int) = cmpErrF n d a b p q by rw [cmpErrF, cmpF, if_neg e1, if_neg e2])
      go_enter Try.func120, Try.ntmps120
      go_wp2_with fail
      have B1 : Bl w (((w.alloc (.cells #[.int .i64 n, .int .i64 d] 55)).alloc (.cells #[.int .i64 a, .int .i64 b] 55)).alloc (.cells #[.int .i64 p, .int .i64 q] 55)) := (bl_alloc (bl_alloc (bl_alloc (bl_refl _) _) _) _)
      have xF_1 : Bx (((w.alloc (.cells #[.int .i64 n, .int .i64 d] 55)).alloc (.cells #[.int .i64 a, .int .i64 b] 55)).alloc (.cells #[.int .i64 p, .int .i64 q] 55)) (w.heap.size) #[.int .i64 n, .int .i64 d] := (((Bx.new (b := w.heap.size) _ #[.int .i64 n, .int .i64 d] 55 (by first | rfl | simp)).alloc _).alloc _)
      have xA_1 : Bx (((w.alloc (.cells #[.int .i64 n, .int .i64 d] 55)).alloc (.cells #[.int .i64 a, .int .i64 b] 55)).alloc (.cells #[.int .i64 p, .int .i64 q] 55)) (w.heap.size + 1) #[.int .i64 a, .int .i64 b] := ((Bx.new (b := w.heap.size + 1) _ #[.int .i64 a, .int .i64 b] 55 (by first | rfl | simp)).alloc _)
      have xB_1 : Bx (((w.alloc (.cells #[.int .i64 n, .int .i64 d] 55)).alloc (.cells #[.int .i64 a, .int .i64 b] 55)).alloc (.cells #[.int .i64 p, .int .i64 q] 55)) (w.heap.size + 1 + 1) #[.int .i64 p, .int .i64 q] := (Bx.new (b := w.heap.size + 1 + 1) _ #[.int .i64 p, .int .i64 q] 55 (by first | rfl | simp))
      have zz1 : w.heap.size + 3 ≤ (((w.alloc (.cells #[.int .i64 n, .int .i64 d] 55)).alloc (.cells #[.int .i64 a, .int .i64 b] 55)).alloc (.cells #[.int .i64 p, .int .i64 q] 55)).heap.size := (by simp)
      generalize (((w.alloc (.cells #[.int .i64 n, .int .i64 d] 55)).alloc (.cells #[.int .i64 a, .int .i64 b] 55)).alloc (.cells #[.int .i64 p, .int .i64 q] 55)) = w1 at *
      obtain ⟨cF_1, fF_1, zF_1⟩ := xF_1.out
      obtain ⟨cA_1, fA_1, zA_1⟩ := xA_1.out
      obtain ⟨cB_1, fB_1, zB_1⟩ := xB_1.out
      go_region_held3 (fun w' => w'.cell? ⟨w.heap.size, 0, none⟩ = some (.int .i64 n) ∧ w'.cell? ⟨w.heap.size, 1, none⟩ = some (.int .i64 d) ∧ w'.cell? ⟨w.heap.size + 1, 0, none⟩ = some (.int .i64 a) ∧ w'.cell? ⟨w.heap.size + 1, 1, none⟩ = some (.int .i64 b) ∧ w'.cell? ⟨w.heap.size + 1 + 1, 0, none⟩ = some (.int .i64 p) ∧ w'.cell? ⟨w.heap.size + 1 + 1, 1, none⟩ = some (.int .i64 q)) (first | (simp [*]; done) | go_keep)
        (first | (go_at_call_of 157 (Value.agg #[Value.int IntKind.i64 a, Value.int IntKind.i64 b]); go_must (refine (soff_any n d a b _ (by omega) (by omega) (by omega) (by omega)).mono ?_; rintro e w2 ⟨rfl, hb2⟩; have B2 : Bl w w2 := bl_call (bl_drew B1) hb2; have xF_2 : Bx w2 (w.heap.size) #[.int .i64 n, .int .i64 d] := xF_1.drew.below hb2; have xA_2 : Bx w2 (w.heap.size + 1) #[.int .i64 a, .int .i64 b] := xA_1.drew.below hb2; have xB_2 : Bx w2 (w.heap.size + 1 + 1) #[.int .i64 p, .int .i64 q] := xB_1.drew.below hb2; clear cF_1 fF_1 zF_1 cA_1 fA_1 zA_1 cB_1 fB_1 zB_1; obtain ⟨cF_2, fF_2, zF_2⟩ := xF_2.out; obtain ⟨cA_2, fA_2, zA_2⟩ := xA_2.out; obtain ⟨cB_2, fB_2, zB_2⟩ := xB_2.out)))
      go_wp2
      go_region_held3 (fun w' => w'.cell? ⟨w.heap.size, 0, none⟩ = some (.int .i64 n) ∧ w'.cell? ⟨w.heap.size, 1, none⟩ = some (.int .i64 d) ∧ w'.cell? ⟨w.heap.size + 1, 0, none⟩ = some (.int .i64 a) ∧ w'.cell? ⟨w.heap.size + 1, 1, none⟩ = some (.int .i64 b) ∧ w'.cell? ⟨w.heap.size + 1 + 1, 0, none⟩ = some (.int .i64 p) ∧ w'.cell? ⟨w.heap.size + 1 + 1, 1, none⟩ = some (.int .i64 q)) (first | (simp [*]; done) | go_keep)
        (first | (go_at_call_of 157 (Value.agg #[Value.int IntKind.i64 p, Value.int IntKind.i64 q]); go_must (refine (soff_any n d p q _ (by omega) (by omega) (by omega) (by omega)).mono ?_; rintro e w3 ⟨rfl, hb3⟩; have B3 : Bl w w3 := bl_call (bl_drew B2) hb3; have xF_3 : Bx w3 (w.heap.size) #[.int .i64 n, .int .i64 d] := xF_2.drew.below hb3; have xA_3 : Bx w3 (w.heap.size + 1) #[.int .i64 a, .int .i64 b] := xA_2.drew.below hb3; have xB_3 : Bx w3 (w.heap.size + 1 + 1) #[.int .i64 p, .int .i64 q] := xB_2.drew.below hb3; clear cF_2 fF_2 zF_2 cA_2 fA_2 zA_2 cB_2 fB_2 zB_2; obtain ⟨cF_3, fF_3, zF_3⟩ := xF_3.out; obtain ⟨cA_3, fA_3, zA_3⟩ := xA_3.out; obtain ⟨cB_3, fB_3, zB_3⟩ := xB_3.out)))
      go_wp2
      go_ret
      exact ⟨ret_int HR.out, B3⟩


end Go.Proofs.Ytgmofofokhlhnaa
