/- BoundsOfTerms: the program and the reference give the same. Each theorem names its conditions. -/
import Derived.Test.YteejfiflidfciaaBnd
namespace Go.Proofs.Yteejfiflidfciaa
open Go.RowKit
set_option linter.unusedVariables false
set_option linter.unusedSimpArgs false

noncomputable def bndTF (xs : List Int) : (Int × Int) × (Int × Int) × Int := if termsP xs then ((bndF xs).1.1, (bndF xs).1.2, (bndF xs).2) else ((0, 0), (0, 0), 1)
theorem ret_ff3 {r : (Int × Int) × (Int × Int) × Int} {x y u v c : Int} (h : r = ((x, y), (u, v), c)) : Ending.returned (.tuple #[.agg #[.int .i64 x, .int .i64 y], .agg #[.int .i64 u, .int .i64 v], .int .i64 c]) = .returned (.tuple #[.agg #[.int .i64 r.1.1, .int .i64 r.1.2], .agg #[.int .i64 r.2.1.1, .int .i64 r.2.1.2], .int .i64 r.2.2]) := by subst h; rfl
theorem bndF_code (xs : List Int) : (bndF xs).2 = 0 ∨ bndF xs = (((0, 0), (0, 0)), 5) := by
  unfold bndF
  split
  · exact .inl rfl
  · exact .inr rfl

set_option maxRecDepth 100000 in
set_option maxHeartbeats 3200000 in
theorem impl_BoundsOfTerms (va : Value) (xs : List Int) (w : World) (ha : Sl w va xs) (hl : xs.length ≤ 1048576) :
    Calls Try.prog 40 #[va] w fun e w' => e = .returned (.tuple #[.agg #[.int .i64 (bndTF xs).1.1, .int .i64 (bndTF xs).1.2], .agg #[.int .i64 (bndTF xs).2.1.1, .int .i64 (bndTF xs).2.1.2], .int .i64 (bndTF xs).2.2]) ∧ Bl w w' := by
  cases e1 : termsP xs with
  | false =>
    have HR := Lib.hid (show bndTF xs = ((0, 0), (0, 0), 1) by simp [bndTF, e1])
    have E1 := Lib.hid e1
    clear e1
    go_enter Try.func40, Try.ntmps40
    go_wp2_with fail
    refine (ivalT_eq E1.out _ (ha.below (bl_alloc (bl_alloc (bl_refl _) _) _)) hl).mono ?_
    rintro e w1 ⟨rfl, hb1⟩
    have B1 : Bl w w1 := bl_call (bl_alloc (bl_alloc (bl_refl _) _) _) hb1
    have xA_1 : Bx w1 (w.heap.size) #[.int .i64 (0), .int .i64 (0)] := ((Bx.new (b := w.heap.size) _ #[.int .i64 (0), .int .i64 (0)] 24 (by first | rfl | simp)).alloc _).below hb1
    have xB_1 : Bx w1 (w.heap.size + 1) #[.int .i64 (0), .int .i64 (0)] := (Bx.new (b := w.heap.size + 1) _ #[.int .i64 (0), .int .i64 (0)] 24 (by first | rfl | simp)).below hb1
    obtain ⟨cA_1, fA_1, zA_1⟩ := xA_1.out
    obtain ⟨cB_1, fB_1, zB_1⟩ := xB_1.out
    go_wp2
    refine bodyPost_ret (v := .tuple #[.agg #[.int .i64 0, .int .i64 0], .agg #[.int .i64 0, .int .i64 0], .int .i64 1]) (by simp only [results, Try.results40]; go_simp) rfl ?_
    refine ⟨ret_ff3 (by rw [HR.out]), ?_⟩
    repeat first | (with_reducible exact B1) | (with_reducible refine bl_alloc ?_ _) | (with_reducible refine bl_drew ?_) | (with_reducible refine bl_set ?_ (by first | exact Nat.le_refl _ | (simp; done) | (simp; omega)) _)
  | true =>
    have HR := Lib.hid (show bndTF xs = ((bndF xs).1.1, (bndF xs).1.2, (bndF xs).2) by simp [bndTF, e1])
    have E1 := Lib.hid e1
    clear e1
    go_enter Try.func40, Try.ntmps40
    go_wp2_with fail
    refine (ivalT_eq E1.out _ (ha.below (bl_alloc (bl_alloc (bl_refl _) _) _)) hl).mono ?_
    rintro e w1 ⟨rfl, hb1⟩
    have B1 : Bl w w1 := bl_call (bl_alloc (bl_alloc (bl_refl _) _) _) hb1
    have xA_1 : Bx w1 (w.heap.size) #[.int .i64 (0), .int .i64 (0)] := ((Bx.new (b := w.heap.size) _ #[.int .i64 (0), .int .i64 (0)] 24 (by first | rfl | simp)).alloc _).below hb1
    have xB_1 : Bx w1 (w.heap.size + 1) #[.int .i64 (0), .int .i64 (0)] := (Bx.new (b := w.heap.size + 1) _ #[.int .i64 (0), .int .i64 (0)] 24 (by first | rfl | simp)).below hb1
    obtain ⟨cA_1, fA_1, zA_1⟩ := xA_1.out
    obtain ⟨cB_1, fB_1, zB_1⟩ := xB_1.out
    go_wp2_with fail
    refine (boundsI_any va xs _ (ha.below B1) E1.out).mono ?_
    rintro e w2 ⟨rfl, hb2⟩
    have B2 : Bl w w2 := bl_call B1 hb2
    have xA_2 : Bx w2 (w.heap.size) #[.int .i64 (0), .int .i64 (0)] := xA_1.below hb2
    have xB_2 : Bx w2 (w.heap.size + 1) #[.int .i64 (0), .int .i64 (0)] := xB_1.below hb2
    clear cA_1 fA_1 zA_1 cB_1 fB_1 zB_1
    obtain ⟨cA_2, fA_2, zA_2⟩ := xA_2.out
    obtain ⟨cB_2, fB_2, zB_2⟩ := xB_2.out
    generalize hb : bndF xs = bv at *
    obtain ⟨⟨⟨a, b⟩, ⟨c, d⟩⟩, k⟩ := bv
    clear hb
    go_wp2
    refine bodyPost_ret (v := .tuple #[.agg #[.int .i64 a, .int .i64 b], .agg #[.int .i64 c, .int .i64 d], .int .i64 k]) (by simp only [results, Try.results40]; go_simp) rfl ?_
    refine ⟨ret_ff3 (by rw [HR.out]), ?_⟩
    repeat first | (with_reducible exact B2) | (with_reducible refine bl_alloc ?_ _) | (with_reducible refine bl_drew ?_) | (with_reducible refine bl_set ?_ (by first | exact Nat.le_refl _ | (simp; done) | (simp; omega)) _)

set_option maxRecDepth 100000 in
set_option maxHeartbeats 3200000 in
theorem spec_BoundsOfTerms (va : Value) (xs : List Int) (w : World) (ha : Sl w va xs) (hl : xs.length ≤ 1048576) :
    Calls Try.prog 38 #[va] w fun e w' => e = .returned (.tuple #[.agg #[.int .i64 (bndTF xs).1.1, .int .i64 (bndTF xs).1.2], .agg #[.int .i64 (bndTF xs).2.1.1, .int .i64 (bndTF xs).2.1.2], .int .i64 (bndTF xs).2.2]) ∧ Bl w w' := by
  cases e1 : termsP xs with
  | false =>
    have HR := Lib.hid (show bndTF xs = ((0, 0), (0, 0), 1) by simp [bndTF, e1])
    have E1 := Lib.hid e1
    clear e1
    go_enter Try.func38, Try.ntmps38
    go_wp2_with fail
    refine (svalT_eq E1.out _ (ha.below (bl_alloc (bl_alloc (bl_refl _) _) _)) hl).mono ?_
    rintro e w1 ⟨rfl, hb1⟩
    have B1 : Bl w w1 := bl_call (bl_alloc (bl_alloc (bl_refl _) _) _) hb1
    have xA_1 : Bx w1 (w.heap.size) #[.int .i64 (0), .int .i64 (0)] := ((Bx.new (b := w.heap.size) _ #[.int .i64 (0), .int .i64 (0)] 24 (by first | rfl | simp)).alloc _).below hb1
    have xB_1 : Bx w1 (w.heap.size + 1) #[.int .i64 (0), .int .i64 (0)] := (Bx.new (b := w.heap.size + 1) _ #[.int .i64 (0), .int .i64 (0)] 24 (by first | rfl | simp)).below hb1
    obtain ⟨cA_1, fA_1, zA_1⟩ := xA_1.out
    obtain ⟨cB_1, fB_1, zB_1⟩ := xB_1.out
    go_wp2
    refine bodyPost_ret (v := .tuple #[.agg #[.int .i64 0, .int .i64 0], .agg #[.int .i64 0, .int .i64 0], .int .i64 1]) (by simp only [results, Try.results38]; go_simp) rfl ?_
    refine ⟨ret_ff3 (by rw [HR.out]), ?_⟩
    repeat first | (with_reducible exact B1) | (with_reducible refine bl_alloc ?_ _) | (with_reducible refine bl_drew ?_) | (with_reducible refine bl_set ?_ (by first | exact Nat.le_refl _ | (simp; done) | (simp; omega)) _)
  | true =>
    have HR := Lib.hid (show bndTF xs = ((bndF xs).1.1, (bndF xs).1.2, (bndF xs).2) by simp [bndTF, e1])
    have E1 := Lib.hid e1
    clear e1
    go_enter Try.func38, Try.ntmps38
    go_wp2_with fail
    refine (svalT_eq E1.out _ (ha.below (bl_alloc (bl_alloc (bl_refl _) _) _)) hl).mono ?_
    rintro e w1 ⟨rfl, hb1⟩
    have B1 : Bl w w1 := bl_call (bl_alloc (bl_alloc (bl_refl _) _) _) hb1
    have xA_1 : Bx w1 (w.heap.size) #[.int .i64 (0), .int .i64 (0)] := ((Bx.new (b := w.heap.size) _ #[.int .i64 (0), .int .i64 (0)] 24 (by first | rfl | simp)).alloc _).below hb1
    have xB_1 : Bx w1 (w.heap.size + 1) #[.int .i64 (0), .int .i64 (0)] := (Bx.new (b := w.heap.size + 1) _ #[.int .i64 (0), .int .i64 (0)] 24 (by first | rfl | simp)).below hb1
    obtain ⟨cA_1, fA_1, zA_1⟩ := xA_1.out
    obtain ⟨cB_1, fB_1, zB_1⟩ := xB_1.out
    go_wp2_with fail
    refine (boundsS_any va xs _ (ha.below B1) E1.out).mono ?_
    rintro e w2 ⟨rfl, hb2⟩
    have B2 : Bl w w2 := bl_call B1 hb2
    have xA_2 : Bx w2 (w.heap.size) #[.int .i64 (0), .int .i64 (0)] := xA_1.below hb2
    have xB_2 : Bx w2 (w.heap.size + 1) #[.int .i64 (0), .int .i64 (0)] := xB_1.below hb2
    clear cA_1 fA_1 zA_1 cB_1 fB_1 zB_1
    obtain ⟨cA_2, fA_2, zA_2⟩ := xA_2.out
    obtain ⟨cB_2, fB_2, zB_2⟩ := xB_2.out
    have HC := bndF_code xs
    generalize hb : bndF xs = bv at *
    obtain ⟨⟨⟨a, b⟩, ⟨c, d⟩⟩, k⟩ := bv
    clear hb
    simp only [] at HC
    by_cases hk : k = 0
    ·
      subst hk
      clear HC
      rw [show decide ((0 : Int) = 0) = true from rfl]
      go_wp2_with fail
      have y1 := xB_2.out.2.2
      have n1 : w.heap.size ≠ w2.heap.size ∧ w2.heap.size ≠ w.heap.size ∧ w.heap.size + 1 ≠ w2.heap.size ∧ w2.heap.size ≠ w.heap.size + 1 := by omega
      have n2 : w.heap.size ≠ w2.heap.size + 1 ∧ w2.heap.size + 1 ≠ w.heap.size ∧ w.heap.size + 1 ≠ w2.heap.size + 1 ∧ w2.heap.size + 1 ≠ w.heap.size + 1 := by omega
      obtain ⟨n11, n12, n13, n14⟩ := n1
      obtain ⟨n21, n22, n23, n24⟩ := n2
      go_region
      all_goals go_wp2
      all_goals refine bodyPost_ret (v := .tuple #[.agg #[.int .i64 a, .int .i64 b], .agg #[.int .i64 c, .int .i64 d], .int .i64 0]) (by simp only [results, Try.results38]; go_simp) rfl ?_
      all_goals refine ⟨ret_ff3 (by rw [HR.out]), ?_⟩
      all_goals repeat first | (with_reducible exact B2) | (with_reducible refine bl_alloc ?_ _) | (with_reducible refine bl_drew ?_) | (with_reducible refine bl_set ?_ (by first | exact Nat.le_refl _ | (simp; done) | (simp; omega)) _)
    ·
      have h5 : (((a, b), (c, d)), k) = (((0, 0), (0, 0)), (5 : Int)) := HC.resolve_left hk
      simp only [Prod.mk.injEq] at h5
      obtain ⟨⟨⟨rfl, rfl⟩, ⟨rfl, rfl⟩⟩, rfl⟩ := h5
      clear HC hk
      rw [show decide ((5 : Int) = 0) = false from rfl]
      go_wp2
      refine bodyPost_ret (v := .tuple #[.agg #[.int .i64 0, .int .i64 0], .agg #[.int .i64 0, .int .i64 0], .int .i64 5]) (by simp only [results, Try.results38]; go_simp) rfl ?_
      refine ⟨ret_ff3 (by rw [HR.out]), ?_⟩
      repeat first | (with_reducible exact B2) | (with_reducible refine bl_alloc ?_ _) | (with_reducible refine bl_drew ?_) | (with_reducible refine bl_set ?_ (by first | exact Nat.le_refl _ | (simp; done) | (simp; omega)) _)

end Go.Proofs.Yteejfiflidfciaa
