/- SureDigits: the program and the reference give the same. Each theorem names its conditions. -/
import Derived.Test.YteejfiflidfciaaBnd
import Derived.Test.YteejfiflidfciaaDigs
import Derived.Test.YteejfiflidfciaaComT
import Derived.Test.YteejfiflidfciaaDig
namespace Go.Proofs.Yteejfiflidfciaa
open Go.RowKit
set_option linter.unusedVariables false
set_option linter.unusedSimpArgs false

theorem bndF_bd {xs : List Int} {a b c d k : Int} (ht : termsP xs = true) (h : bndF xs = (((a, b), (c, d)), k)) (hk : k = 0) : (1 ≤ b ∧ b ≤ 1000000000 ∧ -1000000000 ≤ a ∧ a ≤ 1000000000) ∧ (1 ≤ d ∧ d ≤ 1000000000 ∧ -1000000000 ≤ c ∧ c ≤ 1000000000) := by
  subst hk
  have hn := (termsP_iff.1 ht).1
  cases h1 : convL xs with
  | none => rw [bndF_none1 h1] at h; simp at h
  | some fs =>
    cases h2 : convL (incL xs) with
    | none => rw [bndF_none2 h2] at h; simp at h
    | some gs =>
      by_cases t : xs.getD (xs.length - 1) 0 = 1000000000
      · rw [bndF_top t] at h; simp at h
      · obtain ⟨a1, b1, e1, o1, _⟩ := conv_last h1 hn.1
        obtain ⟨a2, b2, e2, o2, _⟩ := conv_last h2 (by rw [incL_len]; exact hn.1)
        rw [incL_len] at e2
        rw [bndF_some h1 t h2 e1 e2] at h
        have p1 := okF_bd2 o1
        have p2 := okF_bd2 o2
        unfold ordF at h
        split at h
        · simp only [Prod.mk.injEq] at h
          obtain ⟨⟨⟨rfl, rfl⟩, ⟨rfl, rfl⟩⟩, _⟩ := h
          exact ⟨p2, p1⟩
        · simp only [Prod.mk.injEq] at h
          obtain ⟨⟨⟨rfl, rfl⟩, ⟨rfl, rfl⟩⟩, _⟩ := h
          exact ⟨p1, p2⟩
/-- How many digits are sure. -/
noncomputable def sureF (xs : List Int) (b : Int) : Int × Int :=
  if termsP xs then (if inB b 2 36 then (if (bndF xs).2 = 0 then
    (if (bndF xs).1.1.1 / (bndF xs).1.1.2 = (bndF xs).1.2.1 / (bndF xs).1.2.2 then
      (((comL (digsG (bndF xs).1.1.2 b 60 ((bndF xs).1.1.1 - (bndF xs).1.1.1 / (bndF xs).1.1.2 * (bndF xs).1.1.2)) (digsG (bndF xs).1.2.2 b 60 ((bndF xs).1.2.1 - (bndF xs).1.2.1 / (bndF xs).1.2.2 * (bndF xs).1.2.2)) : Nat) : Int), 0)
    else (-1, 0)) else (0, 5)) else (0, 2)) else (0, 1)
theorem sureF_at {xs : List Int} {b A B C D k : Int} (h1 : termsP xs = true) (h2 : inB b 2 36 = true) (h : bndF xs = (((A, B), (C, D)), k)) : sureF xs b = if k = 0 then (if A / B = C / D then (((comL (digsG B b 60 (A - A / B * B)) (digsG D b 60 (C - C / D * D)) : Nat) : Int), 0) else (-1, 0)) else (0, 5) := by
  simp only [sureF, h1, h2, h, if_true]
theorem ret_ii2 {r : Int × Int} {x b : Int} (h : r = (x, b)) : Ending.returned (.tuple #[.int .i64 x, .int .i64 b]) = .returned (.tuple #[.int .i64 r.1, .int .i64 r.2]) := by subst h; rfl
theorem bndF_five {xs : List Int} {A B C D k : Int} (h : bndF xs = (((A, B), (C, D)), k)) : k = 0 ∨ k = 5 := by
  have : (bndF xs).2 = 0 ∨ (bndF xs).2 = 5 := by
    unfold bndF
    split
    · exact .inl rfl
    · exact .inr rfl
  rw [h] at this
  exact this
theorem rest_ok {n d : Int} (hd : 1 ≤ d) : 0 ≤ n - n / d * d ∧ n - n / d * d < d := by
  have h1 := Int.emod_nonneg n (show d ≠ 0 by omega)
  have h2 := Int.emod_lt_of_pos n (show 0 < d by omega)
  have h3 := Int.mul_ediv_add_emod n d
  have h4 : n / d * d = d * (n / d) := Int.mul_comm _ _
  omega
theorem floor_ok {n d : Int} (hd : 1 ≤ d) (hn : -1000000000 ≤ n ∧ n ≤ 1000000000) : -1000000000 ≤ n / d ∧ n / d ≤ 1000000000 := by
  have a := Int.mul_le_mul_of_nonneg_left hd (show (0 : Int) ≤ 1000000000 by omega)
  exact ⟨(Int.le_ediv_iff_mul_le (by omega)).2 (by omega), Int.ediv_le_of_le_mul (by omega) (by omega)⟩

set_option maxRecDepth 100000 in
set_option maxHeartbeats 3200000 in
theorem impl_SureDigits (va : Value) (xs : List Int) (b : Int) (w : World) (ha : Sl w va xs) (hl : xs.length ≤ 1048576) :
    Calls Try.prog 43 #[va, .int .i64 b] w fun e w' => e = .returned (.tuple #[.int .i64 (sureF xs b).1, .int .i64 (sureF xs b).2]) ∧ Bl w w' := by
  cases e1 : termsP xs with
  | false =>
    have HR := Lib.hid (show sureF xs b = (0, 1) by simp [sureF, e1])
    have E1 := Lib.hid e1
    clear e1
    go_enter Try.func43, Try.ntmps43
    go_wp2_with fail
    refine (ivalT_eq E1.out _ ha hl).mono ?_
    rintro e w1 ⟨rfl, hb1⟩
    have B1 : Bl w w1 := bl_call (bl_refl _) hb1
    go_wp2
    go_ret2
    exact ⟨ret_ii2 (by rw [HR.out]), B1⟩
  | true =>
    cases e2 : inB b 2 36 with
    | false =>
      have HR := Lib.hid (show sureF xs b = (0, 2) by simp [sureF, e1, e2])
      have E1 := Lib.hid e1
      clear e1
      have E2 := Lib.hid e2
      clear e2
      go_enter Try.func43, Try.ntmps43
      go_wp2_with fail
      refine (ivalT_eq E1.out _ ha hl).mono ?_
      rintro e w1 ⟨rfl, hb1⟩
      have B1 : Bl w w1 := bl_call (bl_refl _) hb1
      go_wp2_with fail
      refine (ibase_eq E2.out _).mono ?_
      rintro e w9 ⟨rfl, rfl⟩
      go_wp2
      go_ret2
      exact ⟨ret_ii2 (by rw [HR.out]), B1⟩
    | true =>
      have hb := inB_iff.1 e2
      obtain ⟨⟨⟨⟨A, B⟩, ⟨C, D⟩⟩, k⟩, hB⟩ : ∃ z, bndF xs = z := ⟨_, rfl⟩
      have HR := Lib.hid (sureF_at e1 e2 hB)
      have h5 := bndF_five hB
      have HBD := Lib.hid (bndF_bd e1 hB)
      have HB := Lib.hid hB
      clear hB
      have E1 := Lib.hid e1
      clear e1
      have E2 := Lib.hid e2
      clear e2
      go_enter Try.func43, Try.ntmps43
      go_wp2_with fail
      refine (ivalT_eq E1.out _ ha hl).mono ?_
      rintro e w1 ⟨rfl, hb1⟩
      have B1 : Bl w w1 := bl_call (bl_refl _) hb1
      go_wp2_with fail
      refine (ibase_eq E2.out _).mono ?_
      rintro e w9 ⟨rfl, rfl⟩
      go_wp2_with fail
      refine (boundsI_any va xs _ (ha.below B1) E1.out).mono ?_
      rintro e w2 ⟨rfl, hb2⟩
      have B2 : Bl w w2 := bl_call B1 hb2
      rw [HB.out]
      simp only []
      rcases h5 with rfl | rfl
      ·
        obtain ⟨⟨b1, b2, b3, b4⟩, ⟨d1, d2, d3, d4⟩⟩ := HBD.out rfl
        have rA := rest_ok (n := A) (d := B) (by omega)
        have rC := rest_ok (n := C) (d := D) (by omega)
        have fA := floor_ok (n := A) (d := B) (by omega) (by omega)
        have fC := floor_ok (n := C) (d := D) (by omega) (by omega)
        have qA : A - B ≤ A / B * B ∧ A / B * B ≤ A := by omega
        have qC : C - D ≤ C / D * D ∧ C / D * D ≤ C := by omega
        go_wp2_with fail
        refine (fdigs_any A B b 60 _ (by omega) (by omega) hb (by omega)).mono ?_
        rintro e w3 ⟨xa, xc, rfl, HX, hb3⟩
        have B3 : Bl w w3 := bl_call (bl_alloc (bl_alloc B2 _) _) hb3
        have xX_3 : Bx w3 (w2.heap.size) #[.int .i64 (A), .int .i64 (B)] := ((Bx.new (b := w2.heap.size) _ #[.int .i64 (A), .int .i64 (B)] 24 (by first | rfl | simp)).alloc _).below hb3
        have xY_3 : Bx w3 (w2.heap.size + 1) #[.int .i64 (C), .int .i64 (D)] := (Bx.new (b := w2.heap.size + 1) _ #[.int .i64 (C), .int .i64 (D)] 24 (by first | rfl | simp)).below hb3
        obtain ⟨cX_3, fX_3, zX_3⟩ := xX_3.out
        obtain ⟨cY_3, fY_3, zY_3⟩ := xY_3.out
        have HX := Lib.hid HX
        go_wp2_with fail
        refine (fdigs_any C D b 60 _ (by omega) (by omega) hb (by omega)).mono ?_
        rintro e w4 ⟨ya, yc, rfl, HY, hb4⟩
        have B4 : Bl w w4 := bl_call B3 hb4
        have xX_4 : Bx w4 (w2.heap.size) #[.int .i64 (A), .int .i64 (B)] := xX_3.below hb4
        have xY_4 : Bx w4 (w2.heap.size + 1) #[.int .i64 (C), .int .i64 (D)] := xY_3.below hb4
        clear cX_3 fX_3 zX_3 cY_3 fY_3 zY_3
        obtain ⟨cX_4, fX_4, zX_4⟩ := xX_4.out
        obtain ⟨cY_4, fY_4, zY_4⟩ := xY_4.out
        have HX := Lib.hid (HX.out.below hb4)
        have HY := Lib.hid HY
        by_cases hq : A / B = C / D
        ·
          have HC := Lib.hid (show sureF xs b = (((comL (digsG B b 60 (A - A / B * B)) (digsG D b 60 (C - C / D * D)) : Nat) : Int), 0) by rw [HR.out, if_pos (by trivial), if_pos hq])
          have cq : (A / B != C / D) = false := by simp [hq]
          clear hq
          go_wp2_with fail
          refine (icom_any _ _ _ _ _ HX.out.sl HY.out.sl (by rw [digsG_len]; omega) (by rw [digsG_len]; omega)).mono ?_
          rintro e w5 ⟨rfl, hb5⟩
          have B5 : Bl w w5 := bl_call B4 hb5
          have xX_5 : Bx w5 (w2.heap.size) #[.int .i64 (A), .int .i64 (B)] := xX_4.below hb5
          have xY_5 : Bx w5 (w2.heap.size + 1) #[.int .i64 (C), .int .i64 (D)] := xY_4.below hb5
          clear cX_4 fX_4 zX_4 cY_4 fY_4 zY_4
          obtain ⟨cX_5, fX_5, zX_5⟩ := xX_5.out
          obtain ⟨cY_5, fY_5, zY_5⟩ := xY_5.out
          go_wp2
          go_ret2
          exact ⟨ret_ii2 (by rw [HC.out]), B5⟩
        ·
          have HC := Lib.hid (show sureF xs b = (-1, 0) by rw [HR.out, if_pos (by trivial), if_neg hq])
          have cq : (A / B != C / D) = true := by simp [hq]
          clear hq
          go_wp2
          go_ret2
          exact ⟨ret_ii2 (by rw [HC.out]), B4⟩
      ·
        go_wp2
        go_ret2
        refine ⟨ret_ii2 (by rw [HR.out]; rfl), ?_⟩
        repeat first | (with_reducible exact B2) | (with_reducible refine bl_alloc ?_ _) | (with_reducible refine bl_drew ?_) | (with_reducible refine bl_set ?_ (by first | exact Nat.le_refl _ | (simp; done) | (simp; omega)) _)

set_option maxRecDepth 100000 in
set_option maxHeartbeats 3200000 in
theorem spec_SureDigits (va : Value) (xs : List Int) (b : Int) (w : World) (ha : Sl w va xs) (hl : xs.length ≤ 1048576) :
    Calls Try.prog 42 #[va, .int .i64 b] w fun e w' => e = .returned (.tuple #[.int .i64 (sureF xs b).1, .int .i64 (sureF xs b).2]) ∧ Bl w w' := by
  cases e1 : termsP xs with
  | false =>
    have HR := Lib.hid (show sureF xs b = (0, 1) by simp [sureF, e1])
    have E1 := Lib.hid e1
    clear e1
    go_enter Try.func42, Try.ntmps42
    go_wp2_with fail
    refine (svalT_eq E1.out _ ha hl).mono ?_
    rintro e w1 ⟨rfl, hb1⟩
    have B1 : Bl w w1 := bl_call (bl_refl _) hb1
    go_wp2
    go_ret2
    exact ⟨ret_ii2 (by rw [HR.out]), B1⟩
  | true =>
    cases e2 : inB b 2 36 with
    | false =>
      have HR := Lib.hid (show sureF xs b = (0, 2) by simp [sureF, e1, e2])
      have E1 := Lib.hid e1
      clear e1
      have E2 := Lib.hid e2
      clear e2
      go_enter Try.func42, Try.ntmps42
      go_wp2_with fail
      refine (svalT_eq E1.out _ ha hl).mono ?_
      rintro e w1 ⟨rfl, hb1⟩
      have B1 : Bl w w1 := bl_call (bl_refl _) hb1
      go_wp2_with fail
      refine (sbase_eq E2.out _).mono ?_
      rintro e w9 ⟨rfl, rfl⟩
      go_wp2
      go_ret2
      exact ⟨ret_ii2 (by rw [HR.out]), B1⟩
    | true =>
      have hb := inB_iff.1 e2
      obtain ⟨⟨⟨⟨A, B⟩, ⟨C, D⟩⟩, k⟩, hB⟩ : ∃ z, bndF xs = z := ⟨_, rfl⟩
      have HR := Lib.hid (sureF_at e1 e2 hB)
      have h5 := bndF_five hB
      have HBD := Lib.hid (bndF_bd e1 hB)
      have HB := Lib.hid hB
      clear hB
      have E1 := Lib.hid e1
      clear e1
      have E2 := Lib.hid e2
      clear e2
      go_enter Try.func42, Try.ntmps42
      go_wp2_with fail
      refine (svalT_eq E1.out _ ha hl).mono ?_
      rintro e w1 ⟨rfl, hb1⟩
      have B1 : Bl w w1 := bl_call (bl_refl _) hb1
      go_wp2_with fail
      refine (sbase_eq E2.out _).mono ?_
      rintro e w9 ⟨rfl, rfl⟩
      go_wp2_with fail
      refine (boundsS_any va xs _ (ha.below B1) E1.out).mono ?_
      rintro e w2 ⟨rfl, hb2⟩
      have B2 : Bl w w2 := bl_call B1 hb2
      rw [HB.out]
      simp only []
      rcases h5 with rfl | rfl
      ·
        obtain ⟨⟨b1, b2, b3, b4⟩, ⟨d1, d2, d3, d4⟩⟩ := HBD.out rfl
        rw [show decide ((0 : Int) = 0) = true from rfl]
        have rA := rest_ok (n := A) (d := B) (by omega)
        have rC := rest_ok (n := C) (d := D) (by omega)
        have fA := floor_ok (n := A) (d := B) (by omega) (by omega)
        have fC := floor_ok (n := C) (d := D) (by omega) (by omega)
        have qA : A - B ≤ A / B * B ∧ A / B * B ≤ A := by omega
        have qC : C - D ≤ C / D * D ∧ C / D * D ≤ C := by omega
        go_wp2_with fail
        have B3 : Bl w ((w2.alloc (.cells #[.int .i64 (A), .int .i64 (B)] 24)).alloc (.cells #[.int .i64 (C), .int .i64 (D)] 24)) := (bl_alloc (bl_alloc B2 _) _)
        have xX_3 : Bx ((w2.alloc (.cells #[.int .i64 (A), .int .i64 (B)] 24)).alloc (.cells #[.int .i64 (C), .int .i64 (D)] 24)) (w2.heap.size) #[.int .i64 (A), .int .i64 (B)] := ((Bx.new (b := w2.heap.size) _ #[.int .i64 (A), .int .i64 (B)] 24 (by first | rfl | simp)).alloc _)
        have xY_3 : Bx ((w2.alloc (.cells #[.int .i64 (A), .int .i64 (B)] 24)).alloc (.cells #[.int .i64 (C), .int .i64 (D)] 24)) (w2.heap.size + 1) #[.int .i64 (C), .int .i64 (D)] := (Bx.new (b := w2.heap.size + 1) _ #[.int .i64 (C), .int .i64 (D)] 24 (by first | rfl | simp))
        have zz3 : w2.heap.size + 2 ≤ ((w2.alloc (.cells #[.int .i64 (A), .int .i64 (B)] 24)).alloc (.cells #[.int .i64 (C), .int .i64 (D)] 24)).heap.size := (by simp)
        generalize ((w2.alloc (.cells #[.int .i64 (A), .int .i64 (B)] 24)).alloc (.cells #[.int .i64 (C), .int .i64 (D)] 24)) = w3 at *
        obtain ⟨cX_3, fX_3, zX_3⟩ := xX_3.out
        obtain ⟨cY_3, fY_3, zY_3⟩ := xY_3.out
        refine (floor_any _ _ _ (by omega) (by omega) (by omega) (by omega)).mono ?_
        rintro e w9 ⟨rfl, rfl⟩
        go_wp2_with fail
        refine (floor_any _ _ _ (by omega) (by omega) (by omega) (by omega)).mono ?_
        rintro e w9 ⟨rfl, rfl⟩
        by_cases hq : A / B = C / D
        ·
          have HC := Lib.hid (show sureF xs b = (((comL (digsG B b 60 (A - A / B * B)) (digsG D b 60 (C - A / B * D)) : Nat) : Int), 0) by rw [HR.out, if_pos (by trivial), if_pos hq, ← hq])
          have cq : (A / B != C / D) = false := by simp [hq]
          rw [← hq] at rC qC
          have rC2 : 0 ≤ C - A / B * D ∧ C - A / B * D < D := rC
          have HQ := Lib.hid hq
          clear hq
          go_wp2_with fail
          refine (sdigs_any (A - A / B * B) B b 60 _ (by omega) (by omega) hb (by omega)).mono ?_
          rintro e w4 ⟨xa, xc, rfl, HX, hb4⟩
          have B4 : Bl w w4 := bl_call B3 hb4
          have xX_4 : Bx w4 (w2.heap.size) #[.int .i64 (A), .int .i64 (B)] := xX_3.below hb4
          have xY_4 : Bx w4 (w2.heap.size + 1) #[.int .i64 (C), .int .i64 (D)] := xY_3.below hb4
          clear cX_3 fX_3 zX_3 cY_3 fY_3 zY_3
          obtain ⟨cX_4, fX_4, zX_4⟩ := xX_4.out
          obtain ⟨cY_4, fY_4, zY_4⟩ := xY_4.out
          have HX := Lib.hid HX
          go_wp2_with fail
          refine (sdigs_any (C - A / B * D) D b 60 _ (by omega) (by omega) hb (by omega)).mono ?_
          rintro e w5 ⟨ya, yc, rfl, HY, hb5⟩
          have B5 : Bl w w5 := bl_call B4 hb5
          have xX_5 : Bx w5 (w2.heap.size) #[.int .i64 (A), .int .i64 (B)] := xX_4.below hb5
          have xY_5 : Bx w5 (w2.heap.size + 1) #[.int .i64 (C), .int .i64 (D)] := xY_4.below hb5
          clear cX_4 fX_4 zX_4 cY_4 fY_4 zY_4
          obtain ⟨cX_5, fX_5, zX_5⟩ := xX_5.out
          obtain ⟨cY_5, fY_5, zY_5⟩ := xY_5.out
          have HX := Lib.hid (HX.out.below hb5)
          have HY := Lib.hid HY
          go_wp2_with fail
          refine (scom_any _ _ _ _ _ HX.out.sl HY.out.sl (by rw [digsG_len]; omega) (by rw [digsG_len]; omega)).mono ?_
          rintro e w6 ⟨rfl, hb6⟩
          have B6 : Bl w w6 := bl_call B5 hb6
          have xX_6 : Bx w6 (w2.heap.size) #[.int .i64 (A), .int .i64 (B)] := xX_5.below hb6
          have xY_6 : Bx w6 (w2.heap.size + 1) #[.int .i64 (C), .int .i64 (D)] := xY_5.below hb6
          clear cX_5 fX_5 zX_5 cY_5 fY_5 zY_5
          obtain ⟨cX_6, fX_6, zX_6⟩ := xX_6.out
          obtain ⟨cY_6, fY_6, zY_6⟩ := xY_6.out
          go_wp2
          go_ret2
          exact ⟨ret_ii2 (by rw [HC.out]), B6⟩
        ·
          have HC := Lib.hid (show sureF xs b = (-1, 0) by rw [HR.out, if_pos (by trivial), if_neg hq])
          have cq : (A / B != C / D) = true := by simp [hq]
          clear hq
          go_wp2
          go_ret2
          exact ⟨ret_ii2 (by rw [HC.out]), B3⟩
      ·
        rw [show decide ((5 : Int) = 0) = false from rfl]
        go_wp2
        go_ret2
        refine ⟨ret_ii2 (by rw [HR.out]; rfl), ?_⟩
        repeat first | (with_reducible exact B2) | (with_reducible refine bl_alloc ?_ _) | (with_reducible refine bl_drew ?_) | (with_reducible refine bl_set ?_ (by first | exact Nat.le_refl _ | (simp; done) | (simp; omega)) _)

end Go.Proofs.Yteejfiflidfciaa
