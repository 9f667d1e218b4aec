/- FractionFromDigits: the program and the reference give the same. Each theorem names its conditions. -/
import Derived.Test.YteejfiflidfciaaDig
import Derived.Test.YteejfiflidfciaaFrac2
namespace Go.Proofs.Yteejfiflidfciaa
open Go.RowKit
set_option linter.unusedVariables false
set_option linter.unusedSimpArgs false

theorem mulb' {x y X Y : Int} (h1 : -X ≤ x ∧ x ≤ X) (h2 : 0 ≤ y ∧ y ≤ Y) : -(X * Y) ≤ x * y ∧ x * y ≤ X * Y := by
  have hX : 0 ≤ X := by omega
  have a1 := Int.mul_le_mul_of_nonneg_right h1.1 h2.1
  have a2 := Int.mul_le_mul_of_nonneg_right h1.2 h2.1
  have a3 := Int.mul_le_mul_of_nonneg_left h2.2 hX
  have e : -X * y = -(X * y) := Int.neg_mul _ _
  omega
theorem ret_fr3 {f : Int × Int × Int} {r : (Int × Int) × Int} (h : r = ((f.1, f.2.1), f.2.2)) : Ending.returned (.tuple #[.agg #[.int .i64 f.1, .int .i64 f.2.1], .int .i64 f.2.2]) = .returned (.tuple #[.agg #[.int .i64 r.1.1, .int .i64 r.1.2], .int .i64 r.2]) := by subst h; rfl
theorem ret_f2 {r : (Int × Int) × Int} {x y c : Int} (h : r = ((x, y), c)) : Ending.returned (.tuple #[.agg #[.int .i64 x, .int .i64 y], .int .i64 c]) = .returned (.tuple #[.agg #[.int .i64 r.1.1, .int .i64 r.1.2], .int .i64 r.2]) := by subst h; rfl
def fr3 (f : Int × Int × Int) : (Int × Int) × Int := ((f.1, f.2.1), f.2.2)
noncomputable def frDigF (b wh : Int) (xs ys : List Int) : (Int × Int) × Int :=
  if inB b 2 36 && inB wh (-1000000000) 1000000000 && digP b xs && digP b ys then
    (if b ^ xs.length ≤ 1000000000 ∧ b ^ ys.length ≤ 1000000000 ∧ b ^ xs.length * (b ^ ys.length - 1) ≤ 1000000000 then
      (if ys.length = 0 then fr3 (fullF (wh * b ^ xs.length + numF b xs) (b ^ xs.length)) else fr3 (fullF (wh * (b ^ xs.length * (b ^ ys.length - 1)) + (numF b xs * (b ^ ys.length - 1) + numF b ys)) (b ^ xs.length * (b ^ ys.length - 1))))
    else ((0, 0), 5))
  else ((0, 0), 2)
theorem quo_gt' {b o : Int} (hb : 1 ≤ b) : 1000000000 / b < o ↔ 1000000000 < o * b := by
  rw [Int.ediv_lt_iff_lt_mul (by omega)]
theorem val_eq {b p n : Int} {va : Value} {xs : List Int} (hp : b ^ xs.length = p) (hn : numF b xs = n) (h : p ≤ 1000000000) (w : World) (hb : 2 ≤ b ∧ b ≤ 36) (ha : Sl w va xs) (hl : xs.length ≤ 1048576) (hd : digP b xs = true) :
    Calls Try.prog 79 #[va, .int .i64 b] w fun e w' => e = .returned (.tuple #[.int .i64 n, .int .i64 p, .bool true]) ∧ Bl w w' := by
  have := val_any va xs w hb ha hl (digP_mem hd)
  rw [hp, hn, if_pos h] at this
  exact this
theorem val_no {b p : Int} {va : Value} {xs : List Int} (hp : b ^ xs.length = p) (h : 1000000000 < p) (w : World) (hb : 2 ≤ b ∧ b ≤ 36) (ha : Sl w va xs) (hl : xs.length ≤ 1048576) (hd : digP b xs = true) :
    Calls Try.prog 79 #[va, .int .i64 b] w fun e w' => e = .returned (.tuple #[.int .i64 0, .int .i64 0, .bool false]) ∧ Bl w w' := by
  have := val_any va xs w hb ha hl (digP_mem hd)
  rw [hp, if_neg (by omega)] at this
  exact this
theorem power_eq {b p : Int} {k : Nat} (hp : b ^ k = p) (h : p ≤ 1000000000) (w : World) (hb : 2 ≤ b ∧ b ≤ 36) (hk : k ≤ 1048576) :
    Calls Try.prog 82 #[.int .i64 b, .int .i64 k] w fun e w' => e = .returned (.tuple #[.int .i64 p, .bool true]) ∧ Bl w w' := by
  subst hp
  exact power_ok k w hb hk h
theorem power_ne {b p : Int} {k : Nat} (hp : b ^ k = p) (h : 1000000000 < p) (w : World) (hb : 2 ≤ b ∧ b ≤ 36) (hk : k ≤ 1048576) :
    Calls Try.prog 82 #[.int .i64 b, .int .i64 k] w fun e w' => e = .returned (.tuple #[.int .i64 0, .bool false]) ∧ Bl w w' := by
  subst hp
  exact power_no k w hb hk h
theorem num_eq {b p n : Int} {va : Value} {xs : List Int} (hp : b ^ xs.length = p) (hn : numF b xs = n) (h : p ≤ 1000000000) (w : World) (hb : 2 ≤ b ∧ b ≤ 36) (ha : Sl w va xs) (hl : xs.length ≤ 1048576) (hd : digP b xs = true) :
    Calls Try.prog 83 #[.int .i64 b, va] w fun e w' => e = .returned (.int .i64 n) ∧ Bl w w' := by
  subst hn
  exact numI_any va xs w hb ha hl (digP_mem hd) (by omega)
theorem numF_all {b : Int} {xs : List Int} (hb : 2 ≤ b) (h : digP b xs = true) : 0 ≤ numF b xs ∧ numF b xs ≤ b ^ xs.length - 1 := by
  have := numF_bd hb (digP_mem h) xs.length (Nat.le_refl _)
  rwa [List.take_length] at this

set_option maxRecDepth 100000 in
set_option maxHeartbeats 6400000 in
theorem impl_FractionFromDigits (b wh : Int) (va : Value) (xs : List Int) (vb : Value) (ys : List Int) (w : World) (ha : Sl w va xs) (lx : xs.length ≤ 1048576) (hb : Sl w vb ys) (ly : ys.length ≤ 1048576) :
    Calls Try.prog 45 #[.int .i64 b, .int .i64 wh, va, vb] w fun e w' => e = .returned (.tuple #[.agg #[.int .i64 (frDigF b wh xs ys).1.1, .int .i64 (frDigF b wh xs ys).1.2], .int .i64 (frDigF b wh xs ys).2]) ∧ Bl w w' := by
  obtain ⟨aa, ca, rfl, hca⟩ := ha.form'
  obtain ⟨ab, cb, rfl, hcb⟩ := hb.form'
  cases e1 : inB b 2 36 with
  | false =>
    have HR := Lib.hid (show frDigF b wh xs ys = ((0, 0), 2) by simp [frDigF, e1])
    have E1 := Lib.hid e1
    clear e1
    go_enter Try.func45, Try.ntmps45
    go_wp2_with fail
    refine (ibase_eq E1.out _).mono ?_
    rintro e w9 ⟨rfl, rfl⟩
    go_wp2
    refine bodyPost_ret (v := .tuple #[.agg #[.int .i64 0, .int .i64 0], .int .i64 2]) (by simp only [results, Try.results45]; go_simp) rfl ?_
    refine ⟨ret_f2 (by rw [HR.out]), ?_⟩
    repeat first | (with_reducible exact (bl_refl _)) | (with_reducible refine bl_alloc ?_ _) | (with_reducible refine bl_drew ?_) | (with_reducible refine bl_set ?_ (by first | exact Nat.le_refl _ | (simp; done) | (simp; omega)) _)
  | true =>
    cases e2 : inB wh (-1000000000) 1000000000 with
    | false =>
      have HR := Lib.hid (show frDigF b wh xs ys = ((0, 0), 2) by simp [frDigF, e1, e2])
      have E1 := Lib.hid e1
      clear e1
      have E2 := Lib.hid e2
      clear e2
      go_enter Try.func45, Try.ntmps45
      go_wp2_with fail
      refine (ibase_eq E1.out _).mono ?_
      rintro e w9 ⟨rfl, rfl⟩
      go_wp2_with fail
      refine (inB_eq E2.out _).mono ?_
      rintro e w9 ⟨rfl, rfl⟩
      go_wp2
      refine bodyPost_ret (v := .tuple #[.agg #[.int .i64 0, .int .i64 0], .int .i64 2]) (by simp only [results, Try.results45]; go_simp) rfl ?_
      refine ⟨ret_f2 (by rw [HR.out]), ?_⟩
      repeat first | (with_reducible exact (bl_refl _)) | (with_reducible refine bl_alloc ?_ _) | (with_reducible refine bl_drew ?_) | (with_reducible refine bl_set ?_ (by first | exact Nat.le_refl _ | (simp; done) | (simp; omega)) _)
    | true =>
      cases e3 : digP b xs with
      | false =>
        have HR := Lib.hid (show frDigF b wh xs ys = ((0, 0), 2) by simp [frDigF, e1, e2, e3])
        have hbb := inB_iff.1 e1
        have E1 := Lib.hid e1
        clear e1
        have E2 := Lib.hid e2
        clear e2
        have E3 := Lib.hid e3
        clear e3
        go_enter Try.func45, Try.ntmps45
        go_wp2_with fail
        refine (ibase_eq E1.out _).mono ?_
        rintro e w9 ⟨rfl, rfl⟩
        go_wp2_with fail
        refine (inB_eq E2.out _).mono ?_
        rintro e w9 ⟨rfl, rfl⟩
        go_wp2_with fail
        refine (areD_eq E3.out _ hbb (ha.below (bl_alloc (bl_refl _) _)) lx).mono ?_
        rintro e w1 ⟨rfl, hb1⟩
        have B1 : Bl w w1 := bl_call (bl_alloc (bl_refl _) _) hb1
        have xR_1 : Bx w1 (w.heap.size) #[.int .i64 0, .int .i64 0] := (Bx.new (b := w.heap.size) _ #[.int .i64 0, .int .i64 0] 24 (by first | rfl | simp)).below hb1
        obtain ⟨cR_1, fR_1, zR_1⟩ := xR_1.out
        go_wp2
        refine bodyPost_ret (v := .tuple #[.agg #[.int .i64 0, .int .i64 0], .int .i64 2]) (by simp only [results, Try.results45]; go_simp) rfl ?_
        refine ⟨ret_f2 (by rw [HR.out]), ?_⟩
        repeat first | (with_reducible exact B1) | (with_reducible refine bl_alloc ?_ _) | (with_reducible refine bl_drew ?_) | (with_reducible refine bl_set ?_ (by first | exact Nat.le_refl _ | (simp; done) | (simp; omega)) _)
      | true =>
        cases e4 : digP b ys with
        | false =>
          have HR := Lib.hid (show frDigF b wh xs ys = ((0, 0), 2) by simp [frDigF, e1, e2, e3, e4])
          have hbb := inB_iff.1 e1
          have E1 := Lib.hid e1
          clear e1
          have E2 := Lib.hid e2
          clear e2
          have E3 := Lib.hid e3
          clear e3
          have E4 := Lib.hid e4
          clear e4
          go_enter Try.func45, Try.ntmps45
          go_wp2_with fail
          refine (ibase_eq E1.out _).mono ?_
          rintro e w9 ⟨rfl, rfl⟩
          go_wp2_with fail
          refine (inB_eq E2.out _).mono ?_
          rintro e w9 ⟨rfl, rfl⟩
          go_wp2_with fail
          refine (areD_eq E3.out _ hbb (ha.below (bl_alloc (bl_refl _) _)) lx).mono ?_
          rintro e w1 ⟨rfl, hb1⟩
          have B1 : Bl w w1 := bl_call (bl_alloc (bl_refl _) _) hb1
          have xR_1 : Bx w1 (w.heap.size) #[.int .i64 0, .int .i64 0] := (Bx.new (b := w.heap.size) _ #[.int .i64 0, .int .i64 0] 24 (by first | rfl | simp)).below hb1
          obtain ⟨cR_1, fR_1, zR_1⟩ := xR_1.out
          go_wp2_with fail
          refine (areD_eq E4.out _ hbb (hb.below B1) ly).mono ?_
          rintro e w2 ⟨rfl, hb2⟩
          have B2 : Bl w w2 := bl_call B1 hb2
          have xR_2 : Bx w2 (w.heap.size) #[.int .i64 0, .int .i64 0] := xR_1.below hb2
          clear cR_1 fR_1 zR_1
          obtain ⟨cR_2, fR_2, zR_2⟩ := xR_2.out
          go_wp2
          refine bodyPost_ret (v := .tuple #[.agg #[.int .i64 0, .int .i64 0], .int .i64 2]) (by simp only [results, Try.results45]; go_simp) rfl ?_
          refine ⟨ret_f2 (by rw [HR.out]), ?_⟩
          repeat first | (with_reducible exact B2) | (with_reducible refine bl_alloc ?_ _) | (with_reducible refine bl_drew ?_) | (with_reducible refine bl_set ?_ (by first | exact Nat.le_refl _ | (simp; done) | (simp; omega)) _)
        | true =>
          obtain ⟨p, hp⟩ : ∃ p, b ^ xs.length = p := ⟨_, rfl⟩
          obtain ⟨r, hr⟩ : ∃ r, b ^ ys.length = r := ⟨_, rfl⟩
          obtain ⟨u, hu⟩ : ∃ u, numF b xs = u := ⟨_, rfl⟩
          obtain ⟨v, hv⟩ : ∃ v, numF b ys = v := ⟨_, rfl⟩
          have HR : frDigF b wh xs ys = (if p ≤ 1000000000 ∧ r ≤ 1000000000 ∧ p * (r - 1) ≤ 1000000000 then (if ys.length = 0 then fr3 (fullF (wh * p + u) p) else fr3 (fullF (wh * (p * (r - 1)) + (u * (r - 1) + v)) (p * (r - 1)))) else ((0, 0), 5)) := by
            rw [frDigF, e1, e2, e3, e4, hp, hr, hu, hv]
            rfl
          have HR := Lib.hid HR
          have hbb := inB_iff.1 e1
          have hwh := inB_iff.1 e2
          have p1 := pow_pos' hbb.1 xs.length
          have r1 := pow_pos' hbb.1 ys.length
          have u1 := numF_all hbb.1 e3
          have v1 := numF_all hbb.1 e4
          rw [hp] at p1
          rw [hr] at r1
          rw [hp, hu] at u1
          rw [hr, hv] at v1
          have r2 : 0 < ys.length → 2 ≤ r := fun h => by have q := pow_le hbb.1 (show 1 ≤ ys.length from h); have q1 : b ^ 1 = b := (by rw [show (1 : Nat) = 0 + 1 from rfl, Int.pow_succ]; simp); omega
          have r0 : ys.length = 0 → r = 1 := fun h => by rw [← hr, h]; simp
          have R2 := Lib.hid r2
          have R0 := Lib.hid r0
          clear r2 r0
          have Hp := Lib.hid hp
          clear hp
          have Hr := Lib.hid hr
          clear hr
          have Hu := Lib.hid hu
          clear hu
          have Hv := Lib.hid hv
          clear hv
          have E1 := Lib.hid e1
          clear e1
          have E2 := Lib.hid e2
          clear e2
          have E3 := Lib.hid e3
          clear e3
          have E4 := Lib.hid e4
          clear e4
          go_enter Try.func45, Try.ntmps45
          go_wp2_with fail
          refine (ibase_eq E1.out _).mono ?_
          rintro e w9 ⟨rfl, rfl⟩
          go_wp2_with fail
          refine (inB_eq E2.out _).mono ?_
          rintro e w9 ⟨rfl, rfl⟩
          go_wp2_with fail
          refine (areD_eq E3.out _ hbb (ha.below (bl_alloc (bl_refl _) _)) lx).mono ?_
          rintro e w1 ⟨rfl, hb1⟩
          have B1 : Bl w w1 := bl_call (bl_alloc (bl_refl _) _) hb1
          have xR_1 : Bx w1 (w.heap.size) #[.int .i64 0, .int .i64 0] := (Bx.new (b := w.heap.size) _ #[.int .i64 0, .int .i64 0] 24 (by first | rfl | simp)).below hb1
          obtain ⟨cR_1, fR_1, zR_1⟩ := xR_1.out
          go_wp2_with fail
          refine (areD_eq E4.out _ hbb (hb.below B1) ly).mono ?_
          rintro e w2 ⟨rfl, hb2⟩
          have B2 : Bl w w2 := bl_call B1 hb2
          have xR_2 : Bx w2 (w.heap.size) #[.int .i64 0, .int .i64 0] := xR_1.below hb2
          clear cR_1 fR_1 zR_1
          obtain ⟨cR_2, fR_2, zR_2⟩ := xR_2.out
          rcases Int.lt_or_le 1000000000 p with hq | hq
          ·
            have HQ := Lib.hid hq
            go_wp2_with fail
            refine (power_ne Hp.out (by omega) _ hbb (by omega)).mono ?_
            rintro e w3 ⟨rfl, hb3⟩
            have B3 : Bl w w3 := bl_call B2 hb3
            have xR_3 : Bx w3 (w.heap.size) #[.int .i64 0, .int .i64 0] := xR_2.below hb3
            clear cR_2 fR_2 zR_2
            obtain ⟨cR_3, fR_3, zR_3⟩ := xR_3.out
            rcases Int.lt_or_le 1000000000 r with hq2 | hq2
            ·
              go_wp2_with fail
              refine (power_ne Hr.out (by omega) _ hbb (by omega)).mono ?_
              rintro e w4 ⟨rfl, hb4⟩
              have B4 : Bl w w4 := bl_call B3 hb4
              have xR_4 : Bx w4 (w.heap.size) #[.int .i64 0, .int .i64 0] := xR_3.below hb4
              clear cR_3 fR_3 zR_3
              obtain ⟨cR_4, fR_4, zR_4⟩ := xR_4.out
              go_wp2
              refine bodyPost_ret (v := .tuple #[.agg #[.int .i64 0, .int .i64 0], .int .i64 5]) (by simp only [results, Try.results45]; go_simp) rfl ?_
              refine ⟨ret_f2 (by rw [HR.out, if_neg (by have q := HQ.out; omega)]), ?_⟩
              repeat first | (with_reducible exact B4) | (with_reducible refine bl_alloc ?_ _) | (with_reducible refine bl_drew ?_) | (with_reducible refine bl_set ?_ (by first | exact Nat.le_refl _ | (simp; done) | (simp; omega)) _)
            ·
              go_wp2_with fail
              refine (power_eq Hr.out (by omega) _ hbb (by omega)).mono ?_
              rintro e w4 ⟨rfl, hb4⟩
              have B4 : Bl w w4 := bl_call B3 hb4
              have xR_4 : Bx w4 (w.heap.size) #[.int .i64 0, .int .i64 0] := xR_3.below hb4
              clear cR_3 fR_3 zR_3
              obtain ⟨cR_4, fR_4, zR_4⟩ := xR_4.out
              go_wp2
              refine bodyPost_ret (v := .tuple #[.agg #[.int .i64 0, .int .i64 0], .int .i64 5]) (by simp only [results, Try.results45]; go_simp) rfl ?_
              refine ⟨ret_f2 (by rw [HR.out, if_neg (by have q := HQ.out; omega)]), ?_⟩
              repeat first | (with_reducible exact B4) | (with_reducible refine bl_alloc ?_ _) | (with_reducible refine bl_drew ?_) | (with_reducible refine bl_set ?_ (by first | exact Nat.le_refl _ | (simp; done) | (simp; omega)) _)
          ·
            go_wp2_with fail
            refine (power_eq Hp.out (by omega) _ hbb (by omega)).mono ?_
            rintro e w3 ⟨rfl, hb3⟩
            have B3 : Bl w w3 := bl_call B2 hb3
            have xR_3 : Bx w3 (w.heap.size) #[.int .i64 0, .int .i64 0] := xR_2.below hb3
            clear cR_2 fR_2 zR_2
            obtain ⟨cR_3, fR_3, zR_3⟩ := xR_3.out
            rcases Int.lt_or_le 1000000000 r with hq2 | hq2
            ·
              have HQ := Lib.hid hq2
              go_wp2_with fail
              refine (power_ne Hr.out (by omega) _ hbb (by omega)).mono ?_
              rintro e w4 ⟨rfl, hb4⟩
              have B4 : Bl w w4 := bl_call B3 hb4
              have xR_4 : Bx w4 (w.heap.size) #[.int .i64 0, .int .i64 0] := xR_3.below hb4
              clear cR_3 fR_3 zR_3
              obtain ⟨cR_4, fR_4, zR_4⟩ := xR_4.out
              go_wp2
              refine bodyPost_ret (v := .tuple #[.agg #[.int .i64 0, .int .i64 0], .int .i64 5]) (by simp only [results, Try.results45]; go_simp) rfl ?_
              refine ⟨ret_f2 (by rw [HR.out, if_neg (by have q := HQ.out; omega)]), ?_⟩
              repeat first | (with_reducible exact B4) | (with_reducible refine bl_alloc ?_ _) | (with_reducible refine bl_drew ?_) | (with_reducible refine bl_set ?_ (by first | exact Nat.le_refl _ | (simp; done) | (simp; omega)) _)
            ·
              go_wp2_with fail
              refine (power_eq Hr.out (by omega) _ hbb (by omega)).mono ?_
              rintro e w4 ⟨rfl, hb4⟩
              have B4 : Bl w w4 := bl_call B3 hb4
              have xR_4 : Bx w4 (w.heap.size) #[.int .i64 0, .int .i64 0] := xR_3.below hb4
              clear cR_3 fR_3 zR_3
              obtain ⟨cR_4, fR_4, zR_4⟩ := xR_4.out
              have m0 := mulb' (show -1000000000 ≤ p ∧ p ≤ 1000000000 by omega) (show 0 ≤ r - 1 ∧ r - 1 ≤ 1000000000 by omega)
              have qg := fun h => quo_gt' (b := r - 1) (o := p) h
              have QG := Lib.hid qg
              clear qg
              rcases Nat.eq_zero_or_pos ys.length with hy | hy
              ·
                obtain rfl := R0.out hy
                have HY := Lib.hid hy
                have hz : p * (1 - 1) = 0 := by simp
                have HC := Lib.hid (show frDigF b wh xs ys = fr3 (fullF (wh * p + u) p) by rw [HR.out, if_pos ⟨by omega, by omega, by rw [hz]; omega⟩, if_pos hy])
                have cz : decide (0 < ys.length) = false := by simp [hy]
                clear m0
                have m1 := mulb' hwh (show 0 ≤ p ∧ p ≤ 1000000000 by omega)
                have cz2 : decide ((0 : Int) < (ys.length : Int)) = false := decide_eq_false (by omega)
                clear hy
                go_wp2_with fail
                refine (num_eq Hp.out Hu.out (by omega) _ hbb (ha.below B4) lx E3.out).mono ?_
                rintro e w5 ⟨rfl, hb5⟩
                have B5 : Bl w w5 := bl_call B4 hb5
                have xR_5 : Bx w5 (w.heap.size) #[.int .i64 0, .int .i64 0] := xR_4.below hb5
                clear cR_4 fR_4 zR_4
                obtain ⟨cR_5, fR_5, zR_5⟩ := xR_5.out
                go_wp2_with fail
                refine (plain_any (wh * p + u) p _ (by omega) (by omega) (by omega) (by omega) (by omega)).mono ?_
                rintro e w6 ⟨rfl, hb6⟩
                have B6 : Bl w w6 := bl_call B5 hb6
                have xR_6 : Bx w6 (w.heap.size) #[.int .i64 0, .int .i64 0] := xR_5.below hb6
                clear cR_5 fR_5 zR_5
                obtain ⟨cR_6, fR_6, zR_6⟩ := xR_6.out
                go_wp2
                refine bodyPost_ret (v := .tuple #[.agg #[.int .i64 (fullF (wh * p + u) p).1, .int .i64 (fullF (wh * p + u) p).2.1], .int .i64 (fullF (wh * p + u) p).2.2]) (by simp only [results, Try.results45]; go_simp) rfl ?_
                refine ⟨ret_fr3 (by rw [HC.out]; rfl), ?_⟩
                repeat first | (with_reducible exact B6) | (with_reducible refine bl_alloc ?_ _) | (with_reducible refine bl_drew ?_) | (with_reducible refine bl_set ?_ (by first | exact Nat.le_refl _ | (simp; done) | (simp; omega)) _)
              ·
                have hr2 := R2.out hy
                have hy1 : (0 : Int) < (ys.length : Int) := by omega
                rcases Int.lt_or_le 1000000000 (p * (r - 1)) with hq3 | hq3
                ·
                  have HQ := Lib.hid hq3
                  go_wp2
                  refine bodyPost_ret (v := .tuple #[.agg #[.int .i64 0, .int .i64 0], .int .i64 5]) (by simp only [results, Try.results45]; go_simp) rfl ?_
                  refine ⟨ret_f2 (by rw [HR.out, if_neg (by have q := HQ.out; omega)]), ?_⟩
                  repeat first | (with_reducible exact B4) | (with_reducible refine bl_alloc ?_ _) | (with_reducible refine bl_drew ?_) | (with_reducible refine bl_set ?_ (by first | exact Nat.le_refl _ | (simp; done) | (simp; omega)) _)
                ·
                  have HC := Lib.hid (show frDigF b wh xs ys = fr3 (fullF (wh * (p * (r - 1)) + (u * (r - 1) + v)) (p * (r - 1))) by rw [HR.out, if_pos (by omega), if_neg (by omega)])
                  have m2 := mulb' (show -1000000000 ≤ u ∧ u ≤ 1000000000 by omega) (show 0 ≤ r - 1 ∧ r - 1 ≤ 1000000000 by omega)
                  have m3 := Int.mul_le_mul_of_nonneg_right (show 1 ≤ p by omega) (show 0 ≤ r - 1 by omega)
                  have m4 := mulb' hwh (show 0 ≤ p * (r - 1) ∧ p * (r - 1) ≤ 1000000000 by omega)
                  have m5 := Int.mul_le_mul_of_nonneg_right (show u ≤ p by omega) (show 0 ≤ r - 1 by omega)
                  have m6 := Int.mul_nonneg (show 0 ≤ u by omega) (show 0 ≤ r - 1 by omega)
                  go_wp2_with fail
                  refine (num_eq Hp.out Hu.out (by omega) _ hbb (ha.below B4) lx E3.out).mono ?_
                  rintro e w5 ⟨rfl, hb5⟩
                  have B5 : Bl w w5 := bl_call B4 hb5
                  have xR_5 : Bx w5 (w.heap.size) #[.int .i64 0, .int .i64 0] := xR_4.below hb5
                  clear cR_4 fR_4 zR_4
                  obtain ⟨cR_5, fR_5, zR_5⟩ := xR_5.out
                  go_wp2_with fail
                  refine (num_eq Hr.out Hv.out (by omega) _ hbb (hb.below B5) ly E4.out).mono ?_
                  rintro e w6 ⟨rfl, hb6⟩
                  have B6 : Bl w w6 := bl_call B5 hb6
                  have xR_6 : Bx w6 (w.heap.size) #[.int .i64 0, .int .i64 0] := xR_5.below hb6
                  clear cR_5 fR_5 zR_5
                  obtain ⟨cR_6, fR_6, zR_6⟩ := xR_6.out
                  go_wp2_with fail
                  refine (plain_any (wh * (p * (r - 1)) + (u * (r - 1) + v)) (p * (r - 1)) _ (by omega) (by omega) (by omega) (by omega) (by omega)).mono ?_
                  rintro e w7 ⟨rfl, hb7⟩
                  have B7 : Bl w w7 := bl_call B6 hb7
                  have xR_7 : Bx w7 (w.heap.size) #[.int .i64 0, .int .i64 0] := xR_6.below hb7
                  clear cR_6 fR_6 zR_6
                  obtain ⟨cR_7, fR_7, zR_7⟩ := xR_7.out
                  go_wp2
                  refine bodyPost_ret (v := .tuple #[.agg #[.int .i64 (fullF (wh * (p * (r - 1)) + (u * (r - 1) + v)) (p * (r - 1))).1, .int .i64 (fullF (wh * (p * (r - 1)) + (u * (r - 1) + v)) (p * (r - 1))).2.1], .int .i64 (fullF (wh * (p * (r - 1)) + (u * (r - 1) + v)) (p * (r - 1))).2.2]) (by simp only [results, Try.results45]; go_simp) rfl ?_
                  refine ⟨ret_fr3 (by rw [HC.out]; rfl), ?_⟩
                  repeat first | (with_reducible exact B7) | (with_reducible refine bl_alloc ?_ _) | (with_reducible refine bl_drew ?_) | (with_reducible refine bl_set ?_ (by first | exact Nat.le_refl _ | (simp; done) | (simp; omega)) _)

set_option maxRecDepth 100000 in
set_option maxHeartbeats 6400000 in
theorem spec_FractionFromDigits (b wh : Int) (va : Value) (xs : List Int) (vb : Value) (ys : List Int) (w : World) (ha : Sl w va xs) (lx : xs.length ≤ 1048576) (hb : Sl w vb ys) (ly : ys.length ≤ 1048576) :
    Calls Try.prog 44 #[.int .i64 b, .int .i64 wh, va, vb] w fun e w' => e = .returned (.tuple #[.agg #[.int .i64 (frDigF b wh xs ys).1.1, .int .i64 (frDigF b wh xs ys).1.2], .int .i64 (frDigF b wh xs ys).2]) ∧ Bl w w' := by
  obtain ⟨aa, ca, rfl, hca⟩ := ha.form'
  obtain ⟨ab, cb, rfl, hcb⟩ := hb.form'
  cases e1 : inB b 2 36 with
  | false =>
    have HR := Lib.hid (show frDigF b wh xs ys = ((0, 0), 2) by simp [frDigF, e1])
    have E1 := Lib.hid e1
    clear e1
    go_enter Try.func44, Try.ntmps44
    go_wp2_with fail
    refine (sbase_eq E1.out _).mono ?_
    rintro e w9 ⟨rfl, rfl⟩
    go_wp2
    refine bodyPost_ret (v := .tuple #[.agg #[.int .i64 0, .int .i64 0], .int .i64 2]) (by simp only [results, Try.results44]; go_simp) rfl ?_
    refine ⟨ret_f2 (by rw [HR.out]), ?_⟩
    repeat first | (with_reducible exact (bl_refl _)) | (with_reducible refine bl_alloc ?_ _) | (with_reducible refine bl_drew ?_) | (with_reducible refine bl_set ?_ (by first | exact Nat.le_refl _ | (simp; done) | (simp; omega)) _)
  | true =>
    cases e2 : inB wh (-1000000000) 1000000000 with
    | false =>
      have HR := Lib.hid (show frDigF b wh xs ys = ((0, 0), 2) by simp [frDigF, e1, e2])
      have E1 := Lib.hid e1
      clear e1
      have E2 := Lib.hid e2
      clear e2
      go_enter Try.func44, Try.ntmps44
      go_wp2_with fail
      refine (sbase_eq E1.out _).mono ?_
      rintro e w9 ⟨rfl, rfl⟩
      go_wp2_with fail
      refine (in_eq' E2.out _).mono ?_
      rintro e w9 ⟨rfl, rfl⟩
      go_wp2
      refine bodyPost_ret (v := .tuple #[.agg #[.int .i64 0, .int .i64 0], .int .i64 2]) (by simp only [results, Try.results44]; go_simp) rfl ?_
      refine ⟨ret_f2 (by rw [HR.out]), ?_⟩
      repeat first | (with_reducible exact (bl_refl _)) | (with_reducible refine bl_alloc ?_ _) | (with_reducible refine bl_drew ?_) | (with_reducible refine bl_set ?_ (by first | exact Nat.le_refl _ | (simp; done) | (simp; omega)) _)
    | true =>
      cases e3 : digP b xs with
      | false =>
        have HR := Lib.hid (show frDigF b wh xs ys = ((0, 0), 2) by simp [frDigF, e1, e2, e3])
        have hbb := inB_iff.1 e1
        have E1 := Lib.hid e1
        clear e1
        have E2 := Lib.hid e2
        clear e2
        have E3 := Lib.hid e3
        clear e3
        go_enter Try.func44, Try.ntmps44
        go_wp2_with fail
        refine (sbase_eq E1.out _).mono ?_
        rintro e w9 ⟨rfl, rfl⟩
        go_wp2_with fail
        refine (in_eq' E2.out _).mono ?_
        rintro e w9 ⟨rfl, rfl⟩
        go_wp2_with fail
        refine (sdig_eq E3.out _ hbb (ha.below (bl_alloc (bl_refl _) _)) lx).mono ?_
        rintro e w1 ⟨rfl, hb1⟩
        have B1 : Bl w w1 := bl_call (bl_alloc (bl_refl _) _) hb1
        have xR_1 : Bx w1 (w.heap.size) #[.int .i64 0, .int .i64 0] := (Bx.new (b := w.heap.size) _ #[.int .i64 0, .int .i64 0] 24 (by first | rfl | simp)).below hb1
        obtain ⟨cR_1, fR_1, zR_1⟩ := xR_1.out
        go_wp2
        refine bodyPost_ret (v := .tuple #[.agg #[.int .i64 0, .int .i64 0], .int .i64 2]) (by simp only [results, Try.results44]; go_simp) rfl ?_
        refine ⟨ret_f2 (by rw [HR.out]), ?_⟩
        repeat first | (with_reducible exact B1) | (with_reducible refine bl_alloc ?_ _) | (with_reducible refine bl_drew ?_) | (with_reducible refine bl_set ?_ (by first | exact Nat.le_refl _ | (simp; done) | (simp; omega)) _)
      | true =>
        cases e4 : digP b ys with
        | false =>
          have HR := Lib.hid (show frDigF b wh xs ys = ((0, 0), 2) by simp [frDigF, e1, e2, e3, e4])
          have hbb := inB_iff.1 e1
          have E1 := Lib.hid e1
          clear e1
          have E2 := Lib.hid e2
          clear e2
          have E3 := Lib.hid e3
          clear e3
          have E4 := Lib.hid e4
          clear e4
          go_enter Try.func44, Try.ntmps44
          go_wp2_with fail
          refine (sbase_eq E1.out _).mono ?_
          rintro e w9 ⟨rfl, rfl⟩
          go_wp2_with fail
          refine (in_eq' E2.out _).mono ?_
          rintro e w9 ⟨rfl, rfl⟩
          go_wp2_with fail
          refine (sdig_eq E3.out _ hbb (ha.below (bl_alloc (bl_refl _) _)) lx).mono ?_
          rintro e w1 ⟨rfl, hb1⟩
          have B1 : Bl w w1 := bl_call (bl_alloc (bl_refl _) _) hb1
          have xR_1 : Bx w1 (w.heap.size) #[.int .i64 0, .int .i64 0] := (Bx.new (b := w.heap.size) _ #[.int .i64 0, .int .i64 0] 24 (by first | rfl | simp)).below hb1
          obtain ⟨cR_1, fR_1, zR_1⟩ := xR_1.out
          go_wp2_with fail
          refine (sdig_eq E4.out _ hbb (hb.below B1) ly).mono ?_
          rintro e w2 ⟨rfl, hb2⟩
          have B2 : Bl w w2 := bl_call B1 hb2
          have xR_2 : Bx w2 (w.heap.size) #[.int .i64 0, .int .i64 0] := xR_1.below hb2
          clear cR_1 fR_1 zR_1
          obtain ⟨cR_2, fR_2, zR_2⟩ := xR_2.out
          go_wp2
          refine bodyPost_ret (v := .tuple #[.agg #[.int .i64 0, .int .i64 0], .int .i64 2]) (by simp only [results, Try.results44]; go_simp) rfl ?_
          refine ⟨ret_f2 (by rw [HR.out]), ?_⟩
          repeat first | (with_reducible exact B2) | (with_reducible refine bl_alloc ?_ _) | (with_reducible refine bl_drew ?_) | (with_reducible refine bl_set ?_ (by first | exact Nat.le_refl _ | (simp; done) | (simp; omega)) _)
        | true =>
          obtain ⟨p, hp⟩ : ∃ p, b ^ xs.length = p := ⟨_, rfl⟩
          obtain ⟨r, hr⟩ : ∃ r, b ^ ys.length = r := ⟨_, rfl⟩
          obtain ⟨u, hu⟩ : ∃ u, numF b xs = u := ⟨_, rfl⟩
          obtain ⟨v, hv⟩ : ∃ v, numF b ys = v := ⟨_, rfl⟩
          have HR : frDigF b wh xs ys = (if p ≤ 1000000000 ∧ r ≤ 1000000000 ∧ p * (r - 1) ≤ 1000000000 then (if ys.length = 0 then fr3 (fullF (wh * p + u) p) else fr3 (fullF (wh * (p * (r - 1)) + (u * (r - 1) + v)) (p * (r - 1)))) else ((0, 0), 5)) := by
            rw [frDigF, e1, e2, e3, e4, hp, hr, hu, hv]
            rfl
          have HR := Lib.hid HR
          have hbb := inB_iff.1 e1
          have hwh := inB_iff.1 e2
          have p1 := pow_pos' hbb.1 xs.length
          have r1 := pow_pos' hbb.1 ys.length
          have u1 := numF_all hbb.1 e3
          have v1 := numF_all hbb.1 e4
          rw [hp] at p1
          rw [hr] at r1
          rw [hp, hu] at u1
          rw [hr, hv] at v1
          have r2 : 0 < ys.length → 2 ≤ r := fun h => by have q := pow_le hbb.1 (show 1 ≤ ys.length from h); have q1 : b ^ 1 = b := (by rw [show (1 : Nat) = 0 + 1 from rfl, Int.pow_succ]; simp); omega
          have r0 : ys.length = 0 → r = 1 := fun h => by rw [← hr, h]; simp
          have R2 := Lib.hid r2
          have R0 := Lib.hid r0
          clear r2 r0
          have Hp := Lib.hid hp
          clear hp
          have Hr := Lib.hid hr
          clear hr
          have Hu := Lib.hid hu
          clear hu
          have Hv := Lib.hid hv
          clear hv
          have E1 := Lib.hid e1
          clear e1
          have E2 := Lib.hid e2
          clear e2
          have E3 := Lib.hid e3
          clear e3
          have E4 := Lib.hid e4
          clear e4
          go_enter Try.func44, Try.ntmps44
          go_wp2_with fail
          refine (sbase_eq E1.out _).mono ?_
          rintro e w9 ⟨rfl, rfl⟩
          go_wp2_with fail
          refine (in_eq' E2.out _).mono ?_
          rintro e w9 ⟨rfl, rfl⟩
          go_wp2_with fail
          refine (sdig_eq E3.out _ hbb (ha.below (bl_alloc (bl_refl _) _)) lx).mono ?_
          rintro e w1 ⟨rfl, hb1⟩
          have B1 : Bl w w1 := bl_call (bl_alloc (bl_refl _) _) hb1
          have xR_1 : Bx w1 (w.heap.size) #[.int .i64 0, .int .i64 0] := (Bx.new (b := w.heap.size) _ #[.int .i64 0, .int .i64 0] 24 (by first | rfl | simp)).below hb1
          obtain ⟨cR_1, fR_1, zR_1⟩ := xR_1.out
          go_wp2_with fail
          refine (sdig_eq E4.out _ hbb (hb.below B1) ly).mono ?_
          rintro e w2 ⟨rfl, hb2⟩
          have B2 : Bl w w2 := bl_call B1 hb2
          have xR_2 : Bx w2 (w.heap.size) #[.int .i64 0, .int .i64 0] := xR_1.below hb2
          clear cR_1 fR_1 zR_1
          obtain ⟨cR_2, fR_2, zR_2⟩ := xR_2.out
          rcases Int.lt_or_le 1000000000 p with hq | hq
          ·
            have HQ := Lib.hid hq
            go_wp2_with fail
            refine (val_no Hp.out (by omega) _ hbb (ha.below B2) lx E3.out).mono ?_
            rintro e w3 ⟨rfl, hb3⟩
            have B3 : Bl w w3 := bl_call B2 hb3
            have xR_3 : Bx w3 (w.heap.size) #[.int .i64 0, .int .i64 0] := xR_2.below hb3
            clear cR_2 fR_2 zR_2
            obtain ⟨cR_3, fR_3, zR_3⟩ := xR_3.out
            rcases Int.lt_or_le 1000000000 r with hq2 | hq2
            ·
              go_wp2_with fail
              refine (val_no Hr.out (by omega) _ hbb (hb.below B3) ly E4.out).mono ?_
              rintro e w4 ⟨rfl, hb4⟩
              have B4 : Bl w w4 := bl_call B3 hb4
              have xR_4 : Bx w4 (w.heap.size) #[.int .i64 0, .int .i64 0] := xR_3.below hb4
              clear cR_3 fR_3 zR_3
              obtain ⟨cR_4, fR_4, zR_4⟩ := xR_4.out
              go_wp2
              refine bodyPost_ret (v := .tuple #[.agg #[.int .i64 0, .int .i64 0], .int .i64 5]) (by simp only [results, Try.results44]; go_simp) rfl ?_
              refine ⟨ret_f2 (by rw [HR.out, if_neg (by have q := HQ.out; omega)]), ?_⟩
              repeat first | (with_reducible exact B4) | (with_reducible refine bl_alloc ?_ _) | (with_reducible refine bl_drew ?_) | (with_reducible refine bl_set ?_ (by first | exact Nat.le_refl _ | (simp; done) | (simp; omega)) _)
            ·
              go_wp2_with fail
              refine (val_eq Hr.out Hv.out (by omega) _ hbb (hb.below B3) ly E4.out).mono ?_
              rintro e w4 ⟨rfl, hb4⟩
              have B4 : Bl w w4 := bl_call B3 hb4
              have xR_4 : Bx w4 (w.heap.size) #[.int .i64 0, .int .i64 0] := xR_3.below hb4
              clear cR_3 fR_3 zR_3
              obtain ⟨cR_4, fR_4, zR_4⟩ := xR_4.out
              go_wp2
              refine bodyPost_ret (v := .tuple #[.agg #[.int .i64 0, .int .i64 0], .int .i64 5]) (by simp only [results, Try.results44]; go_simp) rfl ?_
              refine ⟨ret_f2 (by rw [HR.out, if_neg (by have q := HQ.out; omega)]), ?_⟩
              repeat first | (with_reducible exact B4) | (with_reducible refine bl_alloc ?_ _) | (with_reducible refine bl_drew ?_) | (with_reducible refine bl_set ?_ (by first | exact Nat.le_refl _ | (simp; done) | (simp; omega)) _)
          ·
            go_wp2_with fail
            refine (val_eq Hp.out Hu.out (by omega) _ hbb (ha.below B2) lx E3.out).mono ?_
            rintro e w3 ⟨rfl, hb3⟩
            have B3 : Bl w w3 := bl_call B2 hb3
            have xR_3 : Bx w3 (w.heap.size) #[.int .i64 0, .int .i64 0] := xR_2.below hb3
            clear cR_2 fR_2 zR_2
            obtain ⟨cR_3, fR_3, zR_3⟩ := xR_3.out
            rcases Int.lt_or_le 1000000000 r with hq2 | hq2
            ·
              have HQ := Lib.hid hq2
              go_wp2_with fail
              refine (val_no Hr.out (by omega) _ hbb (hb.below B3) ly E4.out).mono ?_
              rintro e w4 ⟨rfl, hb4⟩
              have B4 : Bl w w4 := bl_call B3 hb4
              have xR_4 : Bx w4 (w.heap.size) #[.int .i64 0, .int .i64 0] := xR_3.below hb4
              clear cR_3 fR_3 zR_3
              obtain ⟨cR_4, fR_4, zR_4⟩ := xR_4.out
              go_wp2
              refine bodyPost_ret (v := .tuple #[.agg #[.int .i64 0, .int .i64 0], .int .i64 5]) (by simp only [results, Try.results44]; go_simp) rfl ?_
              refine ⟨ret_f2 (by rw [HR.out, if_neg (by have q := HQ.out; omega)]), ?_⟩
              repeat first | (with_reducible exact B4) | (with_reducible refine bl_alloc ?_ _) | (with_reducible refine bl_drew ?_) | (with_reducible refine bl_set ?_ (by first | exact Nat.le_refl _ | (simp; done) | (simp; omega)) _)
            ·
              go_wp2_with fail
              refine (val_eq Hr.out Hv.out (by omega) _ hbb (hb.below B3) ly E4.out).mono ?_
              rintro e w4 ⟨rfl, hb4⟩
              have B4 : Bl w w4 := bl_call B3 hb4
              have xR_4 : Bx w4 (w.heap.size) #[.int .i64 0, .int .i64 0] := xR_3.below hb4
              clear cR_3 fR_3 zR_3
              obtain ⟨cR_4, fR_4, zR_4⟩ := xR_4.out
              have m0 := mulb' (show -1000000000 ≤ p ∧ p ≤ 1000000000 by omega) (show 0 ≤ r - 1 ∧ r - 1 ≤ 1000000000 by omega)
              have qg := fun h => quo_gt' (b := r - 1) (o := p) h
              have QG := Lib.hid qg
              clear qg
              rcases Nat.eq_zero_or_pos ys.length with hy | hy
              ·
                obtain rfl := R0.out hy
                have HY := Lib.hid hy
                have hz : p * (1 - 1) = 0 := by simp
                have HC := Lib.hid (show frDigF b wh xs ys = fr3 (fullF (wh * p + u) p) by rw [HR.out, if_pos ⟨by omega, by omega, by rw [hz]; omega⟩, if_pos hy])
                have cz : decide (0 < ys.length) = false := by simp [hy]
                clear m0
                have m1 := mulb' hwh (show 0 ≤ p ∧ p ≤ 1000000000 by omega)
                clear hy
                go_wp2_with fail
                refine (full_any (wh * p + u) p _ (by omega) (by omega) (by omega) (by omega) (by omega)).mono ?_
                rintro e w5 ⟨rfl, hb5⟩
                have B5 : Bl w w5 := bl_call B4 hb5
                have xR_5 : Bx w5 (w.heap.size) #[.int .i64 0, .int .i64 0] := xR_4.below hb5
                clear cR_4 fR_4 zR_4
                obtain ⟨cR_5, fR_5, zR_5⟩ := xR_5.out
                go_wp2
                refine bodyPost_ret (v := .tuple #[.agg #[.int .i64 (fullF (wh * p + u) p).1, .int .i64 (fullF (wh * p + u) p).2.1], .int .i64 (fullF (wh * p + u) p).2.2]) (by simp only [results, Try.results44]; go_simp) rfl ?_
                refine ⟨ret_fr3 (by rw [HC.out]; rfl), ?_⟩
                repeat first | (with_reducible exact B5) | (with_reducible refine bl_alloc ?_ _) | (with_reducible refine bl_drew ?_) | (with_reducible refine bl_set ?_ (by first | exact Nat.le_refl _ | (simp; done) | (simp; omega)) _)
              ·
                have hr2 := R2.out hy
                have hy1 : (0 : Int) < (ys.length : Int) := by omega
                rcases Int.lt_or_le 1000000000 (p * (r - 1)) with hq3 | hq3
                ·
                  have HQ := Lib.hid hq3
                  have cq : decide (1000000000 / (r - 1) < p) = true := by rw [decide_eq_true_iff]; exact (QG.out (by omega)).2 hq3
                  go_wp2
                  refine bodyPost_ret (v := .tuple #[.agg #[.int .i64 0, .int .i64 0], .int .i64 5]) (by simp only [results, Try.results44]; go_simp) rfl ?_
                  refine ⟨ret_f2 (by rw [HR.out, if_neg (by have q := HQ.out; omega)]), ?_⟩
                  repeat first | (with_reducible exact B4) | (with_reducible refine bl_alloc ?_ _) | (with_reducible refine bl_drew ?_) | (with_reducible refine bl_set ?_ (by first | exact Nat.le_refl _ | (simp; done) | (simp; omega)) _)
                ·
                  have HC := Lib.hid (show frDigF b wh xs ys = fr3 (fullF (wh * (p * (r - 1)) + (u * (r - 1) + v)) (p * (r - 1))) by rw [HR.out, if_pos (by omega), if_neg (by omega)])
                  have cq : decide (1000000000 / (r - 1) < p) = false := by rw [decide_eq_false_iff_not]; intro h; have := (QG.out (by omega)).1 h; omega
                  have m2 := mulb' (show -1000000000 ≤ u ∧ u ≤ 1000000000 by omega) (show 0 ≤ r - 1 ∧ r - 1 ≤ 1000000000 by omega)
                  have m3 := Int.mul_le_mul_of_nonneg_right (show 1 ≤ p by omega) (show 0 ≤ r - 1 by omega)
                  have m4 := mulb' hwh (show 0 ≤ p * (r - 1) ∧ p * (r - 1) ≤ 1000000000 by omega)
                  have m5 := Int.mul_le_mul_of_nonneg_right (show u ≤ p by omega) (show 0 ≤ r - 1 by omega)
                  have m6 := Int.mul_nonneg (show 0 ≤ u by omega) (show 0 ≤ r - 1 by omega)
                  go_wp2_with fail
                  refine (full_any (wh * (p * (r - 1)) + (u * (r - 1) + v)) (p * (r - 1)) _ (by omega) (by omega) (by omega) (by omega) (by omega)).mono ?_
                  rintro e w5 ⟨rfl, hb5⟩
                  have B5 : Bl w w5 := bl_call B4 hb5
                  have xR_5 : Bx w5 (w.heap.size) #[.int .i64 0, .int .i64 0] := xR_4.below hb5
                  clear cR_4 fR_4 zR_4
                  obtain ⟨cR_5, fR_5, zR_5⟩ := xR_5.out
                  go_wp2
                  refine bodyPost_ret (v := .tuple #[.agg #[.int .i64 (fullF (wh * (p * (r - 1)) + (u * (r - 1) + v)) (p * (r - 1))).1, .int .i64 (fullF (wh * (p * (r - 1)) + (u * (r - 1) + v)) (p * (r - 1))).2.1], .int .i64 (fullF (wh * (p * (r - 1)) + (u * (r - 1) + v)) (p * (r - 1))).2.2]) (by simp only [results, Try.results44]; go_simp) rfl ?_
                  refine ⟨ret_fr3 (by rw [HC.out]; rfl), ?_⟩
                  repeat first | (with_reducible exact B5) | (with_reducible refine bl_alloc ?_ _) | (with_reducible refine bl_drew ?_) | (with_reducible refine bl_set ?_ (by first | exact Nat.le_refl _ | (simp; done) | (simp; omega)) _)

end Go.Proofs.Yteejfiflidfciaa
