/- States: validity, terms fed and emitted. Each theorem names its conditions. -/
import Derived.Test.YtgmofofokhlhnaaSt
namespace Go.Proofs.Ytgmofofokhlhnaa
open Go.RowKit
set_option linter.unusedVariables false
set_option linter.unusedSimpArgs false

theorem mulbdS {x y : Int} (h1 : -1000000000 ≤ x ∧ x ≤ 1000000000) (h2 : -1000000000 ≤ y ∧ y ≤ 1000000000) : -1000000000000000000 ≤ x * y ∧ x * y ≤ 1000000000000000000 := by
  rcases Int.lt_or_le y 0 with c | c
  · have a1 := Int.mul_le_mul_of_nonneg_right h1.1 (show 0 ≤ -y by omega)
    have a2 := Int.mul_le_mul_of_nonneg_right h1.2 (show 0 ≤ -y by omega)
    have e : x * -y = -(x * y) := Int.mul_neg x y
    omega
  · have a1 := Int.mul_le_mul_of_nonneg_right h1.1 c
    have a2 := Int.mul_le_mul_of_nonneg_right h1.2 c
    omega

set_option maxRecDepth 100000 in
set_option maxHeartbeats 1600000 in
theorem isb_any (s : St) (w : World) : Calls Try.prog 147 #[.agg #[.int .i64 s.a, .int .i64 s.b, .int .i64 s.c, .int .i64 s.d]] w fun e w' => e = .returned (.bool (bdS s)) ∧ Bl w w' := by
  cases e0 : bdN s.a with
  | false =>
    have E0 := Lib.hid e0
    have HR := Lib.hid (show false = bdS s by simp [bdS, e0])
    clear e0
    go_enter Try.func147, Try.ntmps147
    go_wp2_with fail
    refine (inB_eqS E0.out _).mono ?_
    rintro e w9 ⟨rfl, rfl⟩
    go_wp2
    go_ret
    exact ⟨ret_bool HR.out, (bl_alloc (bl_refl _) _)⟩
  | true =>
    cases e1 : bdN s.b with
    | false =>
      have E0 := Lib.hid e0
      have E1 := Lib.hid e1
      have HR := Lib.hid (show false = bdS s by simp [bdS, e0, e1])
      clear e0 e1
      go_enter Try.func147, Try.ntmps147
      go_wp2_with fail
      refine (inB_eqS E0.out _).mono ?_
      rintro e w9 ⟨rfl, rfl⟩
      go_wp2_with fail
      refine (inB_eqS E1.out _).mono ?_
      rintro e w9 ⟨rfl, rfl⟩
      go_wp2
      go_ret
      exact ⟨ret_bool HR.out, (bl_alloc (bl_refl _) _)⟩
    | true =>
      cases e2 : bdN s.c with
      | false =>
        have E0 := Lib.hid e0
        have E1 := Lib.hid e1
        have E2 := Lib.hid e2
        have HR := Lib.hid (show false = bdS s by simp [bdS, e0, e1, e2])
        clear e0 e1 e2
        go_enter Try.func147, Try.ntmps147
        go_wp2_with fail
        refine (inB_eqS E0.out _).mono ?_
        rintro e w9 ⟨rfl, rfl⟩
        go_wp2_with fail
        refine (inB_eqS E1.out _).mono ?_
        rintro e w9 ⟨rfl, rfl⟩
        go_wp2_with fail
        refine (inB_eqS E2.out _).mono ?_
        rintro e w9 ⟨rfl, rfl⟩
        go_wp2
        go_ret
        exact ⟨ret_bool HR.out, (bl_alloc (bl_refl _) _)⟩
      | true =>
        cases e3 : bdN s.d with
        | false =>
          have E0 := Lib.hid e0
          have E1 := Lib.hid e1
          have E2 := Lib.hid e2
          have E3 := Lib.hid e3
          have HR := Lib.hid (show false = bdS s by simp [bdS, e0, e1, e2, e3])
          clear e0 e1 e2 e3
          go_enter Try.func147, Try.ntmps147
          go_wp2_with fail
          refine (inB_eqS E0.out _).mono ?_
          rintro e w9 ⟨rfl, rfl⟩
          go_wp2_with fail
          refine (inB_eqS E1.out _).mono ?_
          rintro e w9 ⟨rfl, rfl⟩
          go_wp2_with fail
          refine (inB_eqS E2.out _).mono ?_
          rintro e w9 ⟨rfl, rfl⟩
          go_wp2_with fail
          refine (inB_eqS E3.out _).mono ?_
          rintro e w9 ⟨rfl, rfl⟩
          go_wp2
          go_ret
          exact ⟨ret_bool HR.out, (bl_alloc (bl_refl _) _)⟩
        | true =>
          have E0 := Lib.hid e0
          have E1 := Lib.hid e1
          have E2 := Lib.hid e2
          have E3 := Lib.hid e3
          have HR := Lib.hid (show true = bdS s by simp [bdS, e0, e1, e2, e3])
          clear e0 e1 e2 e3
          go_enter Try.func147, Try.ntmps147
          go_wp2_with fail
          refine (inB_eqS E0.out _).mono ?_
          rintro e w9 ⟨rfl, rfl⟩
          go_wp2_with fail
          refine (inB_eqS E1.out _).mono ?_
          rintro e w9 ⟨rfl, rfl⟩
          go_wp2_with fail
          refine (inB_eqS E2.out _).mono ?_
          rintro e w9 ⟨rfl, rfl⟩
          go_wp2_with fail
          refine (inB_eqS E3.out _).mono ?_
          rintro e w9 ⟨rfl, rfl⟩
          go_wp2
          go_ret
          exact ⟨ret_bool HR.out, (bl_alloc (bl_refl _) _)⟩

set_option maxRecDepth 100000 in
set_option maxHeartbeats 1600000 in
theorem sfits_any (s : St) (w : World) : Calls Try.prog 146 #[.agg #[.int .i64 s.a, .int .i64 s.b, .int .i64 s.c, .int .i64 s.d]] w fun e w' => e = .returned (.bool (bdS s)) ∧ Bl w w' := by
  cases e0 : bdN s.a with
  | false =>
    have E0 := Lib.hid e0
    have HR := Lib.hid (show false = bdS s by simp [bdS, e0])
    clear e0
    go_enter Try.func146, Try.ntmps146
    go_wp2_with fail
    refine (num_eq E0.out _).mono ?_
    rintro e w9 ⟨rfl, rfl⟩
    go_wp2
    go_ret
    exact ⟨ret_bool HR.out, (bl_alloc (bl_refl _) _)⟩
  | true =>
    cases e1 : bdN s.b with
    | false =>
      have E0 := Lib.hid e0
      have E1 := Lib.hid e1
      have HR := Lib.hid (show false = bdS s by simp [bdS, e0, e1])
      clear e0 e1
      go_enter Try.func146, Try.ntmps146
      go_wp2_with fail
      refine (num_eq E0.out _).mono ?_
      rintro e w9 ⟨rfl, rfl⟩
      go_wp2_with fail
      refine (num_eq E1.out _).mono ?_
      rintro e w9 ⟨rfl, rfl⟩
      go_wp2
      go_ret
      exact ⟨ret_bool HR.out, (bl_alloc (bl_refl _) _)⟩
    | true =>
      cases e2 : bdN s.c with
      | false =>
        have E0 := Lib.hid e0
        have E1 := Lib.hid e1
        have E2 := Lib.hid e2
        have HR := Lib.hid (show false = bdS s by simp [bdS, e0, e1, e2])
        clear e0 e1 e2
        go_enter Try.func146, Try.ntmps146
        go_wp2_with fail
        refine (num_eq E0.out _).mono ?_
        rintro e w9 ⟨rfl, rfl⟩
        go_wp2_with fail
        refine (num_eq E1.out _).mono ?_
        rintro e w9 ⟨rfl, rfl⟩
        go_wp2_with fail
        refine (num_eq E2.out _).mono ?_
        rintro e w9 ⟨rfl, rfl⟩
        go_wp2
        go_ret
        exact ⟨ret_bool HR.out, (bl_alloc (bl_refl _) _)⟩
      | true =>
        cases e3 : bdN s.d with
        | false =>
          have E0 := Lib.hid e0
          have E1 := Lib.hid e1
          have E2 := Lib.hid e2
          have E3 := Lib.hid e3
          have HR := Lib.hid (show false = bdS s by simp [bdS, e0, e1, e2, e3])
          clear e0 e1 e2 e3
          go_enter Try.func146, Try.ntmps146
          go_wp2_with fail
          refine (num_eq E0.out _).mono ?_
          rintro e w9 ⟨rfl, rfl⟩
          go_wp2_with fail
          refine (num_eq E1.out _).mono ?_
          rintro e w9 ⟨rfl, rfl⟩
          go_wp2_with fail
          refine (num_eq E2.out _).mono ?_
          rintro e w9 ⟨rfl, rfl⟩
          go_wp2_with fail
          refine (num_eq E3.out _).mono ?_
          rintro e w9 ⟨rfl, rfl⟩
          go_wp2
          go_ret
          exact ⟨ret_bool HR.out, (bl_alloc (bl_refl _) _)⟩
        | true =>
          have E0 := Lib.hid e0
          have E1 := Lib.hid e1
          have E2 := Lib.hid e2
          have E3 := Lib.hid e3
          have HR := Lib.hid (show true = bdS s by simp [bdS, e0, e1, e2, e3])
          clear e0 e1 e2 e3
          go_enter Try.func146, Try.ntmps146
          go_wp2_with fail
          refine (num_eq E0.out _).mono ?_
          rintro e w9 ⟨rfl, rfl⟩
          go_wp2_with fail
          refine (num_eq E1.out _).mono ?_
          rintro e w9 ⟨rfl, rfl⟩
          go_wp2_with fail
          refine (num_eq E2.out _).mono ?_
          rintro e w9 ⟨rfl, rfl⟩
          go_wp2_with fail
          refine (num_eq E3.out _).mono ?_
          rintro e w9 ⟨rfl, rfl⟩
          go_wp2
          go_ret
          exact ⟨ret_bool HR.out, (bl_alloc (bl_refl _) _)⟩

set_option maxRecDepth 100000 in
set_option maxHeartbeats 1600000 in
theorem iok_any (s : St) (w : World) : Calls Try.prog 105 #[.agg #[.int .i64 s.a, .int .i64 s.b, .int .i64 s.c, .int .i64 s.d]] w fun e w' => e = .returned (.bool (okS s)) ∧ Bl w w' := by
  cases e : bdS s with
  | false =>
    have E := Lib.hid e
    have HR := Lib.hid (show false = okS s by simp [okS, e])
    clear e
    go_enter Try.func105, Try.ntmps105
    go_wp2_with fail
    refine (isb_any s _).mono ?_
    rintro e w1 ⟨rfl, hb1⟩
    have B1 : Bl w w1 := bl_call (bl_alloc (bl_refl _) _) hb1
    have xS_1 : Bx w1 (w.heap.size) #[.int .i64 s.a, .int .i64 s.b, .int .i64 s.c, .int .i64 s.d] := (Bx.new (b := w.heap.size) _ #[.int .i64 s.a, .int .i64 s.b, .int .i64 s.c, .int .i64 s.d] 52 (by first | rfl | simp)).below hb1
    obtain ⟨cS_1, fS_1, zS_1⟩ := xS_1.out
    rw [E.out]
    go_wp2
    go_ret
    exact ⟨ret_bool HR.out, B1⟩
  | true =>
    have hb := bdS_iff.1 e
    have b1 := mulbdS hb.1 hb.2.2.2
    have b2 := mulbdS hb.2.1 hb.2.2.1
    have E := Lib.hid e
    have HR := Lib.hid (show (s.a * s.d != s.b * s.c) = okS s by simp [okS, e])
    clear e
    go_enter Try.func105, Try.ntmps105
    go_wp2_with fail
    refine (isb_any s _).mono ?_
    rintro e w1 ⟨rfl, hb1⟩
    have B1 : Bl w w1 := bl_call (bl_alloc (bl_refl _) _) hb1
    have xS_1 : Bx w1 (w.heap.size) #[.int .i64 s.a, .int .i64 s.b, .int .i64 s.c, .int .i64 s.d] := (Bx.new (b := w.heap.size) _ #[.int .i64 s.a, .int .i64 s.b, .int .i64 s.c, .int .i64 s.d] 52 (by first | rfl | simp)).below hb1
    obtain ⟨cS_1, fS_1, zS_1⟩ := xS_1.out
    rw [E.out]
    go_wp2
    go_ret
    exact ⟨ret_bool HR.out, B1⟩

set_option maxRecDepth 100000 in
set_option maxHeartbeats 1600000 in
theorem sok_any (s : St) (w : World) : Calls Try.prog 103 #[.agg #[.int .i64 s.a, .int .i64 s.b, .int .i64 s.c, .int .i64 s.d]] w fun e w' => e = .returned (.bool (okS s)) ∧ Bl w w' := by
  cases e : bdS s with
  | false =>
    have E := Lib.hid e
    have HR := Lib.hid (show false = okS s by simp [okS, e])
    clear e
    go_enter Try.func103, Try.ntmps103
    go_wp2_with fail
    refine (sfits_any s _).mono ?_
    rintro e w1 ⟨rfl, hb1⟩
    have B1 : Bl w w1 := bl_call (bl_alloc (bl_refl _) _) hb1
    have xS_1 : Bx w1 (w.heap.size) #[.int .i64 s.a, .int .i64 s.b, .int .i64 s.c, .int .i64 s.d] := (Bx.new (b := w.heap.size) _ #[.int .i64 s.a, .int .i64 s.b, .int .i64 s.c, .int .i64 s.d] 52 (by first | rfl | simp)).below hb1
    obtain ⟨cS_1, fS_1, zS_1⟩ := xS_1.out
    rw [E.out]
    go_wp2
    go_ret
    exact ⟨ret_bool HR.out, B1⟩
  | true =>
    have hb := bdS_iff.1 e
    have b1 := mulbdS hb.1 hb.2.2.2
    have b2 := mulbdS hb.2.1 hb.2.2.1
    have E := Lib.hid e
    have HR := Lib.hid (show (s.a * s.d != s.b * s.c) = okS s by simp [okS, e])
    clear e
    go_enter Try.func103, Try.ntmps103
    go_wp2_with fail
    refine (sfits_any s _).mono ?_
    rintro e w1 ⟨rfl, hb1⟩
    have B1 : Bl w w1 := bl_call (bl_alloc (bl_refl _) _) hb1
    have xS_1 : Bx w1 (w.heap.size) #[.int .i64 s.a, .int .i64 s.b, .int .i64 s.c, .int .i64 s.d] := (Bx.new (b := w.heap.size) _ #[.int .i64 s.a, .int .i64 s.b, .int .i64 s.c, .int .i64 s.d] 52 (by first | rfl | simp)).below hb1
    obtain ⟨cS_1, fS_1, zS_1⟩ := xS_1.out
    rw [E.out]
    go_wp2
    go_ret
    exact ⟨ret_bool HR.out, B1⟩

set_option maxRecDepth 100000 in
set_option maxHeartbeats 1600000 in
theorem ifed_any (s : St) (t : Int) (w : World) (e : bdS s = true) (ht : -1000000000 ≤ t ∧ t ≤ 1000000000) : Calls Try.prog 108 #[.agg #[.int .i64 s.a, .int .i64 s.b, .int .i64 s.c, .int .i64 s.d], .int .i64 t] w fun e w' => e = .returned (.agg #[.int .i64 (fedF s t).a, .int .i64 (fedF s t).b, .int .i64 (fedF s t).c, .int .i64 (fedF s t).d]) ∧ Bl w w' := by
  have hb := bdS_iff.1 e
  have b1 := mulbdS hb.1 ht
  have b2 := mulbdS hb.2.2.1 ht
  have b3 := mulbdS ht hb.2.2.1
  have b4 := mulbdS ht hb.2.2.2
  clear e
  go_enter Try.func108, Try.ntmps108
  go_wp2
  refine bodyPost_ret (v := .agg #[.int .i64 (s.a * t + s.b), .int .i64 (s.a), .int .i64 (s.c * t + s.d), .int .i64 (s.c)]) (by simp only [results, Try.results108]; go_simp) rfl ⟨rfl, ?_⟩
  repeat first | (with_reducible exact bl_refl _) | (with_reducible refine bl_alloc ?_ _) | (with_reducible refine bl_set ?_ (by first | exact Nat.le_refl _ | (simp; done) | (simp; omega)) _)

set_option maxRecDepth 100000 in
set_option maxHeartbeats 1600000 in
theorem iem_any (s : St) (t : Int) (w : World) (e : bdS s = true) (ht : -1000000000 ≤ t ∧ t ≤ 1000000000) : Calls Try.prog 151 #[.agg #[.int .i64 s.a, .int .i64 s.b, .int .i64 s.c, .int .i64 s.d], .int .i64 t] w fun e w' => e = .returned (.agg #[.int .i64 (emF s t).a, .int .i64 (emF s t).b, .int .i64 (emF s t).c, .int .i64 (emF s t).d]) ∧ Bl w w' := by
  have hb := bdS_iff.1 e
  have b1 := mulbdS hb.1 ht
  have b2 := mulbdS hb.2.2.1 ht
  have b3 := mulbdS ht hb.2.2.1
  have b4 := mulbdS ht hb.2.2.2
  clear e
  go_enter Try.func151, Try.ntmps151
  go_wp2
  refine bodyPost_ret (v := .agg #[.int .i64 (s.c), .int .i64 (s.d), .int .i64 (s.a - t * s.c), .int .i64 (s.b - t * s.d)]) (by simp only [results, Try.results151]; go_simp) rfl ⟨rfl, ?_⟩
  repeat first | (with_reducible exact bl_refl _) | (with_reducible refine bl_alloc ?_ _) | (with_reducible refine bl_set ?_ (by first | exact Nat.le_refl _ | (simp; done) | (simp; omega)) _)

set_option maxHeartbeats 800000 in
theorem iknownS_any (s : St) (w : World) (e : bdS s = true) : Calls Try.prog 150 #[.agg #[.int .i64 s.a, .int .i64 s.b, .int .i64 s.c, .int .i64 s.d]] w (KnE s.a s.b s.c s.d w) := by
  have hb := bdS_iff.1 e
  clear e
  go_enter Try.func150, Try.ntmps150
  go_wp2_with fail
  refine (iknown_any _ _ _ _ _ hb.1 hb.2.1 hb.2.2.1 hb.2.2.2).mono ?_
  rintro e w1 ⟨v, rfl, hk, hb1⟩
  have B1 : Bl w w1 := bl_call (bl_alloc (bl_refl _) _) hb1
  unfold KnP at hk
  cases hq : knV s.a s.b s.c s.d with
  | none =>
    rw [hq] at hk
    obtain ⟨q, rfl⟩ := hk
    have HQ := Lib.hid hq
    clear hq
    go_wp2
    go_ret2
    exact ⟨_, rfl, by rw [HQ.out]; exact ⟨q, rfl⟩, B1⟩
  | some q =>
    rw [hq] at hk
    simp only [] at hk
    subst hk
    have HQ := Lib.hid hq
    clear hq
    go_wp2
    go_ret2
    exact ⟨_, rfl, by rw [HQ.out]; rfl, B1⟩

end Go.Proofs.Ytgmofofokhlhnaa
