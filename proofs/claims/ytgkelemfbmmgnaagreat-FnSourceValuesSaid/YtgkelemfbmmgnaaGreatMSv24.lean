/- Some of the texts of this claim, joined in one file: St2, Str. -/
import Derived.Test.YtgkelemfbmmgnaaGreatMSv23
import Derived.Deep.LoopGhost
/- States: validity, terms fed and emitted. Each theorem names its conditions. -/
namespace Go.Proofs.YtgkelemfbmmgnaaGreat
open Go.RowKit
set_option linter.unusedVariables false
set_option linter.unusedSimpArgs false

theorem mulbdS {x y : Int} (h1 : -1000000000 ≤ x ∧ x ≤ 1000000000) (h2 : -1000000000 ≤ y ∧ y ≤ 1000000000) : -1000000000000000000 ≤ x * y ∧ x * y ≤ 1000000000000000000 := by
  rcases Int.lt_or_le y 0 with c | c
  · have a1 := Int.mul_le_mul_of_nonneg_right h1.1 (show 0 ≤ -y by omega)
    have a2 := Int.mul_le_mul_of_nonneg_right h1.2 (show 0 ≤ -y by omega)
    have e : x * -y = -(x * y) := Int.mul_neg x y
    omega
  · have a1 := Int.mul_le_mul_of_nonneg_right h1.1 c
    have a2 := Int.mul_le_mul_of_nonneg_right h1.2 c
    omega

set_option maxRecDepth 100000 in
set_option maxHeartbeats 1600000 in
theorem isb_any (s : St) (w : World) : Calls Tryz.prog 80 #[.agg #[.int .i64 s.a, .int .i64 s.b, .int .i64 s.c, .int .i64 s.d]] w fun e w' => e = .returned (.bool (bdS s)) ∧ Bl w w' := by
  cases e0 : bdN s.a with
  | false =>
    have E0 := Lib.hid e0
    have HR := Lib.hid (show false = bdS s by simp [bdS, e0])
    clear e0
    go_enter Tryz.func80, Tryz.ntmps80
    go_wp2_with fail
    refine (inB_eqS E0.out _).mono ?_
    rintro e w9 ⟨rfl, rfl⟩
    go_wp2
    go_ret
    exact ⟨ret_bool HR.out, (bl_alloc (bl_refl _) _)⟩
  | true =>
    cases e1 : bdN s.b with
    | false =>
      have E0 := Lib.hid e0
      have E1 := Lib.hid e1
      have HR := Lib.hid (show false = bdS s by simp [bdS, e0, e1])
      clear e0 e1
      go_enter Tryz.func80, Tryz.ntmps80
      go_wp2_with fail
      refine (inB_eqS E0.out _).mono ?_
      rintro e w9 ⟨rfl, rfl⟩
      go_wp2_with fail
      refine (inB_eqS E1.out _).mono ?_
      rintro e w9 ⟨rfl, rfl⟩
      go_wp2
      go_ret
      exact ⟨ret_bool HR.out, (bl_alloc (bl_refl _) _)⟩
    | true =>
      cases e2 : bdN s.c with
      | false =>
        have E0 := Lib.hid e0
        have E1 := Lib.hid e1
        have E2 := Lib.hid e2
        have HR := Lib.hid (show false = bdS s by simp [bdS, e0, e1, e2])
        clear e0 e1 e2
        go_enter Tryz.func80, Tryz.ntmps80
        go_wp2_with fail
        refine (inB_eqS E0.out _).mono ?_
        rintro e w9 ⟨rfl, rfl⟩
        go_wp2_with fail
        refine (inB_eqS E1.out _).mono ?_
        rintro e w9 ⟨rfl, rfl⟩
        go_wp2_with fail
        refine (inB_eqS E2.out _).mono ?_
        rintro e w9 ⟨rfl, rfl⟩
        go_wp2
        go_ret
        exact ⟨ret_bool HR.out, (bl_alloc (bl_refl _) _)⟩
      | true =>
        cases e3 : bdN s.d with
        | false =>
          have E0 := Lib.hid e0
          have E1 := Lib.hid e1
          have E2 := Lib.hid e2
          have E3 := Lib.hid e3
          have HR := Lib.hid (show false = bdS s by simp [bdS, e0, e1, e2, e3])
          clear e0 e1 e2 e3
          go_enter Tryz.func80, Tryz.ntmps80
          go_wp2_with fail
          refine (inB_eqS E0.out _).mono ?_
          rintro e w9 ⟨rfl, rfl⟩
          go_wp2_with fail
          refine (inB_eqS E1.out _).mono ?_
          rintro e w9 ⟨rfl, rfl⟩
          go_wp2_with fail
          refine (inB_eqS E2.out _).mono ?_
          rintro e w9 ⟨rfl, rfl⟩
          go_wp2_with fail
          refine (inB_eqS E3.out _).mono ?_
          rintro e w9 ⟨rfl, rfl⟩
          go_wp2
          go_ret
          exact ⟨ret_bool HR.out, (bl_alloc (bl_refl _) _)⟩
        | true =>
          have E0 := Lib.hid e0
          have E1 := Lib.hid e1
          have E2 := Lib.hid e2
          have E3 := Lib.hid e3
          have HR := Lib.hid (show true = bdS s by simp [bdS, e0, e1, e2, e3])
          clear e0 e1 e2 e3
          go_enter Tryz.func80, Tryz.ntmps80
          go_wp2_with fail
          refine (inB_eqS E0.out _).mono ?_
          rintro e w9 ⟨rfl, rfl⟩
          go_wp2_with fail
          refine (inB_eqS E1.out _).mono ?_
          rintro e w9 ⟨rfl, rfl⟩
          go_wp2_with fail
          refine (inB_eqS E2.out _).mono ?_
          rintro e w9 ⟨rfl, rfl⟩
          go_wp2_with fail
          refine (inB_eqS E3.out _).mono ?_
          rintro e w9 ⟨rfl, rfl⟩
          go_wp2
          go_ret
          exact ⟨ret_bool HR.out, (bl_alloc (bl_refl _) _)⟩

set_option maxRecDepth 100000 in
set_option maxHeartbeats 1600000 in
theorem sfits_any (s : St) (w : World) : Calls Tryz.prog 56 #[.agg #[.int .i64 s.a, .int .i64 s.b, .int .i64 s.c, .int .i64 s.d]] w fun e w' => e = .returned (.bool (bdS s)) ∧ Bl w w' := by
  cases e0 : bdN s.a with
  | false =>
    have E0 := Lib.hid e0
    have HR := Lib.hid (show false = bdS s by simp [bdS, e0])
    clear e0
    go_enter Tryz.func56, Tryz.ntmps56
    go_wp2_with fail
    refine (num_eq E0.out _).mono ?_
    rintro e w9 ⟨rfl, rfl⟩
    go_wp2
    go_ret
    exact ⟨ret_bool HR.out, (bl_alloc (bl_refl _) _)⟩
  | true =>
    cases e1 : bdN s.b with
    | false =>
      have E0 := Lib.hid e0
      have E1 := Lib.hid e1
      have HR := Lib.hid (show false = bdS s by simp [bdS, e0, e1])
      clear e0 e1
      go_enter Tryz.func56, Tryz.ntmps56
      go_wp2_with fail
      refine (num_eq E0.out _).mono ?_
      rintro e w9 ⟨rfl, rfl⟩
      go_wp2_with fail
      refine (num_eq E1.out _).mono ?_
      rintro e w9 ⟨rfl, rfl⟩
      go_wp2
      go_ret
      exact ⟨ret_bool HR.out, (bl_alloc (bl_refl _) _)⟩
    | true =>
      cases e2 : bdN s.c with
      | false =>
        have E0 := Lib.hid e0
        have E1 := Lib.hid e1
        have E2 := Lib.hid e2
        have HR := Lib.hid (show false = bdS s by simp [bdS, e0, e1, e2])
        clear e0 e1 e2
        go_enter Tryz.func56, Tryz.ntmps56
        go_wp2_with fail
        refine (num_eq E0.out _).mono ?_
        rintro e w9 ⟨rfl, rfl⟩
        go_wp2_with fail
        refine (num_eq E1.out _).mono ?_
        rintro e w9 ⟨rfl, rfl⟩
        go_wp2_with fail
        refine (num_eq E2.out _).mono ?_
        rintro e w9 ⟨rfl, rfl⟩
        go_wp2
        go_ret
        exact ⟨ret_bool HR.out, (bl_alloc (bl_refl _) _)⟩
      | true =>
        cases e3 : bdN s.d with
        | false =>
          have E0 := Lib.hid e0
          have E1 := Lib.hid e1
          have E2 := Lib.hid e2
          have E3 := Lib.hid e3
          have HR := Lib.hid (show false = bdS s by simp [bdS, e0, e1, e2, e3])
          clear e0 e1 e2 e3
          go_enter Tryz.func56, Tryz.ntmps56
          go_wp2_with fail
          refine (num_eq E0.out _).mono ?_
          rintro e w9 ⟨rfl, rfl⟩
          go_wp2_with fail
          refine (num_eq E1.out _).mono ?_
          rintro e w9 ⟨rfl, rfl⟩
          go_wp2_with fail
          refine (num_eq E2.out _).mono ?_
          rintro e w9 ⟨rfl, rfl⟩
          go_wp2_with fail
          refine (num_eq E3.out _).mono ?_
          rintro e w9 ⟨rfl, rfl⟩
          go_wp2
          go_ret
          exact ⟨ret_bool HR.out, (bl_alloc (bl_refl _) _)⟩
        | true =>
          have E0 := Lib.hid e0
          have E1 := Lib.hid e1
          have E2 := Lib.hid e2
          have E3 := Lib.hid e3
          have HR := Lib.hid (show true = bdS s by simp [bdS, e0, e1, e2, e3])
          clear e0 e1 e2 e3
          go_enter Tryz.func56, Tryz.ntmps56
          go_wp2_with fail
          refine (num_eq E0.out _).mono ?_
          rintro e w9 ⟨rfl, rfl⟩
          go_wp2_with fail
          refine (num_eq E1.out _).mono ?_
          rintro e w9 ⟨rfl, rfl⟩
          go_wp2_with fail
          refine (num_eq E2.out _).mono ?_
          rintro e w9 ⟨rfl, rfl⟩
          go_wp2_with fail
          refine (num_eq E3.out _).mono ?_
          rintro e w9 ⟨rfl, rfl⟩
          go_wp2
          go_ret
          exact ⟨ret_bool HR.out, (bl_alloc (bl_refl _) _)⟩

set_option maxRecDepth 100000 in
set_option maxHeartbeats 1600000 in
theorem iok_any (s : St) (w : World) : Calls Tryz.prog 46 #[.agg #[.int .i64 s.a, .int .i64 s.b, .int .i64 s.c, .int .i64 s.d]] w fun e w' => e = .returned (.bool (okS s)) ∧ Bl w w' := by
  cases e : bdS s with
  | false =>
    have E := Lib.hid e
    have HR := Lib.hid (show false = okS s by simp [okS, e])
    clear e
    go_enter Tryz.func46, Tryz.ntmps46
    go_wp2_with fail
    refine (isb_any s _).mono ?_
    rintro e w1 ⟨rfl, hb1⟩
    have B1 : Bl w w1 := bl_call (bl_alloc (bl_refl _) _) hb1
    have xS_1 : Bx w1 (w.heap.size) #[.int .i64 s.a, .int .i64 s.b, .int .i64 s.c, .int .i64 s.d] := (Bx.new (b := w.heap.size) _ #[.int .i64 s.a, .int .i64 s.b, .int .i64 s.c, .int .i64 s.d] 40 (by first | rfl | simp)).below hb1
    obtain ⟨cS_1, fS_1, zS_1⟩ := xS_1.out
    rw [E.out]
    go_wp2
    go_ret
    exact ⟨ret_bool HR.out, B1⟩
  | true =>
    have hb := bdS_iff.1 e
    have b1 := mulbdS hb.1 hb.2.2.2
    have b2 := mulbdS hb.2.1 hb.2.2.1
    have E := Lib.hid e
    have HR := Lib.hid (show (s.a * s.d != s.b * s.c) = okS s by simp [okS, e])
    clear e
    go_enter Tryz.func46, Tryz.ntmps46
    go_wp2_with fail
    refine (isb_any s _).mono ?_
    rintro e w1 ⟨rfl, hb1⟩
    have B1 : Bl w w1 := bl_call (bl_alloc (bl_refl _) _) hb1
    have xS_1 : Bx w1 (w.heap.size) #[.int .i64 s.a, .int .i64 s.b, .int .i64 s.c, .int .i64 s.d] := (Bx.new (b := w.heap.size) _ #[.int .i64 s.a, .int .i64 s.b, .int .i64 s.c, .int .i64 s.d] 40 (by first | rfl | simp)).below hb1
    obtain ⟨cS_1, fS_1, zS_1⟩ := xS_1.out
    rw [E.out]
    go_wp2
    go_ret
    exact ⟨ret_bool HR.out, B1⟩

set_option maxRecDepth 100000 in
set_option maxHeartbeats 1600000 in
theorem sok_any (s : St) (w : World) : Calls Tryz.prog 52 #[.agg #[.int .i64 s.a, .int .i64 s.b, .int .i64 s.c, .int .i64 s.d]] w fun e w' => e = .returned (.bool (okS s)) ∧ Bl w w' := by
  cases e : bdS s with
  | false =>
    have E := Lib.hid e
    have HR := Lib.hid (show false = okS s by simp [okS, e])
    clear e
    go_enter Tryz.func52, Tryz.ntmps52
    go_wp2_with fail
    refine (sfits_any s _).mono ?_
    rintro e w1 ⟨rfl, hb1⟩
    have B1 : Bl w w1 := bl_call (bl_alloc (bl_refl _) _) hb1
    have xS_1 : Bx w1 (w.heap.size) #[.int .i64 s.a, .int .i64 s.b, .int .i64 s.c, .int .i64 s.d] := (Bx.new (b := w.heap.size) _ #[.int .i64 s.a, .int .i64 s.b, .int .i64 s.c, .int .i64 s.d] 40 (by first | rfl | simp)).below hb1
    obtain ⟨cS_1, fS_1, zS_1⟩ := xS_1.out
    rw [E.out]
    go_wp2
    go_ret
    exact ⟨ret_bool HR.out, B1⟩
  | true =>
    have hb := bdS_iff.1 e
    have b1 := mulbdS hb.1 hb.2.2.2
    have b2 := mulbdS hb.2.1 hb.2.2.1
    have E := Lib.hid e
    have HR := Lib.hid (show (s.a * s.d != s.b * s.c) = okS s by simp [okS, e])
    clear e
    go_enter Tryz.func52, Tryz.ntmps52
    go_wp2_with fail
    refine (sfits_any s _).mono ?_
    rintro e w1 ⟨rfl, hb1⟩
    have B1 : Bl w w1 := bl_call (bl_alloc (bl_refl _) _) hb1
    have xS_1 : Bx w1 (w.heap.size) #[.int .i64 s.a, .int .i64 s.b, .int .i64 s.c, .int .i64 s.d] := (Bx.new (b := w.heap.size) _ #[.int .i64 s.a, .int .i64 s.b, .int .i64 s.c, .int .i64 s.d] 40 (by first | rfl | simp)).below hb1
    obtain ⟨cS_1, fS_1, zS_1⟩ := xS_1.out
    rw [E.out]
    go_wp2
    go_ret
    exact ⟨ret_bool HR.out, B1⟩

set_option maxRecDepth 100000 in
set_option maxHeartbeats 1600000 in
theorem ifed_any (s : St) (t : Int) (w : World) (e : bdS s = true) (ht : -1000000000 ≤ t ∧ t ≤ 1000000000) : Calls Tryz.prog 49 #[.agg #[.int .i64 s.a, .int .i64 s.b, .int .i64 s.c, .int .i64 s.d], .int .i64 t] w fun e w' => e = .returned (.agg #[.int .i64 (fedF s t).a, .int .i64 (fedF s t).b, .int .i64 (fedF s t).c, .int .i64 (fedF s t).d]) ∧ Bl w w' := by
  have hb := bdS_iff.1 e
  have b1 := mulbdS hb.1 ht
  have b2 := mulbdS hb.2.2.1 ht
  have b3 := mulbdS ht hb.2.2.1
  have b4 := mulbdS ht hb.2.2.2
  clear e
  go_enter Tryz.func49, Tryz.ntmps49
  go_wp2
  refine bodyPost_ret (v := .agg #[.int .i64 (s.a * t + s.b), .int .i64 (s.a), .int .i64 (s.c * t + s.d), .int .i64 (s.c)]) (by simp only [results, Tryz.results49]; go_simp) rfl ⟨rfl, ?_⟩
  repeat first | (with_reducible exact bl_refl _) | (with_reducible refine bl_alloc ?_ _) | (with_reducible refine bl_set ?_ (by first | exact Nat.le_refl _ | (simp; done) | (simp; omega)) _)

set_option maxRecDepth 100000 in
set_option maxHeartbeats 1600000 in
theorem iem_any (s : St) (t : Int) (w : World) (e : bdS s = true) (ht : -1000000000 ≤ t ∧ t ≤ 1000000000) : Calls Tryz.prog 82 #[.agg #[.int .i64 s.a, .int .i64 s.b, .int .i64 s.c, .int .i64 s.d], .int .i64 t] w fun e w' => e = .returned (.agg #[.int .i64 (emF s t).a, .int .i64 (emF s t).b, .int .i64 (emF s t).c, .int .i64 (emF s t).d]) ∧ Bl w w' := by
  have hb := bdS_iff.1 e
  have b1 := mulbdS hb.1 ht
  have b2 := mulbdS hb.2.2.1 ht
  have b3 := mulbdS ht hb.2.2.1
  have b4 := mulbdS ht hb.2.2.2
  clear e
  go_enter Tryz.func82, Tryz.ntmps82
  go_wp2
  refine bodyPost_ret (v := .agg #[.int .i64 (s.c), .int .i64 (s.d), .int .i64 (s.a - t * s.c), .int .i64 (s.b - t * s.d)]) (by simp only [results, Tryz.results82]; go_simp) rfl ⟨rfl, ?_⟩
  repeat first | (with_reducible exact bl_refl _) | (with_reducible refine bl_alloc ?_ _) | (with_reducible refine bl_set ?_ (by first | exact Nat.le_refl _ | (simp; done) | (simp; omega)) _)

set_option maxRecDepth 100000 in
set_option maxHeartbeats 1600000 in
theorem sfed_any (s : St) (t : Int) (w : World) (e : bdS s = true) (ht : -1000000000 ≤ t ∧ t ≤ 1000000000) : Calls Tryz.prog 55 #[.agg #[.int .i64 s.a, .int .i64 s.b, .int .i64 s.c, .int .i64 s.d], .int .i64 t] w fun e w' => e = .returned (.agg #[.int .i64 (fedF s t).a, .int .i64 (fedF s t).b, .int .i64 (fedF s t).c, .int .i64 (fedF s t).d]) ∧ Bl w w' := by
  have hb := bdS_iff.1 e
  have b1 := mulbdS hb.1 ht
  have b2 := mulbdS hb.2.2.1 ht
  have b3 := mulbdS ht hb.2.2.1
  have b4 := mulbdS ht hb.2.2.2
  clear e
  go_enter Tryz.func55, Tryz.ntmps55
  go_wp2
  refine bodyPost_ret (v := .agg #[.int .i64 (s.a * t + s.b), .int .i64 (s.a), .int .i64 (s.c * t + s.d), .int .i64 (s.c)]) (by simp only [results, Tryz.results55]; go_simp) rfl ⟨rfl, ?_⟩
  repeat first | (with_reducible exact bl_refl _) | (with_reducible refine bl_alloc ?_ _) | (with_reducible refine bl_set ?_ (by first | exact Nat.le_refl _ | (simp; done) | (simp; omega)) _)

set_option maxHeartbeats 800000 in
theorem iknownS_any (s : St) (w : World) (e : bdS s = true) : Calls Tryz.prog 81 #[.agg #[.int .i64 s.a, .int .i64 s.b, .int .i64 s.c, .int .i64 s.d]] w (KnE s.a s.b s.c s.d w) := by
  have hb := bdS_iff.1 e
  clear e
  go_enter Tryz.func81, Tryz.ntmps81
  go_wp2_with fail
  refine (iknown_any _ _ _ _ _ hb.1 hb.2.1 hb.2.2.1 hb.2.2.2).mono ?_
  rintro e w1 ⟨v, rfl, hk, hb1⟩
  have B1 : Bl w w1 := bl_call (bl_alloc (bl_refl _) _) hb1
  unfold KnP at hk
  cases hq : knV s.a s.b s.c s.d with
  | none =>
    rw [hq] at hk
    obtain ⟨q, rfl⟩ := hk
    have HQ := Lib.hid hq
    clear hq
    go_wp2
    go_ret2
    exact ⟨_, rfl, by rw [HQ.out]; exact ⟨q, rfl⟩, B1⟩
  | some q =>
    rw [hq] at hk
    simp only [] at hk
    subst hk
    have HQ := Lib.hid hq
    clear hq
    go_wp2
    go_ret2
    exact ⟨_, rfl, by rw [HQ.out]; rfl, B1⟩

end Go.Proofs.YtgkelemfbmmgnaaGreat

/- The program's stream: a state is set, terms are emitted. Each theorem names its conditions. -/
namespace Go.Proofs.YtgkelemfbmmgnaaGreat
open Go.RowKit
set_option linter.unusedVariables false
set_option linter.unusedSimpArgs false


set_option maxRecDepth 100000 in
set_option maxHeartbeats 1600000 in
theorem iset_any {w : World} {p : Nat} {s s' : St} {lo : Bool} {ov : Value} (hx : Bx w p #[.int .i64 s.a, .int .i64 s.b, .int .i64 s.c, .int .i64 s.d, .bool lo, ov]) (hd : lo = true ∨ Det s') :
    Calls Tryz.prog 48 #[.pointer (some ⟨p, 0, none⟩), .agg #[.int .i64 s'.a, .int .i64 s'.b, .int .i64 s'.c, .int .i64 s'.d]] w fun e w' => e = .returned (.bool (bdS s')) ∧ Bx w' p #[.int .i64 s'.a, .int .i64 s'.b, .int .i64 s'.c, .int .i64 s'.d, .bool lo, ov] ∧ Upd w w' p := by
  have hpw := hx.out.2.2
  obtain ⟨c0, f0, _⟩ := hx.out
  have HD := Lib.hid hd
  cases e : bdS s' with
  | false =>
    have E := Lib.hid e
    clear e hd
    go_enter Tryz.func48, Tryz.ntmps48
    go_wp2_with fail
    have xM : Bx (((((w.setCell ⟨p, 0, none⟩ (.int .i64 s'.a)).setCell ⟨p, 1, none⟩ (.int .i64 s'.b)).setCell ⟨p, 2, none⟩ (.int .i64 s'.c)).setCell ⟨p, 3, none⟩ (.int .i64 s'.d)).alloc (.cells #[.int .i64 s'.a, .int .i64 s'.b, .int .i64 s'.c, .int .i64 s'.d] 40)) p #[.int .i64 s'.a, .int .i64 s'.b, .int .i64 s'.c, .int .i64 s'.d, .bool lo, ov] := (((((hx).set 0 (.int .i64 s'.a)).set 1 (.int .i64 s'.b)).set 2 (.int .i64 s'.c)).set 3 (.int .i64 s'.d)).alloc _
    have xP : Bx (((((w.setCell ⟨p, 0, none⟩ (.int .i64 s'.a)).setCell ⟨p, 1, none⟩ (.int .i64 s'.b)).setCell ⟨p, 2, none⟩ (.int .i64 s'.c)).setCell ⟨p, 3, none⟩ (.int .i64 s'.d)).alloc (.cells #[.int .i64 s'.a, .int .i64 s'.b, .int .i64 s'.c, .int .i64 s'.d] 40)) w.heap.size #[.int .i64 s'.a, .int .i64 s'.b, .int .i64 s'.c, .int .i64 s'.d] := Bx.new (b := w.heap.size) _ #[.int .i64 s'.a, .int .i64 s'.b, .int .i64 s'.c, .int .i64 s'.d] 40 (by simp)
    have uW : Upd w (((((w.setCell ⟨p, 0, none⟩ (.int .i64 s'.a)).setCell ⟨p, 1, none⟩ (.int .i64 s'.b)).setCell ⟨p, 2, none⟩ (.int .i64 s'.c)).setCell ⟨p, 3, none⟩ (.int .i64 s'.d)).alloc (.cells #[.int .i64 s'.a, .int .i64 s'.b, .int .i64 s'.c, .int .i64 s'.d] 40)) p := upd_bl (upd_set (upd_set (upd_set (upd_set (upd_refl w p) _ _) _ _) _ _) _ _) (bl_alloc (bl_refl _) _)
    clear c0 f0
    generalize (((((w.setCell ⟨p, 0, none⟩ (.int .i64 s'.a)).setCell ⟨p, 1, none⟩ (.int .i64 s'.b)).setCell ⟨p, 2, none⟩ (.int .i64 s'.c)).setCell ⟨p, 3, none⟩ (.int .i64 s'.d)).alloc (.cells #[.int .i64 s'.a, .int .i64 s'.b, .int .i64 s'.c, .int .i64 s'.d] 40)) = w1 at *
    refine (isb_any s' _).mono ?_
    rintro e w2 ⟨rfl, hb2⟩
    rw [E.out]
    have xM2 := xM.below hb2
    have xP2 := xP.below hb2
    have uW2 := upd_bl uW hb2
    obtain ⟨c1, f1, _⟩ := xM2.out
    obtain ⟨c2, f2, _⟩ := xP2.out
    go_wp2
    go_ret
    exact ⟨rfl, xM2, uW2⟩
  | true =>
    have E := Lib.hid e
    clear hd
    cases lo with
    | true =>
      clear e
      go_enter Tryz.func48, Tryz.ntmps48
      go_wp2_with fail
      have xM : Bx (((((w.setCell ⟨p, 0, none⟩ (.int .i64 s'.a)).setCell ⟨p, 1, none⟩ (.int .i64 s'.b)).setCell ⟨p, 2, none⟩ (.int .i64 s'.c)).setCell ⟨p, 3, none⟩ (.int .i64 s'.d)).alloc (.cells #[.int .i64 s'.a, .int .i64 s'.b, .int .i64 s'.c, .int .i64 s'.d] 40)) p #[.int .i64 s'.a, .int .i64 s'.b, .int .i64 s'.c, .int .i64 s'.d, .bool true, ov] := (((((hx).set 0 (.int .i64 s'.a)).set 1 (.int .i64 s'.b)).set 2 (.int .i64 s'.c)).set 3 (.int .i64 s'.d)).alloc _
      have xP : Bx (((((w.setCell ⟨p, 0, none⟩ (.int .i64 s'.a)).setCell ⟨p, 1, none⟩ (.int .i64 s'.b)).setCell ⟨p, 2, none⟩ (.int .i64 s'.c)).setCell ⟨p, 3, none⟩ (.int .i64 s'.d)).alloc (.cells #[.int .i64 s'.a, .int .i64 s'.b, .int .i64 s'.c, .int .i64 s'.d] 40)) w.heap.size #[.int .i64 s'.a, .int .i64 s'.b, .int .i64 s'.c, .int .i64 s'.d] := Bx.new (b := w.heap.size) _ #[.int .i64 s'.a, .int .i64 s'.b, .int .i64 s'.c, .int .i64 s'.d] 40 (by simp)
      have uW : Upd w (((((w.setCell ⟨p, 0, none⟩ (.int .i64 s'.a)).setCell ⟨p, 1, none⟩ (.int .i64 s'.b)).setCell ⟨p, 2, none⟩ (.int .i64 s'.c)).setCell ⟨p, 3, none⟩ (.int .i64 s'.d)).alloc (.cells #[.int .i64 s'.a, .int .i64 s'.b, .int .i64 s'.c, .int .i64 s'.d] 40)) p := upd_bl (upd_set (upd_set (upd_set (upd_set (upd_refl w p) _ _) _ _) _ _) _ _) (bl_alloc (bl_refl _) _)
      clear c0 f0
      generalize (((((w.setCell ⟨p, 0, none⟩ (.int .i64 s'.a)).setCell ⟨p, 1, none⟩ (.int .i64 s'.b)).setCell ⟨p, 2, none⟩ (.int .i64 s'.c)).setCell ⟨p, 3, none⟩ (.int .i64 s'.d)).alloc (.cells #[.int .i64 s'.a, .int .i64 s'.b, .int .i64 s'.c, .int .i64 s'.d] 40)) = w1 at *
      refine (isb_any s' _).mono ?_
      rintro e w2 ⟨rfl, hb2⟩
      rw [E.out]
      have xM2 := xM.below hb2
      have xP2 := xP.below hb2
      have uW2 := upd_bl uW hb2
      obtain ⟨c1, f1, _⟩ := xM2.out
      obtain ⟨c2, f2, _⟩ := xP2.out
      go_wp2
      go_ret
      exact ⟨rfl, xM2, uW2⟩
    | false =>
      have HO := Lib.hid (show okS s' = true from okS_iff.2 ⟨e, HD.out.resolve_left (by simp)⟩)
      clear e
      go_enter Tryz.func48, Tryz.ntmps48
      go_wp2_with fail
      have xM : Bx (((((w.setCell ⟨p, 0, none⟩ (.int .i64 s'.a)).setCell ⟨p, 1, none⟩ (.int .i64 s'.b)).setCell ⟨p, 2, none⟩ (.int .i64 s'.c)).setCell ⟨p, 3, none⟩ (.int .i64 s'.d)).alloc (.cells #[.int .i64 s'.a, .int .i64 s'.b, .int .i64 s'.c, .int .i64 s'.d] 40)) p #[.int .i64 s'.a, .int .i64 s'.b, .int .i64 s'.c, .int .i64 s'.d, .bool false, ov] := (((((hx).set 0 (.int .i64 s'.a)).set 1 (.int .i64 s'.b)).set 2 (.int .i64 s'.c)).set 3 (.int .i64 s'.d)).alloc _
      have xP : Bx (((((w.setCell ⟨p, 0, none⟩ (.int .i64 s'.a)).setCell ⟨p, 1, none⟩ (.int .i64 s'.b)).setCell ⟨p, 2, none⟩ (.int .i64 s'.c)).setCell ⟨p, 3, none⟩ (.int .i64 s'.d)).alloc (.cells #[.int .i64 s'.a, .int .i64 s'.b, .int .i64 s'.c, .int .i64 s'.d] 40)) w.heap.size #[.int .i64 s'.a, .int .i64 s'.b, .int .i64 s'.c, .int .i64 s'.d] := Bx.new (b := w.heap.size) _ #[.int .i64 s'.a, .int .i64 s'.b, .int .i64 s'.c, .int .i64 s'.d] 40 (by simp)
      have uW : Upd w (((((w.setCell ⟨p, 0, none⟩ (.int .i64 s'.a)).setCell ⟨p, 1, none⟩ (.int .i64 s'.b)).setCell ⟨p, 2, none⟩ (.int .i64 s'.c)).setCell ⟨p, 3, none⟩ (.int .i64 s'.d)).alloc (.cells #[.int .i64 s'.a, .int .i64 s'.b, .int .i64 s'.c, .int .i64 s'.d] 40)) p := upd_bl (upd_set (upd_set (upd_set (upd_set (upd_refl w p) _ _) _ _) _ _) _ _) (bl_alloc (bl_refl _) _)
      clear c0 f0
      generalize (((((w.setCell ⟨p, 0, none⟩ (.int .i64 s'.a)).setCell ⟨p, 1, none⟩ (.int .i64 s'.b)).setCell ⟨p, 2, none⟩ (.int .i64 s'.c)).setCell ⟨p, 3, none⟩ (.int .i64 s'.d)).alloc (.cells #[.int .i64 s'.a, .int .i64 s'.b, .int .i64 s'.c, .int .i64 s'.d] 40)) = w1 at *
      refine (isb_any s' _).mono ?_
      rintro e w2 ⟨rfl, hb2⟩
      rw [E.out]
      have xM2 := xM.below hb2
      have xP2 := xP.below hb2
      have uW2 := upd_bl uW hb2
      obtain ⟨c1, f1, _⟩ := xM2.out
      obtain ⟨c2, f2, _⟩ := xP2.out
      go_wp2_with fail
      refine (iok_any s' _).mono ?_
      rintro e w3 ⟨rfl, hb3⟩
      rw [HO.out]
      go_wp2
      go_ret
      exact ⟨rfl, xM2.below hb3, upd_bl uW2 hb3⟩

/-- What emission tells and leaves, in the program's stream. -/
def EmP (w : World) (p B : Nat) (lo : Bool) (ov : Value) (R : Option (St × List Int)) (e : Ending) (w' : World) : Prop :=
  Upv w w' p ov ∧ match R with
    | none => e = .returned (.bool false)
    | some (s', out') => e = .returned (.bool true) ∧ ∃ ov' : Value, Bx w' p #[.int .i64 s'.a, .int .i64 s'.b, .int .i64 s'.c, .int .i64 s'.d, .bool lo, ov'] ∧ Own w' B ov' out' ∧ ∀ k, ov'.ownBlock = some k → ov.ownBlock = some k ∨ w.heap.size ≤ k
def RowOf (w : World) (ov v1 : Value) : Prop := ∀ k, v1.ownBlock = some k → ov.ownBlock = some k ∨ w.heap.size ≤ k
theorem emp_yes {w w' : World} {p B : Nat} {lo : Bool} {ov v1 : Value} {s1 : St} {o1 : List Int} {R : Option (St × List Int)} (hR : R = some (s1, o1)) (hu : Upv w w' p ov) (hx : Bx w' p #[.int .i64 s1.a, .int .i64 s1.b, .int .i64 s1.c, .int .i64 s1.d, .bool lo, v1]) (ho : Own w' B v1 o1) (hr : RowOf w ov v1) : EmP w p B lo ov R (.returned (.bool true)) w' := by
  subst hR
  exact ⟨hu, rfl, v1, hx, ho, hr⟩
theorem emp_no {w w' : World} {p B : Nat} {lo : Bool} {ov : Value} {R : Option (St × List Int)} (hR : R = none) (hu : Upv w w' p ov) : EmP w p B lo ov R (.returned (.bool false)) w' := by
  subst hR
  exact ⟨hu, rfl⟩
theorem own_ne {w : World} {p : Nat} {ov v1 : Value} (hr : RowOf w ov v1) (hp : ov.ownBlock ≠ some p) (hpw : p < w.heap.size) : v1.ownBlock ≠ some p := by
  intro e
  rcases hr p e with h | h
  · exact hp h
  · omega
set_option maxRecDepth 100000 in
set_option maxHeartbeats 6400000 in
theorem iemit_any {w : World} {p B : Nat} {s : St} {lo : Bool} {ov : Value} {out : List Int} {most : Nat} (hx : Bx w p #[.int .i64 s.a, .int .i64 s.b, .int .i64 s.c, .int .i64 s.d, .bool lo, ov]) (ho : Own w B ov out) (hB : B ≤ w.heap.size) (hp : ov.ownBlock ≠ some p) (hb : bdS s = true) (hd : lo = true ∨ Det s) (hl : out.length ≤ 60) (hm : most ≤ 4611686018427387904) :
    Calls Tryz.prog 50 #[.pointer (some ⟨p, 0, none⟩), .int .i64 most] w (EmP w p B lo ov (emitF most s out)) := by
  have hpw := hx.out.2.2
  obtain ⟨R, hR⟩ : ∃ R, emitF most s out = R := ⟨_, rfl⟩
  rw [hR]
  have HR := Lib.hid hR
  have HD := Lib.hid hd
  have HB := Lib.hid hb
  have HP := Lib.hid hp
  clear hR hd hb hp
  go_enter Tryz.func50, Tryz.ntmps50
  go_wp2_with fail
  go_loopg [5, 6] (61 - out.length) (fun n s5 s6 wr => ∃ (s1 : St) (o1 : List Int) (v1 : Value), Bx wr p #[.int .i64 s1.a, .int .i64 s1.b, .int .i64 s1.c, .int .i64 s1.d, .bool lo, v1] ∧ Own wr B v1 o1 ∧ Hid (emitF most s1 o1 = R) ∧ Hid (bdS s1 = true ∨ most ≤ o1.length) ∧ Hid (lo = true ∨ Det s1) ∧ o1.length ≤ 60 ∧ n + o1.length = 61 ∧ Hid (RowOf w ov v1) ∧ Upv w wr p ov)
  case atStart => exact ⟨s, out, ov, hx, ho, HR, Lib.hid (.inl HB.out), HD, hl, by omega, Lib.hid (fun k h => .inl h), upv_refl _ _ _⟩
  case round =>
    obtain ⟨s1, o1, v1, x1, h1, HE, HB1, HD1, hl1, hn, HRW, hu⟩ := hrel
    have HO := Lib.hid h1
    have HN := Lib.hid hn
    obtain ⟨va, vc, rfl, _⟩ := h1.form
    clear h1 hn
    have hpr := x1.out.2.2
    obtain ⟨c1, f1, _⟩ := x1.out
    have HNE := Lib.hid (own_ne HRW.out HP.out hpw)
    by_cases hmo : most ≤ o1.length
    · go_wp2
      go_ret
      exact emp_yes (by rw [← HE.out, emit_most hl1 hmo]) hu x1 HO.out HRW.out
    · have HBB := Lib.hid (HB1.out.resolve_right (by omega))
      go_wp2_with fail
      refine (iknownS_any s1 _ HBB.out).mono ?_
      rintro e w2 ⟨v, rfl, hk, hb2⟩
      have x2 := x1.below hb2
      have HO2 := Lib.hid (HO.out.below hb2)
      have hu2 := upv_bl hu hb2
      clear c1 f1
      obtain ⟨c2, f2, _⟩ := x2.out
      cases hq : knF s1 with
      | none =>
        rw [show knV s1.a s1.b s1.c s1.d = none from hq] at hk
        obtain ⟨q, rfl⟩ := hk
        have HQ := Lib.hid hq
        clear hq
        go_wp2
        go_ret
        exact emp_yes (by rw [← HE.out, emit_none hl1 HQ.out]) hu2 x2 HO2.out HRW.out
      | some q =>
        rw [show knV s1.a s1.b s1.c s1.d = some q from hq] at hk
        have hk : v = _ := hk
        subst hk
        have hqb := kn_bd HBB.out hq
        have HQ := Lib.hid hq
        clear hq
        by_cases h60 : o1.length = 60
        · have c60 : ((o1.length : Int) == 60) = true := by simp; omega
          have H60 := Lib.hid h60
          clear h60
          go_wp2
          go_ret
          exact emp_no (by rw [← HE.out, emit_full H60.out (by omega) HQ.out]) hu2
        · have c60 : ((o1.length : Int) == 60) = false := by rw [beq_eq_false_iff_ne]; omega
          have hl60 : o1.length < 60 := by omega
          clear h60
          go_wp2_with (at_builtin; refine wpList_append_one rfl _ _ rfl B _ o1 (by rfl) HO2.out q (by unfold R64; omega) (by rfl) (by omega) (Nat.le_trans hB (Nat.le_trans hu.size hb2.size)) ?_; intro v' wn ho hg hloc; obtain ⟨a1, n1, rfl, _⟩ := ho.form; have xN := x2.grownApartF hg (fun q => HNE.out q); clear c2 f2; obtain ⟨cN, fN, zN⟩ := xN.out)
          have hlen : (o1 ++ [q]).length = o1.length + 1 := by simp
          have huN := upv_row hu2 hg HRW.out
          rw [hlen] at ho hloc
          clear hlen
          have hRW3 : RowOf w ov (.slice a1 (o1.length + 1) n1) := fun k hk => by
            rcases hloc with e | e
            · exact HRW.out k (e ▸ hk)
            · rw [e] at hk; injection hk with hk; right; have := hu.size; have := hb2.size; omega
          have HRW3 := Lib.hid hRW3
          have HO3 := Lib.hid ho
          have hpn : p < wn.heap.size := zN
          have hgs := hg.size
          clear hg hloc ho hRW3
          go_wp2_with fail
          have xS : Bx (wn.setCell ⟨p, 5, none⟩ (.slice a1 (o1.length + 1) n1)) p #[.int .i64 s1.a, .int .i64 s1.b, .int .i64 s1.c, .int .i64 s1.d, .bool lo, .slice a1 (o1.length + 1) n1] := xN.set 5 _
          have uS : Upv w (wn.setCell ⟨p, 5, none⟩ (.slice a1 (o1.length + 1) n1)) p ov := upv_upd huN (upd_set (upd_refl _ _) _ _)
          have HNE3 := Lib.hid (own_ne HRW3.out HP.out hpw)
          have HO4 := Lib.hid (HO3.out.upd (upd_set (upd_refl wn p) 5 (.slice a1 (o1.length + 1) n1)) HNE3.out)
          clear cN fN HO3
          generalize wn.setCell ⟨p, 5, none⟩ (.slice a1 (o1.length + 1) n1) = w3 at *
          obtain ⟨c3, f3, z3⟩ := xS.out
          refine (iem_any s1 q _ HBB.out hqb).mono ?_
          rintro e w4 ⟨rfl, hb4⟩
          have x4 := xS.below hb4
          have HO5 := Lib.hid (HO4.out.below hb4)
          have u4 := upv_bl uS hb4
          clear c3 f3 z3
          obtain ⟨c4, f4, z4⟩ := x4.out
          go_wp2_with fail
          refine (iset_any (s' := emF s1 q) x4 (HD1.out.imp id (fun h => h.em q))).mono ?_
          rintro e w5 ⟨rfl, x5, hu5⟩
          have HO6 := Lib.hid (HO5.out.upd hu5 HNE3.out)
          have u5 := upv_upd u4 hu5
          clear c4 f4 z4
          obtain ⟨c5, f5, z5⟩ := x5.out
          cases hb6 : bdS (emF s1 q) with
          | true =>
            have HE2 := Lib.hid (show emitF most (emF s1 q) (o1 ++ [q]) = R by rw [← emit_step hl60 (by omega) HQ.out hb6]; exact HE.out)
            have HB6 := Lib.hid hb6
            clear hb6
            go_wp2
            go_roundg (gk - 1)
            case measure => have := HN.out; omega
            case rel => exact ⟨emF s1 q, o1 ++ [q], _, x5, HO6.out, HE2, Lib.hid (.inl HB6.out), Lib.hid (HD1.out.imp id (fun h => h.em q)), by simp; omega, by have := HN.out; simp; omega, HRW3, u5⟩
          | false =>
            by_cases hm1 : o1.length + 1 < most
            · have HE2 := Lib.hid (emit_big hl60 hm1 HQ.out hb6)
              have HB6 := Lib.hid hb6
              clear hb6
              go_wp2
              go_ret
              exact emp_no (by rw [← HE.out, HE2.out]) u5
            · have HE2 := Lib.hid (show emitF most (emF s1 q) (o1 ++ [q]) = R by rw [emit_most (most := most) (out := o1 ++ [q]) (by simp; omega) (by simp; omega), ← emit_last (most := most) hl60 (by omega) HQ.out hb6]; exact HE.out)
              clear hb6
              go_wp2
              go_roundg (gk - 1)
              case measure => have := HN.out; omega
              case rel => exact ⟨emF s1 q, o1 ++ [q], _, x5, HO6.out, HE2, Lib.hid (.inr (by simp; omega)), Lib.hid (HD1.out.imp id (fun h => h.em q)), by simp; omega, by have := HN.out; simp; omega, HRW3, u5⟩

end Go.Proofs.YtgkelemfbmmgnaaGreat

