/- Functions of two numbers: validity. Each theorem names its conditions. -/
import Derived.Test.YtbncinbngmfamaaDb1
namespace Go.Proofs.Ytbncinbngmfamaa
open Go.RowKit
set_option linter.unusedVariables false
set_option linter.unusedSimpArgs false

theorem bdD_sw {d : Db} (h : bdD d = true) : bdD (swD d) = true := by
  rw [bdD_iff] at h ⊢
  exact ⟨h.1, h.2.2.1, h.2.1, h.2.2.2.1, h.2.2.2.2.1, h.2.2.2.2.2.2.1, h.2.2.2.2.2.1, h.2.2.2.2.2.2.2⟩
set_option maxRecDepth 100000 in
set_option maxHeartbeats 1600000 in
theorem sfdY_any (d : Db) (t : Int) (w : World) (e : bdD d = true) (ht : -1000000000 ≤ t ∧ t ≤ 1000000000) : Calls Try.prog 158 #[.agg #[.int .i64 d.a, .int .i64 d.b, .int .i64 d.c, .int .i64 d.d, .int .i64 d.e, .int .i64 d.f, .int .i64 d.g, .int .i64 d.h], .int .i64 t] w fun e w' => e = .returned (.agg #[.int .i64 (fdY d t).a, .int .i64 (fdY d t).b, .int .i64 (fdY d t).c, .int .i64 (fdY d t).d, .int .i64 (fdY d t).e, .int .i64 (fdY d t).f, .int .i64 (fdY d t).g, .int .i64 (fdY d t).h]) ∧ Bl w w' := by
  have E := Lib.hid e
  clear e
  go_enter Try.func158, Try.ntmps158
  go_wp2_with fail
  refine (sswD_any d _).mono ?_
  rintro e w1 ⟨rfl, hb1⟩
  have B1 : Bl w w1 := bl_call (bl_alloc (bl_alloc (bl_refl _) _) _) hb1
  have xS_1 : Bx w1 (w.heap.size) #[.int .i64 d.a, .int .i64 d.b, .int .i64 d.c, .int .i64 d.d, .int .i64 d.e, .int .i64 d.f, .int .i64 d.g, .int .i64 d.h] := ((Bx.new (b := w.heap.size) _ #[.int .i64 d.a, .int .i64 d.b, .int .i64 d.c, .int .i64 d.d, .int .i64 d.e, .int .i64 d.f, .int .i64 d.g, .int .i64 d.h] 26 (by first | rfl | simp)).alloc _).below hb1
  have xR_1 : Bx w1 (w.heap.size + 1) #[.int .i64 0, .int .i64 0, .int .i64 0, .int .i64 0, .int .i64 0, .int .i64 0, .int .i64 0, .int .i64 0] := (Bx.new (b := w.heap.size + 1) _ #[.int .i64 0, .int .i64 0, .int .i64 0, .int .i64 0, .int .i64 0, .int .i64 0, .int .i64 0, .int .i64 0] 26 (by first | rfl | simp)).below hb1
  obtain ⟨cS_1, fS_1, zS_1⟩ := xS_1.out
  obtain ⟨cR_1, fR_1, zR_1⟩ := xR_1.out
  go_wp2_with fail
  refine (sfdX_any (swD d) t _ (bdD_sw E.out) ht).mono ?_
  rintro e w2 ⟨rfl, hb2⟩
  have B2 : Bl w w2 := bl_call B1 hb2
  have xS_2 : Bx w2 (w.heap.size) #[.int .i64 d.a, .int .i64 d.b, .int .i64 d.c, .int .i64 d.d, .int .i64 d.e, .int .i64 d.f, .int .i64 d.g, .int .i64 d.h] := xS_1.below hb2
  have xR_2 : Bx w2 (w.heap.size + 1) #[.int .i64 0, .int .i64 0, .int .i64 0, .int .i64 0, .int .i64 0, .int .i64 0, .int .i64 0, .int .i64 0] := xR_1.below hb2
  clear cS_1 fS_1 zS_1 cR_1 fR_1 zR_1
  obtain ⟨cS_2, fS_2, zS_2⟩ := xS_2.out
  obtain ⟨cR_2, fR_2, zR_2⟩ := xR_2.out
  go_wp2_with fail
  refine (sswD_any (fdX (swD d) t) _).mono ?_
  rintro e w3 ⟨rfl, hb3⟩
  have B3 : Bl w w3 := bl_call B2 hb3
  have xS_3 : Bx w3 (w.heap.size) #[.int .i64 d.a, .int .i64 d.b, .int .i64 d.c, .int .i64 d.d, .int .i64 d.e, .int .i64 d.f, .int .i64 d.g, .int .i64 d.h] := xS_2.below hb3
  have xR_3 : Bx w3 (w.heap.size + 1) #[.int .i64 0, .int .i64 0, .int .i64 0, .int .i64 0, .int .i64 0, .int .i64 0, .int .i64 0, .int .i64 0] := xR_2.below hb3
  clear cS_2 fS_2 zS_2 cR_2 fR_2 zR_2
  obtain ⟨cS_3, fS_3, zS_3⟩ := xS_3.out
  obtain ⟨cR_3, fR_3, zR_3⟩ := xR_3.out
  go_wp2
  refine bodyPost_ret (v := .agg #[.int .i64 (swD (fdX (swD d) t)).a, .int .i64 (swD (fdX (swD d) t)).b, .int .i64 (swD (fdX (swD d) t)).c, .int .i64 (swD (fdX (swD d) t)).d, .int .i64 (swD (fdX (swD d) t)).e, .int .i64 (swD (fdX (swD d) t)).f, .int .i64 (swD (fdX (swD d) t)).g, .int .i64 (swD (fdX (swD d) t)).h]) (by simp only [results, Try.results158]; go_simp) rfl ⟨rfl, ?_⟩
  repeat first | (with_reducible exact B3) | (with_reducible refine bl_alloc ?_ _) | (with_reducible refine bl_set ?_ (by first | exact Nat.le_refl _ | (simp; done) | (simp; omega)) _)

set_option maxRecDepth 100000 in
set_option maxHeartbeats 1600000 in
theorem iend_D (d : Db) (w : World) : Calls Try.prog 123 #[.agg #[.int .i64 d.a, .int .i64 d.b, .int .i64 d.c, .int .i64 d.d, .int .i64 d.e, .int .i64 d.f, .int .i64 d.g, .int .i64 d.h]] w fun e w' => e = .returned (.bool (enD d)) ∧ Bl w w' := by
  by_cases h0 : d.e = 0
  case neg =>
    have b0 : (d.e == 0) = false := by simp [h0]
    have HR := Lib.hid (show false = enD d by simp [enD, h0])
    clear h0
    go_enter Try.func123, Try.ntmps123
    go_wp2
    go_ret
    exact ⟨ret_bool HR.out, (bl_alloc (bl_refl _) _)⟩
  by_cases h1 : d.f = 0
  case neg =>
    have b0 : (d.e == 0) = true := by simp [h0]
    have b1 : (d.f == 0) = false := by simp [h1]
    have HR := Lib.hid (show false = enD d by simp [enD, h0, h1])
    clear h0 h1
    go_enter Try.func123, Try.ntmps123
    go_wp2
    go_ret
    exact ⟨ret_bool HR.out, (bl_alloc (bl_refl _) _)⟩
  by_cases h2 : d.g = 0
  case neg =>
    have b0 : (d.e == 0) = true := by simp [h0]
    have b1 : (d.f == 0) = true := by simp [h1]
    have b2 : (d.g == 0) = false := by simp [h2]
    have HR := Lib.hid (show false = enD d by simp [enD, h0, h1, h2])
    clear h0 h1 h2
    go_enter Try.func123, Try.ntmps123
    go_wp2
    go_ret
    exact ⟨ret_bool HR.out, (bl_alloc (bl_refl _) _)⟩
  by_cases h3 : d.h = 0
  case neg =>
    have b0 : (d.e == 0) = true := by simp [h0]
    have b1 : (d.f == 0) = true := by simp [h1]
    have b2 : (d.g == 0) = true := by simp [h2]
    have b3 : (d.h == 0) = false := by simp [h3]
    have HR := Lib.hid (show false = enD d by simp [enD, h0, h1, h2, h3])
    clear h0 h1 h2 h3
    go_enter Try.func123, Try.ntmps123
    go_wp2
    go_ret
    exact ⟨ret_bool HR.out, (bl_alloc (bl_refl _) _)⟩
  have b0 : (d.e == 0) = true := by simp [h0]
  have b1 : (d.f == 0) = true := by simp [h1]
  have b2 : (d.g == 0) = true := by simp [h2]
  have b3 : (d.h == 0) = true := by simp [h3]
  have HR := Lib.hid (show true = enD d by simp [enD, h0, h1, h2, h3])
  clear h0 h1 h2 h3
  go_enter Try.func123, Try.ntmps123
  go_wp2
  go_ret
  exact ⟨ret_bool HR.out, (bl_alloc (bl_refl _) _)⟩

set_option maxRecDepth 100000 in
set_option maxHeartbeats 3200000 in
theorem sfitD_any (d : Db) (w : World) : Calls Try.prog 119 #[.agg #[.int .i64 d.a, .int .i64 d.b, .int .i64 d.c, .int .i64 d.d, .int .i64 d.e, .int .i64 d.f, .int .i64 d.g, .int .i64 d.h]] w fun e w' => e = .returned (.bool (bdD d)) ∧ Bl w w' := by
  cases e0 : bdN d.a with
  | false =>
    have E0 := Lib.hid e0
    have HR := Lib.hid (show false = bdD d by simp [bdD, e0])
    clear e0
    go_enter Try.func119, Try.ntmps119
    go_wp2_with fail
    refine (num_eq E0.out _).mono ?_
    rintro e w9 ⟨rfl, rfl⟩
    go_wp2
    go_ret
    exact ⟨ret_bool HR.out, (bl_alloc (bl_refl _) _)⟩
  | true =>
    cases e1 : bdN d.b with
    | false =>
      have E0 := Lib.hid e0
      have E1 := Lib.hid e1
      have HR := Lib.hid (show false = bdD d by simp [bdD, e0, e1])
      clear e0 e1
      go_enter Try.func119, Try.ntmps119
      go_wp2_with fail
      refine (num_eq E0.out _).mono ?_
      rintro e w9 ⟨rfl, rfl⟩
      go_wp2_with fail
      refine (num_eq E1.out _).mono ?_
      rintro e w9 ⟨rfl, rfl⟩
      go_wp2
      go_ret
      exact ⟨ret_bool HR.out, (bl_alloc (bl_refl _) _)⟩
    | true =>
      cases e2 : bdN d.c with
      | false =>
        have E0 := Lib.hid e0
        have E1 := Lib.hid e1
        have E2 := Lib.hid e2
        have HR := Lib.hid (show false = bdD d by simp [bdD, e0, e1, e2])
        clear e0 e1 e2
        go_enter Try.func119, Try.ntmps119
        go_wp2_with fail
        refine (num_eq E0.out _).mono ?_
        rintro e w9 ⟨rfl, rfl⟩
        go_wp2_with fail
        refine (num_eq E1.out _).mono ?_
        rintro e w9 ⟨rfl, rfl⟩
        go_wp2_with fail
        refine (num_eq E2.out _).mono ?_
        rintro e w9 ⟨rfl, rfl⟩
        go_wp2
        go_ret
        exact ⟨ret_bool HR.out, (bl_alloc (bl_refl _) _)⟩
      | true =>
        cases e3 : bdN d.d with
        | false =>
          have E0 := Lib.hid e0
          have E1 := Lib.hid e1
          have E2 := Lib.hid e2
          have E3 := Lib.hid e3
          have HR := Lib.hid (show false = bdD d by simp [bdD, e0, e1, e2, e3])
          clear e0 e1 e2 e3
          go_enter Try.func119, Try.ntmps119
          go_wp2_with fail
          refine (num_eq E0.out _).mono ?_
          rintro e w9 ⟨rfl, rfl⟩
          go_wp2_with fail
          refine (num_eq E1.out _).mono ?_
          rintro e w9 ⟨rfl, rfl⟩
          go_wp2_with fail
          refine (num_eq E2.out _).mono ?_
          rintro e w9 ⟨rfl, rfl⟩
          go_wp2_with fail
          refine (num_eq E3.out _).mono ?_
          rintro e w9 ⟨rfl, rfl⟩
          go_wp2
          go_ret
          exact ⟨ret_bool HR.out, (bl_alloc (bl_refl _) _)⟩
        | true =>
          cases e4 : bdN d.e with
          | false =>
            have E0 := Lib.hid e0
            have E1 := Lib.hid e1
            have E2 := Lib.hid e2
            have E3 := Lib.hid e3
            have E4 := Lib.hid e4
            have HR := Lib.hid (show false = bdD d by simp [bdD, e0, e1, e2, e3, e4])
            clear e0 e1 e2 e3 e4
            go_enter Try.func119, Try.ntmps119
            go_wp2_with fail
            refine (num_eq E0.out _).mono ?_
            rintro e w9 ⟨rfl, rfl⟩
            go_wp2_with fail
            refine (num_eq E1.out _).mono ?_
            rintro e w9 ⟨rfl, rfl⟩
            go_wp2_with fail
            refine (num_eq E2.out _).mono ?_
            rintro e w9 ⟨rfl, rfl⟩
            go_wp2_with fail
            refine (num_eq E3.out _).mono ?_
            rintro e w9 ⟨rfl, rfl⟩
            go_wp2_with fail
            refine (num_eq E4.out _).mono ?_
            rintro e w9 ⟨rfl, rfl⟩
            go_wp2
            go_ret
            exact ⟨ret_bool HR.out, (bl_alloc (bl_refl _) _)⟩
          | true =>
            cases e5 : bdN d.f with
            | false =>
              have E0 := Lib.hid e0
              have E1 := Lib.hid e1
              have E2 := Lib.hid e2
              have E3 := Lib.hid e3
              have E4 := Lib.hid e4
              have E5 := Lib.hid e5
              have HR := Lib.hid (show false = bdD d by simp [bdD, e0, e1, e2, e3, e4, e5])
              clear e0 e1 e2 e3 e4 e5
              go_enter Try.func119, Try.ntmps119
              go_wp2_with fail
              refine (num_eq E0.out _).mono ?_
              rintro e w9 ⟨rfl, rfl⟩
              go_wp2_with fail
              refine (num_eq E1.out _).mono ?_
              rintro e w9 ⟨rfl, rfl⟩
              go_wp2_with fail
              refine (num_eq E2.out _).mono ?_
              rintro e w9 ⟨rfl, rfl⟩
              go_wp2_with fail
              refine (num_eq E3.out _).mono ?_
              rintro e w9 ⟨rfl, rfl⟩
              go_wp2_with fail
              refine (num_eq E4.out _).mono ?_
              rintro e w9 ⟨rfl, rfl⟩
              go_wp2_with fail
              refine (num_eq E5.out _).mono ?_
              rintro e w9 ⟨rfl, rfl⟩
              go_wp2
              go_ret
              exact ⟨ret_bool HR.out, (bl_alloc (bl_refl _) _)⟩
            | true =>
              cases e6 : bdN d.g with
              | false =>
                have E0 := Lib.hid e0
                have E1 := Lib.hid e1
                have E2 := Lib.hid e2
                have E3 := Lib.hid e3
                have E4 := Lib.hid e4
                have E5 := Lib.hid e5
                have E6 := Lib.hid e6
                have HR := Lib.hid (show false = bdD d by simp [bdD, e0, e1, e2, e3, e4, e5, e6])
                clear e0 e1 e2 e3 e4 e5 e6
                go_enter Try.func119, Try.ntmps119
                go_wp2_with fail
                refine (num_eq E0.out _).mono ?_
                rintro e w9 ⟨rfl, rfl⟩
                go_wp2_with fail
                refine (num_eq E1.out _).mono ?_
                rintro e w9 ⟨rfl, rfl⟩
                go_wp2_with fail
                refine (num_eq E2.out _).mono ?_
                rintro e w9 ⟨rfl, rfl⟩
                go_wp2_with fail
                refine (num_eq E3.out _).mono ?_
                rintro e w9 ⟨rfl, rfl⟩
                go_wp2_with fail
                refine (num_eq E4.out _).mono ?_
                rintro e w9 ⟨rfl, rfl⟩
                go_wp2_with fail
                refine (num_eq E5.out _).mono ?_
                rintro e w9 ⟨rfl, rfl⟩
                go_wp2_with fail
                refine (num_eq E6.out _).mono ?_
                rintro e w9 ⟨rfl, rfl⟩
                go_wp2
                go_ret
                exact ⟨ret_bool HR.out, (bl_alloc (bl_refl _) _)⟩
              | true =>
                cases e7 : bdN d.h with
                | false =>
                  have E0 := Lib.hid e0
                  have E1 := Lib.hid e1
                  have E2 := Lib.hid e2
                  have E3 := Lib.hid e3
                  have E4 := Lib.hid e4
                  have E5 := Lib.hid e5
                  have E6 := Lib.hid e6
                  have E7 := Lib.hid e7
                  have HR := Lib.hid (show false = bdD d by simp [bdD, e0, e1, e2, e3, e4, e5, e6, e7])
                  clear e0 e1 e2 e3 e4 e5 e6 e7
                  go_enter Try.func119, Try.ntmps119
                  go_wp2_with fail
                  refine (num_eq E0.out _).mono ?_
                  rintro e w9 ⟨rfl, rfl⟩
                  go_wp2_with fail
                  refine (num_eq E1.out _).mono ?_
                  rintro e w9 ⟨rfl, rfl⟩
                  go_wp2_with fail
                  refine (num_eq E2.out _).mono ?_
                  rintro e w9 ⟨rfl, rfl⟩
                  go_wp2_with fail
                  refine (num_eq E3.out _).mono ?_
                  rintro e w9 ⟨rfl, rfl⟩
                  go_wp2_with fail
                  refine (num_eq E4.out _).mono ?_
                  rintro e w9 ⟨rfl, rfl⟩
                  go_wp2_with fail
                  refine (num_eq E5.out _).mono ?_
                  rintro e w9 ⟨rfl, rfl⟩
                  go_wp2_with fail
                  refine (num_eq E6.out _).mono ?_
                  rintro e w9 ⟨rfl, rfl⟩
                  go_wp2_with fail
                  refine (num_eq E7.out _).mono ?_
                  rintro e w9 ⟨rfl, rfl⟩
                  go_wp2
                  go_ret
                  exact ⟨ret_bool HR.out, (bl_alloc (bl_refl _) _)⟩
                | true =>
                  have E0 := Lib.hid e0
                  have E1 := Lib.hid e1
                  have E2 := Lib.hid e2
                  have E3 := Lib.hid e3
                  have E4 := Lib.hid e4
                  have E5 := Lib.hid e5
                  have E6 := Lib.hid e6
                  have E7 := Lib.hid e7
                  have HR := Lib.hid (show true = bdD d by simp [bdD, e0, e1, e2, e3, e4, e5, e6, e7])
                  clear e0 e1 e2 e3 e4 e5 e6 e7
                  go_enter Try.func119, Try.ntmps119
                  go_wp2_with fail
                  refine (num_eq E0.out _).mono ?_
                  rintro e w9 ⟨rfl, rfl⟩
                  go_wp2_with fail
                  refine (num_eq E1.out _).mono ?_
                  rintro e w9 ⟨rfl, rfl⟩
                  go_wp2_with fail
                  refine (num_eq E2.out _).mono ?_
                  rintro e w9 ⟨rfl, rfl⟩
                  go_wp2_with fail
                  refine (num_eq E3.out _).mono ?_
                  rintro e w9 ⟨rfl, rfl⟩
                  go_wp2_with fail
                  refine (num_eq E4.out _).mono ?_
                  rintro e w9 ⟨rfl, rfl⟩
                  go_wp2_with fail
                  refine (num_eq E5.out _).mono ?_
                  rintro e w9 ⟨rfl, rfl⟩
                  go_wp2_with fail
                  refine (num_eq E6.out _).mono ?_
                  rintro e w9 ⟨rfl, rfl⟩
                  go_wp2_with fail
                  refine (num_eq E7.out _).mono ?_
                  rintro e w9 ⟨rfl, rfl⟩
                  go_wp2
                  go_ret
                  exact ⟨ret_bool HR.out, (bl_alloc (bl_refl _) _)⟩

theorem sfitD_eq {d : Db} {b : Bool} (h : bdD d = b) (w : World) : Calls Try.prog 119 #[.agg #[.int .i64 d.a, .int .i64 d.b, .int .i64 d.c, .int .i64 d.d, .int .i64 d.e, .int .i64 d.f, .int .i64 d.g, .int .i64 d.h]] w fun e w' => e = .returned (.bool b) ∧ Bl w w' := h ▸ sfitD_any d w
set_option maxRecDepth 100000 in
set_option maxHeartbeats 1600000 in
theorem sokD_any (d : Db) (w : World) : Calls Try.prog 69 #[.agg #[.int .i64 d.a, .int .i64 d.b, .int .i64 d.c, .int .i64 d.d, .int .i64 d.e, .int .i64 d.f, .int .i64 d.g, .int .i64 d.h]] w fun e w' => e = .returned (.bool (okD d)) ∧ Bl w w' := by
  cases e : bdD d with
  | false =>
    have E := Lib.hid e
    have HR := Lib.hid (show false = okD d by simp [okD, e])
    clear e
    go_enter Try.func69, Try.ntmps69
    go_wp2_with fail
    refine (sfitD_eq E.out _).mono ?_
    rintro e w1 ⟨rfl, hb1⟩
    have B1 : Bl w w1 := bl_call (bl_alloc (bl_refl _) _) hb1
    have xS_1 : Bx w1 (w.heap.size) #[.int .i64 d.a, .int .i64 d.b, .int .i64 d.c, .int .i64 d.d, .int .i64 d.e, .int .i64 d.f, .int .i64 d.g, .int .i64 d.h] := (Bx.new (b := w.heap.size) _ #[.int .i64 d.a, .int .i64 d.b, .int .i64 d.c, .int .i64 d.d, .int .i64 d.e, .int .i64 d.f, .int .i64 d.g, .int .i64 d.h] 26 (by first | rfl | simp)).below hb1
    obtain ⟨cS_1, fS_1, zS_1⟩ := xS_1.out
    go_wp2
    go_ret
    exact ⟨ret_bool HR.out, B1⟩
  | true =>
    have E := Lib.hid e
    by_cases h0 : d.e = 0
    case neg =>
      have b0 : (d.e != 0) = true := by simp [h0]
      have HR := Lib.hid (show true = okD d by simp [okD, enD, e, h0])
      clear e h0
      go_enter Try.func69, Try.ntmps69
      go_wp2_with fail
      refine (sfitD_eq E.out _).mono ?_
      rintro e w1 ⟨rfl, hb1⟩
      have B1 : Bl w w1 := bl_call (bl_alloc (bl_refl _) _) hb1
      have xS_1 : Bx w1 (w.heap.size) #[.int .i64 d.a, .int .i64 d.b, .int .i64 d.c, .int .i64 d.d, .int .i64 d.e, .int .i64 d.f, .int .i64 d.g, .int .i64 d.h] := (Bx.new (b := w.heap.size) _ #[.int .i64 d.a, .int .i64 d.b, .int .i64 d.c, .int .i64 d.d, .int .i64 d.e, .int .i64 d.f, .int .i64 d.g, .int .i64 d.h] 26 (by first | rfl | simp)).below hb1
      obtain ⟨cS_1, fS_1, zS_1⟩ := xS_1.out
      go_wp2
      go_ret
      exact ⟨ret_bool HR.out, B1⟩
    by_cases h1 : d.f = 0
    case neg =>
      have b0 : (d.e != 0) = false := by simp [h0]
      have b1 : (d.f != 0) = true := by simp [h1]
      have HR := Lib.hid (show true = okD d by simp [okD, enD, e, h0, h1])
      clear e h0 h1
      go_enter Try.func69, Try.ntmps69
      go_wp2_with fail
      refine (sfitD_eq E.out _).mono ?_
      rintro e w1 ⟨rfl, hb1⟩
      have B1 : Bl w w1 := bl_call (bl_alloc (bl_refl _) _) hb1
      have xS_1 : Bx w1 (w.heap.size) #[.int .i64 d.a, .int .i64 d.b, .int .i64 d.c, .int .i64 d.d, .int .i64 d.e, .int .i64 d.f, .int .i64 d.g, .int .i64 d.h] := (Bx.new (b := w.heap.size) _ #[.int .i64 d.a, .int .i64 d.b, .int .i64 d.c, .int .i64 d.d, .int .i64 d.e, .int .i64 d.f, .int .i64 d.g, .int .i64 d.h] 26 (by first | rfl | simp)).below hb1
      obtain ⟨cS_1, fS_1, zS_1⟩ := xS_1.out
      go_wp2
      go_ret
      exact ⟨ret_bool HR.out, B1⟩
    by_cases h2 : d.g = 0
    case neg =>
      have b0 : (d.e != 0) = false := by simp [h0]
      have b1 : (d.f != 0) = false := by simp [h1]
      have b2 : (d.g != 0) = true := by simp [h2]
      have HR := Lib.hid (show true = okD d by simp [okD, enD, e, h0, h1, h2])
      clear e h0 h1 h2
      go_enter Try.func69, Try.ntmps69
      go_wp2_with fail
      refine (sfitD_eq E.out _).mono ?_
      rintro e w1 ⟨rfl, hb1⟩
      have B1 : Bl w w1 := bl_call (bl_alloc (bl_refl _) _) hb1
      have xS_1 : Bx w1 (w.heap.size) #[.int .i64 d.a, .int .i64 d.b, .int .i64 d.c, .int .i64 d.d, .int .i64 d.e, .int .i64 d.f, .int .i64 d.g, .int .i64 d.h] := (Bx.new (b := w.heap.size) _ #[.int .i64 d.a, .int .i64 d.b, .int .i64 d.c, .int .i64 d.d, .int .i64 d.e, .int .i64 d.f, .int .i64 d.g, .int .i64 d.h] 26 (by first | rfl | simp)).below hb1
      obtain ⟨cS_1, fS_1, zS_1⟩ := xS_1.out
      go_wp2
      go_ret
      exact ⟨ret_bool HR.out, B1⟩
    by_cases h3 : d.h = 0
    case neg =>
      have b0 : (d.e != 0) = false := by simp [h0]
      have b1 : (d.f != 0) = false := by simp [h1]
      have b2 : (d.g != 0) = false := by simp [h2]
      have b3 : (d.h != 0) = true := by simp [h3]
      have HR := Lib.hid (show true = okD d by simp [okD, enD, e, h0, h1, h2, h3])
      clear e h0 h1 h2 h3
      go_enter Try.func69, Try.ntmps69
      go_wp2_with fail
      refine (sfitD_eq E.out _).mono ?_
      rintro e w1 ⟨rfl, hb1⟩
      have B1 : Bl w w1 := bl_call (bl_alloc (bl_refl _) _) hb1
      have xS_1 : Bx w1 (w.heap.size) #[.int .i64 d.a, .int .i64 d.b, .int .i64 d.c, .int .i64 d.d, .int .i64 d.e, .int .i64 d.f, .int .i64 d.g, .int .i64 d.h] := (Bx.new (b := w.heap.size) _ #[.int .i64 d.a, .int .i64 d.b, .int .i64 d.c, .int .i64 d.d, .int .i64 d.e, .int .i64 d.f, .int .i64 d.g, .int .i64 d.h] 26 (by first | rfl | simp)).below hb1
      obtain ⟨cS_1, fS_1, zS_1⟩ := xS_1.out
      go_wp2
      go_ret
      exact ⟨ret_bool HR.out, B1⟩
    have b0 : (d.e != 0) = false := by simp [h0]
    have b1 : (d.f != 0) = false := by simp [h1]
    have b2 : (d.g != 0) = false := by simp [h2]
    have b3 : (d.h != 0) = false := by simp [h3]
    have HR := Lib.hid (show false = okD d by simp [okD, enD, e, h0, h1, h2, h3])
    clear e h0 h1 h2 h3
    go_enter Try.func69, Try.ntmps69
    go_wp2_with fail
    refine (sfitD_eq E.out _).mono ?_
    rintro e w1 ⟨rfl, hb1⟩
    have B1 : Bl w w1 := bl_call (bl_alloc (bl_refl _) _) hb1
    have xS_1 : Bx w1 (w.heap.size) #[.int .i64 d.a, .int .i64 d.b, .int .i64 d.c, .int .i64 d.d, .int .i64 d.e, .int .i64 d.f, .int .i64 d.g, .int .i64 d.h] := (Bx.new (b := w.heap.size) _ #[.int .i64 d.a, .int .i64 d.b, .int .i64 d.c, .int .i64 d.d, .int .i64 d.e, .int .i64 d.f, .int .i64 d.g, .int .i64 d.h] 26 (by first | rfl | simp)).below hb1
    obtain ⟨cS_1, fS_1, zS_1⟩ := xS_1.out
    go_wp2
    go_ret
    exact ⟨ret_bool HR.out, B1⟩

end Go.Proofs.Ytbncinbngmfamaa
