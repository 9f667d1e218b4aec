/- Some of the texts of this claim, joined in one file: Db1, Db2. -/
import Derived.Test.YtgkelemfbmmgnaaMTp14
import Derived.Test.YtgkelemfbmmgnaaMTp11
/- Functions of two numbers: terms fed and emitted, what is left. Each theorem names its conditions. -/
namespace Go.Proofs.Ytgkelemfbmmgnaa
open Go.RowKit
set_option linter.unusedVariables false
set_option linter.unusedSimpArgs false


set_option maxRecDepth 100000 in
set_option maxHeartbeats 1600000 in
theorem ifdX_any (d : Db) (t : Int) (w : World) (e : bdD d = true) (ht : -1000000000 ≤ t ∧ t ≤ 1000000000) : Calls Try.prog 96 #[.agg #[.int .i64 d.a, .int .i64 d.b, .int .i64 d.c, .int .i64 d.d, .int .i64 d.e, .int .i64 d.f, .int .i64 d.g, .int .i64 d.h], .int .i64 t] w fun e w' => e = .returned (.agg #[.int .i64 (fdX d t).a, .int .i64 (fdX d t).b, .int .i64 (fdX d t).c, .int .i64 (fdX d t).d, .int .i64 (fdX d t).e, .int .i64 (fdX d t).f, .int .i64 (fdX d t).g, .int .i64 (fdX d t).h]) ∧ Bl w w' := by
  have hb := bdD_iff.1 e
  obtain ⟨hA, hB, hC, hD, hE, hF, hG, hH⟩ := hb
  have p0 := mulbdS hA ht
  have p1 := mulbdS hB ht
  have p2 := mulbdS hE ht
  have p3 := mulbdS hF ht
  clear e
  go_enter Try.func96, Try.ntmps96
  go_wp2
  refine bodyPost_ret (v := .agg #[.int .i64 (d.a * t + d.c), .int .i64 (d.b * t + d.d), .int .i64 (d.a), .int .i64 (d.b), .int .i64 (d.e * t + d.g), .int .i64 (d.f * t + d.h), .int .i64 (d.e), .int .i64 (d.f)]) (by simp only [results, Try.results96]; go_simp) rfl ⟨rfl, ?_⟩
  repeat first | (with_reducible exact bl_refl _) | (with_reducible refine bl_alloc ?_ _) | (with_reducible refine bl_set ?_ (by first | exact Nat.le_refl _ | (simp; done) | (simp; omega)) _)

set_option maxRecDepth 100000 in
set_option maxHeartbeats 1600000 in
theorem ifdY_any (d : Db) (t : Int) (w : World) (e : bdD d = true) (ht : -1000000000 ≤ t ∧ t ≤ 1000000000) : Calls Try.prog 97 #[.agg #[.int .i64 d.a, .int .i64 d.b, .int .i64 d.c, .int .i64 d.d, .int .i64 d.e, .int .i64 d.f, .int .i64 d.g, .int .i64 d.h], .int .i64 t] w fun e w' => e = .returned (.agg #[.int .i64 (fdY d t).a, .int .i64 (fdY d t).b, .int .i64 (fdY d t).c, .int .i64 (fdY d t).d, .int .i64 (fdY d t).e, .int .i64 (fdY d t).f, .int .i64 (fdY d t).g, .int .i64 (fdY d t).h]) ∧ Bl w w' := by
  have hb := bdD_iff.1 e
  obtain ⟨hA, hB, hC, hD, hE, hF, hG, hH⟩ := hb
  have p0 := mulbdS hA ht
  have p1 := mulbdS hC ht
  have p2 := mulbdS hE ht
  have p3 := mulbdS hG ht
  clear e
  go_enter Try.func97, Try.ntmps97
  go_wp2
  refine bodyPost_ret (v := .agg #[.int .i64 (d.a * t + d.b), .int .i64 (d.a), .int .i64 (d.c * t + d.d), .int .i64 (d.c), .int .i64 (d.e * t + d.f), .int .i64 (d.e), .int .i64 (d.g * t + d.h), .int .i64 (d.g)]) (by simp only [results, Try.results97]; go_simp) rfl ⟨rfl, ?_⟩
  repeat first | (with_reducible exact bl_refl _) | (with_reducible refine bl_alloc ?_ _) | (with_reducible refine bl_set ?_ (by first | exact Nat.le_refl _ | (simp; done) | (simp; omega)) _)

set_option maxRecDepth 100000 in
set_option maxHeartbeats 1600000 in
theorem iemD_any (d : Db) (t : Int) (w : World) (e : bdD d = true) (ht : -1000000000 ≤ t ∧ t ≤ 1000000000) : Calls Try.prog 122 #[.agg #[.int .i64 d.a, .int .i64 d.b, .int .i64 d.c, .int .i64 d.d, .int .i64 d.e, .int .i64 d.f, .int .i64 d.g, .int .i64 d.h], .int .i64 t] w fun e w' => e = .returned (.agg #[.int .i64 (emD d t).a, .int .i64 (emD d t).b, .int .i64 (emD d t).c, .int .i64 (emD d t).d, .int .i64 (emD d t).e, .int .i64 (emD d t).f, .int .i64 (emD d t).g, .int .i64 (emD d t).h]) ∧ Bl w w' := by
  have hb := bdD_iff.1 e
  obtain ⟨hA, hB, hC, hD, hE, hF, hG, hH⟩ := hb
  have p0 := mulbdS ht hE
  have p1 := mulbdS ht hF
  have p2 := mulbdS ht hG
  have p3 := mulbdS ht hH
  clear e
  go_enter Try.func122, Try.ntmps122
  go_wp2
  refine bodyPost_ret (v := .agg #[.int .i64 (d.e), .int .i64 (d.f), .int .i64 (d.g), .int .i64 (d.h), .int .i64 (d.a - t * d.e), .int .i64 (d.b - t * d.f), .int .i64 (d.c - t * d.g), .int .i64 (d.d - t * d.h)]) (by simp only [results, Try.results122]; go_simp) rfl ⟨rfl, ?_⟩
  repeat first | (with_reducible exact bl_refl _) | (with_reducible refine bl_alloc ?_ _) | (with_reducible refine bl_set ?_ (by first | exact Nat.le_refl _ | (simp; done) | (simp; omega)) _)

set_option maxRecDepth 100000 in
set_option maxHeartbeats 1600000 in
theorem ileX_any (d : Db) (w : World) : Calls Try.prog 94 #[.agg #[.int .i64 d.a, .int .i64 d.b, .int .i64 d.c, .int .i64 d.d, .int .i64 d.e, .int .i64 d.f, .int .i64 d.g, .int .i64 d.h]] w fun e w' => e = .returned (.agg #[.int .i64 (leX d).a, .int .i64 (leX d).b, .int .i64 (leX d).c, .int .i64 (leX d).d]) ∧ Bl w w' := by
  go_enter Try.func94, Try.ntmps94
  go_wp2
  refine bodyPost_ret (v := .agg #[.int .i64 (d.a), .int .i64 (d.b), .int .i64 (d.e), .int .i64 (d.f)]) (by simp only [results, Try.results94]; go_simp) rfl ⟨rfl, ?_⟩
  repeat first | (with_reducible exact bl_refl _) | (with_reducible refine bl_alloc ?_ _) | (with_reducible refine bl_set ?_ (by first | exact Nat.le_refl _ | (simp; done) | (simp; omega)) _)

set_option maxRecDepth 100000 in
set_option maxHeartbeats 1600000 in
theorem ileY_any (d : Db) (w : World) : Calls Try.prog 95 #[.agg #[.int .i64 d.a, .int .i64 d.b, .int .i64 d.c, .int .i64 d.d, .int .i64 d.e, .int .i64 d.f, .int .i64 d.g, .int .i64 d.h]] w fun e w' => e = .returned (.agg #[.int .i64 (leY d).a, .int .i64 (leY d).b, .int .i64 (leY d).c, .int .i64 (leY d).d]) ∧ Bl w w' := by
  go_enter Try.func95, Try.ntmps95
  go_wp2
  refine bodyPost_ret (v := .agg #[.int .i64 (d.a), .int .i64 (d.c), .int .i64 (d.e), .int .i64 (d.g)]) (by simp only [results, Try.results95]; go_simp) rfl ⟨rfl, ?_⟩
  repeat first | (with_reducible exact bl_refl _) | (with_reducible refine bl_alloc ?_ _) | (with_reducible refine bl_set ?_ (by first | exact Nat.le_refl _ | (simp; done) | (simp; omega)) _)

end Go.Proofs.Ytgkelemfbmmgnaa

/- Functions of two numbers: validity. Each theorem names its conditions. -/
namespace Go.Proofs.Ytgkelemfbmmgnaa
open Go.RowKit
set_option linter.unusedVariables false
set_option linter.unusedSimpArgs false

theorem bdD_sw {d : Db} (h : bdD d = true) : bdD (swD d) = true := by
  rw [bdD_iff] at h ⊢
  exact ⟨h.1, h.2.2.1, h.2.1, h.2.2.2.1, h.2.2.2.2.1, h.2.2.2.2.2.2.1, h.2.2.2.2.2.1, h.2.2.2.2.2.2.2⟩
set_option maxRecDepth 100000 in
set_option maxHeartbeats 1600000 in
theorem iend_D (d : Db) (w : World) : Calls Try.prog 120 #[.agg #[.int .i64 d.a, .int .i64 d.b, .int .i64 d.c, .int .i64 d.d, .int .i64 d.e, .int .i64 d.f, .int .i64 d.g, .int .i64 d.h]] w fun e w' => e = .returned (.bool (enD d)) ∧ Bl w w' := by
  by_cases h0 : d.e = 0
  case neg =>
    have b0 : (d.e == 0) = false := by simp [h0]
    have HR := Lib.hid (show false = enD d by simp [enD, h0])
    clear h0
    go_enter Try.func120, Try.ntmps120
    go_wp2
    go_ret
    exact ⟨ret_bool HR.out, (bl_alloc (bl_refl _) _)⟩
  by_cases h1 : d.f = 0
  case neg =>
    have b0 : (d.e == 0) = true := by simp [h0]
    have b1 : (d.f == 0) = false := by simp [h1]
    have HR := Lib.hid (show false = enD d by simp [enD, h0, h1])
    clear h0 h1
    go_enter Try.func120, Try.ntmps120
    go_wp2
    go_ret
    exact ⟨ret_bool HR.out, (bl_alloc (bl_refl _) _)⟩
  by_cases h2 : d.g = 0
  case neg =>
    have b0 : (d.e == 0) = true := by simp [h0]
    have b1 : (d.f == 0) = true := by simp [h1]
    have b2 : (d.g == 0) = false := by simp [h2]
    have HR := Lib.hid (show false = enD d by simp [enD, h0, h1, h2])
    clear h0 h1 h2
    go_enter Try.func120, Try.ntmps120
    go_wp2
    go_ret
    exact ⟨ret_bool HR.out, (bl_alloc (bl_refl _) _)⟩
  by_cases h3 : d.h = 0
  case neg =>
    have b0 : (d.e == 0) = true := by simp [h0]
    have b1 : (d.f == 0) = true := by simp [h1]
    have b2 : (d.g == 0) = true := by simp [h2]
    have b3 : (d.h == 0) = false := by simp [h3]
    have HR := Lib.hid (show false = enD d by simp [enD, h0, h1, h2, h3])
    clear h0 h1 h2 h3
    go_enter Try.func120, Try.ntmps120
    go_wp2
    go_ret
    exact ⟨ret_bool HR.out, (bl_alloc (bl_refl _) _)⟩
  have b0 : (d.e == 0) = true := by simp [h0]
  have b1 : (d.f == 0) = true := by simp [h1]
  have b2 : (d.g == 0) = true := by simp [h2]
  have b3 : (d.h == 0) = true := by simp [h3]
  have HR := Lib.hid (show true = enD d by simp [enD, h0, h1, h2, h3])
  clear h0 h1 h2 h3
  go_enter Try.func120, Try.ntmps120
  go_wp2
  go_ret
  exact ⟨ret_bool HR.out, (bl_alloc (bl_refl _) _)⟩

end Go.Proofs.Ytgkelemfbmmgnaa

