/- Functions of two numbers: terms fed and emitted, what is left. Each theorem names its conditions. -/
import Derived.Test.YtbncinbngmfamaaDbM
import Derived.Test.YtbncinbngmfamaaSt2
namespace Go.Proofs.Ytbncinbngmfamaa
open Go.RowKit
set_option linter.unusedVariables false
set_option linter.unusedSimpArgs false


set_option maxRecDepth 100000 in
set_option maxHeartbeats 1600000 in
theorem ifdX_any (d : Db) (t : Int) (w : World) (e : bdD d = true) (ht : -1000000000 ≤ t ∧ t ≤ 1000000000) : Calls Try.prog 67 #[.agg #[.int .i64 d.a, .int .i64 d.b, .int .i64 d.c, .int .i64 d.d, .int .i64 d.e, .int .i64 d.f, .int .i64 d.g, .int .i64 d.h], .int .i64 t] w fun e w' => e = .returned (.agg #[.int .i64 (fdX d t).a, .int .i64 (fdX d t).b, .int .i64 (fdX d t).c, .int .i64 (fdX d t).d, .int .i64 (fdX d t).e, .int .i64 (fdX d t).f, .int .i64 (fdX d t).g, .int .i64 (fdX d t).h]) ∧ Bl w w' := by
  have hb := bdD_iff.1 e
  obtain ⟨hA, hB, hC, hD, hE, hF, hG, hH⟩ := hb
  have p0 := mulbdS hA ht
  have p1 := mulbdS hB ht
  have p2 := mulbdS hE ht
  have p3 := mulbdS hF ht
  clear e
  go_enter Try.func67, Try.ntmps67
  go_wp2
  refine bodyPost_ret (v := .agg #[.int .i64 (d.a * t + d.c), .int .i64 (d.b * t + d.d), .int .i64 (d.a), .int .i64 (d.b), .int .i64 (d.e * t + d.g), .int .i64 (d.f * t + d.h), .int .i64 (d.e), .int .i64 (d.f)]) (by simp only [results, Try.results67]; go_simp) rfl ⟨rfl, ?_⟩
  repeat first | (with_reducible exact bl_refl _) | (with_reducible refine bl_alloc ?_ _) | (with_reducible refine bl_set ?_ (by first | exact Nat.le_refl _ | (simp; done) | (simp; omega)) _)

set_option maxRecDepth 100000 in
set_option maxHeartbeats 1600000 in
theorem ifdY_any (d : Db) (t : Int) (w : World) (e : bdD d = true) (ht : -1000000000 ≤ t ∧ t ≤ 1000000000) : Calls Try.prog 68 #[.agg #[.int .i64 d.a, .int .i64 d.b, .int .i64 d.c, .int .i64 d.d, .int .i64 d.e, .int .i64 d.f, .int .i64 d.g, .int .i64 d.h], .int .i64 t] w fun e w' => e = .returned (.agg #[.int .i64 (fdY d t).a, .int .i64 (fdY d t).b, .int .i64 (fdY d t).c, .int .i64 (fdY d t).d, .int .i64 (fdY d t).e, .int .i64 (fdY d t).f, .int .i64 (fdY d t).g, .int .i64 (fdY d t).h]) ∧ Bl w w' := by
  have hb := bdD_iff.1 e
  obtain ⟨hA, hB, hC, hD, hE, hF, hG, hH⟩ := hb
  have p0 := mulbdS hA ht
  have p1 := mulbdS hC ht
  have p2 := mulbdS hE ht
  have p3 := mulbdS hG ht
  clear e
  go_enter Try.func68, Try.ntmps68
  go_wp2
  refine bodyPost_ret (v := .agg #[.int .i64 (d.a * t + d.b), .int .i64 (d.a), .int .i64 (d.c * t + d.d), .int .i64 (d.c), .int .i64 (d.e * t + d.f), .int .i64 (d.e), .int .i64 (d.g * t + d.h), .int .i64 (d.g)]) (by simp only [results, Try.results68]; go_simp) rfl ⟨rfl, ?_⟩
  repeat first | (with_reducible exact bl_refl _) | (with_reducible refine bl_alloc ?_ _) | (with_reducible refine bl_set ?_ (by first | exact Nat.le_refl _ | (simp; done) | (simp; omega)) _)

set_option maxRecDepth 100000 in
set_option maxHeartbeats 1600000 in
theorem iemD_any (d : Db) (t : Int) (w : World) (e : bdD d = true) (ht : -1000000000 ≤ t ∧ t ≤ 1000000000) : Calls Try.prog 76 #[.agg #[.int .i64 d.a, .int .i64 d.b, .int .i64 d.c, .int .i64 d.d, .int .i64 d.e, .int .i64 d.f, .int .i64 d.g, .int .i64 d.h], .int .i64 t] w fun e w' => e = .returned (.agg #[.int .i64 (emD d t).a, .int .i64 (emD d t).b, .int .i64 (emD d t).c, .int .i64 (emD d t).d, .int .i64 (emD d t).e, .int .i64 (emD d t).f, .int .i64 (emD d t).g, .int .i64 (emD d t).h]) ∧ Bl w w' := by
  have hb := bdD_iff.1 e
  obtain ⟨hA, hB, hC, hD, hE, hF, hG, hH⟩ := hb
  have p0 := mulbdS ht hE
  have p1 := mulbdS ht hF
  have p2 := mulbdS ht hG
  have p3 := mulbdS ht hH
  clear e
  go_enter Try.func76, Try.ntmps76
  go_wp2
  refine bodyPost_ret (v := .agg #[.int .i64 (d.e), .int .i64 (d.f), .int .i64 (d.g), .int .i64 (d.h), .int .i64 (d.a - t * d.e), .int .i64 (d.b - t * d.f), .int .i64 (d.c - t * d.g), .int .i64 (d.d - t * d.h)]) (by simp only [results, Try.results76]; go_simp) rfl ⟨rfl, ?_⟩
  repeat first | (with_reducible exact bl_refl _) | (with_reducible refine bl_alloc ?_ _) | (with_reducible refine bl_set ?_ (by first | exact Nat.le_refl _ | (simp; done) | (simp; omega)) _)

set_option maxRecDepth 100000 in
set_option maxHeartbeats 1600000 in
theorem ileX_any (d : Db) (w : World) : Calls Try.prog 79 #[.agg #[.int .i64 d.a, .int .i64 d.b, .int .i64 d.c, .int .i64 d.d, .int .i64 d.e, .int .i64 d.f, .int .i64 d.g, .int .i64 d.h]] w fun e w' => e = .returned (.agg #[.int .i64 (leX d).a, .int .i64 (leX d).b, .int .i64 (leX d).c, .int .i64 (leX d).d]) ∧ Bl w w' := by
  go_enter Try.func79, Try.ntmps79
  go_wp2
  refine bodyPost_ret (v := .agg #[.int .i64 (d.a), .int .i64 (d.b), .int .i64 (d.e), .int .i64 (d.f)]) (by simp only [results, Try.results79]; go_simp) rfl ⟨rfl, ?_⟩
  repeat first | (with_reducible exact bl_refl _) | (with_reducible refine bl_alloc ?_ _) | (with_reducible refine bl_set ?_ (by first | exact Nat.le_refl _ | (simp; done) | (simp; omega)) _)

set_option maxRecDepth 100000 in
set_option maxHeartbeats 1600000 in
theorem ileY_any (d : Db) (w : World) : Calls Try.prog 143 #[.agg #[.int .i64 d.a, .int .i64 d.b, .int .i64 d.c, .int .i64 d.d, .int .i64 d.e, .int .i64 d.f, .int .i64 d.g, .int .i64 d.h]] w fun e w' => e = .returned (.agg #[.int .i64 (leY d).a, .int .i64 (leY d).b, .int .i64 (leY d).c, .int .i64 (leY d).d]) ∧ Bl w w' := by
  go_enter Try.func143, Try.ntmps143
  go_wp2
  refine bodyPost_ret (v := .agg #[.int .i64 (d.a), .int .i64 (d.c), .int .i64 (d.e), .int .i64 (d.g)]) (by simp only [results, Try.results143]; go_simp) rfl ⟨rfl, ?_⟩
  repeat first | (with_reducible exact bl_refl _) | (with_reducible refine bl_alloc ?_ _) | (with_reducible refine bl_set ?_ (by first | exact Nat.le_refl _ | (simp; done) | (simp; omega)) _)

set_option maxRecDepth 100000 in
set_option maxHeartbeats 1600000 in
theorem sfdX_any (d : Db) (t : Int) (w : World) (e : bdD d = true) (ht : -1000000000 ≤ t ∧ t ≤ 1000000000) : Calls Try.prog 159 #[.agg #[.int .i64 d.a, .int .i64 d.b, .int .i64 d.c, .int .i64 d.d, .int .i64 d.e, .int .i64 d.f, .int .i64 d.g, .int .i64 d.h], .int .i64 t] w fun e w' => e = .returned (.agg #[.int .i64 (fdX d t).a, .int .i64 (fdX d t).b, .int .i64 (fdX d t).c, .int .i64 (fdX d t).d, .int .i64 (fdX d t).e, .int .i64 (fdX d t).f, .int .i64 (fdX d t).g, .int .i64 (fdX d t).h]) ∧ Bl w w' := by
  have hb := bdD_iff.1 e
  obtain ⟨hA, hB, hC, hD, hE, hF, hG, hH⟩ := hb
  have p0 := mulbdS hA ht
  have p1 := mulbdS hB ht
  have p2 := mulbdS hE ht
  have p3 := mulbdS hF ht
  clear e
  go_enter Try.func159, Try.ntmps159
  go_wp2
  refine bodyPost_ret (v := .agg #[.int .i64 (d.a * t + d.c), .int .i64 (d.b * t + d.d), .int .i64 (d.a), .int .i64 (d.b), .int .i64 (d.e * t + d.g), .int .i64 (d.f * t + d.h), .int .i64 (d.e), .int .i64 (d.f)]) (by simp only [results, Try.results159]; go_simp) rfl ⟨rfl, ?_⟩
  repeat first | (with_reducible exact bl_refl _) | (with_reducible refine bl_alloc ?_ _) | (with_reducible refine bl_set ?_ (by first | exact Nat.le_refl _ | (simp; done) | (simp; omega)) _)

set_option maxRecDepth 100000 in
set_option maxHeartbeats 1600000 in
theorem sswD_any (d : Db) (w : World) : Calls Try.prog 150 #[.agg #[.int .i64 d.a, .int .i64 d.b, .int .i64 d.c, .int .i64 d.d, .int .i64 d.e, .int .i64 d.f, .int .i64 d.g, .int .i64 d.h]] w fun e w' => e = .returned (.agg #[.int .i64 (swD d).a, .int .i64 (swD d).b, .int .i64 (swD d).c, .int .i64 (swD d).d, .int .i64 (swD d).e, .int .i64 (swD d).f, .int .i64 (swD d).g, .int .i64 (swD d).h]) ∧ Bl w w' := by
  go_enter Try.func150, Try.ntmps150
  go_wp2
  refine bodyPost_ret (v := .agg #[.int .i64 (d.a), .int .i64 (d.c), .int .i64 (d.b), .int .i64 (d.d), .int .i64 (d.e), .int .i64 (d.g), .int .i64 (d.f), .int .i64 (d.h)]) (by simp only [results, Try.results150]; go_simp) rfl ⟨rfl, ?_⟩
  repeat first | (with_reducible exact bl_refl _) | (with_reducible refine bl_alloc ?_ _) | (with_reducible refine bl_set ?_ (by first | exact Nat.le_refl _ | (simp; done) | (simp; omega)) _)

set_option maxRecDepth 100000 in
set_option maxHeartbeats 1600000 in
theorem sleX_any (d : Db) (w : World) : Calls Try.prog 149 #[.agg #[.int .i64 d.a, .int .i64 d.b, .int .i64 d.c, .int .i64 d.d, .int .i64 d.e, .int .i64 d.f, .int .i64 d.g, .int .i64 d.h]] w fun e w' => e = .returned (.agg #[.int .i64 (leX d).a, .int .i64 (leX d).b, .int .i64 (leX d).c, .int .i64 (leX d).d]) ∧ Bl w w' := by
  go_enter Try.func149, Try.ntmps149
  go_wp2
  refine bodyPost_ret (v := .agg #[.int .i64 (d.a), .int .i64 (d.b), .int .i64 (d.e), .int .i64 (d.f)]) (by simp only [results, Try.results149]; go_simp) rfl ⟨rfl, ?_⟩
  repeat first | (with_reducible exact bl_refl _) | (with_reducible refine bl_alloc ?_ _) | (with_reducible refine bl_set ?_ (by first | exact Nat.le_refl _ | (simp; done) | (simp; omega)) _)

end Go.Proofs.Ytbncinbngmfamaa
