/- Functions of two numbers: terms fed and emitted, what is left. Each theorem names its conditions. -/
import Derived.Test.YtgmofofokhlhnaaDbM
import Derived.Test.YtgmofofokhlhnaaSt2
namespace Go.Proofs.Ytgmofofokhlhnaa
open Go.RowKit
set_option linter.unusedVariables false
set_option linter.unusedSimpArgs false


set_option maxRecDepth 100000 in
set_option maxHeartbeats 1600000 in
theorem ifdX_any (d : Db) (t : Int) (w : World) (e : bdD d = true) (ht : -1000000000 ≤ t ∧ t ≤ 1000000000) : Calls Try.prog 167 #[.agg #[.int .i64 d.a, .int .i64 d.b, .int .i64 d.c, .int .i64 d.d, .int .i64 d.e, .int .i64 d.f, .int .i64 d.g, .int .i64 d.h], .int .i64 t] w fun e w' => e = .returned (.agg #[.int .i64 (fdX d t).a, .int .i64 (fdX d t).b, .int .i64 (fdX d t).c, .int .i64 (fdX d t).d, .int .i64 (fdX d t).e, .int .i64 (fdX d t).f, .int .i64 (fdX d t).g, .int .i64 (fdX d t).h]) ∧ Bl w w' := by
  have hb := bdD_iff.1 e
  obtain ⟨hA, hB, hC, hD, hE, hF, hG, hH⟩ := hb
  have p0 := mulbdS hA ht
  have p1 := mulbdS hB ht
  have p2 := mulbdS hE ht
  have p3 := mulbdS hF ht
  clear e
  go_enter Try.func167, Try.ntmps167
  go_wp2
  refine bodyPost_ret (v := .agg #[.int .i64 (d.a * t + d.c), .int .i64 (d.b * t + d.d), .int .i64 (d.a), .int .i64 (d.b), .int .i64 (d.e * t + d.g), .int .i64 (d.f * t + d.h), .int .i64 (d.e), .int .i64 (d.f)]) (by simp only [results, Try.results167]; go_simp) rfl ⟨rfl, ?_⟩
  repeat first | (with_reducible exact bl_refl _) | (with_reducible refine bl_alloc ?_ _) | (with_reducible refine bl_set ?_ (by first | exact Nat.le_refl _ | (simp; done) | (simp; omega)) _)

set_option maxRecDepth 100000 in
set_option maxHeartbeats 1600000 in
theorem ifdY_any (d : Db) (t : Int) (w : World) (e : bdD d = true) (ht : -1000000000 ≤ t ∧ t ≤ 1000000000) : Calls Try.prog 168 #[.agg #[.int .i64 d.a, .int .i64 d.b, .int .i64 d.c, .int .i64 d.d, .int .i64 d.e, .int .i64 d.f, .int .i64 d.g, .int .i64 d.h], .int .i64 t] w fun e w' => e = .returned (.agg #[.int .i64 (fdY d t).a, .int .i64 (fdY d t).b, .int .i64 (fdY d t).c, .int .i64 (fdY d t).d, .int .i64 (fdY d t).e, .int .i64 (fdY d t).f, .int .i64 (fdY d t).g, .int .i64 (fdY d t).h]) ∧ Bl w w' := by
  have hb := bdD_iff.1 e
  obtain ⟨hA, hB, hC, hD, hE, hF, hG, hH⟩ := hb
  have p0 := mulbdS hA ht
  have p1 := mulbdS hC ht
  have p2 := mulbdS hE ht
  have p3 := mulbdS hG ht
  clear e
  go_enter Try.func168, Try.ntmps168
  go_wp2
  refine bodyPost_ret (v := .agg #[.int .i64 (d.a * t + d.b), .int .i64 (d.a), .int .i64 (d.c * t + d.d), .int .i64 (d.c), .int .i64 (d.e * t + d.f), .int .i64 (d.e), .int .i64 (d.g * t + d.h), .int .i64 (d.g)]) (by simp only [results, Try.results168]; go_simp) rfl ⟨rfl, ?_⟩
  repeat first | (with_reducible exact bl_refl _) | (with_reducible refine bl_alloc ?_ _) | (with_reducible refine bl_set ?_ (by first | exact Nat.le_refl _ | (simp; done) | (simp; omega)) _)

set_option maxRecDepth 100000 in
set_option maxHeartbeats 1600000 in
theorem iemD_any (d : Db) (t : Int) (w : World) (e : bdD d = true) (ht : -1000000000 ≤ t ∧ t ≤ 1000000000) : Calls Try.prog 190 #[.agg #[.int .i64 d.a, .int .i64 d.b, .int .i64 d.c, .int .i64 d.d, .int .i64 d.e, .int .i64 d.f, .int .i64 d.g, .int .i64 d.h], .int .i64 t] w fun e w' => e = .returned (.agg #[.int .i64 (emD d t).a, .int .i64 (emD d t).b, .int .i64 (emD d t).c, .int .i64 (emD d t).d, .int .i64 (emD d t).e, .int .i64 (emD d t).f, .int .i64 (emD d t).g, .int .i64 (emD d t).h]) ∧ Bl w w' := by
  have hb := bdD_iff.1 e
  obtain ⟨hA, hB, hC, hD, hE, hF, hG, hH⟩ := hb
  have p0 := mulbdS ht hE
  have p1 := mulbdS ht hF
  have p2 := mulbdS ht hG
  have p3 := mulbdS ht hH
  clear e
  go_enter Try.func190, Try.ntmps190
  go_wp2
  refine bodyPost_ret (v := .agg #[.int .i64 (d.e), .int .i64 (d.f), .int .i64 (d.g), .int .i64 (d.h), .int .i64 (d.a - t * d.e), .int .i64 (d.b - t * d.f), .int .i64 (d.c - t * d.g), .int .i64 (d.d - t * d.h)]) (by simp only [results, Try.results190]; go_simp) rfl ⟨rfl, ?_⟩
  repeat first | (with_reducible exact bl_refl _) | (with_reducible refine bl_alloc ?_ _) | (with_reducible refine bl_set ?_ (by first | exact Nat.le_refl _ | (simp; done) | (simp; omega)) _)

set_option maxRecDepth 100000 in
set_option maxHeartbeats 1600000 in
theorem ileX_any (d : Db) (w : World) : Calls Try.prog 165 #[.agg #[.int .i64 d.a, .int .i64 d.b, .int .i64 d.c, .int .i64 d.d, .int .i64 d.e, .int .i64 d.f, .int .i64 d.g, .int .i64 d.h]] w fun e w' => e = .returned (.agg #[.int .i64 (leX d).a, .int .i64 (leX d).b, .int .i64 (leX d).c, .int .i64 (leX d).d]) ∧ Bl w w' := by
  go_enter Try.func165, Try.ntmps165
  go_wp2
  refine bodyPost_ret (v := .agg #[.int .i64 (d.a), .int .i64 (d.b), .int .i64 (d.e), .int .i64 (d.f)]) (by simp only [results, Try.results165]; go_simp) rfl ⟨rfl, ?_⟩
  repeat first | (with_reducible exact bl_refl _) | (with_reducible refine bl_alloc ?_ _) | (with_reducible refine bl_set ?_ (by first | exact Nat.le_refl _ | (simp; done) | (simp; omega)) _)

set_option maxRecDepth 100000 in
set_option maxHeartbeats 1600000 in
theorem ileY_any (d : Db) (w : World) : Calls Try.prog 166 #[.agg #[.int .i64 d.a, .int .i64 d.b, .int .i64 d.c, .int .i64 d.d, .int .i64 d.e, .int .i64 d.f, .int .i64 d.g, .int .i64 d.h]] w fun e w' => e = .returned (.agg #[.int .i64 (leY d).a, .int .i64 (leY d).b, .int .i64 (leY d).c, .int .i64 (leY d).d]) ∧ Bl w w' := by
  go_enter Try.func166, Try.ntmps166
  go_wp2
  refine bodyPost_ret (v := .agg #[.int .i64 (d.a), .int .i64 (d.c), .int .i64 (d.e), .int .i64 (d.g)]) (by simp only [results, Try.results166]; go_simp) rfl ⟨rfl, ?_⟩
  repeat first | (with_reducible exact bl_refl _) | (with_reducible refine bl_alloc ?_ _) | (with_reducible refine bl_set ?_ (by first | exact Nat.le_refl _ | (simp; done) | (simp; omega)) _)

end Go.Proofs.Ytgmofofokhlhnaa
