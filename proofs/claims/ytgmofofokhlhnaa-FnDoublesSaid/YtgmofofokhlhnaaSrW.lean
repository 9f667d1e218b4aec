/- Small walks for laws on states: what is drawn, the value of a state, equal lists. Each theorem names its conditions. -/
import Derived.Test.YtgmofofokhlhnaaDraw
import Derived.Test.YtgmofofokhlhnaaRsV
import Derived.Test.YtgmofofokhlhnaaTermsW
namespace Go.Proofs.Ytgmofofokhlhnaa
open Go.RowKit
set_option linter.unusedVariables false
set_option linter.unusedSimpArgs false


def StD (w0 w : World) (p N : Nat) (e : Ending) (w' : World) : Prop :=
  ∃ a b c d : Int, e = .returned (.agg #[.int .i64 a, .int .i64 b, .int .i64 c, .int .i64 d]) ∧ ((-9 ≤ a ∧ a ≤ 9) ∧ (-9 ≤ b ∧ b ≤ 9) ∧ (-9 ≤ c ∧ c ≤ 9) ∧ (-9 ≤ d ∧ d ≤ 9)) ∧ okS ⟨a, b, c, d⟩ = true ∧ SrcD w0 w' p (N + 50) ∧ Upd w w' p
set_option maxRecDepth 100000 in
set_option maxHeartbeats 3200000 in
theorem drawS_any {w0 w : World} {p N : Nat} (h : SrcD w0 w p N) (hN : N ≤ 700000000) :
    Calls Try.prog 99 #[.pointer (some ⟨p, 0, none⟩)] w (StD w0 w p N) := by
  have hp := h.out
  go_enter Try.func99, Try.ntmps99
  go_wp2_with fail
  have xR : Bx (w.alloc (.cells #[.int .i64 0, .int .i64 0, .int .i64 0, .int .i64 0] 52)) w.heap.size #[.int .i64 0, .int .i64 0, .int .i64 0, .int .i64 0] := Bx.new (b := w.heap.size) _ _ _ rfl
  have hA := h.below (bl_alloc (bl_refl w) (.cells #[.int .i64 0, .int .i64 0, .int .i64 0, .int .i64 0] 52))
  have uA : Upd w (w.alloc (.cells #[.int .i64 0, .int .i64 0, .int .i64 0, .int .i64 0] 52)) p := upd_bl (upd_refl _ _) (bl_alloc (bl_refl w) _)
  have zA : w.heap.size + 1 ≤ (w.alloc (.cells #[.int .i64 0, .int .i64 0, .int .i64 0, .int .i64 0] 52)).heap.size := by simp
  generalize w.alloc (.cells #[.int .i64 0, .int .i64 0, .int .i64 0, .int .i64 0] 52) = wa at *
  go_loopw [3] (fun s3 wr => ∃ k : Nat, k ≤ 5 ∧ s3 = .int .i64 k ∧ SrcD w0 wr p (N + 8 * k) ∧ Upd w wr p ∧ Bx wr w.heap.size #[.int .i64 0, .int .i64 0, .int .i64 0, .int .i64 0] ∧ w.heap.size + 1 ≤ wr.heap.size) (fun s3 _ => 5 - (intOf s3).toNat)
  case atStart => exact ⟨0, by omega, rfl, hA, uA, xR, zA⟩
  case round =>
    obtain ⟨k, hk, rfl, hS0, hU0, x0, z0⟩ := hrel
    clear hA uA xR zA
    by_cases hlt : k < 5
    · go_wp2_with fail
      refine (dpick_any hS0 (by omega) (by omega)).mono ?_
      rintro e w1 ⟨r1, rfl, r0, r1', hS1, hU1⟩
      obtain ⟨a, ha⟩ : ∃ q, q = r1 - 9 := ⟨_, rfl⟩
      have HQ1 := Lib.hid ha
      have hab : -9 ≤ a ∧ a ≤ 9 := by omega
      have hwa : IntKind.i64.wrap (r1 - 9) = a := by rw [IntKind.wrap_i64]; omega
      have z1 : w.heap.size + 1 ≤ w1.heap.size := Nat.le_trans z0 hU1.size
      have x1 := x0.upd hU1 (by omega)
      have u1 := upd_trans hU0 hU1
      clear ha
      go_wp2_with fail
      have xS : Bx (w1.alloc (.cells #[.int .i64 a, .int .i64 0, .int .i64 0, .int .i64 0] 52)) w1.heap.size #[.int .i64 a, .int .i64 0, .int .i64 0, .int .i64 0] := Bx.new (b := w1.heap.size) _ _ _ rfl
      have xR := x1.alloc (.cells #[.int .i64 a, .int .i64 0, .int .i64 0, .int .i64 0] 52)
      have hB := hS1.below (bl_alloc (bl_refl w1) (.cells #[.int .i64 a, .int .i64 0, .int .i64 0, .int .i64 0] 52))
      have uB : Upd w (w1.alloc (.cells #[.int .i64 a, .int .i64 0, .int .i64 0, .int .i64 0] 52)) p := upd_bl u1 (bl_alloc (bl_refl w1) _)
      have zB : w1.heap.size + 1 ≤ (w1.alloc (.cells #[.int .i64 a, .int .i64 0, .int .i64 0, .int .i64 0] 52)).heap.size := by simp
      generalize (w1.alloc (.cells #[.int .i64 a, .int .i64 0, .int .i64 0, .int .i64 0] 52)) = wb at *
      refine (dpick_any hB (by omega) (by omega)).mono ?_
      rintro e w2 ⟨r2, rfl, q0, q1, hS2, hU2⟩
      have b9 : -9 ≤ r2 - 9 ∧ r2 - 9 ≤ 9 := by omega
      obtain ⟨b, hb⟩ : ∃ q, q = r2 - 9 := ⟨_, rfl⟩
      have HQ2 := Lib.hid hb
      rw [← hb] at b9
      have hwb : IntKind.i64.wrap (r2 - 9) = b := by rw [IntKind.wrap_i64]; omega
      clear hb q0 q1
      have xS2 := xS.upd hU2 (by have := hp.2.1; omega)
      have xR2 := xR.upd hU2 (by have := hp.2.1; omega)
      have u2 := upd_trans uB hU2
      have z2 := Nat.le_trans zB hU2.size
      obtain ⟨cS2, fS2, zS2⟩ := xS2.out
      go_wp2_with fail
      have ys2 := xS2.set 1 (.int .i64 b)
      have yr2 := xR2.far (p := ⟨w1.heap.size, 1, none⟩) (by simp; omega) (.int .i64 b)
      have yh2 := hS2.far (q := ⟨w1.heap.size, 1, none⟩) (by have := hp.2.2.size; have := h.out; simp; omega) (by have := hp.2.1; simp; omega) (.int .i64 b)
      have yu2 := upd_far u2 (q := ⟨w1.heap.size, 1, none⟩) (by simp; omega) (.int .i64 b)
      have yz2 : w1.heap.size + 1 ≤ (w2.setCell ⟨w1.heap.size, 1, none⟩ (.int .i64 b)).heap.size := by simpa using z2
      clear cS2 fS2 zS2
      generalize (w2.setCell ⟨w1.heap.size, 1, none⟩ (.int .i64 b)) = v2 at *
      refine (dpick_any yh2 (by omega) (by omega)).mono ?_
      rintro e w3 ⟨r3, rfl, q0, q1, hS3, hU3⟩
      have c9 : -9 ≤ r3 - 9 ∧ r3 - 9 ≤ 9 := by omega
      obtain ⟨c, hc⟩ : ∃ q, q = r3 - 9 := ⟨_, rfl⟩
      have HQ3 := Lib.hid hc
      rw [← hc] at c9
      have hwc : IntKind.i64.wrap (r3 - 9) = c := by rw [IntKind.wrap_i64]; omega
      clear hc q0 q1
      have xS3 := ys2.upd hU3 (by have := hp.2.1; omega)
      have xR3 := yr2.upd hU3 (by have := hp.2.1; omega)
      have u3 := upd_trans yu2 hU3
      have z3 := Nat.le_trans yz2 hU3.size
      obtain ⟨cS3, fS3, zS3⟩ := xS3.out
      go_wp2_with fail
      have ys3 := xS3.set 2 (.int .i64 c)
      have yr3 := xR3.far (p := ⟨w1.heap.size, 2, none⟩) (by simp; omega) (.int .i64 c)
      have yh3 := hS3.far (q := ⟨w1.heap.size, 2, none⟩) (by have := hp.2.2.size; have := h.out; simp; omega) (by have := hp.2.1; simp; omega) (.int .i64 c)
      have yu3 := upd_far u3 (q := ⟨w1.heap.size, 2, none⟩) (by simp; omega) (.int .i64 c)
      have yz3 : w1.heap.size + 1 ≤ (w3.setCell ⟨w1.heap.size, 2, none⟩ (.int .i64 c)).heap.size := by simpa using z3
      clear cS3 fS3 zS3
      generalize (w3.setCell ⟨w1.heap.size, 2, none⟩ (.int .i64 c)) = v3 at *
      refine (dpick_any yh3 (by omega) (by omega)).mono ?_
      rintro e w4 ⟨r4, rfl, q0, q1, hS4, hU4⟩
      have d9 : -9 ≤ r4 - 9 ∧ r4 - 9 ≤ 9 := by omega
      obtain ⟨d, hd⟩ : ∃ q, q = r4 - 9 := ⟨_, rfl⟩
      have HQ4 := Lib.hid hd
      rw [← hd] at d9
      have hwd : IntKind.i64.wrap (r4 - 9) = d := by rw [IntKind.wrap_i64]; omega
      clear hd q0 q1
      have xS4 := ys3.upd hU4 (by have := hp.2.1; omega)
      have xR4 := yr3.upd hU4 (by have := hp.2.1; omega)
      have u4 := upd_trans yu3 hU4
      have z4 := Nat.le_trans yz3 hU4.size
      obtain ⟨cS4, fS4, zS4⟩ := xS4.out
      go_wp2_with fail
      refine (sok_any ⟨a, b, c, d⟩ _).mono ?_
      rintro e w9 ⟨rfl, hb9⟩
      have xS9 := (xS4.set 3 (.int .i64 d)).below hb9
      have xR9 := (xR4.far (p := ⟨w1.heap.size, 3, none⟩) (by simp; omega) (.int .i64 d)).below hb9
      have S9 := (hS4.far (q := ⟨w1.heap.size, 3, none⟩) (by have := hp.2.2.size; have := h.out; simp; omega) (by have := hp.2.1; simp; omega) (.int .i64 d)).below hb9
      have U9 := upd_bl (upd_far u4 (q := ⟨w1.heap.size, 3, none⟩) (by simp; omega) (.int .i64 d)) hb9
      have z9 : w1.heap.size + 1 ≤ w9.heap.size := by have := hb9.size; simp at this; omega
      clear cS4 fS4 zS4
      obtain ⟨cS9, fS9, zS9⟩ := xS9.out
      obtain ⟨cR9, fR9, zR9⟩ := xR9.out
      cases hq : okS (⟨a, b, c, d⟩ : St) with
      | true =>
        go_wp2
        refine bodyPost_ret (v := .agg #[.int .i64 a, .int .i64 b, .int .i64 c, .int .i64 d]) (by simp only [results, Try.results99]; go_simp) rfl ?_
        exact ⟨a, b, c, d, rfl, ⟨hab, b9, c9, d9⟩, hq, ((((S9.far (q := ⟨w.heap.size, 0, none⟩) (by have := hp.2.2.size; simpa using this) (by simp; omega) _).far (q := ⟨w.heap.size, 1, none⟩) (by have := hp.2.2.size; simpa using this) (by simp; omega) _).far (q := ⟨w.heap.size, 2, none⟩) (by have := hp.2.2.size; simpa using this) (by simp; omega) _).far (q := ⟨w.heap.size, 3, none⟩) (by have := hp.2.2.size; simpa using this) (by simp; omega) _).more (by omega), upd_far (upd_far (upd_far (upd_far U9 (q := ⟨w.heap.size, 0, none⟩) (by simp) _) (q := ⟨w.heap.size, 1, none⟩) (by simp) _) (q := ⟨w.heap.size, 2, none⟩) (by simp) _) (q := ⟨w.heap.size, 3, none⟩) (by simp) _⟩
      | false =>
        go_wp2
        go_roundw
        case rel => exact ⟨k + 1, by omega, by go_num, S9.more (by omega), U9, xR9, by omega⟩
        case measure => simp only [intOf]; omega
    · obtain ⟨cR0, fR0, zR0⟩ := x0.out
      go_wp2
      refine bodyPost_ret (v := .agg #[.int .i64 1, .int .i64 1, .int .i64 0, .int .i64 2]) (by simp only [results, Try.results99]; go_simp) rfl ?_
      exact ⟨1, 1, 0, 2, rfl, ⟨by omega, by omega, by omega, by omega⟩, by decide, ((((hS0.far (q := ⟨w.heap.size, 0, none⟩) (by have := hp.2.2.size; simpa using this) (by simp; omega) _).far (q := ⟨w.heap.size, 1, none⟩) (by have := hp.2.2.size; simpa using this) (by simp; omega) _).far (q := ⟨w.heap.size, 2, none⟩) (by have := hp.2.2.size; simpa using this) (by simp; omega) _).far (q := ⟨w.heap.size, 3, none⟩) (by have := hp.2.2.size; simpa using this) (by simp; omega) _).more (by omega), upd_far (upd_far (upd_far (upd_far hU0 (q := ⟨w.heap.size, 0, none⟩) (by simp) _) (q := ⟨w.heap.size, 1, none⟩) (by simp) _) (q := ⟨w.heap.size, 2, none⟩) (by simp) _) (q := ⟨w.heap.size, 3, none⟩) (by simp) _⟩

def StateQ (w : World) (e : Ending) (w' : World) : Prop :=
  ∃ a b c d : Int, e = .returned (.agg #[.int .i64 a, .int .i64 b, .int .i64 c, .int .i64 d]) ∧ ((-9 ≤ a ∧ a ≤ 9) ∧ (-9 ≤ b ∧ b ≤ 9) ∧ (-9 ≤ c ∧ c ≤ 9) ∧ (-9 ≤ d ∧ d ≤ 9)) ∧ okS ⟨a, b, c, d⟩ = true ∧ Bl w w'
set_option maxRecDepth 100000 in
set_option maxHeartbeats 1600000 in
theorem a2state_any {w : World} {v : Value} {bs : List Int} (h : SlB w v bs) (hl : bs.length ≤ 3000) :
    Calls Try.prog 36 #[v] w (StateQ w) := by
  obtain ⟨av, cv, rfl, hcv⟩ := h.form
  have HS := Lib.hid h
  clear h
  go_enter Try.func36, Try.ntmps36
  go_wp2_with fail
  have xR : Bx (w.alloc (.cells #[.int .i64 0, .int .i64 0, .int .i64 0, .int .i64 0] 52)) w.heap.size #[.int .i64 0, .int .i64 0, .int .i64 0, .int .i64 0] := Bx.new (b := w.heap.size) _ _ _ rfl
  have hA : Bl w (w.alloc (.cells #[.int .i64 0, .int .i64 0, .int .i64 0, .int .i64 0] 52)) := bl_alloc (bl_refl w) _
  have hsz : w.heap.size + 1 ≤ (w.alloc (.cells #[.int .i64 0, .int .i64 0, .int .i64 0, .int .i64 0] 52)).heap.size := by simp
  generalize (w.alloc (.cells #[.int .i64 0, .int .i64 0, .int .i64 0, .int .i64 0] 52)) = wa at *
  refine (dfrom_any (HS.out.below hA) (by omega)).mono ?_
  rintro e w1 ⟨p, rfl, hD, hb1⟩
  have x1 := xR.below hb1
  have hp := hD.out
  go_wp2_with fail
  refine (drawS_any hD (by omega)).mono ?_
  rintro e w2 ⟨a, b, c, d, rfl, hbd, hok, hS2, hU2⟩
  have x2 := x1.upd hU2 (by omega)
  obtain ⟨c2, f2, z2⟩ := x2.out
  have B2 := bl_of_upd (bl_call hA hb1) hU2 (by have := hA.size; omega)
  go_wp2
  refine bodyPost_ret (v := .agg #[.int .i64 a, .int .i64 b, .int .i64 c, .int .i64 d]) (by simp only [results, Try.results36]; go_simp) rfl ?_
  exact ⟨_, _, _, _, rfl, hbd, hok, bl_set (bl_set (bl_set (bl_set B2 (by simp) _) (by simp) _) (by simp) _) (by simp) _⟩

def FracsQ (w : World) (e : Ending) (w' : World) : Prop :=
  ∃ n1 d1 n2 d2 n3 d3 : Int, e = .returned (.tuple #[.agg #[.int .i64 n1, .int .i64 d1], .agg #[.int .i64 n2, .int .i64 d2], .agg #[.int .i64 n3, .int .i64 d3]]) ∧ (gcdI n1 d1 = 1 ∧ (1 ≤ d1 ∧ d1 ≤ 300) ∧ (-300 ≤ n1 ∧ n1 ≤ 300)) ∧ (gcdI n2 d2 = 1 ∧ (1 ≤ d2 ∧ d2 ≤ 300) ∧ (-300 ≤ n2 ∧ n2 ≤ 300)) ∧ (gcdI n3 d3 = 1 ∧ (1 ≤ d3 ∧ d3 ≤ 300) ∧ (-300 ≤ n3 ∧ n3 ≤ 300)) ∧ Bl w w'
set_option maxRecDepth 100000 in
set_option maxHeartbeats 3200000 in
theorem a2frac_any {w : World} {v : Value} {bs : List Int} (h : SlB w v bs) (hl : bs.length ≤ 3000) :
    Calls Try.prog 37 #[v] w (FracsQ w) := by
  obtain ⟨av, cv, rfl, hcv⟩ := h.form
  have HS := Lib.hid h
  clear h
  go_enter Try.func37, Try.ntmps37
  go_wp2_with fail
  have xA : Bx (((w.alloc (.cells #[.int .i64 0, .int .i64 0] 55)).alloc (.cells #[.int .i64 0, .int .i64 0] 55)).alloc (.cells #[.int .i64 0, .int .i64 0] 55)) w.heap.size #[.int .i64 0, .int .i64 0] := ((Bx.new (b := w.heap.size) w _ 55 rfl).alloc _).alloc _
  have xB : Bx (((w.alloc (.cells #[.int .i64 0, .int .i64 0] 55)).alloc (.cells #[.int .i64 0, .int .i64 0] 55)).alloc (.cells #[.int .i64 0, .int .i64 0] 55)) (w.heap.size + 1) #[.int .i64 0, .int .i64 0] := (Bx.new (b := w.heap.size + 1) (w.alloc (.cells #[.int .i64 0, .int .i64 0] 55)) _ 55 (by simp)).alloc _
  have xC : Bx (((w.alloc (.cells #[.int .i64 0, .int .i64 0] 55)).alloc (.cells #[.int .i64 0, .int .i64 0] 55)).alloc (.cells #[.int .i64 0, .int .i64 0] 55)) (w.heap.size + 1 + 1) #[.int .i64 0, .int .i64 0] := Bx.new (b := w.heap.size + 1 + 1) ((w.alloc (.cells #[.int .i64 0, .int .i64 0] 55)).alloc (.cells #[.int .i64 0, .int .i64 0] 55)) _ 55 (by simp)
  have hA : Bl w (((w.alloc (.cells #[.int .i64 0, .int .i64 0] 55)).alloc (.cells #[.int .i64 0, .int .i64 0] 55)).alloc (.cells #[.int .i64 0, .int .i64 0] 55)) := bl_alloc (bl_alloc (bl_alloc (bl_refl w) _) _) _
  have hsz : w.heap.size + 3 ≤ (((w.alloc (.cells #[.int .i64 0, .int .i64 0] 55)).alloc (.cells #[.int .i64 0, .int .i64 0] 55)).alloc (.cells #[.int .i64 0, .int .i64 0] 55)).heap.size := by simp
  generalize (((w.alloc (.cells #[.int .i64 0, .int .i64 0] 55)).alloc (.cells #[.int .i64 0, .int .i64 0] 55)).alloc (.cells #[.int .i64 0, .int .i64 0] 55)) = wa at *
  refine (dfrom_any (HS.out.below hA) (by omega)).mono ?_
  rintro e w1 ⟨p, rfl, hD, hb1⟩
  have xA1 := xA.below hb1
  have xB1 := xB.below hb1
  have xC1 := xC.below hb1
  have hp := hD.out
  clear xA xB xC
  go_wp2_with fail
  refine (draw2_any hD (by omega) (by omega)).mono ?_
  rintro e w2 ⟨n1, d1, rfl, g1, e1, f1, hS2, hU2⟩
  have xA2 := (xA1.upd hU2 (by omega)).alloc (.cells #[.int .i64 n1, .int .i64 d1] 55)
  have xB2 := (xB1.upd hU2 (by omega)).alloc (.cells #[.int .i64 n1, .int .i64 d1] 55)
  have xC2 := (xC1.upd hU2 (by omega)).alloc (.cells #[.int .i64 n1, .int .i64 d1] 55)
  have xD2 : Bx (w2.alloc (.cells #[.int .i64 n1, .int .i64 d1] 55)) w2.heap.size #[.int .i64 n1, .int .i64 d1] := Bx.new (b := w2.heap.size) _ _ _ rfl
  have hS2a := hS2.below (bl_alloc (bl_refl w2) (.cells #[.int .i64 n1, .int .i64 d1] 55))
  have hU2a := upd_bl hU2 (bl_alloc (bl_refl w2) (.cells #[.int .i64 n1, .int .i64 d1] 55))
  have z2 := hU2.size
  have z2a : w2.heap.size + 1 ≤ (w2.alloc (.cells #[.int .i64 n1, .int .i64 d1] 55)).heap.size := by simp
  clear xA1 xB1 xC1
  go_wp2_with fail
  generalize w2.alloc (.cells #[.int .i64 n1, .int .i64 d1] 55) = wb at *
  refine (draw2_any hS2a (by omega) (by omega)).mono ?_
  rintro e w3 ⟨n2, d2, rfl, g2, e2, f2, hS3, hU3⟩
  have xA3 := (xA2.upd hU3 (by omega)).alloc (.cells #[.int .i64 n2, .int .i64 d2] 55)
  have xB3 := (xB2.upd hU3 (by omega)).alloc (.cells #[.int .i64 n2, .int .i64 d2] 55)
  have xC3 := (xC2.upd hU3 (by omega)).alloc (.cells #[.int .i64 n2, .int .i64 d2] 55)
  have xD3 := (xD2.upd hU3 (by omega)).alloc (.cells #[.int .i64 n2, .int .i64 d2] 55)
  have xE3 : Bx (w3.alloc (.cells #[.int .i64 n2, .int .i64 d2] 55)) w3.heap.size #[.int .i64 n2, .int .i64 d2] := Bx.new (b := w3.heap.size) _ _ _ rfl
  have hS3a := hS3.below (bl_alloc (bl_refl w3) (.cells #[.int .i64 n2, .int .i64 d2] 55))
  have hU3a := upd_trans hU2a (upd_bl hU3 (bl_alloc (bl_refl w3) (.cells #[.int .i64 n2, .int .i64 d2] 55)))
  have z3 := hU3.size
  have z3a : w3.heap.size + 1 ≤ (w3.alloc (.cells #[.int .i64 n2, .int .i64 d2] 55)).heap.size := by simp
  clear xA2 xB2 xC2 xD2 hS2 hS2a hU2 hU2a hU3
  go_wp2_with fail
  generalize w3.alloc (.cells #[.int .i64 n2, .int .i64 d2] 55) = wc at *
  obtain ⟨cD, fD, zD⟩ := xD3.out
  obtain ⟨cE, fE, zE⟩ := xE3.out
  obtain ⟨cA, fA, zA⟩ := xA3.out
  obtain ⟨cB, fB, zB⟩ := xB3.out
  obtain ⟨cC, fC, zC⟩ := xC3.out
  go_region_with
    ((go_at_call 100; go_must (refine (draw2_any (hS3a.below (bl_drew (bl_refl _))) (by omega) (by omega)).mono ?_; rintro e w4 ⟨n3, d3, rfl, g3, e3, f3, hS4, hU4⟩; have U4 := upd_trans (upd_bl hU3a (bl_drew (bl_refl _))) hU4; have xA4 := (xA3.drew).upd hU4 (by omega); have xB4 := (xB3.drew).upd hU4 (by omega); have xC4 := (xC3.drew).upd hU4 (by omega); have xD4 := (xD3.drew).upd hU4 (by omega); have xE4 := (xE3.drew).upd hU4 (by omega); clear cD fD zD cE fE zE cA fA zA cB fB zB cC fC zC; obtain ⟨cD, fD, zD⟩ := xD4.out; obtain ⟨cE, fE, zE⟩ := xE4.out; obtain ⟨cA, fA, zA⟩ := xA4.out; obtain ⟨cB, fB, zB⟩ := xB4.out; obtain ⟨cC, fC, zC⟩ := xC4.out)))
  all_goals
    have B4 := bl_of_upd (bl_call hA hb1) U4 (by have := hA.size; omega)
    go_wp2
    refine bodyPost_ret (v := .tuple #[.agg #[.int .i64 n1, .int .i64 d1], .agg #[.int .i64 n2, .int .i64 d2], .agg #[.int .i64 n3, .int .i64 d3]]) (by simp only [results, Try.results37]; go_simp) rfl ?_
    exact ⟨_, _, _, _, _, _, rfl, ⟨g1, e1, f1⟩, ⟨g2, e2, f2⟩, ⟨g3, e3, f3⟩, (bl_set (bl_set (bl_set (bl_set (bl_set (bl_set B4 (p := ⟨w.heap.size, 0, none⟩) (by simp; try omega) _) (p := ⟨w.heap.size, 1, none⟩) (by simp; try omega) _) (p := ⟨w.heap.size + 1, 0, none⟩) (by simp; try omega) _) (p := ⟨w.heap.size + 1, 1, none⟩) (by simp; try omega) _) (p := ⟨w.heap.size + 1 + 1, 0, none⟩) (by simp; try omega) _) (p := ⟨w.heap.size + 1 + 1, 1, none⟩) (by simp; try omega) _)⟩

set_option maxHeartbeats 400000 in
theorem a2same_any (va vb : Value) (xs ys : List Int) (w : World) (ha : Sl w va xs) (hb : Sl w vb ys) :
    Calls Try.prog 41 #[va, vb] w fun e w' => e = .returned (.bool (decide (xs = ys))) ∧ Below w.heap.size w w' := by
  have la := ha.len
  have lb := hb.len
  obtain ⟨a, ca, rfl, h1, h2, h3, h4, h5⟩ := ha
  obtain ⟨b, cb, rfl, g1, g2, g3, g4, g5⟩ := hb
  by_cases hl : xs.length = ys.length
  · have hne : ((xs.length : Int) != (ys.length : Int)) = false := by simp [hl]
    have HL := Lib.hid hl
    have hle : xs.length ≤ ys.length := by omega
    clear hl
    go_enter Try.func41, Try.ntmps41
    go_wp2
    go_loopw [5] (fun i wr => ∃ k : Nat, k ≤ xs.length ∧ i = .int .i64 k ∧ xs.take k = ys.take k ∧ Below w.heap.size w wr) (fun i _ => xs.length - (intOf i).toNat)
    case atStart => exact ⟨0, Nat.zero_le _, rfl, by simp, Below.refl _ _⟩
    case round =>
      obtain ⟨k, hk, rfl, ht, hB⟩ := hrel
      have HT := Lib.hid ht
      clear ht
      by_cases hlt : k < xs.length
      · rcases h5 with h5 | ⟨p, o, rfl, hc⟩
        · have : xs.length = 0 := by rw [h5]; rfl
          omega
        rcases g5 with g5 | ⟨q, r, rfl, gc⟩
        · have : ys.length = 0 := by rw [g5]; rfl
          omega
        obtain ⟨x, hx⟩ : ∃ x, xs[k]? = some x := ⟨_, List.getElem?_eq_getElem hlt⟩
        obtain ⟨y, hy⟩ : ∃ y, ys[k]? = some y := ⟨_, List.getElem?_eq_getElem (by omega)⟩
        have c1 : wr.cell? ⟨p, o + k, none⟩ = some (.int .i64 x) := (hB.cell (p := ⟨p, o + k, none⟩) (cell_lt (hc k x hx))).trans (hc k x hx)
        have c2 : wr.cell? ⟨q, r + k, none⟩ = some (.int .i64 y) := (hB.cell (p := ⟨q, r + k, none⟩) (cell_lt (gc k y hy))).trans (gc k y hy)
        have HX := Lib.hid hx
        have HY := Lib.hid hy
        have hkys : k < ys.length := by omega
        clear hx hy hc gc h3 g3 h4 g4
        by_cases hxy : x = y
        · subst hxy
          have hn : (x != x) = false := by simp
          go_wp2
          go_region
          all_goals go_wp2
          all_goals go_roundw
          case rel => exact ⟨k + 1, by omega, by go_num, by rw [List.take_add_one, List.take_add_one, HT.out, HX.out, HY.out], hB.drew⟩
          case measure => simp [intOf]; omega
        · have hn : (x != y) = true := by simp [hxy]
          go_wp2
          go_region
          all_goals go_wp2
          all_goals go_ret
          all_goals exact ⟨ret_bool (by
            refine (decide_eq_false ?_).symm
            intro e
            rw [e] at HX
            exact hxy (Option.some.inj (HX.out.symm.trans HY.out))), hB.drew⟩
      · go_wp2
        go_ret
        exact ⟨ret_bool (by
          refine (decide_eq_true ?_).symm
          have e := HT.out
          rw [List.take_of_length_le (by omega), List.take_of_length_le (by have := HL.out; omega)] at e
          exact e), hB⟩
  · have hne : ((xs.length : Int) != (ys.length : Int)) = true := by simp; omega
    go_enter Try.func41, Try.ntmps41
    go_wp2
    go_ret
    exact ⟨ret_bool (by refine (decide_eq_false ?_).symm; intro e; rw [e] at hl; exact hl rfl), Below.refl _ _⟩

set_option maxRecDepth 100000 in
set_option maxHeartbeats 3200000 in
theorem expandS_okR {n d : Int} (w : World) (ok : okF n d = true) :
    Calls Try.prog 38 #[.agg #[.int .i64 n, .int .i64 d]] w fun e w' => ∃ a c, e = .returned (.tuple #[.slice a (termsF n d).length c, .int .i64 0]) ∧ Own w' w.heap.size (.slice a (termsF n d).length c) (termsF n d) ∧ Bl w w' := by
  have hok := okF_bdE ok
  have HOK := Lib.hid ok
  clear ok
  go_enter Try.func38, Try.ntmps38
  go_wp2_with fail
  refine (ok_any n d _).mono ?_
  rintro e w1 ⟨rfl, hb1⟩
  have B1 : Bl w w1 := bl_call (bl_alloc (bl_refl _) _) hb1
  have xF_1 : Bx w1 (w.heap.size) #[.int .i64 (n), .int .i64 (d)] := (Bx.new (b := w.heap.size) _ #[.int .i64 (n), .int .i64 (d)] 55 (by first | rfl | simp)).below hb1
  obtain ⟨cF_1, fF_1, zF_1⟩ := xF_1.out
  rw [HOK.out]
  go_wp2_with fail
  refine (lterms_any n d _ (by omega) (by omega) (by omega)).mono ?_
  rintro e w2 ⟨a, c, rfl, HO, hb2⟩
  have B2 : Bl w w2 := bl_call B1 hb2
  have xF_2 : Bx w2 (w.heap.size) #[.int .i64 (n), .int .i64 (d)] := xF_1.below hb2
  clear cF_1 fF_1 zF_1
  obtain ⟨cF_2, fF_2, zF_2⟩ := xF_2.out
  have HO := Lib.hid HO
  go_wp2
  go_ret2
  exact ⟨a, c, rfl, HO.out.mono B1.size, B2⟩

/-- The value of a state. -/
def stAtF (a b c d N D : Int) : Int × Int × Int := if c * N + d * D = 0 then (0, 0, 6) else fullF (a * N + b * D) (c * N + d * D)
theorem okR_eq {n d : Int} {b : Bool} (h : okF n d = b) (w : World) : Calls Try.prog 101 #[.agg #[.int .i64 n, .int .i64 d]] w fun e w' => e = .returned (.bool b) ∧ Bl w w' := h ▸ ok_any n d w
set_option maxRecDepth 100000 in
set_option maxHeartbeats 3200000 in
theorem sstateAt_any {a b c d N D p q k : Int} (w : World) (ha : -9 ≤ a ∧ a ≤ 9) (hb : -9 ≤ b ∧ b ≤ 9) (hc : -9 ≤ c ∧ c ≤ 9) (hd : -9 ≤ d ∧ d ≤ 9) (e1 : okS ⟨a, b, c, d⟩ = true) (e2 : okF N D = true) (hN : -300 ≤ N ∧ N ≤ 300) (hD : 1 ≤ D ∧ D ≤ 300) (hr : stAtF a b c d N D = (p, q, k)) :
    Calls Try.prog 39 #[.agg #[.int .i64 a, .int .i64 b, .int .i64 c, .int .i64 d], .agg #[.int .i64 N, .int .i64 D]] w fun e w' => e = .returned (.tuple #[.agg #[.int .i64 p, .int .i64 q], .int .i64 k]) ∧ Bl w w' := by
  have E1 := Lib.hid e1
  have E2 := Lib.hid e2
  have HR := Lib.hid hr
  have m1 := mulU (by omega) ha hN
  have m2 := mulU (Y := 300) (by omega) hb (show -300 ≤ D ∧ D ≤ 300 by omega)
  have m3 := mulU (by omega) hc hN
  have m4 := mulU (Y := 300) (by omega) hd (show -300 ≤ D ∧ D ≤ 300 by omega)
  clear e1 e2 hr
  go_enter Try.func39, Try.ntmps39
  go_wp2_with fail
  have B1 : Bl w (((w.alloc (.cells #[.int .i64 a, .int .i64 b, .int .i64 c, .int .i64 d] 52)).alloc (.cells #[.int .i64 N, .int .i64 D] 55)).alloc (.cells #[.int .i64 0, .int .i64 0] 55)) := (bl_alloc (bl_alloc (bl_alloc (bl_refl _) _) _) _)
  have xS_1 : Bx (((w.alloc (.cells #[.int .i64 a, .int .i64 b, .int .i64 c, .int .i64 d] 52)).alloc (.cells #[.int .i64 N, .int .i64 D] 55)).alloc (.cells #[.int .i64 0, .int .i64 0] 55)) (w.heap.size) #[.int .i64 a, .int .i64 b, .int .i64 c, .int .i64 d] := (((Bx.new (b := w.heap.size) _ #[.int .i64 a, .int .i64 b, .int .i64 c, .int .i64 d] 52 (by first | rfl | simp)).alloc _).alloc _)
  have xX_1 : Bx (((w.alloc (.cells #[.int .i64 a, .int .i64 b, .int .i64 c, .int .i64 d] 52)).alloc (.cells #[.int .i64 N, .int .i64 D] 55)).alloc (.cells #[.int .i64 0, .int .i64 0] 55)) (w.heap.size + 1) #[.int .i64 N, .int .i64 D] := ((Bx.new (b := w.heap.size + 1) _ #[.int .i64 N, .int .i64 D] 55 (by first | rfl | simp)).alloc _)
  have xR_1 : Bx (((w.alloc (.cells #[.int .i64 a, .int .i64 b, .int .i64 c, .int .i64 d] 52)).alloc (.cells #[.int .i64 N, .int .i64 D] 55)).alloc (.cells #[.int .i64 0, .int .i64 0] 55)) (w.heap.size + 1 + 1) #[.int .i64 0, .int .i64 0] := (Bx.new (b := w.heap.size + 1 + 1) _ #[.int .i64 0, .int .i64 0] 55 (by first | rfl | simp))
  have zz1 : w.heap.size + 3 ≤ (((w.alloc (.cells #[.int .i64 a, .int .i64 b, .int .i64 c, .int .i64 d] 52)).alloc (.cells #[.int .i64 N, .int .i64 D] 55)).alloc (.cells #[.int .i64 0, .int .i64 0] 55)).heap.size := (by simp)
  generalize (((w.alloc (.cells #[.int .i64 a, .int .i64 b, .int .i64 c, .int .i64 d] 52)).alloc (.cells #[.int .i64 N, .int .i64 D] 55)).alloc (.cells #[.int .i64 0, .int .i64 0] 55)) = w1 at *
  obtain ⟨cS_1, fS_1, zS_1⟩ := xS_1.out
  obtain ⟨cX_1, fX_1, zX_1⟩ := xX_1.out
  obtain ⟨cR_1, fR_1, zR_1⟩ := xR_1.out
  refine (sok_eq (s := ⟨a, b, c, d⟩) E1.out _).mono ?_
  rintro e w2 ⟨rfl, hb2⟩
  have B2 : Bl w w2 := bl_call B1 hb2
  have xS_2 : Bx w2 (w.heap.size) #[.int .i64 a, .int .i64 b, .int .i64 c, .int .i64 d] := xS_1.below hb2
  have xX_2 : Bx w2 (w.heap.size + 1) #[.int .i64 N, .int .i64 D] := xX_1.below hb2
  have xR_2 : Bx w2 (w.heap.size + 1 + 1) #[.int .i64 0, .int .i64 0] := xR_1.below hb2
  clear cS_1 fS_1 zS_1 cX_1 fX_1 zX_1 cR_1 fR_1 zR_1
  obtain ⟨cS_2, fS_2, zS_2⟩ := xS_2.out
  obtain ⟨cX_2, fX_2, zX_2⟩ := xX_2.out
  obtain ⟨cR_2, fR_2, zR_2⟩ := xR_2.out
  go_wp2_with fail
  refine (okR_eq E2.out _).mono ?_
  rintro e w3 ⟨rfl, hb3⟩
  have B3 : Bl w w3 := bl_call B2 hb3
  have xS_3 : Bx w3 (w.heap.size) #[.int .i64 a, .int .i64 b, .int .i64 c, .int .i64 d] := xS_2.below hb3
  have xX_3 : Bx w3 (w.heap.size + 1) #[.int .i64 N, .int .i64 D] := xX_2.below hb3
  have xR_3 : Bx w3 (w.heap.size + 1 + 1) #[.int .i64 0, .int .i64 0] := xR_2.below hb3
  clear cS_2 fS_2 zS_2 cX_2 fX_2 zX_2 cR_2 fR_2 zR_2
  obtain ⟨cS_3, fS_3, zS_3⟩ := xS_3.out
  obtain ⟨cX_3, fX_3, zX_3⟩ := xX_3.out
  obtain ⟨cR_3, fR_3, zR_3⟩ := xR_3.out
  by_cases hz : c * N + d * D = 0
  · have hz2 : (c * N + d * D == 0) = true := by simp [hz]
    go_wp2
    refine bodyPost_ret (v := .tuple #[.agg #[.int .i64 0, .int .i64 0], .int .i64 6]) (by simp only [results, Try.results39]; go_simp) rfl ?_
    have e := HR.out
    rw [stAtF, if_pos hz] at e
    simp only [Prod.mk.injEq] at e
    obtain ⟨rfl, rfl, rfl⟩ := e
    exact ⟨rfl, (bl_set (bl_set B3 (p := ⟨w.heap.size + 1 + 1, 0, none⟩) (by first | (simp; done) | (simp; omega)) _) (p := ⟨w.heap.size + 1 + 1, 1, none⟩) (by first | (simp; done) | (simp; omega)) _)⟩
  · have hz2 : (c * N + d * D == 0) = false := by simp [hz]
    have e := HR.out
    rw [stAtF, if_neg hz] at e
    have HE := Lib.hid e
    clear e
    go_wp2_with fail
    refine (full_any (a * N + b * D) (c * N + d * D) _ (by omega) (by omega) hz (by omega) (by omega)).mono ?_
    rintro e w9 ⟨rfl, hb9⟩
    have B9 : Bl w w9 := bl_call B3 hb9
    have xR9 := xR_3.below hb9
    clear cS_3 fS_3 zS_3 cX_3 fX_3 zX_3 cR_3 fR_3 zR_3
    obtain ⟨cR9, fR9, zR9⟩ := xR9.out
    rw [HE.out]
    go_wp2
    refine bodyPost_ret (v := .tuple #[.agg #[.int .i64 p, .int .i64 q], .int .i64 k]) (by simp only [results, Try.results39]; go_simp) rfl ?_
    exact ⟨rfl, (bl_set (bl_set B9 (p := ⟨w.heap.size + 1 + 1, 0, none⟩) (by first | (simp; done) | (simp; omega)) _) (p := ⟨w.heap.size + 1 + 1, 1, none⟩) (by first | (simp; done) | (simp; omega)) _)⟩

end Go.Proofs.Ytgmofofokhlhnaa
