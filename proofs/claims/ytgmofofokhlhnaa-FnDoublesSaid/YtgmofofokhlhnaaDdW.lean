/- Small walks for the law on functions of two numbers: bounds, x and y exchanged, the value. Each theorem names its conditions. -/
import Derived.Test.YtgmofofokhlhnaaDbV
import Derived.Test.YtgmofofokhlhnaaDbO
import Derived.Test.YtgmofofokhlhnaaFrac2
import Derived.BigQuiet
namespace Go.Proofs.Ytgmofofokhlhnaa
open Go.RowKit
set_option linter.unusedVariables false
set_option linter.unusedSimpArgs false

def bdW (n : Int) : Bool := inB n (-10000) 10000
def bdDW (d : Db) : Bool := bdW d.a && bdW d.b && bdW d.c && bdW d.d && bdW d.e && bdW d.f && bdW d.g && bdW d.h
theorem sm_bdDW {d : Db} (h : Sm d) : bdDW d = true := by
  have := h.a; have := h.b; have := h.c; have := h.d; have := h.e; have := h.f; have := h.g; have := h.h
  simp only [bdDW, bdW, Bool.and_eq_true, inB_iff]
  omega
theorem sm_okD {d : Db} (h : Sm d) (he : enD d = false) : okD d = true := by
  refine okD_of (bdD_iff.2 ?_) he
  have := h.a; have := h.b; have := h.c; have := h.d; have := h.e; have := h.f; have := h.g; have := h.h
  omega
set_option maxRecDepth 100000 in
set_option maxHeartbeats 1600000 in
theorem isbW_any (d : Db) (w : World) : Calls Try.prog 128 #[.agg #[.int .i64 d.a, .int .i64 d.b, .int .i64 d.c, .int .i64 d.d, .int .i64 d.e, .int .i64 d.f, .int .i64 d.g, .int .i64 d.h], .int .i64 10000] w fun e w' => e = .returned (.bool (bdDW d)) ∧ Bl w w' := by
  obtain ⟨xs, hxs⟩ : ∃ xs, xs = [d.a, d.b, d.c, d.d, d.e, d.f, d.g, d.h] := ⟨_, rfl⟩
  have HX := Lib.hid hxs
  have HB := Lib.hid (show xs.all bdW = bdDW d by rw [hxs]; simp [bdDW, Bool.and_assoc])
  have HL := Lib.hid (show xs.length = 8 by rw [hxs]; rfl)
  clear hxs
  go_enter Try.func128, Try.ntmps128
  go_wp2_with fail
  have hB0 : Bl w ((w.alloc (.cells #[.int .i64 d.a, .int .i64 d.b, .int .i64 d.c, .int .i64 d.d, .int .i64 d.e, .int .i64 d.f, .int .i64 d.g, .int .i64 d.h] 86)).alloc (.cells #[.int .i64 d.a, .int .i64 d.b, .int .i64 d.c, .int .i64 d.d, .int .i64 d.e, .int .i64 d.f, .int .i64 d.g, .int .i64 d.h] 2)) := bl_alloc (bl_alloc (bl_refl _) _) _
  have hX0 : Bx ((w.alloc (.cells #[.int .i64 d.a, .int .i64 d.b, .int .i64 d.c, .int .i64 d.d, .int .i64 d.e, .int .i64 d.f, .int .i64 d.g, .int .i64 d.h] 86)).alloc (.cells #[.int .i64 d.a, .int .i64 d.b, .int .i64 d.c, .int .i64 d.d, .int .i64 d.e, .int .i64 d.f, .int .i64 d.g, .int .i64 d.h] 2)) (w.heap.size + 1) #[.int .i64 d.a, .int .i64 d.b, .int .i64 d.c, .int .i64 d.d, .int .i64 d.e, .int .i64 d.f, .int .i64 d.g, .int .i64 d.h] := Bx.new _ _ _ (by simp)
  go_loopw [6, 25] (fun _ s25 wr => ∃ k : Nat, s25 = .int .i64 k ∧ k ≤ 8 ∧ Hid ((xs.take k).all bdW = true) ∧ Bx wr (w.heap.size + 1) #[.int .i64 d.a, .int .i64 d.b, .int .i64 d.c, .int .i64 d.d, .int .i64 d.e, .int .i64 d.f, .int .i64 d.g, .int .i64 d.h] ∧ Bl w wr) (fun _ s25 _ => 8 - (intOf s25).toNat)
  case atStart => exact ⟨0, rfl, by omega, Lib.hid rfl, hX0, hB0⟩
  case round =>
    obtain ⟨k, rfl, hk, HK, xB, Br⟩ := hrel
    by_cases hk8 : k < 8
    · have hkI : (k : Int) < 8 := by omega
      have hc : wr.cell? ⟨w.heap.size + 1, k, none⟩ = some (.int .i64 (xs.getD k 0)) := by
        rw [xB.out.1 k, HX.out]
        rcases (show k = 0 ∨ k = 1 ∨ k = 2 ∨ k = 3 ∨ k = 4 ∨ k = 5 ∨ k = 6 ∨ k = 7 by omega) with rfl | rfl | rfl | rfl | rfl | rfl | rfl | rfl <;> rfl
      obtain ⟨x, hx⟩ : ∃ x, xs.getD k 0 = x := ⟨_, rfl⟩
      rw [hx] at hc
      have hx' : xs[k]? = some x := by
        rw [List.getD_eq_getElem?_getD] at hx
        rw [List.getElem?_eq_getElem (by rw [HL.out]; omega)] at hx ⊢
        simpa using hx
      have HT := Lib.hid (show (xs.take (k + 1)).all bdW = bdW x by rw [List.take_add_one, hx']; simp [HK.out, List.all_append])
      have HXX := Lib.hid hx'
      clear hx hx'
      cases hb : bdW x with
      | false =>
        have E := Lib.hid (show inB x (-10000) 10000 = false from hb)
        have HR := Lib.hid (show false = bdDW d by
          rw [← HB.out]
          cases h : xs.all bdW with
          | false => rfl
          | true => rw [List.all_eq_true.1 h x (List.mem_of_getElem? HXX.out)] at hb; cases hb)
        clear hb
        go_wp2_with fail
        refine (inB_eqS E.out _).mono ?_
        rintro e w9 ⟨rfl, rfl⟩
        go_wp2
        go_ret
        exact ⟨ret_bool HR.out, Br⟩
      | true =>
        have E := Lib.hid (show inB x (-10000) 10000 = true from hb)
        have HT2 := Lib.hid (HT.out.trans hb)
        clear hb
        go_wp2_with fail
        refine (inB_eqS E.out _).mono ?_
        rintro e w9 ⟨rfl, rfl⟩
        go_wp2
        go_roundw
        case rel => exact ⟨k + 1, by go_num, by omega, HT2, xB, Br⟩
        case measure => simp only [intOf, Int.toNat_natCast]; omega
    · have hkI : ¬ (k : Int) < 8 := by omega
      have HR := Lib.hid (show true = bdDW d by rw [← HB.out, ← HK.out, List.take_of_length_le (by rw [HL.out]; omega)])
      go_wp2
      go_ret
      exact ⟨ret_bool HR.out, Br⟩
theorem isbW_eq {d : Db} {b : Bool} (h : bdDW d = b) (w : World) : Calls Try.prog 128 #[.agg #[.int .i64 d.a, .int .i64 d.b, .int .i64 d.c, .int .i64 d.d, .int .i64 d.e, .int .i64 d.f, .int .i64 d.g, .int .i64 d.h], .int .i64 10000] w fun e w' => e = .returned (.bool b) ∧ Bl w w' := h ▸ isbW_any d w
theorem validF_eqW {n d : Int} {b : Bool} (h : okF n d = b) (w : World) : Calls Try.prog 127 #[.agg #[.int .i64 n, .int .i64 d]] w fun e w' => e = .returned (.bool b) ∧ Bl w w' := h ▸ validF_any n d w

set_option maxRecDepth 100000 in
set_option maxHeartbeats 3200000 in
theorem iswap_any (a b c d e f g h : Int) (w : World) (e1 : okD (⟨a, b, c, d, e, f, g, h⟩ : Db) = true) : Calls Try.prog 62 #[.agg #[.int .i64 a, .int .i64 b, .int .i64 c, .int .i64 d, .int .i64 e, .int .i64 f, .int .i64 g, .int .i64 h]] w fun r w' => r = .returned (.tuple #[.agg #[.int .i64 a, .int .i64 c, .int .i64 b, .int .i64 d, .int .i64 e, .int .i64 g, .int .i64 f, .int .i64 h], .int .i64 0]) ∧ Bl w w' := by
  have E1 := Lib.hid e1
  clear e1
  go_enter Try.func62, Try.ntmps62
  go_wp2_with fail
  have B1 : Bl w ((w.alloc (.cells #[.int .i64 a, .int .i64 b, .int .i64 c, .int .i64 d, .int .i64 e, .int .i64 f, .int .i64 g, .int .i64 h] 86)).alloc (.cells #[.int .i64 0, .int .i64 0, .int .i64 0, .int .i64 0, .int .i64 0, .int .i64 0, .int .i64 0, .int .i64 0] 86)) := (bl_alloc (bl_alloc (bl_refl _) _) _)
  have xD_1 : Bx ((w.alloc (.cells #[.int .i64 a, .int .i64 b, .int .i64 c, .int .i64 d, .int .i64 e, .int .i64 f, .int .i64 g, .int .i64 h] 86)).alloc (.cells #[.int .i64 0, .int .i64 0, .int .i64 0, .int .i64 0, .int .i64 0, .int .i64 0, .int .i64 0, .int .i64 0] 86)) (w.heap.size) #[.int .i64 a, .int .i64 b, .int .i64 c, .int .i64 d, .int .i64 e, .int .i64 f, .int .i64 g, .int .i64 h] := ((Bx.new (b := w.heap.size) _ #[.int .i64 a, .int .i64 b, .int .i64 c, .int .i64 d, .int .i64 e, .int .i64 f, .int .i64 g, .int .i64 h] 86 (by first | rfl | simp)).alloc _)
  have xR_1 : Bx ((w.alloc (.cells #[.int .i64 a, .int .i64 b, .int .i64 c, .int .i64 d, .int .i64 e, .int .i64 f, .int .i64 g, .int .i64 h] 86)).alloc (.cells #[.int .i64 0, .int .i64 0, .int .i64 0, .int .i64 0, .int .i64 0, .int .i64 0, .int .i64 0, .int .i64 0] 86)) (w.heap.size + 1) #[.int .i64 0, .int .i64 0, .int .i64 0, .int .i64 0, .int .i64 0, .int .i64 0, .int .i64 0, .int .i64 0] := (Bx.new (b := w.heap.size + 1) _ #[.int .i64 0, .int .i64 0, .int .i64 0, .int .i64 0, .int .i64 0, .int .i64 0, .int .i64 0, .int .i64 0] 86 (by first | rfl | simp))
  have zz1 : w.heap.size + 2 ≤ ((w.alloc (.cells #[.int .i64 a, .int .i64 b, .int .i64 c, .int .i64 d, .int .i64 e, .int .i64 f, .int .i64 g, .int .i64 h] 86)).alloc (.cells #[.int .i64 0, .int .i64 0, .int .i64 0, .int .i64 0, .int .i64 0, .int .i64 0, .int .i64 0, .int .i64 0] 86)).heap.size := (by simp)
  generalize ((w.alloc (.cells #[.int .i64 a, .int .i64 b, .int .i64 c, .int .i64 d, .int .i64 e, .int .i64 f, .int .i64 g, .int .i64 h] 86)).alloc (.cells #[.int .i64 0, .int .i64 0, .int .i64 0, .int .i64 0, .int .i64 0, .int .i64 0, .int .i64 0, .int .i64 0] 86)) = w1 at *
  obtain ⟨cD_1, fD_1, zD_1⟩ := xD_1.out
  obtain ⟨cR_1, fR_1, zR_1⟩ := xR_1.out
  refine (iokD_eq (d := (⟨a, b, c, d, e, f, g, h⟩ : Db)) E1.out _).mono ?_
  rintro e w2 ⟨rfl, hb2⟩
  have B2 : Bl w w2 := bl_call B1 hb2
  have xD_2 : Bx w2 (w.heap.size) #[.int .i64 a, .int .i64 b, .int .i64 c, .int .i64 d, .int .i64 e, .int .i64 f, .int .i64 g, .int .i64 h] := xD_1.below hb2
  have xR_2 : Bx w2 (w.heap.size + 1) #[.int .i64 0, .int .i64 0, .int .i64 0, .int .i64 0, .int .i64 0, .int .i64 0, .int .i64 0, .int .i64 0] := xR_1.below hb2
  clear cD_1 fD_1 zD_1 cR_1 fR_1 zR_1
  obtain ⟨cD_2, fD_2, zD_2⟩ := xD_2.out
  obtain ⟨cR_2, fR_2, zR_2⟩ := xR_2.out
  go_wp2
  refine bodyPost_ret (v := .tuple #[.agg #[.int .i64 a, .int .i64 c, .int .i64 b, .int .i64 d, .int .i64 e, .int .i64 g, .int .i64 f, .int .i64 h], .int .i64 0]) (by simp only [results, Try.results62]; go_simp) rfl ?_
  exact ⟨rfl, (bl_set (bl_set (bl_set (bl_set (bl_set (bl_set (bl_set (bl_set B2 (p := ⟨w.heap.size + 1, 0, none⟩) (by first | (simp; done) | (simp; omega)) _) (p := ⟨w.heap.size + 1, 1, none⟩) (by first | (simp; done) | (simp; omega)) _) (p := ⟨w.heap.size + 1, 2, none⟩) (by first | (simp; done) | (simp; omega)) _) (p := ⟨w.heap.size + 1, 3, none⟩) (by first | (simp; done) | (simp; omega)) _) (p := ⟨w.heap.size + 1, 4, none⟩) (by first | (simp; done) | (simp; omega)) _) (p := ⟨w.heap.size + 1, 5, none⟩) (by first | (simp; done) | (simp; omega)) _) (p := ⟨w.heap.size + 1, 6, none⟩) (by first | (simp; done) | (simp; omega)) _) (p := ⟨w.heap.size + 1, 7, none⟩) (by first | (simp; done) | (simp; omega)) _)⟩

/-- The value of a function. -/
def biF (a b c d e f g h xn xd yn yd : Int) : Int × Int × Int := if bil e f g h xn xd yn yd = 0 then (0, 0, 6) else fullF (bil a b c d xn xd yn yd) (bil e f g h xn xd yn yd)
theorem biF_sw (a b c d e f g h xn xd yn yd : Int) : biF a c b d e g f h yn yd xn xd = biF a b c d e f g h xn xd yn yd := by
  have k : ∀ a b c d : Int, bil a c b d yn yd xn xd = bil a b c d xn xd yn yd := fun a b c d => by unfold bil; grind
  unfold biF; rw [k, k]
set_option maxRecDepth 100000 in
set_option maxHeartbeats 6400000 in
theorem iat_any {a b c d e f g h xn xd yn yd p q k : Int} (w : World) (hs : Sm (⟨a, b, c, d, e, f, g, h⟩ : Db)) (e1 : okD (⟨a, b, c, d, e, f, g, h⟩ : Db) = true) (e2 : okF xn xd = true) (e3 : okF yn yd = true) (bx : -300 ≤ xn ∧ xn ≤ 300) (bX : 1 ≤ xd ∧ xd ≤ 300) (by' : -300 ≤ yn ∧ yn ≤ 300) (bY : 1 ≤ yd ∧ yd ≤ 300) (hr : biF a b c d e f g h xn xd yn yd = (p, q, k)) :
    Calls Try.prog 63 #[.agg #[.int .i64 a, .int .i64 b, .int .i64 c, .int .i64 d, .int .i64 e, .int .i64 f, .int .i64 g, .int .i64 h], .agg #[.int .i64 xn, .int .i64 xd], .agg #[.int .i64 yn, .int .i64 yd]] w fun r w' => r = .returned (.tuple #[.agg #[.int .i64 p, .int .i64 q], .int .i64 k]) ∧ Bl w w' := by
  have E1 := Lib.hid e1
  have E2 := Lib.hid e2
  have E3 := Lib.hid e3
  have E4 := Lib.hid (sm_bdDW hs)
  have E5 := Lib.hid (show inB xn (-10000) 10000 = true from inB_iff.2 (by omega))
  have E6 := Lib.hid (show inB yn (-10000) 10000 = true from inB_iff.2 (by omega))
  have HR := Lib.hid hr
  have g1 : decide (10000 < xd) = false := decide_eq_false (by omega)
  have g2 : decide (10000 < yd) = false := decide_eq_false (by omega)
  have n1 := mulU (X := 300) (Y := 300) (by omega) bx by'
  have n2 := mulU (X := 300) (Y := 300) (y := yd) (by omega) bx (by omega)
  have n3 := mulU (X := 300) (Y := 300) (x := xd) (by omega) (by omega) by'
  have n4 := mulU (X := 300) (Y := 300) (x := xd) (y := yd) (by omega) (by omega) (by omega)
  have m1 := mulU (by omega) hs.a n1
  have m2 := mulU (by omega) hs.b n2
  have m3 := mulU (by omega) hs.c n3
  have m4 := mulU (by omega) hs.d n4
  have m5 := mulU (by omega) hs.e n1
  have m6 := mulU (by omega) hs.f n2
  have m7 := mulU (by omega) hs.g n3
  have m8 := mulU (by omega) hs.h n4
  simp only at m1 m2 m3 m4 m5 m6 m7 m8
  clear e1 e2 e3 hs hr
  go_enter Try.func63, Try.ntmps63
  go_wp2_with fail
  have B1 : Bl w ((((w.alloc (.cells #[.int .i64 a, .int .i64 b, .int .i64 c, .int .i64 d, .int .i64 e, .int .i64 f, .int .i64 g, .int .i64 h] 86)).alloc (.cells #[.int .i64 xn, .int .i64 xd] 55)).alloc (.cells #[.int .i64 yn, .int .i64 yd] 55)).alloc (.cells #[.int .i64 0, .int .i64 0] 55)) := (bl_alloc (bl_alloc (bl_alloc (bl_alloc (bl_refl _) _) _) _) _)
  have xD_1 : Bx ((((w.alloc (.cells #[.int .i64 a, .int .i64 b, .int .i64 c, .int .i64 d, .int .i64 e, .int .i64 f, .int .i64 g, .int .i64 h] 86)).alloc (.cells #[.int .i64 xn, .int .i64 xd] 55)).alloc (.cells #[.int .i64 yn, .int .i64 yd] 55)).alloc (.cells #[.int .i64 0, .int .i64 0] 55)) (w.heap.size) #[.int .i64 a, .int .i64 b, .int .i64 c, .int .i64 d, .int .i64 e, .int .i64 f, .int .i64 g, .int .i64 h] := ((((Bx.new (b := w.heap.size) _ #[.int .i64 a, .int .i64 b, .int .i64 c, .int .i64 d, .int .i64 e, .int .i64 f, .int .i64 g, .int .i64 h] 86 (by first | rfl | simp)).alloc _).alloc _).alloc _)
  have xX_1 : Bx ((((w.alloc (.cells #[.int .i64 a, .int .i64 b, .int .i64 c, .int .i64 d, .int .i64 e, .int .i64 f, .int .i64 g, .int .i64 h] 86)).alloc (.cells #[.int .i64 xn, .int .i64 xd] 55)).alloc (.cells #[.int .i64 yn, .int .i64 yd] 55)).alloc (.cells #[.int .i64 0, .int .i64 0] 55)) (w.heap.size + 1) #[.int .i64 xn, .int .i64 xd] := (((Bx.new (b := w.heap.size + 1) _ #[.int .i64 xn, .int .i64 xd] 55 (by first | rfl | simp)).alloc _).alloc _)
  have xY_1 : Bx ((((w.alloc (.cells #[.int .i64 a, .int .i64 b, .int .i64 c, .int .i64 d, .int .i64 e, .int .i64 f, .int .i64 g, .int .i64 h] 86)).alloc (.cells #[.int .i64 xn, .int .i64 xd] 55)).alloc (.cells #[.int .i64 yn, .int .i64 yd] 55)).alloc (.cells #[.int .i64 0, .int .i64 0] 55)) (w.heap.size + 1 + 1) #[.int .i64 yn, .int .i64 yd] := ((Bx.new (b := w.heap.size + 1 + 1) _ #[.int .i64 yn, .int .i64 yd] 55 (by first | rfl | simp)).alloc _)
  have xR_1 : Bx ((((w.alloc (.cells #[.int .i64 a, .int .i64 b, .int .i64 c, .int .i64 d, .int .i64 e, .int .i64 f, .int .i64 g, .int .i64 h] 86)).alloc (.cells #[.int .i64 xn, .int .i64 xd] 55)).alloc (.cells #[.int .i64 yn, .int .i64 yd] 55)).alloc (.cells #[.int .i64 0, .int .i64 0] 55)) (w.heap.size + 1 + 1 + 1) #[.int .i64 0, .int .i64 0] := (Bx.new (b := w.heap.size + 1 + 1 + 1) _ #[.int .i64 0, .int .i64 0] 55 (by first | rfl | simp))
  have zz1 : w.heap.size + 4 ≤ ((((w.alloc (.cells #[.int .i64 a, .int .i64 b, .int .i64 c, .int .i64 d, .int .i64 e, .int .i64 f, .int .i64 g, .int .i64 h] 86)).alloc (.cells #[.int .i64 xn, .int .i64 xd] 55)).alloc (.cells #[.int .i64 yn, .int .i64 yd] 55)).alloc (.cells #[.int .i64 0, .int .i64 0] 55)).heap.size := (by simp)
  generalize ((((w.alloc (.cells #[.int .i64 a, .int .i64 b, .int .i64 c, .int .i64 d, .int .i64 e, .int .i64 f, .int .i64 g, .int .i64 h] 86)).alloc (.cells #[.int .i64 xn, .int .i64 xd] 55)).alloc (.cells #[.int .i64 yn, .int .i64 yd] 55)).alloc (.cells #[.int .i64 0, .int .i64 0] 55)) = w1 at *
  obtain ⟨cD_1, fD_1, zD_1⟩ := xD_1.out
  obtain ⟨cX_1, fX_1, zX_1⟩ := xX_1.out
  obtain ⟨cY_1, fY_1, zY_1⟩ := xY_1.out
  obtain ⟨cR_1, fR_1, zR_1⟩ := xR_1.out
  refine (iokD_eq (d := (⟨a, b, c, d, e, f, g, h⟩ : Db)) E1.out _).mono ?_
  rintro e w2 ⟨rfl, hb2⟩
  have B2 : Bl w w2 := bl_call B1 hb2
  have xD_2 : Bx w2 (w.heap.size) #[.int .i64 a, .int .i64 b, .int .i64 c, .int .i64 d, .int .i64 e, .int .i64 f, .int .i64 g, .int .i64 h] := xD_1.below hb2
  have xX_2 : Bx w2 (w.heap.size + 1) #[.int .i64 xn, .int .i64 xd] := xX_1.below hb2
  have xY_2 : Bx w2 (w.heap.size + 1 + 1) #[.int .i64 yn, .int .i64 yd] := xY_1.below hb2
  have xR_2 : Bx w2 (w.heap.size + 1 + 1 + 1) #[.int .i64 0, .int .i64 0] := xR_1.below hb2
  clear cD_1 fD_1 zD_1 cX_1 fX_1 zX_1 cY_1 fY_1 zY_1 cR_1 fR_1 zR_1
  obtain ⟨cD_2, fD_2, zD_2⟩ := xD_2.out
  obtain ⟨cX_2, fX_2, zX_2⟩ := xX_2.out
  obtain ⟨cY_2, fY_2, zY_2⟩ := xY_2.out
  obtain ⟨cR_2, fR_2, zR_2⟩ := xR_2.out
  go_wp2_with fail
  refine (validF_eqW E2.out _).mono ?_
  rintro e w3 ⟨rfl, hb3⟩
  have B3 : Bl w w3 := bl_call B2 hb3
  have xD_3 : Bx w3 (w.heap.size) #[.int .i64 a, .int .i64 b, .int .i64 c, .int .i64 d, .int .i64 e, .int .i64 f, .int .i64 g, .int .i64 h] := xD_2.below hb3
  have xX_3 : Bx w3 (w.heap.size + 1) #[.int .i64 xn, .int .i64 xd] := xX_2.below hb3
  have xY_3 : Bx w3 (w.heap.size + 1 + 1) #[.int .i64 yn, .int .i64 yd] := xY_2.below hb3
  have xR_3 : Bx w3 (w.heap.size + 1 + 1 + 1) #[.int .i64 0, .int .i64 0] := xR_2.below hb3
  clear cD_2 fD_2 zD_2 cX_2 fX_2 zX_2 cY_2 fY_2 zY_2 cR_2 fR_2 zR_2
  obtain ⟨cD_3, fD_3, zD_3⟩ := xD_3.out
  obtain ⟨cX_3, fX_3, zX_3⟩ := xX_3.out
  obtain ⟨cY_3, fY_3, zY_3⟩ := xY_3.out
  obtain ⟨cR_3, fR_3, zR_3⟩ := xR_3.out
  go_wp2_with fail
  refine (validF_eqW E3.out _).mono ?_
  rintro e w4 ⟨rfl, hb4⟩
  have B4 : Bl w w4 := bl_call B3 hb4
  have xD_4 : Bx w4 (w.heap.size) #[.int .i64 a, .int .i64 b, .int .i64 c, .int .i64 d, .int .i64 e, .int .i64 f, .int .i64 g, .int .i64 h] := xD_3.below hb4
  have xX_4 : Bx w4 (w.heap.size + 1) #[.int .i64 xn, .int .i64 xd] := xX_3.below hb4
  have xY_4 : Bx w4 (w.heap.size + 1 + 1) #[.int .i64 yn, .int .i64 yd] := xY_3.below hb4
  have xR_4 : Bx w4 (w.heap.size + 1 + 1 + 1) #[.int .i64 0, .int .i64 0] := xR_3.below hb4
  clear cD_3 fD_3 zD_3 cX_3 fX_3 zX_3 cY_3 fY_3 zY_3 cR_3 fR_3 zR_3
  obtain ⟨cD_4, fD_4, zD_4⟩ := xD_4.out
  obtain ⟨cX_4, fX_4, zX_4⟩ := xX_4.out
  obtain ⟨cY_4, fY_4, zY_4⟩ := xY_4.out
  obtain ⟨cR_4, fR_4, zR_4⟩ := xR_4.out
  go_wp2_with fail
  refine (isbW_eq (d := (⟨a, b, c, d, e, f, g, h⟩ : Db)) E4.out _).mono ?_
  rintro e w5 ⟨rfl, hb5⟩
  have B5 : Bl w w5 := bl_call B4 hb5
  have xD_5 : Bx w5 (w.heap.size) #[.int .i64 a, .int .i64 b, .int .i64 c, .int .i64 d, .int .i64 e, .int .i64 f, .int .i64 g, .int .i64 h] := xD_4.below hb5
  have xX_5 : Bx w5 (w.heap.size + 1) #[.int .i64 xn, .int .i64 xd] := xX_4.below hb5
  have xY_5 : Bx w5 (w.heap.size + 1 + 1) #[.int .i64 yn, .int .i64 yd] := xY_4.below hb5
  have xR_5 : Bx w5 (w.heap.size + 1 + 1 + 1) #[.int .i64 0, .int .i64 0] := xR_4.below hb5
  clear cD_4 fD_4 zD_4 cX_4 fX_4 zX_4 cY_4 fY_4 zY_4 cR_4 fR_4 zR_4
  obtain ⟨cD_5, fD_5, zD_5⟩ := xD_5.out
  obtain ⟨cX_5, fX_5, zX_5⟩ := xX_5.out
  obtain ⟨cY_5, fY_5, zY_5⟩ := xY_5.out
  obtain ⟨cR_5, fR_5, zR_5⟩ := xR_5.out
  go_wp2_with fail
  refine (inB_eqS E5.out _).mono ?_
  rintro r w9 ⟨rfl, rfl⟩
  go_wp2_with fail
  refine (inB_eqS E6.out _).mono ?_
  rintro r w9 ⟨rfl, rfl⟩
  go_wp2_with fail
  go_quiet (fail)
  rename_i nq
  have Bq : Bl w (w5.drewN nq) := bl_call B5 (Drawn.below ⟨_, rfl⟩ _)
  by_cases hz : bil e f g h xn xd yn yd = 0
  · have hz2 : (e * (xn * yn) + f * (xn * yd) + g * (xd * yn) + h * (xd * yd) == 0) = true := by unfold bil at hz; simp [hz]
    go_wp2
    refine bodyPost_ret (v := .tuple #[.agg #[.int .i64 0, .int .i64 0], .int .i64 6]) (by simp only [results, Try.results63]; go_simp) rfl ?_
    have e := HR.out
    rw [biF, if_pos hz] at e
    simp only [Prod.mk.injEq] at e
    obtain ⟨rfl, rfl, rfl⟩ := e
    exact ⟨rfl, (bl_set (bl_set Bq (p := ⟨w.heap.size + 1 + 1 + 1, 0, none⟩) (by first | (simp; done) | (simp; omega)) _) (p := ⟨w.heap.size + 1 + 1 + 1, 1, none⟩) (by first | (simp; done) | (simp; omega)) _)⟩
  · have hz2 : (e * (xn * yn) + f * (xn * yd) + g * (xd * yn) + h * (xd * yd) == 0) = false := by unfold bil at hz; simp [hz]
    have er := HR.out
    rw [biF, if_neg hz] at er
    unfold bil at er hz
    have HE := Lib.hid er
    clear er
    go_wp2_with fail
    refine (plain_any _ _ _ (by omega) (by omega) hz (by omega) (by omega)).mono ?_
    rintro r w9 ⟨rfl, hb9⟩
    have B9 : Bl w w9 := bl_call Bq hb9
    have xR9 := (xR_5.below (Drawn.below ⟨nq, rfl⟩ _)).below hb9
    clear cD_5 fD_5 zD_5 cX_5 fX_5 zX_5 cY_5 fY_5 zY_5 cR_5 fR_5 zR_5
    obtain ⟨cR9, fR9, zR9⟩ := xR9.out
    rw [HE.out]
    go_wp2
    refine bodyPost_ret (v := .tuple #[.agg #[.int .i64 p, .int .i64 q], .int .i64 k]) (by simp only [results, Try.results63]; go_simp) rfl ?_
    exact ⟨rfl, (bl_set (bl_set B9 (p := ⟨w.heap.size + 1 + 1 + 1, 0, none⟩) (by first | (simp; done) | (simp; omega)) _) (p := ⟨w.heap.size + 1 + 1 + 1, 1, none⟩) (by first | (simp; done) | (simp; omega)) _)⟩

end Go.Proofs.Ytgmofofokhlhnaa
