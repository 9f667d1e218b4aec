/- Functions of two numbers: validity, the program. Each theorem names its conditions. -/
import Derived.Test.YtgmofofokhlhnaaDb2
namespace Go.Proofs.Ytgmofofokhlhnaa
open Go.RowKit
set_option linter.unusedVariables false
set_option linter.unusedSimpArgs false


set_option maxRecDepth 100000 in
set_option maxHeartbeats 1600000 in
theorem isbD_any (d : Db) (w : World) : Calls Try.prog 128 #[.agg #[.int .i64 d.a, .int .i64 d.b, .int .i64 d.c, .int .i64 d.d, .int .i64 d.e, .int .i64 d.f, .int .i64 d.g, .int .i64 d.h], .int .i64 1000000000] w fun e w' => e = .returned (.bool (bdD d)) ∧ Bl w w' := by
  obtain ⟨xs, hxs⟩ : ∃ xs, xs = [d.a, d.b, d.c, d.d, d.e, d.f, d.g, d.h] := ⟨_, rfl⟩
  have HX := Lib.hid hxs
  have HB := Lib.hid (show xs.all bdN = bdD d by rw [hxs]; simp [bdD, Bool.and_assoc])
  have HL := Lib.hid (show xs.length = 8 by rw [hxs]; rfl)
  clear hxs
  go_enter Try.func128, Try.ntmps128
  go_wp2_with fail
  have hB0 : Bl w ((w.alloc (.cells #[.int .i64 d.a, .int .i64 d.b, .int .i64 d.c, .int .i64 d.d, .int .i64 d.e, .int .i64 d.f, .int .i64 d.g, .int .i64 d.h] 86)).alloc (.cells #[.int .i64 d.a, .int .i64 d.b, .int .i64 d.c, .int .i64 d.d, .int .i64 d.e, .int .i64 d.f, .int .i64 d.g, .int .i64 d.h] 2)) := bl_alloc (bl_alloc (bl_refl _) _) _
  have hX0 : Bx ((w.alloc (.cells #[.int .i64 d.a, .int .i64 d.b, .int .i64 d.c, .int .i64 d.d, .int .i64 d.e, .int .i64 d.f, .int .i64 d.g, .int .i64 d.h] 86)).alloc (.cells #[.int .i64 d.a, .int .i64 d.b, .int .i64 d.c, .int .i64 d.d, .int .i64 d.e, .int .i64 d.f, .int .i64 d.g, .int .i64 d.h] 2)) (w.heap.size + 1) #[.int .i64 d.a, .int .i64 d.b, .int .i64 d.c, .int .i64 d.d, .int .i64 d.e, .int .i64 d.f, .int .i64 d.g, .int .i64 d.h] := Bx.new _ _ _ (by simp)
  go_loopw [6, 25] (fun _ s25 wr => ∃ k : Nat, s25 = .int .i64 k ∧ k ≤ 8 ∧ Hid ((xs.take k).all bdN = true) ∧ Bx wr (w.heap.size + 1) #[.int .i64 d.a, .int .i64 d.b, .int .i64 d.c, .int .i64 d.d, .int .i64 d.e, .int .i64 d.f, .int .i64 d.g, .int .i64 d.h] ∧ Bl w wr) (fun _ s25 _ => 8 - (intOf s25).toNat)
  case atStart => exact ⟨0, rfl, by omega, Lib.hid rfl, hX0, hB0⟩
  case round =>
    obtain ⟨k, rfl, hk, HK, xB, Br⟩ := hrel
    by_cases hk8 : k < 8
    · have hkI : (k : Int) < 8 := by omega
      have hc : wr.cell? ⟨w.heap.size + 1, k, none⟩ = some (.int .i64 (xs.getD k 0)) := by
        rw [xB.out.1 k, HX.out]
        rcases (show k = 0 ∨ k = 1 ∨ k = 2 ∨ k = 3 ∨ k = 4 ∨ k = 5 ∨ k = 6 ∨ k = 7 by omega) with rfl | rfl | rfl | rfl | rfl | rfl | rfl | rfl <;> rfl
      obtain ⟨x, hx⟩ : ∃ x, xs.getD k 0 = x := ⟨_, rfl⟩
      rw [hx] at hc
      have hx' : xs[k]? = some x := by
        rw [List.getD_eq_getElem?_getD] at hx
        rw [List.getElem?_eq_getElem (by rw [HL.out]; omega)] at hx ⊢
        simpa using hx
      have HT := Lib.hid (show (xs.take (k + 1)).all bdN = bdN x by rw [List.take_add_one, hx']; simp [HK.out, List.all_append])
      have HXX := Lib.hid hx'
      clear hx hx'
      cases hb : bdN x with
      | false =>
        have E := Lib.hid (show inB x (-1000000000) 1000000000 = false from hb)
        have HR := Lib.hid (show false = bdD d by
          rw [← HB.out]
          cases h : xs.all bdN with
          | false => rfl
          | true => rw [List.all_eq_true.1 h x (List.mem_of_getElem? HXX.out)] at hb; cases hb)
        clear hb
        go_wp2_with fail
        refine (inB_eqS E.out _).mono ?_
        rintro e w9 ⟨rfl, rfl⟩
        go_wp2
        go_ret
        exact ⟨ret_bool HR.out, Br⟩
      | true =>
        have E := Lib.hid (show inB x (-1000000000) 1000000000 = true from hb)
        have HT2 := Lib.hid (HT.out.trans hb)
        clear hb
        go_wp2_with fail
        refine (inB_eqS E.out _).mono ?_
        rintro e w9 ⟨rfl, rfl⟩
        go_wp2
        go_roundw
        case rel => exact ⟨k + 1, by go_num, by omega, HT2, xB, Br⟩
        case measure => simp only [intOf, Int.toNat_natCast]; omega
    · have hkI : ¬ (k : Int) < 8 := by omega
      have HR := Lib.hid (show true = bdD d by rw [← HB.out, ← HK.out, List.take_of_length_le (by rw [HL.out]; omega)])
      go_wp2
      go_ret
      exact ⟨ret_bool HR.out, Br⟩

theorem isbD_eq {d : Db} {b : Bool} (h : bdD d = b) (w : World) : Calls Try.prog 128 #[.agg #[.int .i64 d.a, .int .i64 d.b, .int .i64 d.c, .int .i64 d.d, .int .i64 d.e, .int .i64 d.f, .int .i64 d.g, .int .i64 d.h], .int .i64 1000000000] w fun e w' => e = .returned (.bool b) ∧ Bl w w' := h ▸ isbD_any d w
set_option maxRecDepth 100000 in
set_option maxHeartbeats 1600000 in
theorem iokD_any (d : Db) (w : World) : Calls Try.prog 126 #[.agg #[.int .i64 d.a, .int .i64 d.b, .int .i64 d.c, .int .i64 d.d, .int .i64 d.e, .int .i64 d.f, .int .i64 d.g, .int .i64 d.h]] w fun e w' => e = .returned (.bool (okD d)) ∧ Bl w w' := by
  cases e : bdD d with
  | false =>
    have E := Lib.hid e
    have HR := Lib.hid (show false = okD d by simp [okD, e])
    clear e
    go_enter Try.func126, Try.ntmps126
    go_wp2_with fail
    refine (isbD_eq E.out _).mono ?_
    rintro e w1 ⟨rfl, hb1⟩
    have B1 : Bl w w1 := bl_call (bl_alloc (bl_refl _) _) hb1
    have xS_1 : Bx w1 (w.heap.size) #[.int .i64 d.a, .int .i64 d.b, .int .i64 d.c, .int .i64 d.d, .int .i64 d.e, .int .i64 d.f, .int .i64 d.g, .int .i64 d.h] := (Bx.new (b := w.heap.size) _ #[.int .i64 d.a, .int .i64 d.b, .int .i64 d.c, .int .i64 d.d, .int .i64 d.e, .int .i64 d.f, .int .i64 d.g, .int .i64 d.h] 86 (by first | rfl | simp)).below hb1
    obtain ⟨cS_1, fS_1, zS_1⟩ := xS_1.out
    go_wp2
    go_ret
    exact ⟨ret_bool HR.out, B1⟩
  | true =>
    have E := Lib.hid e
    have HR := Lib.hid (show (!enD d) = okD d by simp [okD, e])
    clear e
    go_enter Try.func126, Try.ntmps126
    go_wp2_with fail
    refine (isbD_eq E.out _).mono ?_
    rintro e w1 ⟨rfl, hb1⟩
    have B1 : Bl w w1 := bl_call (bl_alloc (bl_refl _) _) hb1
    have xS_1 : Bx w1 (w.heap.size) #[.int .i64 d.a, .int .i64 d.b, .int .i64 d.c, .int .i64 d.d, .int .i64 d.e, .int .i64 d.f, .int .i64 d.g, .int .i64 d.h] := (Bx.new (b := w.heap.size) _ #[.int .i64 d.a, .int .i64 d.b, .int .i64 d.c, .int .i64 d.d, .int .i64 d.e, .int .i64 d.f, .int .i64 d.g, .int .i64 d.h] 86 (by first | rfl | simp)).below hb1
    obtain ⟨cS_1, fS_1, zS_1⟩ := xS_1.out
    go_wp2_with fail
    refine (iend_D d _).mono ?_
    rintro e w2 ⟨rfl, hb2⟩
    have B2 : Bl w w2 := bl_call B1 hb2
    have xS_2 : Bx w2 (w.heap.size) #[.int .i64 d.a, .int .i64 d.b, .int .i64 d.c, .int .i64 d.d, .int .i64 d.e, .int .i64 d.f, .int .i64 d.g, .int .i64 d.h] := xS_1.below hb2
    clear cS_1 fS_1 zS_1
    obtain ⟨cS_2, fS_2, zS_2⟩ := xS_2.out
    go_wp2
    go_ret
    exact ⟨ret_bool HR.out, B2⟩

end Go.Proofs.Ytgmofofokhlhnaa
