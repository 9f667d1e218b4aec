/- Some of the texts of this claim, joined in one file: Db3, Db5. -/
import Derived.Test.YtgkelemfbmmgnaaMTp19
import Derived.Test.YtgkelemfbmmgnaaMTp14
/- Functions of two numbers: validity, the program. Each theorem names its conditions. -/
namespace Go.Proofs.Ytgkelemfbmmgnaa
open Go.RowKit
set_option linter.unusedVariables false
set_option linter.unusedSimpArgs false


set_option maxRecDepth 100000 in
set_option maxHeartbeats 1600000 in
theorem isbD_any (d : Db) (w : World) : Calls Try.prog 119 #[.agg #[.int .i64 d.a, .int .i64 d.b, .int .i64 d.c, .int .i64 d.d, .int .i64 d.e, .int .i64 d.f, .int .i64 d.g, .int .i64 d.h], .int .i64 1000000000] w fun e w' => e = .returned (.bool (bdD d)) ∧ Bl w w' := by
  obtain ⟨xs, hxs⟩ : ∃ xs, xs = [d.a, d.b, d.c, d.d, d.e, d.f, d.g, d.h] := ⟨_, rfl⟩
  have HX := Lib.hid hxs
  have HB := Lib.hid (show xs.all bdN = bdD d by rw [hxs]; simp [bdD, Bool.and_assoc])
  have HL := Lib.hid (show xs.length = 8 by rw [hxs]; rfl)
  clear hxs
  go_enter Try.func119, Try.ntmps119
  go_wp2_with fail
  have hB0 : Bl w ((w.alloc (.cells #[.int .i64 d.a, .int .i64 d.b, .int .i64 d.c, .int .i64 d.d, .int .i64 d.e, .int .i64 d.f, .int .i64 d.g, .int .i64 d.h] 89)).alloc (.cells #[.int .i64 d.a, .int .i64 d.b, .int .i64 d.c, .int .i64 d.d, .int .i64 d.e, .int .i64 d.f, .int .i64 d.g, .int .i64 d.h] 2)) := bl_alloc (bl_alloc (bl_refl _) _) _
  have hX0 : Bx ((w.alloc (.cells #[.int .i64 d.a, .int .i64 d.b, .int .i64 d.c, .int .i64 d.d, .int .i64 d.e, .int .i64 d.f, .int .i64 d.g, .int .i64 d.h] 89)).alloc (.cells #[.int .i64 d.a, .int .i64 d.b, .int .i64 d.c, .int .i64 d.d, .int .i64 d.e, .int .i64 d.f, .int .i64 d.g, .int .i64 d.h] 2)) (w.heap.size + 1) #[.int .i64 d.a, .int .i64 d.b, .int .i64 d.c, .int .i64 d.d, .int .i64 d.e, .int .i64 d.f, .int .i64 d.g, .int .i64 d.h] := Bx.new _ _ _ (by simp)
  go_loopw [6, 25] (fun _ s25 wr => ∃ k : Nat, s25 = .int .i64 k ∧ k ≤ 8 ∧ Hid ((xs.take k).all bdN = true) ∧ Bx wr (w.heap.size + 1) #[.int .i64 d.a, .int .i64 d.b, .int .i64 d.c, .int .i64 d.d, .int .i64 d.e, .int .i64 d.f, .int .i64 d.g, .int .i64 d.h] ∧ Bl w wr) (fun _ s25 _ => 8 - (intOf s25).toNat)
  case atStart => exact ⟨0, rfl, by omega, Lib.hid rfl, hX0, hB0⟩
  case round =>
    obtain ⟨k, rfl, hk, HK, xB, Br⟩ := hrel
    by_cases hk8 : k < 8
    · have hkI : (k : Int) < 8 := by omega
      have hc : wr.cell? ⟨w.heap.size + 1, k, none⟩ = some (.int .i64 (xs.getD k 0)) := by
        rw [xB.out.1 k, HX.out]
        rcases (show k = 0 ∨ k = 1 ∨ k = 2 ∨ k = 3 ∨ k = 4 ∨ k = 5 ∨ k = 6 ∨ k = 7 by omega) with rfl | rfl | rfl | rfl | rfl | rfl | rfl | rfl <;> rfl
      obtain ⟨x, hx⟩ : ∃ x, xs.getD k 0 = x := ⟨_, rfl⟩
      rw [hx] at hc
      have hx' : xs[k]? = some x := by
        rw [List.getD_eq_getElem?_getD] at hx
        rw [List.getElem?_eq_getElem (by rw [HL.out]; omega)] at hx ⊢
        simpa using hx
      have HT := Lib.hid (show (xs.take (k + 1)).all bdN = bdN x by rw [List.take_add_one, hx']; simp [HK.out, List.all_append])
      have HXX := Lib.hid hx'
      clear hx hx'
      cases hb : bdN x with
      | false =>
        have E := Lib.hid (show inB x (-1000000000) 1000000000 = false from hb)
        have HR := Lib.hid (show false = bdD d by
          rw [← HB.out]
          cases h : xs.all bdN with
          | false => rfl
          | true => rw [List.all_eq_true.1 h x (List.mem_of_getElem? HXX.out)] at hb; cases hb)
        clear hb
        go_wp2_with fail
        refine (inB_eqS E.out _).mono ?_
        rintro e w9 ⟨rfl, rfl⟩
        go_wp2
        go_ret
        exact ⟨ret_bool HR.out, Br⟩
      | true =>
        have E := Lib.hid (show inB x (-1000000000) 1000000000 = true from hb)
        have HT2 := Lib.hid (HT.out.trans hb)
        clear hb
        go_wp2_with fail
        refine (inB_eqS E.out _).mono ?_
        rintro e w9 ⟨rfl, rfl⟩
        go_wp2
        go_roundw
        case rel => exact ⟨k + 1, by go_num, by omega, HT2, xB, Br⟩
        case measure => simp only [intOf, Int.toNat_natCast]; omega
    · have hkI : ¬ (k : Int) < 8 := by omega
      have HR := Lib.hid (show true = bdD d by rw [← HB.out, ← HK.out, List.take_of_length_le (by rw [HL.out]; omega)])
      go_wp2
      go_ret
      exact ⟨ret_bool HR.out, Br⟩

theorem isbD_eq {d : Db} {b : Bool} (h : bdD d = b) (w : World) : Calls Try.prog 119 #[.agg #[.int .i64 d.a, .int .i64 d.b, .int .i64 d.c, .int .i64 d.d, .int .i64 d.e, .int .i64 d.f, .int .i64 d.g, .int .i64 d.h], .int .i64 1000000000] w fun e w' => e = .returned (.bool b) ∧ Bl w w' := h ▸ isbD_any d w
set_option maxRecDepth 100000 in
set_option maxHeartbeats 1600000 in
theorem iokD_any (d : Db) (w : World) : Calls Try.prog 98 #[.agg #[.int .i64 d.a, .int .i64 d.b, .int .i64 d.c, .int .i64 d.d, .int .i64 d.e, .int .i64 d.f, .int .i64 d.g, .int .i64 d.h]] w fun e w' => e = .returned (.bool (okD d)) ∧ Bl w w' := by
  cases e : bdD d with
  | false =>
    have E := Lib.hid e
    have HR := Lib.hid (show false = okD d by simp [okD, e])
    clear e
    go_enter Try.func98, Try.ntmps98
    go_wp2_with fail
    refine (isbD_eq E.out _).mono ?_
    rintro e w1 ⟨rfl, hb1⟩
    have B1 : Bl w w1 := bl_call (bl_alloc (bl_refl _) _) hb1
    have xS_1 : Bx w1 (w.heap.size) #[.int .i64 d.a, .int .i64 d.b, .int .i64 d.c, .int .i64 d.d, .int .i64 d.e, .int .i64 d.f, .int .i64 d.g, .int .i64 d.h] := (Bx.new (b := w.heap.size) _ #[.int .i64 d.a, .int .i64 d.b, .int .i64 d.c, .int .i64 d.d, .int .i64 d.e, .int .i64 d.f, .int .i64 d.g, .int .i64 d.h] 89 (by first | rfl | simp)).below hb1
    obtain ⟨cS_1, fS_1, zS_1⟩ := xS_1.out
    go_wp2
    go_ret
    exact ⟨ret_bool HR.out, B1⟩
  | true =>
    have E := Lib.hid e
    have HR := Lib.hid (show (!enD d) = okD d by simp [okD, e])
    clear e
    go_enter Try.func98, Try.ntmps98
    go_wp2_with fail
    refine (isbD_eq E.out _).mono ?_
    rintro e w1 ⟨rfl, hb1⟩
    have B1 : Bl w w1 := bl_call (bl_alloc (bl_refl _) _) hb1
    have xS_1 : Bx w1 (w.heap.size) #[.int .i64 d.a, .int .i64 d.b, .int .i64 d.c, .int .i64 d.d, .int .i64 d.e, .int .i64 d.f, .int .i64 d.g, .int .i64 d.h] := (Bx.new (b := w.heap.size) _ #[.int .i64 d.a, .int .i64 d.b, .int .i64 d.c, .int .i64 d.d, .int .i64 d.e, .int .i64 d.f, .int .i64 d.g, .int .i64 d.h] 89 (by first | rfl | simp)).below hb1
    obtain ⟨cS_1, fS_1, zS_1⟩ := xS_1.out
    go_wp2_with fail
    refine (iend_D d _).mono ?_
    rintro e w2 ⟨rfl, hb2⟩
    have B2 : Bl w w2 := bl_call B1 hb2
    have xS_2 : Bx w2 (w.heap.size) #[.int .i64 d.a, .int .i64 d.b, .int .i64 d.c, .int .i64 d.d, .int .i64 d.e, .int .i64 d.f, .int .i64 d.g, .int .i64 d.h] := xS_1.below hb2
    clear cS_1 fS_1 zS_1
    obtain ⟨cS_2, fS_2, zS_2⟩ := xS_2.out
    go_wp2
    go_ret
    exact ⟨ret_bool HR.out, B2⟩

end Go.Proofs.Ytgkelemfbmmgnaa

/- Functions of two numbers: the known term. Each theorem names its conditions. -/
namespace Go.Proofs.Ytgkelemfbmmgnaa
open Go.RowKit
set_option linter.unusedVariables false
set_option linter.unusedSimpArgs false


theorem quiet_sym {P : Program} {f : FuncId} {args : Array Value} {w : World} {n : Nat} {v : Value} (h : Calls P f args (w.drewN n) fun e w' => e = .returned v ∧ w.drewN n = w') : Calls P f args (w.drewN n) fun e w'' => e = .returned v ∧ ∃ m, w'' = w.drewN m :=
  h.mono fun _ _ ⟨he, hm⟩ => ⟨he, n, hm.symm⟩
def sgn (n : Int) : Int := if n < 0 then -1 else if 0 < n then 1 else 0
theorem sgn_any (n : Int) (w : World) : Calls Try.prog 135 #[.int .i64 n] w fun e w' => e = .returned (.int .i64 (sgn n)) ∧ w = w' := by
  by_cases h1 : n < 0
  · have c1 : decide (n < 0) = true := decide_eq_true h1
    have H := Lib.hid (show (-1 : Int) = sgn n by unfold sgn; rw [if_pos h1])
    clear h1
    go_enter Try.func135, Try.ntmps135
    go_wp2
    go_ret
    exact ⟨ret_int H.out, rfl⟩
  · have c1 : decide (n < 0) = false := decide_eq_false h1
    by_cases h2 : 0 < n
    · have c2 : decide (0 < n) = true := decide_eq_true h2
      have c3 : decide (n > 0) = true := decide_eq_true h2
      have H := Lib.hid (show (1 : Int) = sgn n by unfold sgn; rw [if_neg h1, if_pos h2])
      clear h1
      go_enter Try.func135, Try.ntmps135
      go_wp2
      go_ret
      exact ⟨ret_int H.out, rfl⟩
    · have c2 : decide (0 < n) = false := decide_eq_false h2
      have c3 : decide (n > 0) = false := decide_eq_false h2
      have H := Lib.hid (show (0 : Int) = sgn n by unfold sgn; rw [if_neg h1, if_neg h2])
      clear h1
      go_enter Try.func135, Try.ntmps135
      go_wp2
      go_ret
      exact ⟨ret_int H.out, rfl⟩
theorem sgn_of {x y : Int} (hx : x ≠ 0) (hy : y ≠ 0) {b : Bool} (h : (decide (x < 0) != decide (y < 0)) = b) : (sgn x != sgn y) = b := by
  unfold sgn
  by_cases h1 : x < 0 <;> by_cases h2 : y < 0 <;> simp only [h1, h2, decide_true, decide_false, if_true, if_false] at h ⊢
  · rw [← h]; rfl
  · rw [if_pos (by omega)]; rw [← h]; rfl
  · rw [if_pos (by omega)]; rw [← h]; rfl
  · rw [if_pos (by omega), if_pos (by omega)]; rw [← h]; rfl
theorem pos_of {x y : Int} (hx : x ≠ 0) (hy : y ≠ 0) {b : Bool} (h : (decide (x < 0) != decide (y < 0)) = b) : (decide (0 < x) != decide (0 < y)) = b := by
  have e1 : decide (0 < x) = !decide (x < 0) := by rw [← decide_not]; exact decide_eq_decide.2 (by omega)
  have e2 : decide (0 < y) = !decide (y < 0) := by rw [← decide_not]; exact decide_eq_decide.2 (by omega)
  rw [e1, e2, ← h]
  cases decide (x < 0) <;> cases decide (y < 0) <;> rfl
def pD (e b : Int) : Bool := decide (b = 0) || (decide (b < 0) != decide (e < 0))
theorem opD_eq (d : Db) : opD d = (botD d).any (pD d.e) := rfl
theorem kn_op {d : Db} (h : opD d = true) : knR d = (0, false) := by unfold knR knD; rw [if_pos h]
theorem opd_at {d : Db} {k : Nat} {x : Int} (hk : k < 4) (hx : (botD d).getD k 0 = x) (hp : pD d.e x = true) : opD d = true := by
  rw [opD_eq, List.any_eq_true]
  refine ⟨x, ?_, hp⟩
  rw [List.getD_eq_getElem?_getD, List.getElem?_eq_getElem (show k < (botD d).length from hk)] at hx
  subst hx
  exact List.getElem_mem _
theorem opd_next {d : Db} {k : Nat} {x : Int} (hk : k < 4) (hx : (botD d).getD k 0 = x) (hp : pD d.e x = false) (h : ((botD d).take k).any (pD d.e) = false) : ((botD d).take (k + 1)).any (pD d.e) = false := by
  rw [List.getD_eq_getElem?_getD, List.getElem?_eq_getElem (show k < (botD d).length from hk)] at hx
  rw [List.take_add_one, List.getElem?_eq_getElem (show k < (botD d).length from hk), List.any_append, h]
  simp only [Option.getD_some] at hx
  rw [hx]
  simp [hp]
theorem kn_all {d : Db} {q : Int} (ho : opD d = false) (hq : fdv d.a d.e = q) (h : ∀ j, j < 4 → fdv ((topD d).getD j 0) ((botD d).getD j 0) = q) : knR d = (q, true) := by
  have h1 := h 1 (by omega)
  have h2 := h 2 (by omega)
  have h3 := h 3 (by omega)
  simp only [topD, botD, List.getD_cons_succ, List.getD_cons_zero] at h1 h2 h3
  unfold knR knD
  rw [if_neg (by rw [ho]; simp), if_pos ⟨by omega, by omega, by omega⟩, hq]
theorem kn_not {d : Db} {q : Int} {j : Nat} (ho : opD d = false) (hq : fdv d.a d.e = q) (hj : j < 4) (h : fdv ((topD d).getD j 0) ((botD d).getD j 0) ≠ q) : knR d = (0, false) := by
  unfold knR knD
  rw [if_neg (by rw [ho]; simp), if_neg]
  rintro ⟨e1, e2, e3⟩
  refine h ?_
  rcases (show j = 0 ∨ j = 1 ∨ j = 2 ∨ j = 3 by omega) with rfl | rfl | rfl | rfl <;> simp only [topD, botD, List.getD_cons_succ, List.getD_cons_zero] <;> omega
theorem bot_ne {d : Db} {j : Nat} (ho : opD d = false) (hj : j < 4) : (botD d).getD j 0 ≠ 0 := by
  obtain ⟨h1, ⟨h2, _⟩, ⟨h3, _⟩, ⟨h4, _⟩⟩ := opD_no ho
  rcases (show j = 0 ∨ j = 1 ∨ j = 2 ∨ j = 3 by omega) with rfl | rfl | rfl | rfl <;> simp only [topD, botD, List.getD_cons_succ, List.getD_cons_zero] <;> assumption
theorem top_bd {d : Db} {j : Nat} (hb : bdD d = true) (hj : j < 4) : (-4000000000 ≤ (topD d).getD j 0 ∧ (topD d).getD j 0 ≤ 4000000000) ∧ (-4000000000 ≤ (botD d).getD j 0 ∧ (botD d).getD j 0 ≤ 4000000000) := by
  have hb := bdD_iff.1 hb
  rcases (show j = 0 ∨ j = 1 ∨ j = 2 ∨ j = 3 by omega) with rfl | rfl | rfl | rfl <;> simp only [topD, botD, List.getD_cons_succ, List.getD_cons_zero] <;> omega
theorem ret_kn {r : Int × Bool} {a : Int} {b : Bool} (h : r = (a, b)) : Ending.returned (.tuple #[.int .i64 a, .bool b]) = .returned (.tuple #[.int .i64 r.1, .bool r.2]) := by rw [h]

set_option maxRecDepth 100000 in
set_option maxHeartbeats 6400000 in
theorem iknD_any (d : Db) (w : World) (e : bdD d = true) : Calls Try.prog 121 #[.agg #[.int .i64 d.a, .int .i64 d.b, .int .i64 d.c, .int .i64 d.d, .int .i64 d.e, .int .i64 d.f, .int .i64 d.g, .int .i64 d.h]] w fun e w' => e = .returned (.tuple #[.int .i64 (knR d).1, .bool (knR d).2]) ∧ Bl w w' := by
  have hb := bdD_iff.1 e
  obtain ⟨hA, hB, hC, hD, hE, hF, hG, hH⟩ := hb
  have HBD := Lib.hid e
  clear e
  go_enter Try.func121, Try.ntmps121
  go_wp2_with fail
  have B1 : Bl w (((w.alloc (.cells #[.int .i64 d.a, .int .i64 d.b, .int .i64 d.c, .int .i64 d.d, .int .i64 d.e, .int .i64 d.f, .int .i64 d.g, .int .i64 d.h] 89)).alloc (.cells #[.int .i64 d.a, .int .i64 (d.a + d.b), .int .i64 (d.a + d.c), .int .i64 (d.a + d.b + d.c + d.d)] 2)).alloc (.cells #[.int .i64 d.e, .int .i64 (d.e + d.f), .int .i64 (d.e + d.g), .int .i64 (d.e + d.f + d.g + d.h)] 2)) := (bl_alloc (bl_alloc (bl_alloc (bl_refl _) _) _) _)
  have xS_1 : Bx (((w.alloc (.cells #[.int .i64 d.a, .int .i64 d.b, .int .i64 d.c, .int .i64 d.d, .int .i64 d.e, .int .i64 d.f, .int .i64 d.g, .int .i64 d.h] 89)).alloc (.cells #[.int .i64 d.a, .int .i64 (d.a + d.b), .int .i64 (d.a + d.c), .int .i64 (d.a + d.b + d.c + d.d)] 2)).alloc (.cells #[.int .i64 d.e, .int .i64 (d.e + d.f), .int .i64 (d.e + d.g), .int .i64 (d.e + d.f + d.g + d.h)] 2)) (w.heap.size) #[.int .i64 d.a, .int .i64 d.b, .int .i64 d.c, .int .i64 d.d, .int .i64 d.e, .int .i64 d.f, .int .i64 d.g, .int .i64 d.h] := (((Bx.new (b := w.heap.size) _ #[.int .i64 d.a, .int .i64 d.b, .int .i64 d.c, .int .i64 d.d, .int .i64 d.e, .int .i64 d.f, .int .i64 d.g, .int .i64 d.h] 89 (by first | rfl | simp)).alloc _).alloc _)
  have xT_1 : Bx (((w.alloc (.cells #[.int .i64 d.a, .int .i64 d.b, .int .i64 d.c, .int .i64 d.d, .int .i64 d.e, .int .i64 d.f, .int .i64 d.g, .int .i64 d.h] 89)).alloc (.cells #[.int .i64 d.a, .int .i64 (d.a + d.b), .int .i64 (d.a + d.c), .int .i64 (d.a + d.b + d.c + d.d)] 2)).alloc (.cells #[.int .i64 d.e, .int .i64 (d.e + d.f), .int .i64 (d.e + d.g), .int .i64 (d.e + d.f + d.g + d.h)] 2)) (w.heap.size + 1) #[.int .i64 d.a, .int .i64 (d.a + d.b), .int .i64 (d.a + d.c), .int .i64 (d.a + d.b + d.c + d.d)] := ((Bx.new (b := w.heap.size + 1) _ #[.int .i64 d.a, .int .i64 (d.a + d.b), .int .i64 (d.a + d.c), .int .i64 (d.a + d.b + d.c + d.d)] 2 (by first | rfl | simp)).alloc _)
  have xB_1 : Bx (((w.alloc (.cells #[.int .i64 d.a, .int .i64 d.b, .int .i64 d.c, .int .i64 d.d, .int .i64 d.e, .int .i64 d.f, .int .i64 d.g, .int .i64 d.h] 89)).alloc (.cells #[.int .i64 d.a, .int .i64 (d.a + d.b), .int .i64 (d.a + d.c), .int .i64 (d.a + d.b + d.c + d.d)] 2)).alloc (.cells #[.int .i64 d.e, .int .i64 (d.e + d.f), .int .i64 (d.e + d.g), .int .i64 (d.e + d.f + d.g + d.h)] 2)) (w.heap.size + 1 + 1) #[.int .i64 d.e, .int .i64 (d.e + d.f), .int .i64 (d.e + d.g), .int .i64 (d.e + d.f + d.g + d.h)] := (Bx.new (b := w.heap.size + 1 + 1) _ #[.int .i64 d.e, .int .i64 (d.e + d.f), .int .i64 (d.e + d.g), .int .i64 (d.e + d.f + d.g + d.h)] 2 (by first | rfl | simp))
  have zz1 : w.heap.size + 3 ≤ (((w.alloc (.cells #[.int .i64 d.a, .int .i64 d.b, .int .i64 d.c, .int .i64 d.d, .int .i64 d.e, .int .i64 d.f, .int .i64 d.g, .int .i64 d.h] 89)).alloc (.cells #[.int .i64 d.a, .int .i64 (d.a + d.b), .int .i64 (d.a + d.c), .int .i64 (d.a + d.b + d.c + d.d)] 2)).alloc (.cells #[.int .i64 d.e, .int .i64 (d.e + d.f), .int .i64 (d.e + d.g), .int .i64 (d.e + d.f + d.g + d.h)] 2)).heap.size := (by simp)
  generalize (((w.alloc (.cells #[.int .i64 d.a, .int .i64 d.b, .int .i64 d.c, .int .i64 d.d, .int .i64 d.e, .int .i64 d.f, .int .i64 d.g, .int .i64 d.h] 89)).alloc (.cells #[.int .i64 d.a, .int .i64 (d.a + d.b), .int .i64 (d.a + d.c), .int .i64 (d.a + d.b + d.c + d.d)] 2)).alloc (.cells #[.int .i64 d.e, .int .i64 (d.e + d.f), .int .i64 (d.e + d.g), .int .i64 (d.e + d.f + d.g + d.h)] 2)) = w1 at *
  obtain ⟨cS_1, fS_1, zS_1⟩ := xS_1.out
  obtain ⟨cT_1, fT_1, zT_1⟩ := xT_1.out
  obtain ⟨cB_1, fB_1, zB_1⟩ := xB_1.out
  clear cS_1 fS_1 zS_1 cT_1 fT_1 zT_1 cB_1 fB_1 zB_1 xS_1
  go_loopw [7, 60] (fun _ i wr => ∃ k : Nat, i = .int .i64 k ∧ k ≤ 4 ∧ Hid (((botD d).take k).any (pD d.e) = false) ∧ Hid (0 < k → d.e ≠ 0) ∧ Bx wr (w.heap.size + 1) #[.int .i64 d.a, .int .i64 (d.a + d.b), .int .i64 (d.a + d.c), .int .i64 (d.a + d.b + d.c + d.d)] ∧ Bx wr (w.heap.size + 1 + 1) #[.int .i64 d.e, .int .i64 (d.e + d.f), .int .i64 (d.e + d.g), .int .i64 (d.e + d.f + d.g + d.h)] ∧ Bl w wr) (fun _ i _ => 4 - (intOf i).toNat)
  case atStart => exact ⟨0, rfl, by omega, Lib.hid rfl, Lib.hid (fun h => absurd h (by omega)), xT_1, xB_1, B1⟩
  case round =>
    obtain ⟨k, rfl, hk, HK, HE, xT, xB, Br⟩ := hrel
    by_cases hk4 : k < 4
    · have hkI : (k : Int) < 4 := by omega
      have hc : wr.cell? ⟨w.heap.size + 1 + 1, k, none⟩ = some (.int .i64 ((botD d).getD k 0)) := by
        rw [xB.out.1 k]
        rcases (show k = 0 ∨ k = 1 ∨ k = 2 ∨ k = 3 by omega) with rfl | rfl | rfl | rfl <;> rfl
      have hc0 : wr.cell? ⟨w.heap.size + 1 + 1, 0, none⟩ = some (.int .i64 d.e) := by rw [xB.out.1 0]; rfl
      have HE0 := Lib.hid (show (botD d).getD k 0 ≠ 0 → d.e ≠ 0 by
        intro h0
        by_cases hk0 : k = 0
        · subst hk0; exact h0
        · exact HE.out (by omega))
      obtain ⟨x, hx⟩ : ∃ x, (botD d).getD k 0 = x := ⟨_, rfl⟩
      rw [hx] at hc HE0
      have HX := Lib.hid hx
      clear hx
      by_cases x0 : x = 0
      · have c0 : (x == 0) = true := by simp [x0]
        have HR := Lib.hid (kn_op (opd_at hk4 HX.out (by simp [pD, x0])))
        clear x0
        go_wp2_with fail
        go_quiet (fail)
        go_wp2
        go_ret2
        exact ⟨ret_kn HR.out, bl_dN Br _⟩
      · have c0 : (x == 0) = false := by rw [beq_eq_false_iff_ne]; exact x0
        have e0 : d.e ≠ 0 := HE0.out x0
        cases hb : (decide (x < 0) != decide (d.e < 0)) with
        | true =>
          have hs := sgn_of x0 e0 hb
          have hs2 : (sgn x != sgn d.e) = true := hs
          have HR := Lib.hid (kn_op (opd_at hk4 HX.out (by simp only [pD, hb]; simp)))
          clear hb x0 e0
          go_wp2_with fail
          go_quiet ((go_at_call 135; exact quiet_sym (sgn_any _ _)))
          go_wp2
          go_ret2
          exact ⟨ret_kn HR.out, bl_dN Br _⟩
        | false =>
          have hs := sgn_of x0 e0 hb
          have hs2 : (sgn x != sgn d.e) = false := hs
          have HK2 := Lib.hid (opd_next hk4 HX.out (by simp only [pD, hb]; simp [x0]) HK.out)
          have HE2 := Lib.hid (show 0 < k + 1 → d.e ≠ 0 from fun _ => e0)
          clear hb x0 e0
          go_wp2_with fail
          go_quiet ((go_at_call 135; exact quiet_sym (sgn_any _ _)))
          go_wp2
          go_roundw
          case rel => exact ⟨k + 1, by go_num, by omega, HK2, HE2, bx_dN xT _, bx_dN xB _, bl_dN Br _⟩
          case measure => simp only [intOf, Int.toNat_natCast]; omega
    · have hkI : ¬ (k : Int) < 4 := by omega
      have ho : opD d = false := by
        rw [opD_eq, ← HK.out, List.take_of_length_le (show (botD d).length ≤ k by simp only [botD, List.length_cons, List.length_nil]; omega)]
      have HO := Lib.hid ho
      have e0 := (opD_no ho).1
      clear ho
      have hc0 : wr.cell? ⟨w.heap.size + 1 + 1, 0, none⟩ = some (.int .i64 d.e) := by rw [xB.out.1 0]; rfl
      have hd0 : wr.cell? ⟨w.heap.size + 1, 0, none⟩ = some (.int .i64 d.a) := by rw [xT.out.1 0]; rfl
      go_wp2_with fail
      go_quiet ((go_at_call 125; exact quiet_sym (fdv_any _ _ _ (by omega) (by omega) (by omega))))
      go_wp2_with fail
      clear hc0 hd0
      have xT' := bx_dN xT nq
      have xB' := bx_dN xB nq
      have Br' := bl_dN Br nq
      generalize wr.drewN nq = wr at *
      go_loopw [9, 85] (fun _ i wr => ∃ k : Nat, i = .int .i64 k ∧ k ≤ 4 ∧ Hid (∀ j, j < k → fdv ((topD d).getD j 0) ((botD d).getD j 0) = fdv d.a d.e) ∧ Bx wr (w.heap.size + 1) #[.int .i64 d.a, .int .i64 (d.a + d.b), .int .i64 (d.a + d.c), .int .i64 (d.a + d.b + d.c + d.d)] ∧ Bx wr (w.heap.size + 1 + 1) #[.int .i64 d.e, .int .i64 (d.e + d.f), .int .i64 (d.e + d.g), .int .i64 (d.e + d.f + d.g + d.h)] ∧ Bl w wr) (fun _ i _ => 4 - (intOf i).toNat)
      case atStart => exact ⟨0, rfl, by omega, Lib.hid (fun j hj => absurd hj (by omega)), xT', xB', Br'⟩
      case round =>
        obtain ⟨k, rfl, hk, HK, xT, xB, Br⟩ := hrel
        by_cases hk4 : k < 4
        · have hkI : (k : Int) < 4 := by omega
          have hc : wr.cell? ⟨w.heap.size + 1 + 1, k, none⟩ = some (.int .i64 ((botD d).getD k 0)) := by
            rw [xB.out.1 k]
            rcases (show k = 0 ∨ k = 1 ∨ k = 2 ∨ k = 3 by omega) with rfl | rfl | rfl | rfl <;> rfl
          have hd : wr.cell? ⟨w.heap.size + 1, k, none⟩ = some (.int .i64 ((topD d).getD k 0)) := by
            rw [xT.out.1 k]
            rcases (show k = 0 ∨ k = 1 ∨ k = 2 ∨ k = 3 by omega) with rfl | rfl | rfl | rfl <;> rfl
          have hy0 := bot_ne HO.out hk4
          have hbd := top_bd HBD.out hk4
          have HN := Lib.hid (kn_not (j := k) HO.out rfl hk4)
          obtain ⟨y, hy⟩ : ∃ x, (botD d).getD k 0 = x := ⟨_, rfl⟩
          obtain ⟨x, hx⟩ : ∃ x, (topD d).getD k 0 = x := ⟨_, rfl⟩
          have HXY := Lib.hid (show fdv ((topD d).getD k 0) ((botD d).getD k 0) = fdv x y by rw [hx, hy])
          rw [hy] at hc hy0 hbd HN
          rw [hx] at hd hbd HN
          obtain ⟨hx1, hy1⟩ := hbd
          clear hx hy
          cases hs : (fdv x y != fdv d.a d.e) with
          | true =>
            have HR := Lib.hid (HN.out (bne_iff_ne.1 hs))
            go_wp2_with fail
            go_quiet ((go_at_call 125; exact quiet_sym (fdv_any _ _ _ (by omega) (by omega) (by omega))))
            go_wp2
            go_ret2
            exact ⟨ret_kn HR.out, bl_dN Br _⟩
          | false =>
            have HK2 := Lib.hid (show ∀ j, j < k + 1 → fdv ((topD d).getD j 0) ((botD d).getD j 0) = fdv d.a d.e by
              intro j hj
              by_cases hjk : j = k
              · subst hjk; rw [HXY.out]; simpa using hs
              · exact HK.out j (by omega))
            go_wp2_with fail
            go_quiet ((go_at_call 125; exact quiet_sym (fdv_any _ _ _ (by omega) (by omega) (by omega))))
            go_wp2
            go_roundw
            case rel => exact ⟨k + 1, by go_num, by omega, HK2, bx_dN xT _, bx_dN xB _, bl_dN Br _⟩
            case measure => simp only [intOf, Int.toNat_natCast]; omega
        · have hkI : ¬ (k : Int) < 4 := by omega
          have HR := Lib.hid (kn_all HO.out rfl (fun j hj => HK.out j (by omega)))
          go_wp2
          go_ret2
          exact ⟨ret_kn HR.out, Br⟩

end Go.Proofs.Ytgkelemfbmmgnaa

