/- Some of the texts of this claim, joined in one file: Db6, Db4. -/
import Derived.Test.YtgkelemfbmmgnaaMTp20
import Derived.Test.YtgkelemfbmmgnaaMTp12
/- Functions of two numbers: the program emits all that is known. Each theorem names its conditions. -/
namespace Go.Proofs.Ytgkelemfbmmgnaa
open Go.RowKit
set_option linter.unusedVariables false
set_option linter.unusedSimpArgs false


theorem iknD_at {d : Db} {a : Int} {b : Bool} (h : knR d = (a, b)) (w : World) (e : bdD d = true) : Calls Try.prog 121 #[.agg #[.int .i64 d.a, .int .i64 d.b, .int .i64 d.c, .int .i64 d.d, .int .i64 d.e, .int .i64 d.f, .int .i64 d.g, .int .i64 d.h]] w fun e w' => e = .returned (.tuple #[.int .i64 a, .bool b]) ∧ Bl w w' :=
  (iknD_any d w e).mono fun _ _ q => ⟨by rw [q.1, h], q.2⟩
theorem iend_eq {d : Db} {b : Bool} (h : enD d = b) (w : World) : Calls Try.prog 120 #[.agg #[.int .i64 d.a, .int .i64 d.b, .int .i64 d.c, .int .i64 d.d, .int .i64 d.e, .int .i64 d.f, .int .i64 d.g, .int .i64 d.h]] w fun e w' => e = .returned (.bool b) ∧ Bl w w' := h ▸ iend_D d w
theorem knr_some {d : Db} {q : Int} (h : knD d = some q) : knR d = (q, true) := by unfold knR; rw [h]
theorem knr_none {d : Db} (h : knD d = none) : knR d = (0, false) := by unfold knR; rw [h]
theorem upv_set {w w' : World} {p : Nat} {v : Value} (h : Upv w w' p v) (o : Nat) (x : Value) : Upv w (w'.setCell ⟨p, o, none⟩ x) p v := upv_upd h (upd_set (upd_refl _ _) _ _)
theorem upv_far {w w' : World} {p : Nat} {v : Value} (h : Upv w w' p v) {q : Nat} (hq : w.heap.size ≤ q) (o : Nat) (x : Value) : Upv w (w'.setCell ⟨q, o, none⟩ x) p v :=
  ⟨h.os, h.tape, h.output, by simpa using h.size, fun k hk hne => (Below.heap_setCell w' ⟨q, o, none⟩ x k (by simp; omega)).trans (h.block k hk hne)⟩
theorem upv_from {w w1 w' : World} {p : Nat} {v : Value} (hb : Bl w w1) (h : Upv w1 w' p v) : Upv w w' p v := upv_upv (upv_bl (upv_refl w p v) hb) h (fun k hk => .inl hk)
theorem row_from {w w1 : World} {v v1 : Value} (hb : Bl w w1) (h : RowOf w1 v v1) : RowOf w v v1 := fun k hk => (h k hk).imp id fun q => Nat.le_trans hb.size q

/-- What the program's emission leaves. -/
def EmA (w : World) (p B : Nat) (ov : Value) (R : Option (Db × List Int × Bool)) (e : Ending) (w' : World) : Prop :=
  Upv w w' p ov ∧ match R with
    | none => ∃ (d1 : Db) (v1 : Value) (b : Bool), e = .returned (.tuple #[.agg #[.int .i64 d1.a, .int .i64 d1.b, .int .i64 d1.c, .int .i64 d1.d, .int .i64 d1.e, .int .i64 d1.f, .int .i64 d1.g, .int .i64 d1.h], v1, .bool b, .bool false])
    | some (d', out', b) => ∃ v1 : Value, e = .returned (.tuple #[.agg #[.int .i64 d'.a, .int .i64 d'.b, .int .i64 d'.c, .int .i64 d'.d, .int .i64 d'.e, .int .i64 d'.f, .int .i64 d'.g, .int .i64 d'.h], v1, .bool b, .bool true]) ∧ Own w' B v1 out' ∧ RowOf w ov v1
theorem ema_yes {w w' : World} {p B : Nat} {ov v1 : Value} {d1 : Db} {o1 : List Int} {b : Bool} {R : Option (Db × List Int × Bool)} (hR : R = some (d1, o1, b)) (hu : Upv w w' p ov) (ho : Own w' B v1 o1) (hr : RowOf w ov v1) : EmA w p B ov R (.returned (.tuple #[.agg #[.int .i64 d1.a, .int .i64 d1.b, .int .i64 d1.c, .int .i64 d1.d, .int .i64 d1.e, .int .i64 d1.f, .int .i64 d1.g, .int .i64 d1.h], v1, .bool b, .bool true])) w' := by
  subst hR
  exact ⟨hu, v1, rfl, ho, hr⟩
theorem ema_no {w w' : World} {p B : Nat} {ov v1 : Value} {d1 : Db} {b : Bool} {R : Option (Db × List Int × Bool)} (hR : R = none) (hu : Upv w w' p ov) : EmA w p B ov R (.returned (.tuple #[.agg #[.int .i64 d1.a, .int .i64 d1.b, .int .i64 d1.c, .int .i64 d1.d, .int .i64 d1.e, .int .i64 d1.f, .int .i64 d1.g, .int .i64 d1.h], v1, .bool b, .bool false])) w' := by
  subst hR
  exact ⟨hu, d1, v1, b, rfl⟩

set_option maxRecDepth 100000 in
set_option maxHeartbeats 6400000 in
theorem iemA_any {w : World} {B : Nat} {d : Db} {ov : Value} {out : List Int} (ho : Own w B ov out) (hB : B ≤ w.heap.size) (hb : bdD d = true) (hl : out.length ≤ 60) :
    Calls Try.prog 99 #[.agg #[.int .i64 d.a, .int .i64 d.b, .int .i64 d.c, .int .i64 d.d, .int .i64 d.e, .int .i64 d.f, .int .i64 d.g, .int .i64 d.h], ov] w (EmA w w.heap.size B ov (emitDF d out)) := by
  obtain ⟨R, hR⟩ : ∃ R, emitDF d out = R := ⟨_, rfl⟩
  rw [hR]
  have HR := Lib.hid hR
  have HB := Lib.hid hb
  have HOV := Lib.hid (show ov.ownBlock ≠ some w.heap.size ∧ ov.ownBlock ≠ some (w.heap.size + 1) from ⟨fun e => by have := (ho.lt _ e).2; omega, fun e => by have := (ho.lt _ e).2; omega⟩)
  have HO0 := Lib.hid ho
  clear hR hb ho
  go_enter Try.func99, Try.ntmps99
  go_wp2_with fail
  have B1 : Bl w ((w.alloc (.cells #[.int .i64 d.a, .int .i64 d.b, .int .i64 d.c, .int .i64 d.d, .int .i64 d.e, .int .i64 d.f, .int .i64 d.g, .int .i64 d.h] 89)).alloc (.cells #[.int .i64 0, .int .i64 0, .int .i64 0, .int .i64 0, .int .i64 0, .int .i64 0, .int .i64 0, .int .i64 0] 89)) := (bl_alloc (bl_alloc (bl_refl _) _) _)
  have xS_1 : Bx ((w.alloc (.cells #[.int .i64 d.a, .int .i64 d.b, .int .i64 d.c, .int .i64 d.d, .int .i64 d.e, .int .i64 d.f, .int .i64 d.g, .int .i64 d.h] 89)).alloc (.cells #[.int .i64 0, .int .i64 0, .int .i64 0, .int .i64 0, .int .i64 0, .int .i64 0, .int .i64 0, .int .i64 0] 89)) (w.heap.size) #[.int .i64 d.a, .int .i64 d.b, .int .i64 d.c, .int .i64 d.d, .int .i64 d.e, .int .i64 d.f, .int .i64 d.g, .int .i64 d.h] := ((Bx.new (b := w.heap.size) _ #[.int .i64 d.a, .int .i64 d.b, .int .i64 d.c, .int .i64 d.d, .int .i64 d.e, .int .i64 d.f, .int .i64 d.g, .int .i64 d.h] 89 (by first | rfl | simp)).alloc _)
  have xR_1 : Bx ((w.alloc (.cells #[.int .i64 d.a, .int .i64 d.b, .int .i64 d.c, .int .i64 d.d, .int .i64 d.e, .int .i64 d.f, .int .i64 d.g, .int .i64 d.h] 89)).alloc (.cells #[.int .i64 0, .int .i64 0, .int .i64 0, .int .i64 0, .int .i64 0, .int .i64 0, .int .i64 0, .int .i64 0] 89)) (w.heap.size + 1) #[.int .i64 0, .int .i64 0, .int .i64 0, .int .i64 0, .int .i64 0, .int .i64 0, .int .i64 0, .int .i64 0] := (Bx.new (b := w.heap.size + 1) _ #[.int .i64 0, .int .i64 0, .int .i64 0, .int .i64 0, .int .i64 0, .int .i64 0, .int .i64 0, .int .i64 0] 89 (by first | rfl | simp))
  have zz1 : w.heap.size + 2 ≤ ((w.alloc (.cells #[.int .i64 d.a, .int .i64 d.b, .int .i64 d.c, .int .i64 d.d, .int .i64 d.e, .int .i64 d.f, .int .i64 d.g, .int .i64 d.h] 89)).alloc (.cells #[.int .i64 0, .int .i64 0, .int .i64 0, .int .i64 0, .int .i64 0, .int .i64 0, .int .i64 0, .int .i64 0] 89)).heap.size := (by simp)
  generalize ((w.alloc (.cells #[.int .i64 d.a, .int .i64 d.b, .int .i64 d.c, .int .i64 d.d, .int .i64 d.e, .int .i64 d.f, .int .i64 d.g, .int .i64 d.h] 89)).alloc (.cells #[.int .i64 0, .int .i64 0, .int .i64 0, .int .i64 0, .int .i64 0, .int .i64 0, .int .i64 0, .int .i64 0] 89)) = w1 at *
  obtain ⟨cS_1, fS_1, zS_1⟩ := xS_1.out
  obtain ⟨cR_1, fR_1, zR_1⟩ := xR_1.out
  have hsz0 : w.heap.size + 2 ≤ w1.heap.size := zz1
  have HO1 : Hid (Own w1 B ov out) := Lib.hid (HO0.out.below B1)
  have HN0 := Lib.hid B1
  clear cS_1 fS_1 zS_1 cR_1 fR_1 zR_1
  go_loopg [1, 8, 9] (61 - out.length) (fun n s1 _ _ wr => ∃ (d1 : Db) (o1 : List Int) (v1 : Value), s1 = v1 ∧ Bx wr (w.heap.size) #[.int .i64 d1.a, .int .i64 d1.b, .int .i64 d1.c, .int .i64 d1.d, .int .i64 d1.e, .int .i64 d1.f, .int .i64 d1.g, .int .i64 d1.h] ∧ Bx wr (w.heap.size + 1) #[.int .i64 0, .int .i64 0, .int .i64 0, .int .i64 0, .int .i64 0, .int .i64 0, .int .i64 0, .int .i64 0] ∧ Own wr B v1 o1 ∧ Hid (emitDF d1 o1 = R) ∧ Hid (bdD d1 = true) ∧ o1.length ≤ 60 ∧ n + o1.length = 61 ∧ Hid (RowOf w1 ov v1) ∧ Upv w1 wr (w.heap.size) ov)
  case atStart => exact ⟨d, out, ov, rfl, xS_1, xR_1, HO1.out, HR, HB, hl, by omega, Lib.hid (fun k h => .inl h), upv_refl _ _ _⟩
  case round =>
    obtain ⟨d1, o1, v1, rfl, x1, r1, h1, HE, HBB, hl1, hn, HRW, hu⟩ := hrel
    have HO := Lib.hid h1
    have HN := Lib.hid hn
    obtain ⟨va, vc, rfl, _⟩ := h1.form
    clear h1 hn
    have hsz1 := hu.size
    have HNS := Lib.hid (own_ne HRW.out HOV.out.1 (by omega))
    have HNR := Lib.hid (own_ne HRW.out HOV.out.2 (by omega))
    obtain ⟨c1, f1, _⟩ := x1.out
    cases hq : knD d1 with
    | none =>
      have HK := Lib.hid (knr_none hq)
      have HQ := Lib.hid (emd_none hl1 hq)
      clear hq
      go_wp2_with fail
      refine (iknD_at HK.out _ HBB.out).mono ?_
      rintro e w2 ⟨rfl, hb2⟩
      have x2 := x1.below hb2
      have r2 := r1.below hb2
      have HO2 := Lib.hid (HO.out.below hb2)
      have hu2 := upv_bl hu hb2
      have hsz2 := hb2.size
      clear c1 f1
      obtain ⟨c2, f2, z2⟩ := x2.out
      obtain ⟨cr2, fr2, zr2⟩ := r2.out
      go_wp2
      refine bodyPost_ret (v := .tuple #[.agg #[.int .i64 (d1).a, .int .i64 (d1).b, .int .i64 (d1).c, .int .i64 (d1).d, .int .i64 (d1).e, .int .i64 (d1).f, .int .i64 (d1).g, .int .i64 (d1).h], .slice va o1.length vc, .bool false, .bool true]) (by simp only [results, Try.results99]; go_simp) rfl ?_
      exact ema_yes (d1 := d1) (o1 := o1) (by rw [← HE.out, HQ.out]) (upv_far (upv_far (upv_far (upv_far (upv_far (upv_far (upv_far (upv_far (upv_from HN0.out hu2) (by omega) 0 (.int .i64 (d1).a)) (by omega) 1 (.int .i64 (d1).b)) (by omega) 2 (.int .i64 (d1).c)) (by omega) 3 (.int .i64 (d1).d)) (by omega) 4 (.int .i64 (d1).e)) (by omega) 5 (.int .i64 (d1).f)) (by omega) 6 (.int .i64 (d1).g)) (by omega) 7 (.int .i64 (d1).h)) (Own.upd HO2.out (upd_set (upd_set (upd_set (upd_set (upd_set (upd_set (upd_set (upd_set (upd_refl _ (w.heap.size + 1)) 0 (.int .i64 (d1).a)) 1 (.int .i64 (d1).b)) 2 (.int .i64 (d1).c)) 3 (.int .i64 (d1).d)) 4 (.int .i64 (d1).e)) 5 (.int .i64 (d1).f)) 6 (.int .i64 (d1).g)) 7 (.int .i64 (d1).h)) HNR.out) (row_from HN0.out HRW.out)
    | some q =>
      have hqb := knD_bd HBB.out hq
      have HK := Lib.hid (knr_some hq)
      have HQ := Lib.hid hq
      clear hq
      go_wp2_with fail
      refine (iknD_at HK.out _ HBB.out).mono ?_
      rintro e w2 ⟨rfl, hb2⟩
      have x2 := x1.below hb2
      have r2 := r1.below hb2
      have HO2 := Lib.hid (HO.out.below hb2)
      have hu2 := upv_bl hu hb2
      have hsz2 := hb2.size
      clear c1 f1
      obtain ⟨c2, f2, z2⟩ := x2.out
      obtain ⟨cr2, fr2, zr2⟩ := r2.out
      by_cases h60 : o1.length = 60
      · have c60 : ((o1.length : Int) == 60) = true := by simp; omega
        have HE2 := Lib.hid (emd_full h60 HQ.out)
        clear h60
        go_wp2
        refine bodyPost_ret (v := .tuple #[.agg #[.int .i64 (d1).a, .int .i64 (d1).b, .int .i64 (d1).c, .int .i64 (d1).d, .int .i64 (d1).e, .int .i64 (d1).f, .int .i64 (d1).g, .int .i64 (d1).h], .slice va o1.length vc, .bool false, .bool false]) (by simp only [results, Try.results99]; go_simp) rfl ?_
        exact ema_no (d1 := d1) (by rw [← HE.out, HE2.out]) (upv_far (upv_far (upv_far (upv_far (upv_far (upv_far (upv_far (upv_far (upv_from HN0.out hu2) (by omega) 0 (.int .i64 (d1).a)) (by omega) 1 (.int .i64 (d1).b)) (by omega) 2 (.int .i64 (d1).c)) (by omega) 3 (.int .i64 (d1).d)) (by omega) 4 (.int .i64 (d1).e)) (by omega) 5 (.int .i64 (d1).f)) (by omega) 6 (.int .i64 (d1).g)) (by omega) 7 (.int .i64 (d1).h))
      · have c60 : ((o1.length : Int) == 60) = false := by rw [beq_eq_false_iff_ne]; omega
        have hl60 : o1.length < 60 := by omega
        clear h60
        go_wp2_with (at_builtin; refine wpList_append_one rfl _ _ rfl B _ o1 (by rfl) HO2.out q (by unfold R64; omega) (by rfl) (by omega) (by omega) ?_; intro v' wn ho hg hloc; obtain ⟨a1, n1, rfl, _⟩ := ho.form; have xN := x2.grownApartF hg (fun q => HNS.out q); have rN := r2.grownApartF hg (fun q => HNR.out q); clear c2 f2 cr2 fr2; obtain ⟨cN, fN, zN⟩ := xN.out)
        have hlen : (o1 ++ [q]).length = o1.length + 1 := by simp
        have huN := upv_row hu2 hg HRW.out
        rw [hlen] at ho hloc
        clear hlen
        have hRW3 : RowOf w1 ov (.slice a1 (o1.length + 1) n1) := fun k hk => by
          rcases hloc with e | e
          · exact HRW.out k (e ▸ hk)
          · rw [e] at hk; injection hk with hk; right; omega
        have HRW3 := Lib.hid hRW3
        have HO3 := Lib.hid ho
        have hgs := hg.size
        have HNS3 := Lib.hid (own_ne HRW3.out HOV.out.1 (by omega))
        have HNR3 := Lib.hid (own_ne HRW3.out HOV.out.2 (by omega))
        clear hg hloc ho hRW3
        go_wp2_with fail
        refine (iemD_any d1 q _ HBB.out hqb).mono ?_
        rintro e w4 ⟨rfl, hb4⟩
        have x4 := xN.below hb4
        have r4 := rN.below hb4
        have HO4 := Lib.hid (HO3.out.below hb4)
        have u4 := upv_bl huN hb4
        have hsz4 := hb4.size
        clear cN fN zN
        obtain ⟨c4, f4, z4⟩ := x4.out
        cases hb6 : bdD (emD d1 q) with
        | false =>
          have E6 := Lib.hid hb6
          have HE2 := Lib.hid (emd_big hl60 HQ.out hb6)
          clear hb6
          go_wp2_with fail
          refine (isbD_eq E6.out _).mono ?_
          rintro e w5 ⟨rfl, hb5⟩
          have uW := (upd_set (upd_set (upd_set (upd_set (upd_set (upd_set (upd_set (upd_set (upd_refl w4 w.heap.size) 0 (.int .i64 (emD d1 q).a)) 1 (.int .i64 (emD d1 q).b)) 2 (.int .i64 (emD d1 q).c)) 3 (.int .i64 (emD d1 q).d)) 4 (.int .i64 (emD d1 q).e)) 5 (.int .i64 (emD d1 q).f)) 6 (.int .i64 (emD d1 q).g)) 7 (.int .i64 (emD d1 q).h))
          have x5 := (((((((((x4.set 0 (.int .i64 (emD d1 q).a)).set 1 (.int .i64 (emD d1 q).b)).set 2 (.int .i64 (emD d1 q).c)).set 3 (.int .i64 (emD d1 q).d)).set 4 (.int .i64 (emD d1 q).e)).set 5 (.int .i64 (emD d1 q).f)).set 6 (.int .i64 (emD d1 q).g)).set 7 (.int .i64 (emD d1 q).h))).below hb5
          have r5 := r4.upd uW (by omega) |>.below hb5
          have HO5 := Lib.hid ((HO4.out.upd uW HNS3.out).below hb5)
          have u5 := upv_bl (upv_upd u4 uW) hb5
          have hsz5 := hb5.size
          have hszW := uW.size
          clear c4 f4 z4
          obtain ⟨c5, f5, z5⟩ := x5.out
          obtain ⟨cr5, fr5, zr5⟩ := r5.out
          go_wp2
          refine bodyPost_ret (v := .tuple #[.agg #[.int .i64 (emD d1 q).a, .int .i64 (emD d1 q).b, .int .i64 (emD d1 q).c, .int .i64 (emD d1 q).d, .int .i64 (emD d1 q).e, .int .i64 (emD d1 q).f, .int .i64 (emD d1 q).g, .int .i64 (emD d1 q).h], .slice a1 (o1.length + 1) n1, .bool false, .bool false]) (by simp only [results, Try.results99]; go_simp) rfl ?_
          exact ema_no (d1 := emD d1 q) (by rw [← HE.out, HE2.out]) (upv_far (upv_far (upv_far (upv_far (upv_far (upv_far (upv_far (upv_far (upv_from HN0.out u5) (by omega) 0 (.int .i64 (emD d1 q).a)) (by omega) 1 (.int .i64 (emD d1 q).b)) (by omega) 2 (.int .i64 (emD d1 q).c)) (by omega) 3 (.int .i64 (emD d1 q).d)) (by omega) 4 (.int .i64 (emD d1 q).e)) (by omega) 5 (.int .i64 (emD d1 q).f)) (by omega) 6 (.int .i64 (emD d1 q).g)) (by omega) 7 (.int .i64 (emD d1 q).h))
        | true =>
          have E6 := Lib.hid hb6
          clear hb6
          cases he : enD (emD d1 q) with
          | true =>
            have E7 := Lib.hid he
            have HE2 := Lib.hid (emd_done hl60 HQ.out E6.out he)
            clear he
            go_wp2_with fail
            refine (isbD_eq E6.out _).mono ?_
            rintro e w5 ⟨rfl, hb5⟩
            have uW := (upd_set (upd_set (upd_set (upd_set (upd_set (upd_set (upd_set (upd_set (upd_refl w4 w.heap.size) 0 (.int .i64 (emD d1 q).a)) 1 (.int .i64 (emD d1 q).b)) 2 (.int .i64 (emD d1 q).c)) 3 (.int .i64 (emD d1 q).d)) 4 (.int .i64 (emD d1 q).e)) 5 (.int .i64 (emD d1 q).f)) 6 (.int .i64 (emD d1 q).g)) 7 (.int .i64 (emD d1 q).h))
            have x5 := (((((((((x4.set 0 (.int .i64 (emD d1 q).a)).set 1 (.int .i64 (emD d1 q).b)).set 2 (.int .i64 (emD d1 q).c)).set 3 (.int .i64 (emD d1 q).d)).set 4 (.int .i64 (emD d1 q).e)).set 5 (.int .i64 (emD d1 q).f)).set 6 (.int .i64 (emD d1 q).g)).set 7 (.int .i64 (emD d1 q).h))).below hb5
            have r5 := r4.upd uW (by omega) |>.below hb5
            have HO5 := Lib.hid ((HO4.out.upd uW HNS3.out).below hb5)
            have u5 := upv_bl (upv_upd u4 uW) hb5
            have hsz5 := hb5.size
            have hszW := uW.size
            clear c4 f4 z4
            obtain ⟨c5, f5, z5⟩ := x5.out
            obtain ⟨cr5, fr5, zr5⟩ := r5.out
            go_wp2_with fail
            refine (iend_eq E7.out _).mono ?_
            rintro e w6 ⟨rfl, hb6⟩
            have x6 := x5.below hb6
            have r6 := r5.below hb6
            have HO6 := Lib.hid (HO5.out.below hb6)
            have u6 := upv_bl u5 hb6
            have hsz6 := hb6.size
            clear c5 f5 z5 cr5 fr5 zr5
            obtain ⟨c6, f6, z6⟩ := x6.out
            obtain ⟨cr6, fr6, zr6⟩ := r6.out
            go_wp2
            refine bodyPost_ret (v := .tuple #[.agg #[.int .i64 (emD d1 q).a, .int .i64 (emD d1 q).b, .int .i64 (emD d1 q).c, .int .i64 (emD d1 q).d, .int .i64 (emD d1 q).e, .int .i64 (emD d1 q).f, .int .i64 (emD d1 q).g, .int .i64 (emD d1 q).h], .slice a1 (o1.length + 1) n1, .bool true, .bool true]) (by simp only [results, Try.results99]; go_simp) rfl ?_
            exact ema_yes (d1 := emD d1 q) (o1 := o1 ++ [q]) (by rw [← HE.out, HE2.out]) (upv_far (upv_far (upv_far (upv_far (upv_far (upv_far (upv_far (upv_far (upv_from HN0.out u6) (by omega) 0 (.int .i64 (emD d1 q).a)) (by omega) 1 (.int .i64 (emD d1 q).b)) (by omega) 2 (.int .i64 (emD d1 q).c)) (by omega) 3 (.int .i64 (emD d1 q).d)) (by omega) 4 (.int .i64 (emD d1 q).e)) (by omega) 5 (.int .i64 (emD d1 q).f)) (by omega) 6 (.int .i64 (emD d1 q).g)) (by omega) 7 (.int .i64 (emD d1 q).h)) (Own.upd HO6.out (upd_set (upd_set (upd_set (upd_set (upd_set (upd_set (upd_set (upd_set (upd_refl _ (w.heap.size + 1)) 0 (.int .i64 (emD d1 q).a)) 1 (.int .i64 (emD d1 q).b)) 2 (.int .i64 (emD d1 q).c)) 3 (.int .i64 (emD d1 q).d)) 4 (.int .i64 (emD d1 q).e)) 5 (.int .i64 (emD d1 q).f)) 6 (.int .i64 (emD d1 q).g)) 7 (.int .i64 (emD d1 q).h)) HNR3.out) (row_from HN0.out HRW3.out)
          | false =>
            have E7 := Lib.hid he
            have HE2 := Lib.hid (show emitDF (emD d1 q) (o1 ++ [q]) = R by rw [← emd_step hl60 HQ.out E6.out he]; exact HE.out)
            clear he
            go_wp2_with fail
            refine (isbD_eq E6.out _).mono ?_
            rintro e w5 ⟨rfl, hb5⟩
            have uW := (upd_set (upd_set (upd_set (upd_set (upd_set (upd_set (upd_set (upd_set (upd_refl w4 w.heap.size) 0 (.int .i64 (emD d1 q).a)) 1 (.int .i64 (emD d1 q).b)) 2 (.int .i64 (emD d1 q).c)) 3 (.int .i64 (emD d1 q).d)) 4 (.int .i64 (emD d1 q).e)) 5 (.int .i64 (emD d1 q).f)) 6 (.int .i64 (emD d1 q).g)) 7 (.int .i64 (emD d1 q).h))
            have x5 := (((((((((x4.set 0 (.int .i64 (emD d1 q).a)).set 1 (.int .i64 (emD d1 q).b)).set 2 (.int .i64 (emD d1 q).c)).set 3 (.int .i64 (emD d1 q).d)).set 4 (.int .i64 (emD d1 q).e)).set 5 (.int .i64 (emD d1 q).f)).set 6 (.int .i64 (emD d1 q).g)).set 7 (.int .i64 (emD d1 q).h))).below hb5
            have r5 := r4.upd uW (by omega) |>.below hb5
            have HO5 := Lib.hid ((HO4.out.upd uW HNS3.out).below hb5)
            have u5 := upv_bl (upv_upd u4 uW) hb5
            have hsz5 := hb5.size
            have hszW := uW.size
            clear c4 f4 z4
            obtain ⟨c5, f5, z5⟩ := x5.out
            obtain ⟨cr5, fr5, zr5⟩ := r5.out
            go_wp2_with fail
            refine (iend_eq E7.out _).mono ?_
            rintro e w6 ⟨rfl, hb6⟩
            have x6 := x5.below hb6
            have r6 := r5.below hb6
            have HO6 := Lib.hid (HO5.out.below hb6)
            have u6 := upv_bl u5 hb6
            clear c5 f5 z5 cr5 fr5 zr5
            go_wp2
            go_roundg (gk - 1)
            case measure => have := HN.out; omega
            case rel => exact ⟨emD d1 q, o1 ++ [q], _, rfl, x6, r6, HO6.out, HE2, E6, by simp; omega, by have := HN.out; simp; omega, HRW3, u6⟩

end Go.Proofs.Ytgkelemfbmmgnaa

/- Functions of two numbers: the reference emits one term. Each theorem names its conditions. -/
namespace Go.Proofs.Ytgkelemfbmmgnaa
open Go.RowKit
set_option linter.unusedVariables false
set_option linter.unusedSimpArgs false


end Go.Proofs.Ytgkelemfbmmgnaa

