/- Functions of two numbers: the reference feeds a term. Each theorem names its conditions. -/
import Derived.Test.YtbncinbngmfamaaDb7
import Derived.Test.YtbncinbngmfamaaDb8
namespace Go.Proofs.Ytbncinbngmfamaa
open Go.RowKit
set_option linter.unusedVariables false
set_option linter.unusedSimpArgs false


theorem semT_bad {w : World} {p : Nat} {d : Db} {v : Value} {b : Bool} (hx : Bx w p #[.int .i64 d.a, .int .i64 d.b, .int .i64 d.c, .int .i64 d.d, .int .i64 d.e, .int .i64 d.f, .int .i64 d.g, .int .i64 d.h, v, .bool b, .int .i64 5]) : Calls Try.prog 152 #[.pointer (some ⟨p, 0, none⟩)] w fun e w' => e = .returned (.tuple #[]) ∧ w = w' := by
  obtain ⟨c0, f0, _⟩ := hx.out
  go_enter Try.func152, Try.ntmps152
  go_wp2_with fail
  go_loopw [2, 3, 4, 5] (fun _ _ _ _ wr => w = wr) (fun _ _ _ _ _ => 0)
  case atStart => rfl
  case round =>
    subst hrel
    go_wp2
    go_end0
    exact ⟨rfl, rfl⟩
theorem sl_cell {w w' : World} {b o n c k : Nat} {xs : List Int} (h : Sl w (.slice (some ⟨b, o, none⟩) n c) xs) (hb : Bl w w') (hk : k < xs.length) : ∃ t, xs[k]? = some t ∧ w'.cell? ⟨b, o + k, none⟩ = some (.int .i64 t) := by
  obtain ⟨b', o', e, t, ht, hc, _⟩ := h.cellAt' hb hk
  injection e with e; injection e with e1 e2; subst e1 e2
  exact ⟨t, ht, hc⟩
theorem sl_dropA {w : World} {b o n c k : Nat} {xs : List Int} (h : Sl w (.slice (some ⟨b, o, none⟩) n c) xs) (hk : k ≤ xs.length) : Sl w (.slice (some ⟨b, o + k, none⟩) (xs.length - k) (c - k)) (xs.drop k) := by
  obtain ⟨a', cap, e, h1, h2, h3, h4, h5⟩ := h
  simp only [Value.slice.injEq] at e
  obtain ⟨rfl, rfl, rfl⟩ := e
  refine ⟨some ⟨b, o + k, none⟩, c - k, by simp, by simp; omega, by unfold maxLen at *; omega, fun x hx => h3 x (List.mem_of_mem_drop hx), by simp, ?_⟩
  rcases h5 with h5 | ⟨b', off, e, hc⟩
  · subst h5; exact .inl (by simp)
  · simp only [Option.some.injEq, Addr.mk.injEq] at e
    obtain ⟨rfl, rfl, _⟩ := e
    refine .inr ⟨_, _, rfl, fun i x hx => ?_⟩
    rw [List.getElem?_drop] at hx
    have := hc (k + i) x hx
    rw [show o + k + i = o + (k + i) by omega]
    exact this
theorem sl_dropB {w : World} {b o n c k : Nat} {xs : List Int} (h : Sl w (.slice (some ⟨b, o, none⟩) n c) xs) (hk : k ≤ xs.length) (hc : c = k) : Sl w (.slice (some ⟨b, o, none⟩) (xs.length - k) 0) (xs.drop k) := by
  obtain ⟨a', cap, e, h1, h2, h3, h4, h5⟩ := h
  simp only [Value.slice.injEq] at e
  obtain ⟨rfl, rfl, rfl⟩ := e
  exact ⟨some ⟨b, o, none⟩, 0, by simp, by simp; omega, by unfold maxLen at *; omega, fun x hx => h3 x (List.mem_of_mem_drop hx), by simp, .inl (List.drop_eq_nil_iff.2 (by omega))⟩
theorem drop_bd {xs : List Int} {k : Nat} (h : termsP xs = true) (hk : 1 ≤ k) : ∀ t ∈ xs.drop k, 1 ≤ t ∧ t ≤ 1000000000 := fun t ht => by
  obtain ⟨j, hj⟩ := List.getElem?_of_mem ht
  rw [List.getElem?_drop] at hj
  have := inB_iff.1 ((termsP_iff.1 h).2 (k + j) t hj)
  unfold lowT at this
  rw [if_neg (by omega)] at this
  exact this
theorem bdS_leX {d : Db} (h : bdD d = true) : bdS (leX d) = true := by
  have h := bdD_iff.1 h
  exact bdS_iff.2 ⟨h.1, h.2.1, h.2.2.2.2.1, h.2.2.2.2.2.1⟩
theorem bdS_leY {d : Db} (h : bdD d = true) : bdS (leY d) = true := by
  have h := bdD_iff.1 h
  exact bdS_iff.2 ⟨h.1, h.2.2.1, h.2.2.2.2.1, h.2.2.2.2.2.2.1⟩
theorem okD_bd {d : Db} (h : okD d = true) : bdD d = true := by unfold okD at h; simp at h; exact h.1
theorem EmD.shb {d : Db} {out : List Int} (h : EmD d out) : ∀ x ∈ out, x ≤ 2000000000 := fun x hx => by have := h.leX.bds x hx; omega
theorem iokD_eq {d : Db} {b : Bool} (h : okD d = b) (w : World) : Calls Try.prog 74 #[.agg #[.int .i64 d.a, .int .i64 d.b, .int .i64 d.c, .int .i64 d.d, .int .i64 d.e, .int .i64 d.f, .int .i64 d.g, .int .i64 d.h]] w fun e w' => e = .returned (.bool b) ∧ Bl w w' := h ▸ iokD_any d w
theorem finp_is {R R' : List Int × Int} {w0 w' : World} {e : Ending} (h : R = R') (hf : FinP R' w0 e w') : FinP R w0 e w' := by rw [h]; exact hf

set_option maxRecDepth 100000 in
set_option maxHeartbeats 3200000 in
theorem sfdX_feed {w : World} {p : Nat} {d : Db} {ov : Value} {t : Int} (hx : Bx w p #[.int .i64 d.a, .int .i64 d.b, .int .i64 d.c, .int .i64 d.d, .int .i64 d.e, .int .i64 d.f, .int .i64 d.g, .int .i64 d.h, ov, .bool false, .int .i64 0]) (hb : bdD d = true) (ht : -1000000000 ≤ t ∧ t ≤ 1000000000) :
    Calls Try.prog 151 #[.pointer (some ⟨p, 0, none⟩), .bool true, .int .i64 t] w fun e w' => e = .returned (.tuple #[]) ∧ Upd w w' p ∧ (okD (fdX d t) = true → Bx w' p #[.int .i64 (fdX d t).a, .int .i64 (fdX d t).b, .int .i64 (fdX d t).c, .int .i64 (fdX d t).d, .int .i64 (fdX d t).e, .int .i64 (fdX d t).f, .int .i64 (fdX d t).g, .int .i64 (fdX d t).h, ov, .bool false, .int .i64 0]) ∧ (okD (fdX d t) = false → Bx w' p #[.int .i64 d.a, .int .i64 d.b, .int .i64 d.c, .int .i64 d.d, .int .i64 d.e, .int .i64 d.f, .int .i64 d.g, .int .i64 d.h, ov, .bool false, .int .i64 5]) := by
  have hpw := hx.out.2.2
  have HB := Lib.hid hb
  clear hb
  obtain ⟨c0, f0, _⟩ := hx.out
  go_enter Try.func151, Try.ntmps151
  go_wp2_with fail
  refine (sfdY_any d t _ HB.out ht).mono ?_
  rintro e w1 ⟨rfl, hb1⟩
  have x1 := hx.below hb1
  clear c0 f0
  obtain ⟨c1, f1, z1⟩ := x1.out
  go_wp2_with fail
  have xN : Bx (w1.alloc (.cells #[.int .i64 (fdY d t).a, .int .i64 (fdY d t).b, .int .i64 (fdY d t).c, .int .i64 (fdY d t).d, .int .i64 (fdY d t).e, .int .i64 (fdY d t).f, .int .i64 (fdY d t).g, .int .i64 (fdY d t).h] 26)) w1.heap.size #[.int .i64 (fdY d t).a, .int .i64 (fdY d t).b, .int .i64 (fdY d t).c, .int .i64 (fdY d t).d, .int .i64 (fdY d t).e, .int .i64 (fdY d t).f, .int .i64 (fdY d t).g, .int .i64 (fdY d t).h] := Bx.new (b := w1.heap.size) _ _ _ rfl
  have x2 := x1.alloc (.cells #[.int .i64 (fdY d t).a, .int .i64 (fdY d t).b, .int .i64 (fdY d t).c, .int .i64 (fdY d t).d, .int .i64 (fdY d t).e, .int .i64 (fdY d t).f, .int .i64 (fdY d t).g, .int .i64 (fdY d t).h] 26)
  have u2 : Upd w (w1.alloc (.cells #[.int .i64 (fdY d t).a, .int .i64 (fdY d t).b, .int .i64 (fdY d t).c, .int .i64 (fdY d t).d, .int .i64 (fdY d t).e, .int .i64 (fdY d t).f, .int .i64 (fdY d t).g, .int .i64 (fdY d t).h] 26)) p := upd_bl (upd_refl w p) (bl_call (w := w) hb1 (bl_alloc (bl_refl _) _))
  have hs1 := hb1.size
  clear c1 f1 x1
  have zN : w1.heap.size < (w1.alloc (.cells #[.int .i64 (fdY d t).a, .int .i64 (fdY d t).b, .int .i64 (fdY d t).c, .int .i64 (fdY d t).d, .int .i64 (fdY d t).e, .int .i64 (fdY d t).f, .int .i64 (fdY d t).g, .int .i64 (fdY d t).h] 26)).heap.size := by simp
  generalize w1.alloc (.cells #[.int .i64 (fdY d t).a, .int .i64 (fdY d t).b, .int .i64 (fdY d t).c, .int .i64 (fdY d t).d, .int .i64 (fdY d t).e, .int .i64 (fdY d t).f, .int .i64 (fdY d t).g, .int .i64 (fdY d t).h] 26) = w2 at *
  obtain ⟨c2, f2, z2⟩ := x2.out
  refine (sfdX_any d t _ HB.out ht).mono ?_
  rintro e w3 ⟨rfl, hb3⟩
  have xN3 := xN.below hb3
  have x3 := x2.below hb3
  have u3 := upd_bl u2 hb3
  have hs3 := hb3.size
  clear c2 f2 z2 xN x2 u2
  obtain ⟨c3, f3, z3⟩ := x3.out
  obtain ⟨cN, fN, zN⟩ := xN3.out
  have xN4 := ((((((((xN3.set 0 (.int .i64 (fdX d t).a)).set 1 (.int .i64 (fdX d t).b)).set 2 (.int .i64 (fdX d t).c)).set 3 (.int .i64 (fdX d t).d)).set 4 (.int .i64 (fdX d t).e)).set 5 (.int .i64 (fdX d t).f)).set 6 (.int .i64 (fdX d t).g)).set 7 (.int .i64 (fdX d t).h))
  have x4 := x3.upd ((upd_set (upd_set (upd_set (upd_set (upd_set (upd_set (upd_set (upd_set (upd_refl w3 w1.heap.size) 0 (.int .i64 (fdX d t).a)) 1 (.int .i64 (fdX d t).b)) 2 (.int .i64 (fdX d t).c)) 3 (.int .i64 (fdX d t).d)) 4 (.int .i64 (fdX d t).e)) 5 (.int .i64 (fdX d t).f)) 6 (.int .i64 (fdX d t).g)) 7 (.int .i64 (fdX d t).h))) (by omega)
  have u4 := (upd_far (upd_far (upd_far (upd_far (upd_far (upd_far (upd_far (upd_far u3 (q := ⟨w1.heap.size, 0, none⟩) (by simp; omega) (.int .i64 (fdX d t).a)) (q := ⟨w1.heap.size, 1, none⟩) (by simp; omega) (.int .i64 (fdX d t).b)) (q := ⟨w1.heap.size, 2, none⟩) (by simp; omega) (.int .i64 (fdX d t).c)) (q := ⟨w1.heap.size, 3, none⟩) (by simp; omega) (.int .i64 (fdX d t).d)) (q := ⟨w1.heap.size, 4, none⟩) (by simp; omega) (.int .i64 (fdX d t).e)) (q := ⟨w1.heap.size, 5, none⟩) (by simp; omega) (.int .i64 (fdX d t).f)) (q := ⟨w1.heap.size, 6, none⟩) (by simp; omega) (.int .i64 (fdX d t).g)) (q := ⟨w1.heap.size, 7, none⟩) (by simp; omega) (.int .i64 (fdX d t).h))
  cases h6 : okD (fdX d t) with
  | false =>
    have E6 := Lib.hid h6
    clear h6
    go_wp2_with fail
    refine (sokD_eq E6.out _).mono ?_
    rintro e w5 ⟨rfl, hb5⟩
    have x5 := x4.below hb5
    have u5 := upd_bl u4 hb5
    obtain ⟨c5, f5, z5⟩ := x5.out
    clear c3 f3 z3 cN fN x3 x4 xN3 xN4
    go_wp2
    refine bodyPost_ret (results_none rfl _ _ _) rfl ?_
    exact ⟨rfl, upd_set u5 _ _, (fun q => absurd (q.symm.trans E6.out) (by simp)), fun _ => by simpa using x5.set 10 (.int .i64 5)⟩
  | true =>
    have E6 := Lib.hid h6
    clear h6
    go_wp2_with fail
    refine (sokD_eq E6.out _).mono ?_
    rintro e w5 ⟨rfl, hb5⟩
    have x5 := x4.below hb5
    have xN5 := xN4.below hb5
    have u5 := upd_bl u4 hb5
    obtain ⟨c5, f5, z5⟩ := x5.out
    obtain ⟨cN5, fN5, _⟩ := xN5.out
    clear c3 f3 z3 cN fN x3 x4 xN3 xN4
    go_wp2
    go_end0
    exact ⟨rfl, (upd_set (upd_set (upd_set (upd_set (upd_set (upd_set (upd_set (upd_set u5 0 (.int .i64 (fdX d t).a)) 1 (.int .i64 (fdX d t).b)) 2 (.int .i64 (fdX d t).c)) 3 (.int .i64 (fdX d t).d)) 4 (.int .i64 (fdX d t).e)) 5 (.int .i64 (fdX d t).f)) 6 (.int .i64 (fdX d t).g)) 7 (.int .i64 (fdX d t).h)), (fun _ => by simpa using ((((((((x5.set 0 (.int .i64 (fdX d t).a)).set 1 (.int .i64 (fdX d t).b)).set 2 (.int .i64 (fdX d t).c)).set 3 (.int .i64 (fdX d t).d)).set 4 (.int .i64 (fdX d t).e)).set 5 (.int .i64 (fdX d t).f)).set 6 (.int .i64 (fdX d t).g)).set 7 (.int .i64 (fdX d t).h))), (fun q => absurd (q.symm.trans E6.out) (by simp))⟩

set_option maxRecDepth 100000 in
set_option maxHeartbeats 3200000 in
theorem sfdY_feed {w : World} {p : Nat} {d : Db} {ov : Value} {t : Int} (hx : Bx w p #[.int .i64 d.a, .int .i64 d.b, .int .i64 d.c, .int .i64 d.d, .int .i64 d.e, .int .i64 d.f, .int .i64 d.g, .int .i64 d.h, ov, .bool false, .int .i64 0]) (hb : bdD d = true) (ht : -1000000000 ≤ t ∧ t ≤ 1000000000) :
    Calls Try.prog 151 #[.pointer (some ⟨p, 0, none⟩), .bool false, .int .i64 t] w fun e w' => e = .returned (.tuple #[]) ∧ Upd w w' p ∧ (okD (fdY d t) = true → Bx w' p #[.int .i64 (fdY d t).a, .int .i64 (fdY d t).b, .int .i64 (fdY d t).c, .int .i64 (fdY d t).d, .int .i64 (fdY d t).e, .int .i64 (fdY d t).f, .int .i64 (fdY d t).g, .int .i64 (fdY d t).h, ov, .bool false, .int .i64 0]) ∧ (okD (fdY d t) = false → Bx w' p #[.int .i64 d.a, .int .i64 d.b, .int .i64 d.c, .int .i64 d.d, .int .i64 d.e, .int .i64 d.f, .int .i64 d.g, .int .i64 d.h, ov, .bool false, .int .i64 5]) := by
  have hpw := hx.out.2.2
  have HB := Lib.hid hb
  clear hb
  obtain ⟨c0, f0, _⟩ := hx.out
  go_enter Try.func151, Try.ntmps151
  go_wp2_with fail
  refine (sfdY_any d t _ HB.out ht).mono ?_
  rintro e w1 ⟨rfl, hb1⟩
  have x1 := hx.below hb1
  clear c0 f0
  obtain ⟨c1, f1, z1⟩ := x1.out
  go_wp2_with fail
  have xN : Bx (w1.alloc (.cells #[.int .i64 (fdY d t).a, .int .i64 (fdY d t).b, .int .i64 (fdY d t).c, .int .i64 (fdY d t).d, .int .i64 (fdY d t).e, .int .i64 (fdY d t).f, .int .i64 (fdY d t).g, .int .i64 (fdY d t).h] 26)) w1.heap.size #[.int .i64 (fdY d t).a, .int .i64 (fdY d t).b, .int .i64 (fdY d t).c, .int .i64 (fdY d t).d, .int .i64 (fdY d t).e, .int .i64 (fdY d t).f, .int .i64 (fdY d t).g, .int .i64 (fdY d t).h] := Bx.new (b := w1.heap.size) _ _ _ rfl
  have x2 := x1.alloc (.cells #[.int .i64 (fdY d t).a, .int .i64 (fdY d t).b, .int .i64 (fdY d t).c, .int .i64 (fdY d t).d, .int .i64 (fdY d t).e, .int .i64 (fdY d t).f, .int .i64 (fdY d t).g, .int .i64 (fdY d t).h] 26)
  have u2 : Upd w (w1.alloc (.cells #[.int .i64 (fdY d t).a, .int .i64 (fdY d t).b, .int .i64 (fdY d t).c, .int .i64 (fdY d t).d, .int .i64 (fdY d t).e, .int .i64 (fdY d t).f, .int .i64 (fdY d t).g, .int .i64 (fdY d t).h] 26)) p := upd_bl (upd_refl w p) (bl_call (w := w) hb1 (bl_alloc (bl_refl _) _))
  have hs1 := hb1.size
  clear c1 f1 x1
  have zN : w1.heap.size < (w1.alloc (.cells #[.int .i64 (fdY d t).a, .int .i64 (fdY d t).b, .int .i64 (fdY d t).c, .int .i64 (fdY d t).d, .int .i64 (fdY d t).e, .int .i64 (fdY d t).f, .int .i64 (fdY d t).g, .int .i64 (fdY d t).h] 26)).heap.size := by simp
  generalize w1.alloc (.cells #[.int .i64 (fdY d t).a, .int .i64 (fdY d t).b, .int .i64 (fdY d t).c, .int .i64 (fdY d t).d, .int .i64 (fdY d t).e, .int .i64 (fdY d t).f, .int .i64 (fdY d t).g, .int .i64 (fdY d t).h] 26) = w2 at *
  obtain ⟨c2, f2, z2⟩ := x2.out
  obtain ⟨cN, fN, _⟩ := xN.out
  have xN4 := xN
  have x4 := x2
  have u4 := u2
  cases h6 : okD (fdY d t) with
  | false =>
    have E6 := Lib.hid h6
    clear h6
    go_wp2_with fail
    refine (sokD_eq E6.out _).mono ?_
    rintro e w5 ⟨rfl, hb5⟩
    have x5 := x4.below hb5
    have u5 := upd_bl u4 hb5
    obtain ⟨c5, f5, z5⟩ := x5.out
    clear c2 f2 z2 cN fN x4
    go_wp2
    refine bodyPost_ret (results_none rfl _ _ _) rfl ?_
    exact ⟨rfl, upd_set u5 _ _, (fun q => absurd (q.symm.trans E6.out) (by simp)), fun _ => by simpa using x5.set 10 (.int .i64 5)⟩
  | true =>
    have E6 := Lib.hid h6
    clear h6
    go_wp2_with fail
    refine (sokD_eq E6.out _).mono ?_
    rintro e w5 ⟨rfl, hb5⟩
    have x5 := x4.below hb5
    have xN5 := xN4.below hb5
    have u5 := upd_bl u4 hb5
    obtain ⟨c5, f5, z5⟩ := x5.out
    obtain ⟨cN5, fN5, _⟩ := xN5.out
    clear c2 f2 z2 cN fN x4
    go_wp2
    go_end0
    exact ⟨rfl, (upd_set (upd_set (upd_set (upd_set (upd_set (upd_set (upd_set (upd_set u5 0 (.int .i64 (fdY d t).a)) 1 (.int .i64 (fdY d t).b)) 2 (.int .i64 (fdY d t).c)) 3 (.int .i64 (fdY d t).d)) 4 (.int .i64 (fdY d t).e)) 5 (.int .i64 (fdY d t).f)) 6 (.int .i64 (fdY d t).g)) 7 (.int .i64 (fdY d t).h)), (fun _ => by simpa using ((((((((x5.set 0 (.int .i64 (fdY d t).a)).set 1 (.int .i64 (fdY d t).b)).set 2 (.int .i64 (fdY d t).c)).set 3 (.int .i64 (fdY d t).d)).set 4 (.int .i64 (fdY d t).e)).set 5 (.int .i64 (fdY d t).f)).set 6 (.int .i64 (fdY d t).g)).set 7 (.int .i64 (fdY d t).h))), (fun q => absurd (q.symm.trans E6.out) (by simp))⟩

end Go.Proofs.Ytbncinbngmfamaa
