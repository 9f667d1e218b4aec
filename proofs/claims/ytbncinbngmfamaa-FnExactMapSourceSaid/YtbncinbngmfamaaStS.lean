/- The reference's stream: terms are fed and emitted. Each theorem names its conditions. -/
import Derived.Test.YtbncinbngmfamaaStr
namespace Go.Proofs.Ytbncinbngmfamaa
open Go.RowKit
set_option linter.unusedVariables false
set_option linter.unusedSimpArgs false


set_option maxHeartbeats 800000 in
theorem big_yes (q c : Int) (w : World) (hq : -1000000000 ≤ q ∧ q ≤ 1000000000) (hc : -1000000000 ≤ c ∧ c ≤ 1000000000) :
    Calls Try.prog 147 #[.int .i64 q, .int .i64 c] w fun e w' => e = .returned (.bool true) ∧ w = w' := by
  by_cases h0 : q = 0
  · have c0 : (q == 0) = true := by simp [h0]
    clear h0
    go_enter Try.func147, Try.ntmps147
    go_wp2
    go_ret
    exact ⟨rfl, rfl⟩
  · have c0 : (q == 0) = false := by simp [h0]
    have a1 : 1 ≤ ab q := by unfold ab; omega
    have a2 : ab q ≤ 1000000000 := ab_le hq
    have a3 : ab c ≤ 1000000000 := ab_le hc
    have a4 := ab_nonneg c
    have a5 : 1000000000 ≤ 1000000000000000000 / ab q := by
      rw [Int.le_ediv_iff_mul_le (by omega)]
      omega
    have a6 : 1000000000000000000 / ab q ≤ 1000000000000000000 := Int.ediv_le_self _ (by omega)
    have a7 : ab c ≤ 1000000000000000000 / ab q := by omega
    have cz : (ab q == 0) = false := by rw [beq_eq_false_iff_ne]; omega
    clear h0
    go_enter Try.func147, Try.ntmps147
    go_wp2_with fail
    refine (size_any _ _ (by omega)).mono ?_
    rintro e w9 ⟨rfl, rfl⟩
    go_wp2_with fail
    refine (size_any _ _ (by omega)).mono ?_
    rintro e w9 ⟨rfl, rfl⟩
    go_wp2
    go_ret
    exact ⟨rfl, rfl⟩

set_option maxRecDepth 100000 in
set_option maxHeartbeats 3200000 in
theorem sem_any (s : St) (q : Int) (w : World) (e : bdS s = true) (hq : -1000000000 ≤ q ∧ q ≤ 1000000000) : Calls Try.prog 115 #[.agg #[.int .i64 s.a, .int .i64 s.b, .int .i64 s.c, .int .i64 s.d], .int .i64 q] w fun e w' => e = .returned (.tuple #[.agg #[.int .i64 (emF s q).a, .int .i64 (emF s q).b, .int .i64 (emF s q).c, .int .i64 (emF s q).d], .bool (bdS (emF s q))]) ∧ Bl w w' := by
  have hb := bdS_iff.1 e
  have b1 := mulbdS hq hb.2.2.1
  have b2 := mulbdS hq hb.2.2.2
  clear e
  go_enter Try.func115, Try.ntmps115
  go_wp2_with fail
  have B1 : Bl w ((w.alloc (.cells #[.int .i64 s.a, .int .i64 s.b, .int .i64 s.c, .int .i64 s.d] 41)).alloc (.cells #[.int .i64 0, .int .i64 0, .int .i64 0, .int .i64 0] 41)) := (bl_alloc (bl_alloc (bl_refl _) _) _)
  have xS_1 : Bx ((w.alloc (.cells #[.int .i64 s.a, .int .i64 s.b, .int .i64 s.c, .int .i64 s.d] 41)).alloc (.cells #[.int .i64 0, .int .i64 0, .int .i64 0, .int .i64 0] 41)) (w.heap.size) #[.int .i64 s.a, .int .i64 s.b, .int .i64 s.c, .int .i64 s.d] := ((Bx.new (b := w.heap.size) _ #[.int .i64 s.a, .int .i64 s.b, .int .i64 s.c, .int .i64 s.d] 41 (by first | rfl | simp)).alloc _)
  have xR_1 : Bx ((w.alloc (.cells #[.int .i64 s.a, .int .i64 s.b, .int .i64 s.c, .int .i64 s.d] 41)).alloc (.cells #[.int .i64 0, .int .i64 0, .int .i64 0, .int .i64 0] 41)) (w.heap.size + 1) #[.int .i64 0, .int .i64 0, .int .i64 0, .int .i64 0] := (Bx.new (b := w.heap.size + 1) _ #[.int .i64 0, .int .i64 0, .int .i64 0, .int .i64 0] 41 (by first | rfl | simp))
  have zz1 : w.heap.size + 2 ≤ ((w.alloc (.cells #[.int .i64 s.a, .int .i64 s.b, .int .i64 s.c, .int .i64 s.d] 41)).alloc (.cells #[.int .i64 0, .int .i64 0, .int .i64 0, .int .i64 0] 41)).heap.size := (by simp)
  generalize ((w.alloc (.cells #[.int .i64 s.a, .int .i64 s.b, .int .i64 s.c, .int .i64 s.d] 41)).alloc (.cells #[.int .i64 0, .int .i64 0, .int .i64 0, .int .i64 0] 41)) = w1 at *
  obtain ⟨cS_1, fS_1, zS_1⟩ := xS_1.out
  obtain ⟨cR_1, fR_1, zR_1⟩ := xR_1.out
  refine (big_yes _ _ _ hq hb.2.2.1).mono ?_
  rintro e w9 ⟨rfl, rfl⟩
  go_wp2_with fail
  refine (big_yes _ _ _ hq hb.2.2.2).mono ?_
  rintro e w9 ⟨rfl, rfl⟩
  go_wp2_with fail
  have B2 : Bl w (w1.alloc (.cells #[.int .i64 (s.c), .int .i64 (s.d), .int .i64 (s.a - q * s.c), .int .i64 (s.b - q * s.d)] 41)) := (bl_alloc B1 _)
  have xS_2 : Bx (w1.alloc (.cells #[.int .i64 (s.c), .int .i64 (s.d), .int .i64 (s.a - q * s.c), .int .i64 (s.b - q * s.d)] 41)) (w.heap.size) #[.int .i64 s.a, .int .i64 s.b, .int .i64 s.c, .int .i64 s.d] := (xS_1.alloc _)
  have xR_2 : Bx (w1.alloc (.cells #[.int .i64 (s.c), .int .i64 (s.d), .int .i64 (s.a - q * s.c), .int .i64 (s.b - q * s.d)] 41)) (w.heap.size + 1) #[.int .i64 0, .int .i64 0, .int .i64 0, .int .i64 0] := (xR_1.alloc _)
  have xN_2 : Bx (w1.alloc (.cells #[.int .i64 (s.c), .int .i64 (s.d), .int .i64 (s.a - q * s.c), .int .i64 (s.b - q * s.d)] 41)) (w1.heap.size) #[.int .i64 (s.c), .int .i64 (s.d), .int .i64 (s.a - q * s.c), .int .i64 (s.b - q * s.d)] := (Bx.new (b := w1.heap.size) _ #[.int .i64 (s.c), .int .i64 (s.d), .int .i64 (s.a - q * s.c), .int .i64 (s.b - q * s.d)] 41 (by first | rfl | simp))
  have zz2 : w1.heap.size + 1 ≤ (w1.alloc (.cells #[.int .i64 (s.c), .int .i64 (s.d), .int .i64 (s.a - q * s.c), .int .i64 (s.b - q * s.d)] 41)).heap.size := (by simp)
  clear cS_1 fS_1 zS_1 cR_1 fR_1 zR_1
  generalize (w1.alloc (.cells #[.int .i64 (s.c), .int .i64 (s.d), .int .i64 (s.a - q * s.c), .int .i64 (s.b - q * s.d)] 41)) = w2 at *
  obtain ⟨cS_2, fS_2, zS_2⟩ := xS_2.out
  obtain ⟨cR_2, fR_2, zR_2⟩ := xR_2.out
  obtain ⟨cN_2, fN_2, zN_2⟩ := xN_2.out
  go_cut [5] (fun s5 wx => s5 = .bool (bdS (emF s q)) ∧ Bx wx (w.heap.size + 1) #[.int .i64 (s.c), .int .i64 (s.d), .int .i64 (s.a - q * s.c), .int .i64 (s.b - q * s.d)] ∧ Bl w wx)
  case first =>
    go_region_held3 (fun w' => w'.cell? ⟨w1.heap.size, 0, none⟩ = some (.int .i64 (s.c)) ∧ w'.cell? ⟨w1.heap.size, 1, none⟩ = some (.int .i64 (s.d)) ∧ w'.cell? ⟨w1.heap.size, 2, none⟩ = some (.int .i64 (s.a - q * s.c)) ∧ w'.cell? ⟨w1.heap.size, 3, none⟩ = some (.int .i64 (s.b - q * s.d))) (first | (simp [*]; done) | (go_simp; done) | go_keep)
      (first | (go_at_call 113; go_must (refine (sfits_any (emF s q) _).mono ?_; rintro e w8 ⟨rfl, hb8⟩; (first | (have nb : Bx w8 (w1.heap.size) #[.int .i64 (s.c), .int .i64 (s.d), .int .i64 (s.a - q * s.c), .int .i64 (s.b - q * s.d)] := xN_2.drew.below hb8; have rb : Bx w8 (w.heap.size + 1) #[.int .i64 0, .int .i64 0, .int .i64 0, .int .i64 0] := xR_2.drew.below hb8; have BB : Bl w w8 := bl_call (bl_drew B2) hb8; obtain ⟨cn, fn, zn⟩ := nb.out; obtain ⟨cr, fr, zr⟩ := rb.out) | (have nb : Bx w8 (w1.heap.size) #[.int .i64 (s.c), .int .i64 (s.d), .int .i64 (s.a - q * s.c), .int .i64 (s.b - q * s.d)] := ((((xN_2.drew.far (by first | (simp; done) | (simp; omega)) _).far (by first | (simp; done) | (simp; omega)) _).far (by first | (simp; done) | (simp; omega)) _).far (by first | (simp; done) | (simp; omega)) _).below hb8; have rb : Bx w8 (w.heap.size + 1) #[.int .i64 (s.c), .int .i64 (s.d), .int .i64 (s.a - q * s.c), .int .i64 (s.b - q * s.d)] := ((((xR_2.drew.set 0 (.int .i64 (s.c))).set 1 (.int .i64 (s.d))).set 2 (.int .i64 (s.a - q * s.c))).set 3 (.int .i64 (s.b - q * s.d))).below hb8; have BB : Bl w w8 := bl_call (bl_set (bl_set (bl_set (bl_set (bl_drew B2) (by first | exact Nat.le_refl _ | (simp; done) | (simp; omega)) _) (by first | exact Nat.le_refl _ | (simp; done) | (simp; omega)) _) (by first | exact Nat.le_refl _ | (simp; done) | (simp; omega)) _) (by first | exact Nat.le_refl _ | (simp; done) | (simp; omega)) _) hb8; obtain ⟨cn, fn, zn⟩ := nb.out; obtain ⟨cr, fr, zr⟩ := rb.out)))))
    all_goals (go_wp2_with fail; go_meet; (first | exact ⟨rfl, rb, BB⟩ | exact ⟨rfl, ((((rb.set 0 (.int .i64 (s.c))).set 1 (.int .i64 (s.d))).set 2 (.int .i64 (s.a - q * s.c))).set 3 (.int .i64 (s.b - q * s.d))), (bl_set (bl_set (bl_set (bl_set BB (by first | exact Nat.le_refl _ | (simp; done) | (simp; omega)) _) (by first | exact Nat.le_refl _ | (simp; done) | (simp; omega)) _) (by first | exact Nat.le_refl _ | (simp; done) | (simp; omega)) _) (by first | exact Nat.le_refl _ | (simp; done) | (simp; omega)) _)⟩))
  case rest =>
    obtain ⟨rfl, xR, BB⟩ := hcut
    have BC : Bl w wc := BB
    obtain ⟨cR, fR, zR⟩ := xR.out
    clear cS_2 fS_2 zS_2 cR_2 fR_2 zR_2 cN_2 fN_2 zN_2
    go_wp2
    refine bodyPost_ret (v := .tuple #[.agg #[.int .i64 (s.c), .int .i64 (s.d), .int .i64 (s.a - q * s.c), .int .i64 (s.b - q * s.d)], .bool (bdS (emF s q))]) (by simp only [results, Try.results115]; go_simp) rfl ⟨rfl, BC⟩

/-- What emission leaves in the reference's stream. -/
def EmS (w : World) (p B : Nat) (ov : Value) (R : Option (St × List Int)) (e : Ending) (w' : World) : Prop :=
  Upv w w' p ov ∧ e = .returned (.tuple #[]) ∧ match R with
    | none => ∃ (s1 : St) (v1 : Value), Bx w' p #[.int .i64 s1.a, .int .i64 s1.b, .int .i64 s1.c, .int .i64 s1.d, v1, .int .i64 5]
    | some (s', out') => ∃ ov' : Value, Bx w' p #[.int .i64 s'.a, .int .i64 s'.b, .int .i64 s'.c, .int .i64 s'.d, ov', .int .i64 0] ∧ Own w' B ov' out' ∧ RowOf w ov ov'
theorem ems_yes {w w' : World} {p B : Nat} {ov v1 : Value} {s1 : St} {o1 : List Int} {R : Option (St × List Int)} (hR : R = some (s1, o1)) (hu : Upv w w' p ov) (hx : Bx w' p #[.int .i64 s1.a, .int .i64 s1.b, .int .i64 s1.c, .int .i64 s1.d, v1, .int .i64 0]) (ho : Own w' B v1 o1) (hr : RowOf w ov v1) : EmS w p B ov R (.returned (.tuple #[])) w' := by
  subst hR
  exact ⟨hu, rfl, v1, hx, ho, hr⟩
theorem ems_no {w w' : World} {p B : Nat} {ov : Value} {R : Option (St × List Int)} {s1 : St} {v1 : Value} (hR : R = none) (hu : Upv w w' p ov) (hx : Bx w' p #[.int .i64 s1.a, .int .i64 s1.b, .int .i64 s1.c, .int .i64 s1.d, v1, .int .i64 5]) : EmS w p B ov R (.returned (.tuple #[])) w' := by
  subst hR
  exact ⟨hu, rfl, s1, v1, hx⟩

set_option maxRecDepth 100000 in
set_option maxHeartbeats 6400000 in
theorem semit_any {w : World} {p B : Nat} {s : St} {ov : Value} {out : List Int} (hx : Bx w p #[.int .i64 s.a, .int .i64 s.b, .int .i64 s.c, .int .i64 s.d, ov, .int .i64 0]) (ho : Own w B ov out) (hB : B ≤ w.heap.size) (hp : ov.ownBlock ≠ some p) (hb : bdS s = true) (hl : out.length ≤ 60) :
    Calls Try.prog 126 #[.pointer (some ⟨p, 0, none⟩)] w (EmS w p B ov (emitF 1073741824 s out)) := by
  have hpw := hx.out.2.2
  obtain ⟨R, hR⟩ : ∃ R, emitF 1073741824 s out = R := ⟨_, rfl⟩
  rw [hR]
  have HR := Lib.hid hR
  have HB := Lib.hid hb
  have HP := Lib.hid hp
  clear hR hb hp
  go_enter Try.func126, Try.ntmps126
  go_wp2_with fail
  go_loopg [2, 3, 4, 5] (61 - out.length) (fun n _ _ _ _ wr => ∃ (s1 : St) (o1 : List Int) (v1 : Value), Bx wr p #[.int .i64 s1.a, .int .i64 s1.b, .int .i64 s1.c, .int .i64 s1.d, v1, .int .i64 0] ∧ Own wr B v1 o1 ∧ Hid (emitF 1073741824 s1 o1 = R) ∧ Hid (bdS s1 = true) ∧ o1.length ≤ 60 ∧ n + o1.length = 61 ∧ Hid (RowOf w ov v1) ∧ Upv w wr p ov)
  case atStart => exact ⟨s, out, ov, hx, ho, HR, HB, hl, by omega, Lib.hid (fun k h => .inl h), upv_refl _ _ _⟩
  case round =>
    obtain ⟨s1, o1, v1, x1, h1, HE, HBB, hl1, hn, HRW, hu⟩ := hrel
    have HO := Lib.hid h1
    have HN := Lib.hid hn
    obtain ⟨va, vc, rfl, _⟩ := h1.form
    clear h1 hn
    have hpr := x1.out.2.2
    obtain ⟨c1, f1, _⟩ := x1.out
    have HNE := Lib.hid (own_ne HRW.out HP.out hpw)
    have hb := bdS_iff.1 HBB.out
    go_wp2_with fail
    refine (sknow_any s1.a s1.b s1.c s1.d _ hb.1 hb.2.1 hb.2.2.1 hb.2.2.2).mono ?_
    rintro e w2 ⟨v, rfl, hk, hb2⟩
    have x2 := x1.below hb2
    have HO2 := Lib.hid (HO.out.below hb2)
    have hu2 := upv_bl hu hb2
    clear c1 f1
    obtain ⟨c2, f2, _⟩ := x2.out
    cases hq : knF s1 with
    | none =>
      rw [show knV s1.a s1.b s1.c s1.d = none from hq] at hk
      obtain ⟨q, rfl⟩ := hk
      have HQ := Lib.hid hq
      clear hq
      go_wp2
      go_end0
      exact ems_yes (by rw [← HE.out, emit_none hl1 HQ.out]) hu2 x2 HO2.out HRW.out
    | some q =>
      rw [show knV s1.a s1.b s1.c s1.d = some q from hq] at hk
      have hk : v = _ := hk
      subst hk
      have hqb := kn_bd HBB.out hq
      have HQ := Lib.hid hq
      clear hq
      go_wp2_with fail
      refine (sem_any s1 q _ HBB.out hqb).mono ?_
      rintro e w3 ⟨rfl, hb3⟩
      have x3 := x2.below hb3
      have HO3 := Lib.hid (HO2.out.below hb3)
      have hu3 := upv_bl hu2 hb3
      clear c2 f2
      obtain ⟨c3, f3, z3⟩ := x3.out
      cases hb6 : bdS (emF s1 q) with
      | false =>
        have HE2 := Lib.hid (show emitF 1073741824 s1 o1 = none by by_cases h60 : o1.length = 60; exact emit_full (most := 1073741824) h60 (by omega) HQ.out; exact emit_big (most := 1073741824) (by omega) (by omega) HQ.out hb6)
        clear hb6
        go_wp2
        go_end0
        exact ems_no (by rw [← HE.out, HE2.out]) (s1 := s1) (v1 := .slice va o1.length vc) (upv_bl (upv_upd hu3 (upd_set (upd_refl _ _) _ _)) (bl_alloc (bl_refl _) _)) ((x3.set 5 (.int .i64 5)).alloc _)
      | true =>
        by_cases h60 : o1.length = 60
        · have HE2 := Lib.hid (emit_full (most := 1073741824) h60 (by omega) HQ.out)
          have h60' : 60 ≤ o1.length := by omega
          clear hb6 h60
          go_wp2
          go_end0
          exact ems_no (by rw [← HE.out, HE2.out]) (s1 := s1) (v1 := .slice va o1.length vc) (upv_bl (upv_upd hu3 (upd_set (upd_refl _ _) _ _)) (bl_alloc (bl_refl _) _)) ((x3.set 5 (.int .i64 5)).alloc _)
        · have hl60 : o1.length < 60 := by omega
          have HE2 := Lib.hid (show emitF 1073741824 (emF s1 q) (o1 ++ [q]) = R by rw [← emit_step (most := 1073741824) hl60 (by omega) HQ.out hb6]; exact HE.out)
          have HB6 := Lib.hid hb6
          clear hb6 h60
          have hsz2 := hu3.size
          go_wp2_with (at_builtin; refine wpList_append_one rfl _ _ rfl B _ o1 (by rfl) (HO3.out.alloc _) q (by unfold R64; omega) (by first | rfl | simp [Act.eval]) (by omega) (by simp; omega) ?_; intro v' wn ho hg hloc; obtain ⟨a1, n1, rfl, _⟩ := ho.form; have xN := (x3.alloc _).grownApartF hg (fun q => HNE.out q); have xB := (Bx.new w3 #[.int .i64 (emF s1 q).a, .int .i64 (emF s1 q).b, .int .i64 (emF s1 q).c, .int .i64 (emF s1 q).d] 41 rfl).grownApartF hg (fun e => by have := (HO3.out.lt _ e).2; omega); clear c3 f3 z3; obtain ⟨cN, fN, zN⟩ := xN.out; obtain ⟨cB, fB, zB⟩ := xB.out)
          have hlen : (o1 ++ [q]).length = o1.length + 1 := by simp
          have huN := upv_row (upv_bl hu3 (bl_alloc (bl_refl _) _)) hg HRW.out
          rw [hlen] at ho hloc
          clear hlen
          have hRW3 : RowOf w ov (.slice a1 (o1.length + 1) n1) := fun k hk => by
            rcases hloc with e | e
            · exact HRW.out k (e ▸ hk)
            · rw [e] at hk; injection hk with hk; right; simp at hk; omega
          have HRW3 := Lib.hid hRW3
          have HNE3 := Lib.hid (own_ne HRW3.out HP.out hpw)
          have HO4 := Lib.hid ho
          clear hg hloc ho hRW3
          go_wp2
          go_roundg (gk - 1)
          case measure => have := HN.out; omega
          case rel =>
            have uW := upd_set (upd_set (upd_set (upd_set (upd_set (upd_refl wn p) 4 (.slice a1 (o1.length + 1) n1)) 0 (.int .i64 (emF s1 q).a)) 1 (.int .i64 (emF s1 q).b)) 2 (.int .i64 (emF s1 q).c)) 3 (.int .i64 (emF s1 q).d)
            exact ⟨emF s1 q, o1 ++ [q], .slice a1 (o1.length + 1) n1, ((((xN.set 4 _).set 0 _).set 1 _).set 2 _).set 3 _, HO4.out.upd uW HNE3.out, HE2, HB6, by simp; omega, by have := HN.out; simp; omega, HRW3, upv_upd huN uW⟩

/-- Feed a term, and emit what is known then. -/
def feedR (s : St) (out : List Int) (t : Int) : Option (St × List Int) := if bdS (fedF s t) then emitF 1073741824 (fedF s t) out else none
theorem feedR_yes {s : St} {out : List Int} {t : Int} (h : bdS (fedF s t) = true) : feedR s out t = emitF 1073741824 (fedF s t) out := by rw [feedR, if_pos h]
theorem feedR_no {s : St} {out : List Int} {t : Int} (h : bdS (fedF s t) = false) : feedR s out t = none := by rw [feedR, if_neg (by rw [h]; simp)]
theorem ems_on {w w1 w2 : World} {p B : Nat} {ov : Value} {R : Option (St × List Int)} {e : Ending} (hu : Upd w w1 p) (h : EmS w1 p B ov R e w2) : EmS w p B ov R e w2 := by
  obtain ⟨h1, h2, h3⟩ := h
  refine ⟨upv_upv (upv_upd (upv_refl w p ov) hu) h1 (fun k hk => .inl hk), h2, ?_⟩
  cases R with
  | none => exact h3
  | some r =>
    obtain ⟨ov', a, b, c⟩ := h3
    exact ⟨ov', a, b, fun k hk => (c k hk).imp id (fun q => Nat.le_trans hu.size q)⟩
set_option maxRecDepth 100000 in
set_option maxHeartbeats 3200000 in
theorem sfeed_any {w : World} {p B : Nat} {s : St} {ov : Value} {out : List Int} {t : Int} (hx : Bx w p #[.int .i64 s.a, .int .i64 s.b, .int .i64 s.c, .int .i64 s.d, ov, .int .i64 0]) (ho : Own w B ov out) (hB : B ≤ w.heap.size) (hp : ov.ownBlock ≠ some p) (hb : bdS s = true) (hl : out.length ≤ 60) (ht : -1000000000 ≤ t ∧ t ≤ 1000000000) :
    Calls Try.prog 82 #[.pointer (some ⟨p, 0, none⟩), .int .i64 t] w (EmS w p B ov (feedR s out t)) := by
  have hpw := hx.out.2.2
  have HB := Lib.hid hb
  have HP := Lib.hid hp
  have HO := Lib.hid ho
  clear hb hp ho
  obtain ⟨c0, f0, _⟩ := hx.out
  go_enter Try.func82, Try.ntmps82
  go_wp2_with fail
  refine (sfed_any s t _ HB.out ht).mono ?_
  rintro e w1 ⟨rfl, hb1⟩
  have x1 := hx.below hb1
  clear c0 f0
  obtain ⟨c1, f1, z1⟩ := x1.out
  go_wp2_with fail
  have xN : Bx (w1.alloc (.cells #[.int .i64 (fedF s t).a, .int .i64 (fedF s t).b, .int .i64 (fedF s t).c, .int .i64 (fedF s t).d] 41)) w1.heap.size #[.int .i64 (fedF s t).a, .int .i64 (fedF s t).b, .int .i64 (fedF s t).c, .int .i64 (fedF s t).d] := Bx.new (b := w1.heap.size) _ _ _ rfl
  have x2 := x1.alloc (.cells #[.int .i64 (fedF s t).a, .int .i64 (fedF s t).b, .int .i64 (fedF s t).c, .int .i64 (fedF s t).d] 41)
  have u2 : Upd w (w1.alloc (.cells #[.int .i64 (fedF s t).a, .int .i64 (fedF s t).b, .int .i64 (fedF s t).c, .int .i64 (fedF s t).d] 41)) p := upd_bl (upd_refl w p) (bl_call (w := w) hb1 (bl_alloc (bl_refl _) _))
  have HO2 := Lib.hid ((HO.out.below hb1).alloc (.cells #[.int .i64 (fedF s t).a, .int .i64 (fedF s t).b, .int .i64 (fedF s t).c, .int .i64 (fedF s t).d] 41))
  clear c1 f1
  generalize w1.alloc (.cells #[.int .i64 (fedF s t).a, .int .i64 (fedF s t).b, .int .i64 (fedF s t).c, .int .i64 (fedF s t).d] 41) = w2 at *
  refine (sfits_any (fedF s t) _).mono ?_
  rintro e w3 ⟨rfl, hb3⟩
  have x3 := x2.below hb3
  have xN3 := xN.below hb3
  have u3 := upd_bl u2 hb3
  have HO3 := Lib.hid (HO2.out.below hb3)
  obtain ⟨c3, f3, z3⟩ := x3.out
  obtain ⟨cN, fN, zN⟩ := xN3.out
  cases h6 : bdS (fedF s t) with
  | false =>
    have HR := Lib.hid (feedR_no (out := out) h6)
    clear h6
    go_wp2
    go_end0
    exact ems_no (s1 := s) (v1 := ov) HR.out (upv_upd (upv_refl w p ov) (upd_trans u3 (upd_set (upd_refl _ _) _ _))) (x3.set 5 (.int .i64 5))
  | true =>
    have HR := Lib.hid (feedR_yes (out := out) h6)
    have H6 := Lib.hid h6
    clear h6
    have uW := upd_set (upd_set (upd_set (upd_set (upd_refl w3 p) 0 (.int .i64 (fedF s t).a)) 1 (.int .i64 (fedF s t).b)) 2 (.int .i64 (fedF s t).c)) 3 (.int .i64 (fedF s t).d)
    have xW := (((x3.set 0 (.int .i64 (fedF s t).a)).set 1 (.int .i64 (fedF s t).b)).set 2 (.int .i64 (fedF s t).c)).set 3 (.int .i64 (fedF s t).d)
    have u4 := upd_trans u3 uW
    have HO4 := Lib.hid (HO3.out.upd uW HP.out)
    have hsz := u4.size
    go_wp2_with fail
    refine (semit_any (s := fedF s t) xW HO4.out (by omega) HP.out H6.out hl).mono ?_
    rintro e w5 hE
    have hE2 := ems_on u4 hE
    rw [← HR.out] at hE2
    have he := hE2.2.1
    subst he
    go_wp2
    go_end0
    exact hE2

end Go.Proofs.Ytbncinbngmfamaa
