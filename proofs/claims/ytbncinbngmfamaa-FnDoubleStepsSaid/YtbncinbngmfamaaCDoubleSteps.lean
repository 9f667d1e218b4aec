/- FnDoubleSteps holds: feeding terms is replacing x or y, and a term that is emitted is the floor of the value. Conditions: none. -/
import Derived.Test.YtbncinbngmfamaaOpenB
import Derived.Test.YtbncinbngmfamaaDraw
import Derived.Test.YtbncinbngmfamaaDbA
namespace Go.Proofs.Ytbncinbngmfamaa
open Go.RowKit Go.ChangeShapes Go.WideShapes Go.ChangeAt
set_option linter.unusedVariables false
set_option linter.unusedSimpArgs false

theorem full_ok {n d : Int} (hd : 1 ≤ d ∧ d ≤ 1000000000) (hn : -1000000000 ≤ n ∧ n ≤ 1000000000) : ∃ p c, fullF n d = (p, c, 0) ∧ okF p c = true ∧ p / c = n / d := by
  have h1 := lowF_small (x := n) (q := d) (m := 1000000000) hd.1 hd.2 hn
  have h2 := lowF_gcd n d (by omega)
  have hok : okF (lowF n d).1 (lowF n d).2 = true := okF_iff.2 ⟨⟨h1.1, h1.2.1⟩, ⟨h1.2.2.1, h1.2.2.2⟩, h2⟩
  refine ⟨(lowF n d).1, (lowF n d).2, ?_, hok, ?_⟩
  · rw [fullF_eq n d (lowF n d).1 (lowF n d).2 (by rw [if_neg (by omega)]), if_pos hok]
  · have hg : gcdI n d ≠ 0 := fun e => by
      have := gcdI_dvd_right n d
      rw [e] at this
      have := Int.zero_dvd.1 this
      omega
    have hgp : 0 < gcdI n d := by unfold gcdI at *; omega
    show n / gcdI n d / (d / gcdI n d) = n / d
    obtain ⟨x, hx⟩ := gcdI_dvd_left n d
    obtain ⟨y, hy⟩ := gcdI_dvd_right n d
    clear h1 h2 hok
    generalize gcdI n d = g at hx hy hg hgp ⊢
    subst hx hy
    rw [Int.mul_ediv_cancel_left _ hg, Int.mul_ediv_cancel_left _ hg, Int.mul_ediv_mul_of_pos _ _ hgp]
theorem full_self {n d : Int} (h : okF n d = true) : fullF n d = (n, d, 0) := by
  have hb := okF_iff.1 h
  have e : lowF n d = (n, d) := by unfold lowF; rw [hb.2.2, Int.ediv_one, Int.ediv_one]
  rw [fullF_eq n d n d (by rw [if_neg (by omega), e]), if_pos h]
theorem ok_int {U : Int} (h : 1 ≤ U ∧ U ≤ 40) : okF U 1 = true := okF_iff.2 ⟨by omega, by omega, by unfold gcdI; simp⟩
theorem ok_rec {s U : Int} (hs : 1 ≤ s ∧ s ≤ 30) (hU : 1 ≤ U ∧ U ≤ 40) : okF (s * U + 1) U = true := by
  have := mulS (x := s) (y := U) (X := 30) (Y := 40) (by omega) (by omega)
  exact okF_iff.2 ⟨by omega, by omega, gcd_one hU.1⟩
/-- All that the law's walk needs. -/
structure StepQ (op s t U V p c : Int) : Prop where
  ok2 : okF (s * U + 1) U = true
  ok3 : okF (t * V + 1) V = true
  f1 : fullF (atN (fdY (fdX (forD op) s) t) U 1 V 1) (atD (fdY (fdX (forD op) s) t) U 1 V 1) = (p, c, 0)
  f2 : fullF (atN (forD op) (s * U + 1) U (t * V + 1) V) (atD (forD op) (s * U + 1) U (t * V + 1) V) = (p, c, 0)
  okp : okF p c = true
  fl : p / c = atN (fdY (fdX (forD op) s) t) U 1 V 1 / atD (fdY (fdX (forD op) s) t) U 1 V 1
  n1 : atD (fdY (fdX (forD op) s) t) U 1 V 1 ≠ 0
  n2 : atD (forD op) (s * U + 1) U (t * V + 1) V ≠ 0
theorem stepq_of {op s t U V : Int} (hop : 1 ≤ op ∧ op ≤ 4) (hs : 1 ≤ s ∧ s ≤ 30) (ht : 1 ≤ t ∧ t ≤ 30) (hU : 1 ≤ U ∧ U ≤ 40) (hV : 1 ≤ V ∧ V ≤ 40) : ∃ p c, StepQ op s t U V p c := by
  have h := step_of (U := U) (V := V) hop hs ht
  obtain ⟨b1, b2, b3⟩ := step_bd h hU hV
  obtain ⟨p, c, f, o, l⟩ := full_ok (n := atN (fdY (fdX (forD op) s) t) U 1 V 1) (d := atD (fdY (fdX (forD op) s) t) U 1 V 1) (by omega) (by omega)
  have e := at_fed (forD op) s t U V
  exact ⟨p, c, ok_rec hs hU, ok_rec ht hV, f, by rw [← e.1, ← e.2]; exact f, o, l, by omega, by rw [← e.2]; omega⟩
theorem sm_mem {d : Db} {x0 x1 x2 x3 : Int} (h : ∀ x ∈ [d.a, d.b, d.c, d.d, d.e, d.f, d.g, d.h], -1000 ≤ x ∧ x ≤ 1000) (h0 : -10000 ≤ x0 ∧ x0 ≤ 10000) (h1 : -10000 ≤ x1 ∧ x1 ≤ 10000) (h2 : -10000 ≤ x2 ∧ x2 ≤ 10000) (h3 : -10000 ≤ x3 ∧ x3 ≤ 10000) : ∀ x ∈ [d.a, d.b, d.c, d.d, d.e, d.f, d.g, d.h, x0, x1, x2, x3], -10000 ≤ x ∧ x ≤ 10000 := by
  simp only [List.mem_cons, List.not_mem_nil, or_false, forall_eq_or_imp, forall_eq] at h ⊢
  omega
theorem sat_eq {d : Db} {xn xd yn yd p c k : Int} (h : fullF (atN d xn xd yn yd) (atD d xn xd yn yd) = (p, c, k)) (w : World) (e1 : okD d = true) (e2 : okF xn xd = true) (e3 : okF yn yd = true) (sm : ∀ x ∈ [d.a, d.b, d.c, d.d, d.e, d.f, d.g, d.h, xn, xd, yn, yd], -10000 ≤ x ∧ x ≤ 10000) (hD : atD d xn xd yn yd ≠ 0) :
    Calls Try.prog 20 #[.agg #[.int .i64 d.a, .int .i64 d.b, .int .i64 d.c, .int .i64 d.d, .int .i64 d.e, .int .i64 d.f, .int .i64 d.g, .int .i64 d.h], .agg #[.int .i64 xn, .int .i64 xd], .agg #[.int .i64 yn, .int .i64 yd]] w fun e w' => e = .returned (.tuple #[.agg #[.int .i64 p, .int .i64 c], .int .i64 k]) ∧ Bl w w' :=
  (sat_any d xn xd yn yd w e1 e2 e3 sm hD).mono fun _ _ q => ⟨by rw [q.1, h], q.2⟩
theorem smake_eq {n d : Int} (h : okF n d = true) (w : World) : Calls Try.prog 21 #[.int .i64 n, .int .i64 d] w fun e w' => e = .returned (.tuple #[.agg #[.int .i64 n, .int .i64 d], .int .i64 0]) ∧ Bl w w' := by
  have hb := okF_iff.1 h
  exact (smake_any n d w (by omega) (by omega) (by omega)).mono fun _ _ q => ⟨by rw [q.1, full_self h], q.2⟩
theorem sfloor_eq {n d q : Int} (h : okF n d = true) (e : n / d = q) (w : World) : Calls Try.prog 23 #[.agg #[.int .i64 n, .int .i64 d]] w fun e w' => e = .returned (.tuple #[.int .i64 q, .int .i64 0]) ∧ Bl w w' := e ▸ sfloor_of n d w h

set_option maxRecDepth 100000 in
set_option maxHeartbeats 12800000 in
theorem lawDoubleSteps (v0 : Value) (x0 : List Int) (v1 : Value) (x1 : List Int) (w : World) (S0 : SlB w v0 x0) (S1 : SlB w v1 x1) :
    Calls Try.prog 3 #[v0, v1] w fun e w' => e = .returned (.bool true) ∧ Bl w w' := by
  have H0 := Lib.hid S0
  have H1 := Lib.hid S1
  obtain ⟨a0, c0, rfl, _⟩ := S0.form
  obtain ⟨a1, c1, rfl, _⟩ := S1.form
  clear S0 S1
  by_cases hl : 3000 < x0.length ∨ 3000 < x1.length
  · have hL := Lib.hid (decide_eq_true hl)
    clear hl
    go_enter Try.func3, Try.ntmps3
    go_wp2_with fail
    refine (a2long_any H0.out H1.out).mono ?_
    rintro e w9 ⟨rfl, rfl⟩
    rw [hL.out]
    go_wp2
    go_ret
    exact ⟨rfl, bl_refl _⟩
  · have hL := Lib.hid (decide_eq_false hl)
    have hl0 : x0.length ≤ 3000 := by omega
    have hl1 : x1.length ≤ 3000 := by omega
    clear hl
    go_enter Try.func3, Try.ntmps3
    go_wp2_with fail
    refine (a2long_any H0.out H1.out).mono ?_
    rintro e w9 ⟨rfl, rfl⟩
    rw [hL.out]
    go_wp2_with fail
    refine (bytes_at H0.out (by omega) 0 4 (by omega) (by omega)).mono ?_
    rintro e w9 ⟨rop, rfl, loop, hiop, rfl⟩
    obtain ⟨op, hop⟩ : ∃ x, x = 1 + rop := ⟨_, rfl⟩
    have bop : 1 ≤ op ∧ op ≤ 4 := by omega
    have HEop := Lib.hid hop.symm
    clear hop
    go_wp2_with fail
    rw [HEop.out]
    clear loop hiop
    have HOP := Lib.hid (show inB op 1 4 = true from inB_iff.2 bop)
    refine (dfor_any op HOP.out _).mono ?_
    rintro e w1 ⟨rfl, hb1⟩
    have B1 : Bl w w1 := bl_call (bl_refl _) hb1
    go_wp2_with fail
    have B2 : Bl w (w1.alloc (.cells #[.int .i64 (forD op).a, .int .i64 (forD op).b, .int .i64 (forD op).c, .int .i64 (forD op).d, .int .i64 (forD op).e, .int .i64 (forD op).f, .int .i64 (forD op).g, .int .i64 (forD op).h] 26)) := (bl_alloc B1 _)
    have xD_2 : Bx (w1.alloc (.cells #[.int .i64 (forD op).a, .int .i64 (forD op).b, .int .i64 (forD op).c, .int .i64 (forD op).d, .int .i64 (forD op).e, .int .i64 (forD op).f, .int .i64 (forD op).g, .int .i64 (forD op).h] 26)) (w1.heap.size) #[.int .i64 (forD op).a, .int .i64 (forD op).b, .int .i64 (forD op).c, .int .i64 (forD op).d, .int .i64 (forD op).e, .int .i64 (forD op).f, .int .i64 (forD op).g, .int .i64 (forD op).h] := (Bx.new (b := w1.heap.size) _ #[.int .i64 (forD op).a, .int .i64 (forD op).b, .int .i64 (forD op).c, .int .i64 (forD op).d, .int .i64 (forD op).e, .int .i64 (forD op).f, .int .i64 (forD op).g, .int .i64 (forD op).h] 26 (by first | rfl | simp))
    have zz2 : w1.heap.size + 1 ≤ (w1.alloc (.cells #[.int .i64 (forD op).a, .int .i64 (forD op).b, .int .i64 (forD op).c, .int .i64 (forD op).d, .int .i64 (forD op).e, .int .i64 (forD op).f, .int .i64 (forD op).g, .int .i64 (forD op).h] 26)).heap.size := (by simp)
    generalize (w1.alloc (.cells #[.int .i64 (forD op).a, .int .i64 (forD op).b, .int .i64 (forD op).c, .int .i64 (forD op).d, .int .i64 (forD op).e, .int .i64 (forD op).f, .int .i64 (forD op).g, .int .i64 (forD op).h] 26)) = w2 at *
    obtain ⟨cD_2, fD_2, zD_2⟩ := xD_2.out
    refine (opname_any op HOP.out _).mono ?_
    rintro e wn ⟨sn, rfl, hsn, csn, hbn⟩
    have csd : decide (sn = ⟨#[]⟩) = false := decide_eq_false hsn
    have B3 : Bl w wn := bl_call B2 hbn
    have xD_3 := xD_2.below hbn
    clear cD_2 fD_2 zD_2
    obtain ⟨cD_3, fD_3, zD_3⟩ := xD_3.out
    have H1n := Lib.hid (H1.out.below B3)
    go_wp2_with fail
    refine (bytes_at H1n.out (by omega) 0 30 (by omega) (by omega)).mono ?_
    rintro e w9 ⟨rs, rfl, los, his, rfl⟩
    obtain ⟨s, hs⟩ : ∃ x, x = 1 + rs := ⟨_, rfl⟩
    have bs : 1 ≤ s ∧ s ≤ 30 := by omega
    have HEs := Lib.hid hs.symm
    clear hs
    go_wp2_with fail
    rw [HEs.out]
    clear los his
    go_wp2_with fail
    refine (bytes_at H1n.out (by omega) 1 30 (by omega) (by omega)).mono ?_
    rintro e w9 ⟨rt, rfl, lot, hit, rfl⟩
    obtain ⟨t, ht⟩ : ∃ x, x = 1 + rt := ⟨_, rfl⟩
    have bt : 1 ≤ t ∧ t ≤ 30 := by omega
    have HEt := Lib.hid ht.symm
    clear ht
    go_wp2_with fail
    rw [HEt.out]
    clear lot hit
    have hSP := step_of (U := 1) (V := 1) bop bs bt
    have O1 := Lib.hid hSP.o1
    have O2 := Lib.hid hSP.o2
    have O3 := Lib.hid hSP.o3
    clear hSP
    refine (FeedX_any (forD op) s _ O1.out (by omega) O2.out).mono ?_
    rintro e w4 ⟨rfl, hb4⟩
    have B4 : Bl w w4 := bl_call B3 hb4
    have xD_4 : Bx w4 (w1.heap.size) #[.int .i64 (forD op).a, .int .i64 (forD op).b, .int .i64 (forD op).c, .int .i64 (forD op).d, .int .i64 (forD op).e, .int .i64 (forD op).f, .int .i64 (forD op).g, .int .i64 (forD op).h] := xD_3.below hb4
    clear cD_3 fD_3 zD_3
    obtain ⟨cD_4, fD_4, zD_4⟩ := xD_4.out
    go_wp2_with fail
    have B5 : Bl w (w4.alloc (.cells #[.int .i64 (fdX (forD op) s).a, .int .i64 (fdX (forD op) s).b, .int .i64 (fdX (forD op) s).c, .int .i64 (fdX (forD op) s).d, .int .i64 (fdX (forD op) s).e, .int .i64 (fdX (forD op) s).f, .int .i64 (fdX (forD op) s).g, .int .i64 (fdX (forD op) s).h] 26)) := (bl_alloc B4 _)
    have xD_5 : Bx (w4.alloc (.cells #[.int .i64 (fdX (forD op) s).a, .int .i64 (fdX (forD op) s).b, .int .i64 (fdX (forD op) s).c, .int .i64 (fdX (forD op) s).d, .int .i64 (fdX (forD op) s).e, .int .i64 (fdX (forD op) s).f, .int .i64 (fdX (forD op) s).g, .int .i64 (fdX (forD op) s).h] 26)) (w1.heap.size) #[.int .i64 (forD op).a, .int .i64 (forD op).b, .int .i64 (forD op).c, .int .i64 (forD op).d, .int .i64 (forD op).e, .int .i64 (forD op).f, .int .i64 (forD op).g, .int .i64 (forD op).h] := (xD_4.alloc _)
    have xX_5 : Bx (w4.alloc (.cells #[.int .i64 (fdX (forD op) s).a, .int .i64 (fdX (forD op) s).b, .int .i64 (fdX (forD op) s).c, .int .i64 (fdX (forD op) s).d, .int .i64 (fdX (forD op) s).e, .int .i64 (fdX (forD op) s).f, .int .i64 (fdX (forD op) s).g, .int .i64 (fdX (forD op) s).h] 26)) (w4.heap.size) #[.int .i64 (fdX (forD op) s).a, .int .i64 (fdX (forD op) s).b, .int .i64 (fdX (forD op) s).c, .int .i64 (fdX (forD op) s).d, .int .i64 (fdX (forD op) s).e, .int .i64 (fdX (forD op) s).f, .int .i64 (fdX (forD op) s).g, .int .i64 (fdX (forD op) s).h] := (Bx.new (b := w4.heap.size) _ #[.int .i64 (fdX (forD op) s).a, .int .i64 (fdX (forD op) s).b, .int .i64 (fdX (forD op) s).c, .int .i64 (fdX (forD op) s).d, .int .i64 (fdX (forD op) s).e, .int .i64 (fdX (forD op) s).f, .int .i64 (fdX (forD op) s).g, .int .i64 (fdX (forD op) s).h] 26 (by first | rfl | simp))
    have zz5 : w4.heap.size + 1 ≤ (w4.alloc (.cells #[.int .i64 (fdX (forD op) s).a, .int .i64 (fdX (forD op) s).b, .int .i64 (fdX (forD op) s).c, .int .i64 (fdX (forD op) s).d, .int .i64 (fdX (forD op) s).e, .int .i64 (fdX (forD op) s).f, .int .i64 (fdX (forD op) s).g, .int .i64 (fdX (forD op) s).h] 26)).heap.size := (by simp)
    clear cD_4 fD_4 zD_4
    generalize (w4.alloc (.cells #[.int .i64 (fdX (forD op) s).a, .int .i64 (fdX (forD op) s).b, .int .i64 (fdX (forD op) s).c, .int .i64 (fdX (forD op) s).d, .int .i64 (fdX (forD op) s).e, .int .i64 (fdX (forD op) s).f, .int .i64 (fdX (forD op) s).g, .int .i64 (fdX (forD op) s).h] 26)) = w5 at *
    obtain ⟨cD_5, fD_5, zD_5⟩ := xD_5.out
    obtain ⟨cX_5, fX_5, zX_5⟩ := xX_5.out
    refine (FeedY_any (fdX (forD op) s) t _ O2.out (by omega) O3.out).mono ?_
    rintro e w6 ⟨rfl, hb6⟩
    have B6 : Bl w w6 := bl_call B5 hb6
    have xD_6 : Bx w6 (w1.heap.size) #[.int .i64 (forD op).a, .int .i64 (forD op).b, .int .i64 (forD op).c, .int .i64 (forD op).d, .int .i64 (forD op).e, .int .i64 (forD op).f, .int .i64 (forD op).g, .int .i64 (forD op).h] := xD_5.below hb6
    have xX_6 : Bx w6 (w4.heap.size) #[.int .i64 (fdX (forD op) s).a, .int .i64 (fdX (forD op) s).b, .int .i64 (fdX (forD op) s).c, .int .i64 (fdX (forD op) s).d, .int .i64 (fdX (forD op) s).e, .int .i64 (fdX (forD op) s).f, .int .i64 (fdX (forD op) s).g, .int .i64 (fdX (forD op) s).h] := xX_5.below hb6
    clear cD_5 fD_5 zD_5 cX_5 fX_5 zX_5
    obtain ⟨cD_6, fD_6, zD_6⟩ := xD_6.out
    obtain ⟨cX_6, fX_6, zX_6⟩ := xX_6.out
    go_wp2_with fail
    have B7 : Bl w (w6.alloc (.cells #[.int .i64 (fdY (fdX (forD op) s) t).a, .int .i64 (fdY (fdX (forD op) s) t).b, .int .i64 (fdY (fdX (forD op) s) t).c, .int .i64 (fdY (fdX (forD op) s) t).d, .int .i64 (fdY (fdX (forD op) s) t).e, .int .i64 (fdY (fdX (forD op) s) t).f, .int .i64 (fdY (fdX (forD op) s) t).g, .int .i64 (fdY (fdX (forD op) s) t).h] 26)) := (bl_alloc B6 _)
    have xD_7 : Bx (w6.alloc (.cells #[.int .i64 (fdY (fdX (forD op) s) t).a, .int .i64 (fdY (fdX (forD op) s) t).b, .int .i64 (fdY (fdX (forD op) s) t).c, .int .i64 (fdY (fdX (forD op) s) t).d, .int .i64 (fdY (fdX (forD op) s) t).e, .int .i64 (fdY (fdX (forD op) s) t).f, .int .i64 (fdY (fdX (forD op) s) t).g, .int .i64 (fdY (fdX (forD op) s) t).h] 26)) (w1.heap.size) #[.int .i64 (forD op).a, .int .i64 (forD op).b, .int .i64 (forD op).c, .int .i64 (forD op).d, .int .i64 (forD op).e, .int .i64 (forD op).f, .int .i64 (forD op).g, .int .i64 (forD op).h] := (xD_6.alloc _)
    have xX_7 : Bx (w6.alloc (.cells #[.int .i64 (fdY (fdX (forD op) s) t).a, .int .i64 (fdY (fdX (forD op) s) t).b, .int .i64 (fdY (fdX (forD op) s) t).c, .int .i64 (fdY (fdX (forD op) s) t).d, .int .i64 (fdY (fdX (forD op) s) t).e, .int .i64 (fdY (fdX (forD op) s) t).f, .int .i64 (fdY (fdX (forD op) s) t).g, .int .i64 (fdY (fdX (forD op) s) t).h] 26)) (w4.heap.size) #[.int .i64 (fdX (forD op) s).a, .int .i64 (fdX (forD op) s).b, .int .i64 (fdX (forD op) s).c, .int .i64 (fdX (forD op) s).d, .int .i64 (fdX (forD op) s).e, .int .i64 (fdX (forD op) s).f, .int .i64 (fdX (forD op) s).g, .int .i64 (fdX (forD op) s).h] := (xX_6.alloc _)
    have xY_7 : Bx (w6.alloc (.cells #[.int .i64 (fdY (fdX (forD op) s) t).a, .int .i64 (fdY (fdX (forD op) s) t).b, .int .i64 (fdY (fdX (forD op) s) t).c, .int .i64 (fdY (fdX (forD op) s) t).d, .int .i64 (fdY (fdX (forD op) s) t).e, .int .i64 (fdY (fdX (forD op) s) t).f, .int .i64 (fdY (fdX (forD op) s) t).g, .int .i64 (fdY (fdX (forD op) s) t).h] 26)) (w6.heap.size) #[.int .i64 (fdY (fdX (forD op) s) t).a, .int .i64 (fdY (fdX (forD op) s) t).b, .int .i64 (fdY (fdX (forD op) s) t).c, .int .i64 (fdY (fdX (forD op) s) t).d, .int .i64 (fdY (fdX (forD op) s) t).e, .int .i64 (fdY (fdX (forD op) s) t).f, .int .i64 (fdY (fdX (forD op) s) t).g, .int .i64 (fdY (fdX (forD op) s) t).h] := (Bx.new (b := w6.heap.size) _ #[.int .i64 (fdY (fdX (forD op) s) t).a, .int .i64 (fdY (fdX (forD op) s) t).b, .int .i64 (fdY (fdX (forD op) s) t).c, .int .i64 (fdY (fdX (forD op) s) t).d, .int .i64 (fdY (fdX (forD op) s) t).e, .int .i64 (fdY (fdX (forD op) s) t).f, .int .i64 (fdY (fdX (forD op) s) t).g, .int .i64 (fdY (fdX (forD op) s) t).h] 26 (by first | rfl | simp))
    have zz7 : w6.heap.size + 1 ≤ (w6.alloc (.cells #[.int .i64 (fdY (fdX (forD op) s) t).a, .int .i64 (fdY (fdX (forD op) s) t).b, .int .i64 (fdY (fdX (forD op) s) t).c, .int .i64 (fdY (fdX (forD op) s) t).d, .int .i64 (fdY (fdX (forD op) s) t).e, .int .i64 (fdY (fdX (forD op) s) t).f, .int .i64 (fdY (fdX (forD op) s) t).g, .int .i64 (fdY (fdX (forD op) s) t).h] 26)).heap.size := (by simp)
    clear cD_6 fD_6 zD_6 cX_6 fX_6 zX_6
    generalize (w6.alloc (.cells #[.int .i64 (fdY (fdX (forD op) s) t).a, .int .i64 (fdY (fdX (forD op) s) t).b, .int .i64 (fdY (fdX (forD op) s) t).c, .int .i64 (fdY (fdX (forD op) s) t).d, .int .i64 (fdY (fdX (forD op) s) t).e, .int .i64 (fdY (fdX (forD op) s) t).f, .int .i64 (fdY (fdX (forD op) s) t).g, .int .i64 (fdY (fdX (forD op) s) t).h] 26)) = w7 at *
    obtain ⟨cD_7, fD_7, zD_7⟩ := xD_7.out
    obtain ⟨cX_7, fX_7, zX_7⟩ := xX_7.out
    obtain ⟨cY_7, fY_7, zY_7⟩ := xY_7.out
    have H1m := Lib.hid (H1.out.below B7)
    refine (bytes_at H1m.out (by omega) 2 40 (by omega) (by omega)).mono ?_
    rintro e w9 ⟨rU, rfl, loU, hiU, rfl⟩
    obtain ⟨U, hU⟩ : ∃ x, x = 1 + rU := ⟨_, rfl⟩
    have bU : 1 ≤ U ∧ U ≤ 40 := by omega
    have HEU := Lib.hid hU.symm
    clear hU
    go_wp2_with fail
    rw [HEU.out]
    clear loU hiU
    have B8 : Bl w (w7.alloc (.cells #[.int .i64 U, .int .i64 1] 32)) := (bl_alloc B7 _)
    have xD_8 : Bx (w7.alloc (.cells #[.int .i64 U, .int .i64 1] 32)) (w1.heap.size) #[.int .i64 (forD op).a, .int .i64 (forD op).b, .int .i64 (forD op).c, .int .i64 (forD op).d, .int .i64 (forD op).e, .int .i64 (forD op).f, .int .i64 (forD op).g, .int .i64 (forD op).h] := (xD_7.alloc _)
    have xX_8 : Bx (w7.alloc (.cells #[.int .i64 U, .int .i64 1] 32)) (w4.heap.size) #[.int .i64 (fdX (forD op) s).a, .int .i64 (fdX (forD op) s).b, .int .i64 (fdX (forD op) s).c, .int .i64 (fdX (forD op) s).d, .int .i64 (fdX (forD op) s).e, .int .i64 (fdX (forD op) s).f, .int .i64 (fdX (forD op) s).g, .int .i64 (fdX (forD op) s).h] := (xX_7.alloc _)
    have xY_8 : Bx (w7.alloc (.cells #[.int .i64 U, .int .i64 1] 32)) (w6.heap.size) #[.int .i64 (fdY (fdX (forD op) s) t).a, .int .i64 (fdY (fdX (forD op) s) t).b, .int .i64 (fdY (fdX (forD op) s) t).c, .int .i64 (fdY (fdX (forD op) s) t).d, .int .i64 (fdY (fdX (forD op) s) t).e, .int .i64 (fdY (fdX (forD op) s) t).f, .int .i64 (fdY (fdX (forD op) s) t).g, .int .i64 (fdY (fdX (forD op) s) t).h] := (xY_7.alloc _)
    have xFU_8 : Bx (w7.alloc (.cells #[.int .i64 U, .int .i64 1] 32)) (w7.heap.size) #[.int .i64 U, .int .i64 1] := (Bx.new (b := w7.heap.size) _ #[.int .i64 U, .int .i64 1] 32 (by first | rfl | simp))
    have zz8 : w7.heap.size + 1 ≤ (w7.alloc (.cells #[.int .i64 U, .int .i64 1] 32)).heap.size := (by simp)
    clear cD_7 fD_7 zD_7 cX_7 fX_7 zX_7 cY_7 fY_7 zY_7
    generalize (w7.alloc (.cells #[.int .i64 U, .int .i64 1] 32)) = w8 at *
    obtain ⟨cD_8, fD_8, zD_8⟩ := xD_8.out
    obtain ⟨cX_8, fX_8, zX_8⟩ := xX_8.out
    obtain ⟨cY_8, fY_8, zY_8⟩ := xY_8.out
    obtain ⟨cFU_8, fFU_8, zFU_8⟩ := xFU_8.out
    have H1k := Lib.hid (H1.out.below B8)
    refine (bytes_at H1k.out (by omega) 3 40 (by omega) (by omega)).mono ?_
    rintro e w9 ⟨rV, rfl, loV, hiV, rfl⟩
    obtain ⟨V, hV⟩ : ∃ x, x = 1 + rV := ⟨_, rfl⟩
    have bV : 1 ≤ V ∧ V ≤ 40 := by omega
    have HEV := Lib.hid hV.symm
    clear hV
    go_wp2_with fail
    rw [HEV.out]
    clear loV hiV
    have B9 : Bl w (w8.alloc (.cells #[.int .i64 V, .int .i64 1] 32)) := (bl_alloc B8 _)
    have xD_9 : Bx (w8.alloc (.cells #[.int .i64 V, .int .i64 1] 32)) (w1.heap.size) #[.int .i64 (forD op).a, .int .i64 (forD op).b, .int .i64 (forD op).c, .int .i64 (forD op).d, .int .i64 (forD op).e, .int .i64 (forD op).f, .int .i64 (forD op).g, .int .i64 (forD op).h] := (xD_8.alloc _)
    have xX_9 : Bx (w8.alloc (.cells #[.int .i64 V, .int .i64 1] 32)) (w4.heap.size) #[.int .i64 (fdX (forD op) s).a, .int .i64 (fdX (forD op) s).b, .int .i64 (fdX (forD op) s).c, .int .i64 (fdX (forD op) s).d, .int .i64 (fdX (forD op) s).e, .int .i64 (fdX (forD op) s).f, .int .i64 (fdX (forD op) s).g, .int .i64 (fdX (forD op) s).h] := (xX_8.alloc _)
    have xY_9 : Bx (w8.alloc (.cells #[.int .i64 V, .int .i64 1] 32)) (w6.heap.size) #[.int .i64 (fdY (fdX (forD op) s) t).a, .int .i64 (fdY (fdX (forD op) s) t).b, .int .i64 (fdY (fdX (forD op) s) t).c, .int .i64 (fdY (fdX (forD op) s) t).d, .int .i64 (fdY (fdX (forD op) s) t).e, .int .i64 (fdY (fdX (forD op) s) t).f, .int .i64 (fdY (fdX (forD op) s) t).g, .int .i64 (fdY (fdX (forD op) s) t).h] := (xY_8.alloc _)
    have xFU_9 : Bx (w8.alloc (.cells #[.int .i64 V, .int .i64 1] 32)) (w7.heap.size) #[.int .i64 U, .int .i64 1] := (xFU_8.alloc _)
    have xFV_9 : Bx (w8.alloc (.cells #[.int .i64 V, .int .i64 1] 32)) (w8.heap.size) #[.int .i64 V, .int .i64 1] := (Bx.new (b := w8.heap.size) _ #[.int .i64 V, .int .i64 1] 32 (by first | rfl | simp))
    have zz9 : w8.heap.size + 1 ≤ (w8.alloc (.cells #[.int .i64 V, .int .i64 1] 32)).heap.size := (by simp)
    clear cD_8 fD_8 zD_8 cX_8 fX_8 zX_8 cY_8 fY_8 zY_8 cFU_8 fFU_8 zFU_8
    generalize (w8.alloc (.cells #[.int .i64 V, .int .i64 1] 32)) = w9 at *
    obtain ⟨cD_9, fD_9, zD_9⟩ := xD_9.out
    obtain ⟨cX_9, fX_9, zX_9⟩ := xX_9.out
    obtain ⟨cY_9, fY_9, zY_9⟩ := xY_9.out
    obtain ⟨cFU_9, fFU_9, zFU_9⟩ := xFU_9.out
    obtain ⟨cFV_9, fFV_9, zFV_9⟩ := xFV_9.out
    have hSP := step_of (U := U) (V := V) bop bs bt
    obtain ⟨p, c, hQ⟩ := stepq_of bop bs bt bU bV
    have mU := mulS (x := s) (y := U) (X := 30) (Y := 40) (by omega) (by omega)
    have mV := mulS (x := t) (y := V) (X := 30) (Y := 40) (by omega) (by omega)
    have SM1 := Lib.hid (sm_mem hSP.sm2 (x0 := U) (x1 := 1) (x2 := V) (x3 := 1) (by omega) (by omega) (by omega) (by omega))
    have SM2 := Lib.hid (sm_mem hSP.sm1 (x0 := s * U + 1) (x1 := U) (x2 := t * V + 1) (x3 := V) (by omega) (by omega) (by omega) (by omega))
    have HSP := Lib.hid hSP
    have HQ := Lib.hid hQ
    have KU := Lib.hid (ok_int bU)
    have KV := Lib.hid (ok_int bV)
    clear hSP hQ
    refine (sat_eq HQ.out.f1 _ O3.out KU.out KV.out SM1.out HQ.out.n1).mono ?_
    rintro e w10 ⟨rfl, hb10⟩
    have B10 : Bl w w10 := bl_call B9 hb10
    have xD_10 : Bx w10 (w1.heap.size) #[.int .i64 (forD op).a, .int .i64 (forD op).b, .int .i64 (forD op).c, .int .i64 (forD op).d, .int .i64 (forD op).e, .int .i64 (forD op).f, .int .i64 (forD op).g, .int .i64 (forD op).h] := xD_9.below hb10
    have xX_10 : Bx w10 (w4.heap.size) #[.int .i64 (fdX (forD op) s).a, .int .i64 (fdX (forD op) s).b, .int .i64 (fdX (forD op) s).c, .int .i64 (fdX (forD op) s).d, .int .i64 (fdX (forD op) s).e, .int .i64 (fdX (forD op) s).f, .int .i64 (fdX (forD op) s).g, .int .i64 (fdX (forD op) s).h] := xX_9.below hb10
    have xY_10 : Bx w10 (w6.heap.size) #[.int .i64 (fdY (fdX (forD op) s) t).a, .int .i64 (fdY (fdX (forD op) s) t).b, .int .i64 (fdY (fdX (forD op) s) t).c, .int .i64 (fdY (fdX (forD op) s) t).d, .int .i64 (fdY (fdX (forD op) s) t).e, .int .i64 (fdY (fdX (forD op) s) t).f, .int .i64 (fdY (fdX (forD op) s) t).g, .int .i64 (fdY (fdX (forD op) s) t).h] := xY_9.below hb10
    have xFU_10 : Bx w10 (w7.heap.size) #[.int .i64 U, .int .i64 1] := xFU_9.below hb10
    have xFV_10 : Bx w10 (w8.heap.size) #[.int .i64 V, .int .i64 1] := xFV_9.below hb10
    clear cD_9 fD_9 zD_9 cX_9 fX_9 zX_9 cY_9 fY_9 zY_9 cFU_9 fFU_9 zFU_9 cFV_9 fFV_9 zFV_9
    obtain ⟨cD_10, fD_10, zD_10⟩ := xD_10.out
    obtain ⟨cX_10, fX_10, zX_10⟩ := xX_10.out
    obtain ⟨cY_10, fY_10, zY_10⟩ := xY_10.out
    obtain ⟨cFU_10, fFU_10, zFU_10⟩ := xFU_10.out
    obtain ⟨cFV_10, fFV_10, zFV_10⟩ := xFV_10.out
    go_wp2_with fail
    have B11 : Bl w (w10.alloc (.cells #[.int .i64 p, .int .i64 c] 32)) := (bl_alloc B10 _)
    have xD_11 : Bx (w10.alloc (.cells #[.int .i64 p, .int .i64 c] 32)) (w1.heap.size) #[.int .i64 (forD op).a, .int .i64 (forD op).b, .int .i64 (forD op).c, .int .i64 (forD op).d, .int .i64 (forD op).e, .int .i64 (forD op).f, .int .i64 (forD op).g, .int .i64 (forD op).h] := (xD_10.alloc _)
    have xX_11 : Bx (w10.alloc (.cells #[.int .i64 p, .int .i64 c] 32)) (w4.heap.size) #[.int .i64 (fdX (forD op) s).a, .int .i64 (fdX (forD op) s).b, .int .i64 (fdX (forD op) s).c, .int .i64 (fdX (forD op) s).d, .int .i64 (fdX (forD op) s).e, .int .i64 (fdX (forD op) s).f, .int .i64 (fdX (forD op) s).g, .int .i64 (fdX (forD op) s).h] := (xX_10.alloc _)
    have xY_11 : Bx (w10.alloc (.cells #[.int .i64 p, .int .i64 c] 32)) (w6.heap.size) #[.int .i64 (fdY (fdX (forD op) s) t).a, .int .i64 (fdY (fdX (forD op) s) t).b, .int .i64 (fdY (fdX (forD op) s) t).c, .int .i64 (fdY (fdX (forD op) s) t).d, .int .i64 (fdY (fdX (forD op) s) t).e, .int .i64 (fdY (fdX (forD op) s) t).f, .int .i64 (fdY (fdX (forD op) s) t).g, .int .i64 (fdY (fdX (forD op) s) t).h] := (xY_10.alloc _)
    have xFU_11 : Bx (w10.alloc (.cells #[.int .i64 p, .int .i64 c] 32)) (w7.heap.size) #[.int .i64 U, .int .i64 1] := (xFU_10.alloc _)
    have xFV_11 : Bx (w10.alloc (.cells #[.int .i64 p, .int .i64 c] 32)) (w8.heap.size) #[.int .i64 V, .int .i64 1] := (xFV_10.alloc _)
    have xVL_11 : Bx (w10.alloc (.cells #[.int .i64 p, .int .i64 c] 32)) (w10.heap.size) #[.int .i64 p, .int .i64 c] := (Bx.new (b := w10.heap.size) _ #[.int .i64 p, .int .i64 c] 32 (by first | rfl | simp))
    have zz11 : w10.heap.size + 1 ≤ (w10.alloc (.cells #[.int .i64 p, .int .i64 c] 32)).heap.size := (by simp)
    clear cD_10 fD_10 zD_10 cX_10 fX_10 zX_10 cY_10 fY_10 zY_10 cFU_10 fFU_10 zFU_10 cFV_10 fFV_10 zFV_10
    generalize (w10.alloc (.cells #[.int .i64 p, .int .i64 c] 32)) = w11 at *
    obtain ⟨cD_11, fD_11, zD_11⟩ := xD_11.out
    obtain ⟨cX_11, fX_11, zX_11⟩ := xX_11.out
    obtain ⟨cY_11, fY_11, zY_11⟩ := xY_11.out
    obtain ⟨cFU_11, fFU_11, zFU_11⟩ := xFU_11.out
    obtain ⟨cFV_11, fFV_11, zFV_11⟩ := xFV_11.out
    obtain ⟨cVL_11, fVL_11, zVL_11⟩ := xVL_11.out
    refine (smake_eq HQ.out.ok2 _).mono ?_
    rintro e w12 ⟨rfl, hb12⟩
    have B12 : Bl w w12 := bl_call B11 hb12
    have xD_12 : Bx w12 (w1.heap.size) #[.int .i64 (forD op).a, .int .i64 (forD op).b, .int .i64 (forD op).c, .int .i64 (forD op).d, .int .i64 (forD op).e, .int .i64 (forD op).f, .int .i64 (forD op).g, .int .i64 (forD op).h] := xD_11.below hb12
    have xX_12 : Bx w12 (w4.heap.size) #[.int .i64 (fdX (forD op) s).a, .int .i64 (fdX (forD op) s).b, .int .i64 (fdX (forD op) s).c, .int .i64 (fdX (forD op) s).d, .int .i64 (fdX (forD op) s).e, .int .i64 (fdX (forD op) s).f, .int .i64 (fdX (forD op) s).g, .int .i64 (fdX (forD op) s).h] := xX_11.below hb12
    have xY_12 : Bx w12 (w6.heap.size) #[.int .i64 (fdY (fdX (forD op) s) t).a, .int .i64 (fdY (fdX (forD op) s) t).b, .int .i64 (fdY (fdX (forD op) s) t).c, .int .i64 (fdY (fdX (forD op) s) t).d, .int .i64 (fdY (fdX (forD op) s) t).e, .int .i64 (fdY (fdX (forD op) s) t).f, .int .i64 (fdY (fdX (forD op) s) t).g, .int .i64 (fdY (fdX (forD op) s) t).h] := xY_11.below hb12
    have xFU_12 : Bx w12 (w7.heap.size) #[.int .i64 U, .int .i64 1] := xFU_11.below hb12
    have xFV_12 : Bx w12 (w8.heap.size) #[.int .i64 V, .int .i64 1] := xFV_11.below hb12
    have xVL_12 : Bx w12 (w10.heap.size) #[.int .i64 p, .int .i64 c] := xVL_11.below hb12
    clear cD_11 fD_11 zD_11 cX_11 fX_11 zX_11 cY_11 fY_11 zY_11 cFU_11 fFU_11 zFU_11 cFV_11 fFV_11 zFV_11 cVL_11 fVL_11 zVL_11
    obtain ⟨cD_12, fD_12, zD_12⟩ := xD_12.out
    obtain ⟨cX_12, fX_12, zX_12⟩ := xX_12.out
    obtain ⟨cY_12, fY_12, zY_12⟩ := xY_12.out
    obtain ⟨cFU_12, fFU_12, zFU_12⟩ := xFU_12.out
    obtain ⟨cFV_12, fFV_12, zFV_12⟩ := xFV_12.out
    obtain ⟨cVL_12, fVL_12, zVL_12⟩ := xVL_12.out
    go_wp2_with fail
    have B13 : Bl w (w12.alloc (.cells #[.int .i64 (s * U + 1), .int .i64 U] 32)) := (bl_alloc B12 _)
    have xD_13 : Bx (w12.alloc (.cells #[.int .i64 (s * U + 1), .int .i64 U] 32)) (w1.heap.size) #[.int .i64 (forD op).a, .int .i64 (forD op).b, .int .i64 (forD op).c, .int .i64 (forD op).d, .int .i64 (forD op).e, .int .i64 (forD op).f, .int .i64 (forD op).g, .int .i64 (forD op).h] := (xD_12.alloc _)
    have xX_13 : Bx (w12.alloc (.cells #[.int .i64 (s * U + 1), .int .i64 U] 32)) (w4.heap.size) #[.int .i64 (fdX (forD op) s).a, .int .i64 (fdX (forD op) s).b, .int .i64 (fdX (forD op) s).c, .int .i64 (fdX (forD op) s).d, .int .i64 (fdX (forD op) s).e, .int .i64 (fdX (forD op) s).f, .int .i64 (fdX (forD op) s).g, .int .i64 (fdX (forD op) s).h] := (xX_12.alloc _)
    have xY_13 : Bx (w12.alloc (.cells #[.int .i64 (s * U + 1), .int .i64 U] 32)) (w6.heap.size) #[.int .i64 (fdY (fdX (forD op) s) t).a, .int .i64 (fdY (fdX (forD op) s) t).b, .int .i64 (fdY (fdX (forD op) s) t).c, .int .i64 (fdY (fdX (forD op) s) t).d, .int .i64 (fdY (fdX (forD op) s) t).e, .int .i64 (fdY (fdX (forD op) s) t).f, .int .i64 (fdY (fdX (forD op) s) t).g, .int .i64 (fdY (fdX (forD op) s) t).h] := (xY_12.alloc _)
    have xFU_13 : Bx (w12.alloc (.cells #[.int .i64 (s * U + 1), .int .i64 U] 32)) (w7.heap.size) #[.int .i64 U, .int .i64 1] := (xFU_12.alloc _)
    have xFV_13 : Bx (w12.alloc (.cells #[.int .i64 (s * U + 1), .int .i64 U] 32)) (w8.heap.size) #[.int .i64 V, .int .i64 1] := (xFV_12.alloc _)
    have xVL_13 : Bx (w12.alloc (.cells #[.int .i64 (s * U + 1), .int .i64 U] 32)) (w10.heap.size) #[.int .i64 p, .int .i64 c] := (xVL_12.alloc _)
    have xFA_13 : Bx (w12.alloc (.cells #[.int .i64 (s * U + 1), .int .i64 U] 32)) (w12.heap.size) #[.int .i64 (s * U + 1), .int .i64 U] := (Bx.new (b := w12.heap.size) _ #[.int .i64 (s * U + 1), .int .i64 U] 32 (by first | rfl | simp))
    have zz13 : w12.heap.size + 1 ≤ (w12.alloc (.cells #[.int .i64 (s * U + 1), .int .i64 U] 32)).heap.size := (by simp)
    clear cD_12 fD_12 zD_12 cX_12 fX_12 zX_12 cY_12 fY_12 zY_12 cFU_12 fFU_12 zFU_12 cFV_12 fFV_12 zFV_12 cVL_12 fVL_12 zVL_12
    generalize (w12.alloc (.cells #[.int .i64 (s * U + 1), .int .i64 U] 32)) = w13 at *
    obtain ⟨cD_13, fD_13, zD_13⟩ := xD_13.out
    obtain ⟨cX_13, fX_13, zX_13⟩ := xX_13.out
    obtain ⟨cY_13, fY_13, zY_13⟩ := xY_13.out
    obtain ⟨cFU_13, fFU_13, zFU_13⟩ := xFU_13.out
    obtain ⟨cFV_13, fFV_13, zFV_13⟩ := xFV_13.out
    obtain ⟨cVL_13, fVL_13, zVL_13⟩ := xVL_13.out
    obtain ⟨cFA_13, fFA_13, zFA_13⟩ := xFA_13.out
    refine (smake_eq HQ.out.ok3 _).mono ?_
    rintro e w14 ⟨rfl, hb14⟩
    have B14 : Bl w w14 := bl_call B13 hb14
    have xD_14 : Bx w14 (w1.heap.size) #[.int .i64 (forD op).a, .int .i64 (forD op).b, .int .i64 (forD op).c, .int .i64 (forD op).d, .int .i64 (forD op).e, .int .i64 (forD op).f, .int .i64 (forD op).g, .int .i64 (forD op).h] := xD_13.below hb14
    have xX_14 : Bx w14 (w4.heap.size) #[.int .i64 (fdX (forD op) s).a, .int .i64 (fdX (forD op) s).b, .int .i64 (fdX (forD op) s).c, .int .i64 (fdX (forD op) s).d, .int .i64 (fdX (forD op) s).e, .int .i64 (fdX (forD op) s).f, .int .i64 (fdX (forD op) s).g, .int .i64 (fdX (forD op) s).h] := xX_13.below hb14
    have xY_14 : Bx w14 (w6.heap.size) #[.int .i64 (fdY (fdX (forD op) s) t).a, .int .i64 (fdY (fdX (forD op) s) t).b, .int .i64 (fdY (fdX (forD op) s) t).c, .int .i64 (fdY (fdX (forD op) s) t).d, .int .i64 (fdY (fdX (forD op) s) t).e, .int .i64 (fdY (fdX (forD op) s) t).f, .int .i64 (fdY (fdX (forD op) s) t).g, .int .i64 (fdY (fdX (forD op) s) t).h] := xY_13.below hb14
    have xFU_14 : Bx w14 (w7.heap.size) #[.int .i64 U, .int .i64 1] := xFU_13.below hb14
    have xFV_14 : Bx w14 (w8.heap.size) #[.int .i64 V, .int .i64 1] := xFV_13.below hb14
    have xVL_14 : Bx w14 (w10.heap.size) #[.int .i64 p, .int .i64 c] := xVL_13.below hb14
    have xFA_14 : Bx w14 (w12.heap.size) #[.int .i64 (s * U + 1), .int .i64 U] := xFA_13.below hb14
    clear cD_13 fD_13 zD_13 cX_13 fX_13 zX_13 cY_13 fY_13 zY_13 cFU_13 fFU_13 zFU_13 cFV_13 fFV_13 zFV_13 cVL_13 fVL_13 zVL_13 cFA_13 fFA_13 zFA_13
    obtain ⟨cD_14, fD_14, zD_14⟩ := xD_14.out
    obtain ⟨cX_14, fX_14, zX_14⟩ := xX_14.out
    obtain ⟨cY_14, fY_14, zY_14⟩ := xY_14.out
    obtain ⟨cFU_14, fFU_14, zFU_14⟩ := xFU_14.out
    obtain ⟨cFV_14, fFV_14, zFV_14⟩ := xFV_14.out
    obtain ⟨cVL_14, fVL_14, zVL_14⟩ := xVL_14.out
    obtain ⟨cFA_14, fFA_14, zFA_14⟩ := xFA_14.out
    go_wp2_with fail
    have B15 : Bl w (w14.alloc (.cells #[.int .i64 (t * V + 1), .int .i64 V] 32)) := (bl_alloc B14 _)
    have xD_15 : Bx (w14.alloc (.cells #[.int .i64 (t * V + 1), .int .i64 V] 32)) (w1.heap.size) #[.int .i64 (forD op).a, .int .i64 (forD op).b, .int .i64 (forD op).c, .int .i64 (forD op).d, .int .i64 (forD op).e, .int .i64 (forD op).f, .int .i64 (forD op).g, .int .i64 (forD op).h] := (xD_14.alloc _)
    have xX_15 : Bx (w14.alloc (.cells #[.int .i64 (t * V + 1), .int .i64 V] 32)) (w4.heap.size) #[.int .i64 (fdX (forD op) s).a, .int .i64 (fdX (forD op) s).b, .int .i64 (fdX (forD op) s).c, .int .i64 (fdX (forD op) s).d, .int .i64 (fdX (forD op) s).e, .int .i64 (fdX (forD op) s).f, .int .i64 (fdX (forD op) s).g, .int .i64 (fdX (forD op) s).h] := (xX_14.alloc _)
    have xY_15 : Bx (w14.alloc (.cells #[.int .i64 (t * V + 1), .int .i64 V] 32)) (w6.heap.size) #[.int .i64 (fdY (fdX (forD op) s) t).a, .int .i64 (fdY (fdX (forD op) s) t).b, .int .i64 (fdY (fdX (forD op) s) t).c, .int .i64 (fdY (fdX (forD op) s) t).d, .int .i64 (fdY (fdX (forD op) s) t).e, .int .i64 (fdY (fdX (forD op) s) t).f, .int .i64 (fdY (fdX (forD op) s) t).g, .int .i64 (fdY (fdX (forD op) s) t).h] := (xY_14.alloc _)
    have xFU_15 : Bx (w14.alloc (.cells #[.int .i64 (t * V + 1), .int .i64 V] 32)) (w7.heap.size) #[.int .i64 U, .int .i64 1] := (xFU_14.alloc _)
    have xFV_15 : Bx (w14.alloc (.cells #[.int .i64 (t * V + 1), .int .i64 V] 32)) (w8.heap.size) #[.int .i64 V, .int .i64 1] := (xFV_14.alloc _)
    have xVL_15 : Bx (w14.alloc (.cells #[.int .i64 (t * V + 1), .int .i64 V] 32)) (w10.heap.size) #[.int .i64 p, .int .i64 c] := (xVL_14.alloc _)
    have xFA_15 : Bx (w14.alloc (.cells #[.int .i64 (t * V + 1), .int .i64 V] 32)) (w12.heap.size) #[.int .i64 (s * U + 1), .int .i64 U] := (xFA_14.alloc _)
    have xFB_15 : Bx (w14.alloc (.cells #[.int .i64 (t * V + 1), .int .i64 V] 32)) (w14.heap.size) #[.int .i64 (t * V + 1), .int .i64 V] := (Bx.new (b := w14.heap.size) _ #[.int .i64 (t * V + 1), .int .i64 V] 32 (by first | rfl | simp))
    have zz15 : w14.heap.size + 1 ≤ (w14.alloc (.cells #[.int .i64 (t * V + 1), .int .i64 V] 32)).heap.size := (by simp)
    clear cD_14 fD_14 zD_14 cX_14 fX_14 zX_14 cY_14 fY_14 zY_14 cFU_14 fFU_14 zFU_14 cFV_14 fFV_14 zFV_14 cVL_14 fVL_14 zVL_14 cFA_14 fFA_14 zFA_14
    generalize (w14.alloc (.cells #[.int .i64 (t * V + 1), .int .i64 V] 32)) = w15 at *
    obtain ⟨cD_15, fD_15, zD_15⟩ := xD_15.out
    obtain ⟨cX_15, fX_15, zX_15⟩ := xX_15.out
    obtain ⟨cY_15, fY_15, zY_15⟩ := xY_15.out
    obtain ⟨cFU_15, fFU_15, zFU_15⟩ := xFU_15.out
    obtain ⟨cFV_15, fFV_15, zFV_15⟩ := xFV_15.out
    obtain ⟨cVL_15, fVL_15, zVL_15⟩ := xVL_15.out
    obtain ⟨cFA_15, fFA_15, zFA_15⟩ := xFA_15.out
    obtain ⟨cFB_15, fFB_15, zFB_15⟩ := xFB_15.out
    refine (sat_eq HQ.out.f2 _ O1.out HQ.out.ok2 HQ.out.ok3 SM2.out HQ.out.n2).mono ?_
    rintro e w16 ⟨rfl, hb16⟩
    have B16 : Bl w w16 := bl_call B15 hb16
    have xD_16 : Bx w16 (w1.heap.size) #[.int .i64 (forD op).a, .int .i64 (forD op).b, .int .i64 (forD op).c, .int .i64 (forD op).d, .int .i64 (forD op).e, .int .i64 (forD op).f, .int .i64 (forD op).g, .int .i64 (forD op).h] := xD_15.below hb16
    have xX_16 : Bx w16 (w4.heap.size) #[.int .i64 (fdX (forD op) s).a, .int .i64 (fdX (forD op) s).b, .int .i64 (fdX (forD op) s).c, .int .i64 (fdX (forD op) s).d, .int .i64 (fdX (forD op) s).e, .int .i64 (fdX (forD op) s).f, .int .i64 (fdX (forD op) s).g, .int .i64 (fdX (forD op) s).h] := xX_15.below hb16
    have xY_16 : Bx w16 (w6.heap.size) #[.int .i64 (fdY (fdX (forD op) s) t).a, .int .i64 (fdY (fdX (forD op) s) t).b, .int .i64 (fdY (fdX (forD op) s) t).c, .int .i64 (fdY (fdX (forD op) s) t).d, .int .i64 (fdY (fdX (forD op) s) t).e, .int .i64 (fdY (fdX (forD op) s) t).f, .int .i64 (fdY (fdX (forD op) s) t).g, .int .i64 (fdY (fdX (forD op) s) t).h] := xY_15.below hb16
    have xFU_16 : Bx w16 (w7.heap.size) #[.int .i64 U, .int .i64 1] := xFU_15.below hb16
    have xFV_16 : Bx w16 (w8.heap.size) #[.int .i64 V, .int .i64 1] := xFV_15.below hb16
    have xVL_16 : Bx w16 (w10.heap.size) #[.int .i64 p, .int .i64 c] := xVL_15.below hb16
    have xFA_16 : Bx w16 (w12.heap.size) #[.int .i64 (s * U + 1), .int .i64 U] := xFA_15.below hb16
    have xFB_16 : Bx w16 (w14.heap.size) #[.int .i64 (t * V + 1), .int .i64 V] := xFB_15.below hb16
    clear cD_15 fD_15 zD_15 cX_15 fX_15 zX_15 cY_15 fY_15 zY_15 cFU_15 fFU_15 zFU_15 cFV_15 fFV_15 zFV_15 cVL_15 fVL_15 zVL_15 cFA_15 fFA_15 zFA_15 cFB_15 fFB_15 zFB_15
    obtain ⟨cD_16, fD_16, zD_16⟩ := xD_16.out
    obtain ⟨cX_16, fX_16, zX_16⟩ := xX_16.out
    obtain ⟨cY_16, fY_16, zY_16⟩ := xY_16.out
    obtain ⟨cFU_16, fFU_16, zFU_16⟩ := xFU_16.out
    obtain ⟨cFV_16, fFV_16, zFV_16⟩ := xFV_16.out
    obtain ⟨cVL_16, fVL_16, zVL_16⟩ := xVL_16.out
    obtain ⟨cFA_16, fFA_16, zFA_16⟩ := xFA_16.out
    obtain ⟨cFB_16, fFB_16, zFB_16⟩ := xFB_16.out
    go_wp2_with fail
    have B17 : Bl w (w16.alloc (.cells #[.int .i64 p, .int .i64 c] 32)) := (bl_alloc B16 _)
    have xD_17 : Bx (w16.alloc (.cells #[.int .i64 p, .int .i64 c] 32)) (w1.heap.size) #[.int .i64 (forD op).a, .int .i64 (forD op).b, .int .i64 (forD op).c, .int .i64 (forD op).d, .int .i64 (forD op).e, .int .i64 (forD op).f, .int .i64 (forD op).g, .int .i64 (forD op).h] := (xD_16.alloc _)
    have xX_17 : Bx (w16.alloc (.cells #[.int .i64 p, .int .i64 c] 32)) (w4.heap.size) #[.int .i64 (fdX (forD op) s).a, .int .i64 (fdX (forD op) s).b, .int .i64 (fdX (forD op) s).c, .int .i64 (fdX (forD op) s).d, .int .i64 (fdX (forD op) s).e, .int .i64 (fdX (forD op) s).f, .int .i64 (fdX (forD op) s).g, .int .i64 (fdX (forD op) s).h] := (xX_16.alloc _)
    have xY_17 : Bx (w16.alloc (.cells #[.int .i64 p, .int .i64 c] 32)) (w6.heap.size) #[.int .i64 (fdY (fdX (forD op) s) t).a, .int .i64 (fdY (fdX (forD op) s) t).b, .int .i64 (fdY (fdX (forD op) s) t).c, .int .i64 (fdY (fdX (forD op) s) t).d, .int .i64 (fdY (fdX (forD op) s) t).e, .int .i64 (fdY (fdX (forD op) s) t).f, .int .i64 (fdY (fdX (forD op) s) t).g, .int .i64 (fdY (fdX (forD op) s) t).h] := (xY_16.alloc _)
    have xFU_17 : Bx (w16.alloc (.cells #[.int .i64 p, .int .i64 c] 32)) (w7.heap.size) #[.int .i64 U, .int .i64 1] := (xFU_16.alloc _)
    have xFV_17 : Bx (w16.alloc (.cells #[.int .i64 p, .int .i64 c] 32)) (w8.heap.size) #[.int .i64 V, .int .i64 1] := (xFV_16.alloc _)
    have xVL_17 : Bx (w16.alloc (.cells #[.int .i64 p, .int .i64 c] 32)) (w10.heap.size) #[.int .i64 p, .int .i64 c] := (xVL_16.alloc _)
    have xFA_17 : Bx (w16.alloc (.cells #[.int .i64 p, .int .i64 c] 32)) (w12.heap.size) #[.int .i64 (s * U + 1), .int .i64 U] := (xFA_16.alloc _)
    have xFB_17 : Bx (w16.alloc (.cells #[.int .i64 p, .int .i64 c] 32)) (w14.heap.size) #[.int .i64 (t * V + 1), .int .i64 V] := (xFB_16.alloc _)
    have xWN_17 : Bx (w16.alloc (.cells #[.int .i64 p, .int .i64 c] 32)) (w16.heap.size) #[.int .i64 p, .int .i64 c] := (Bx.new (b := w16.heap.size) _ #[.int .i64 p, .int .i64 c] 32 (by first | rfl | simp))
    have zz17 : w16.heap.size + 1 ≤ (w16.alloc (.cells #[.int .i64 p, .int .i64 c] 32)).heap.size := (by simp)
    clear cD_16 fD_16 zD_16 cX_16 fX_16 zX_16 cY_16 fY_16 zY_16 cFU_16 fFU_16 zFU_16 cFV_16 fFV_16 zFV_16 cVL_16 fVL_16 zVL_16 cFA_16 fFA_16 zFA_16 cFB_16 fFB_16 zFB_16
    generalize (w16.alloc (.cells #[.int .i64 p, .int .i64 c] 32)) = w17 at *
    obtain ⟨cD_17, fD_17, zD_17⟩ := xD_17.out
    obtain ⟨cX_17, fX_17, zX_17⟩ := xX_17.out
    obtain ⟨cY_17, fY_17, zY_17⟩ := xY_17.out
    obtain ⟨cFU_17, fFU_17, zFU_17⟩ := xFU_17.out
    obtain ⟨cFV_17, fFV_17, zFV_17⟩ := xFV_17.out
    obtain ⟨cVL_17, fVL_17, zVL_17⟩ := xVL_17.out
    obtain ⟨cFA_17, fFA_17, zFA_17⟩ := xFA_17.out
    obtain ⟨cFB_17, fFB_17, zFB_17⟩ := xFB_17.out
    obtain ⟨cWN_17, fWN_17, zWN_17⟩ := xWN_17.out
    cases hq : knD (fdY (fdX (forD op) s) t) with
    | none =>
      refine (EmitD_none (fdY (fdX (forD op) s) t) _ O3.out hq).mono ?_
      rintro e w18 ⟨rfl, hb18⟩
      have B18 : Bl w w18 := bl_call B17 hb18
      have xD_18 : Bx w18 (w1.heap.size) #[.int .i64 (forD op).a, .int .i64 (forD op).b, .int .i64 (forD op).c, .int .i64 (forD op).d, .int .i64 (forD op).e, .int .i64 (forD op).f, .int .i64 (forD op).g, .int .i64 (forD op).h] := xD_17.below hb18
      have xX_18 : Bx w18 (w4.heap.size) #[.int .i64 (fdX (forD op) s).a, .int .i64 (fdX (forD op) s).b, .int .i64 (fdX (forD op) s).c, .int .i64 (fdX (forD op) s).d, .int .i64 (fdX (forD op) s).e, .int .i64 (fdX (forD op) s).f, .int .i64 (fdX (forD op) s).g, .int .i64 (fdX (forD op) s).h] := xX_17.below hb18
      have xY_18 : Bx w18 (w6.heap.size) #[.int .i64 (fdY (fdX (forD op) s) t).a, .int .i64 (fdY (fdX (forD op) s) t).b, .int .i64 (fdY (fdX (forD op) s) t).c, .int .i64 (fdY (fdX (forD op) s) t).d, .int .i64 (fdY (fdX (forD op) s) t).e, .int .i64 (fdY (fdX (forD op) s) t).f, .int .i64 (fdY (fdX (forD op) s) t).g, .int .i64 (fdY (fdX (forD op) s) t).h] := xY_17.below hb18
      have xFU_18 : Bx w18 (w7.heap.size) #[.int .i64 U, .int .i64 1] := xFU_17.below hb18
      have xFV_18 : Bx w18 (w8.heap.size) #[.int .i64 V, .int .i64 1] := xFV_17.below hb18
      have xVL_18 : Bx w18 (w10.heap.size) #[.int .i64 p, .int .i64 c] := xVL_17.below hb18
      have xFA_18 : Bx w18 (w12.heap.size) #[.int .i64 (s * U + 1), .int .i64 U] := xFA_17.below hb18
      have xFB_18 : Bx w18 (w14.heap.size) #[.int .i64 (t * V + 1), .int .i64 V] := xFB_17.below hb18
      have xWN_18 : Bx w18 (w16.heap.size) #[.int .i64 p, .int .i64 c] := xWN_17.below hb18
      clear cD_17 fD_17 zD_17 cX_17 fX_17 zX_17 cY_17 fY_17 zY_17 cFU_17 fFU_17 zFU_17 cFV_17 fFV_17 zFV_17 cVL_17 fVL_17 zVL_17 cFA_17 fFA_17 zFA_17 cFB_17 fFB_17 zFB_17 cWN_17 fWN_17 zWN_17
      obtain ⟨cD_18, fD_18, zD_18⟩ := xD_18.out
      obtain ⟨cX_18, fX_18, zX_18⟩ := xX_18.out
      obtain ⟨cY_18, fY_18, zY_18⟩ := xY_18.out
      obtain ⟨cFU_18, fFU_18, zFU_18⟩ := xFU_18.out
      obtain ⟨cFV_18, fFV_18, zFV_18⟩ := xFV_18.out
      obtain ⟨cVL_18, fVL_18, zVL_18⟩ := xVL_18.out
      obtain ⟨cFA_18, fFA_18, zFA_18⟩ := xFA_18.out
      obtain ⟨cFB_18, fFB_18, zFB_18⟩ := xFB_18.out
      obtain ⟨cWN_18, fWN_18, zWN_18⟩ := xWN_18.out
      go_wp2
      go_ret
      exact ⟨rfl, bl_alloc B18 _⟩
    | some q =>
      have HKN := Lib.hid (step_kn HSP.out bU.1 bV.1 hq)
      have HFL := Lib.hid (show p / c = q by rw [HQ.out.fl, ← HKN.out.2])
      refine (EmitD_some (fdY (fdX (forD op) s) t) q _ O3.out hq HKN.out.1).mono ?_
      rintro e w18 ⟨rfl, hb18⟩
      have B18 : Bl w w18 := bl_call B17 hb18
      have xD_18 : Bx w18 (w1.heap.size) #[.int .i64 (forD op).a, .int .i64 (forD op).b, .int .i64 (forD op).c, .int .i64 (forD op).d, .int .i64 (forD op).e, .int .i64 (forD op).f, .int .i64 (forD op).g, .int .i64 (forD op).h] := xD_17.below hb18
      have xX_18 : Bx w18 (w4.heap.size) #[.int .i64 (fdX (forD op) s).a, .int .i64 (fdX (forD op) s).b, .int .i64 (fdX (forD op) s).c, .int .i64 (fdX (forD op) s).d, .int .i64 (fdX (forD op) s).e, .int .i64 (fdX (forD op) s).f, .int .i64 (fdX (forD op) s).g, .int .i64 (fdX (forD op) s).h] := xX_17.below hb18
      have xY_18 : Bx w18 (w6.heap.size) #[.int .i64 (fdY (fdX (forD op) s) t).a, .int .i64 (fdY (fdX (forD op) s) t).b, .int .i64 (fdY (fdX (forD op) s) t).c, .int .i64 (fdY (fdX (forD op) s) t).d, .int .i64 (fdY (fdX (forD op) s) t).e, .int .i64 (fdY (fdX (forD op) s) t).f, .int .i64 (fdY (fdX (forD op) s) t).g, .int .i64 (fdY (fdX (forD op) s) t).h] := xY_17.below hb18
      have xFU_18 : Bx w18 (w7.heap.size) #[.int .i64 U, .int .i64 1] := xFU_17.below hb18
      have xFV_18 : Bx w18 (w8.heap.size) #[.int .i64 V, .int .i64 1] := xFV_17.below hb18
      have xVL_18 : Bx w18 (w10.heap.size) #[.int .i64 p, .int .i64 c] := xVL_17.below hb18
      have xFA_18 : Bx w18 (w12.heap.size) #[.int .i64 (s * U + 1), .int .i64 U] := xFA_17.below hb18
      have xFB_18 : Bx w18 (w14.heap.size) #[.int .i64 (t * V + 1), .int .i64 V] := xFB_17.below hb18
      have xWN_18 : Bx w18 (w16.heap.size) #[.int .i64 p, .int .i64 c] := xWN_17.below hb18
      clear cD_17 fD_17 zD_17 cX_17 fX_17 zX_17 cY_17 fY_17 zY_17 cFU_17 fFU_17 zFU_17 cFV_17 fFV_17 zFV_17 cVL_17 fVL_17 zVL_17 cFA_17 fFA_17 zFA_17 cFB_17 fFB_17 zFB_17 cWN_17 fWN_17 zWN_17
      obtain ⟨cD_18, fD_18, zD_18⟩ := xD_18.out
      obtain ⟨cX_18, fX_18, zX_18⟩ := xX_18.out
      obtain ⟨cY_18, fY_18, zY_18⟩ := xY_18.out
      obtain ⟨cFU_18, fFU_18, zFU_18⟩ := xFU_18.out
      obtain ⟨cFV_18, fFV_18, zFV_18⟩ := xFV_18.out
      obtain ⟨cVL_18, fVL_18, zVL_18⟩ := xVL_18.out
      obtain ⟨cFA_18, fFA_18, zFA_18⟩ := xFA_18.out
      obtain ⟨cFB_18, fFB_18, zFB_18⟩ := xFB_18.out
      obtain ⟨cWN_18, fWN_18, zWN_18⟩ := xWN_18.out
      go_wp2_with fail
      have B19 : Bl w (w18.alloc (.cells #[.int .i64 (emD (fdY (fdX (forD op) s) t) q).a, .int .i64 (emD (fdY (fdX (forD op) s) t) q).b, .int .i64 (emD (fdY (fdX (forD op) s) t) q).c, .int .i64 (emD (fdY (fdX (forD op) s) t) q).d, .int .i64 (emD (fdY (fdX (forD op) s) t) q).e, .int .i64 (emD (fdY (fdX (forD op) s) t) q).f, .int .i64 (emD (fdY (fdX (forD op) s) t) q).g, .int .i64 (emD (fdY (fdX (forD op) s) t) q).h] 26)) := (bl_alloc B18 _)
      have xD_19 : Bx (w18.alloc (.cells #[.int .i64 (emD (fdY (fdX (forD op) s) t) q).a, .int .i64 (emD (fdY (fdX (forD op) s) t) q).b, .int .i64 (emD (fdY (fdX (forD op) s) t) q).c, .int .i64 (emD (fdY (fdX (forD op) s) t) q).d, .int .i64 (emD (fdY (fdX (forD op) s) t) q).e, .int .i64 (emD (fdY (fdX (forD op) s) t) q).f, .int .i64 (emD (fdY (fdX (forD op) s) t) q).g, .int .i64 (emD (fdY (fdX (forD op) s) t) q).h] 26)) (w1.heap.size) #[.int .i64 (forD op).a, .int .i64 (forD op).b, .int .i64 (forD op).c, .int .i64 (forD op).d, .int .i64 (forD op).e, .int .i64 (forD op).f, .int .i64 (forD op).g, .int .i64 (forD op).h] := (xD_18.alloc _)
      have xX_19 : Bx (w18.alloc (.cells #[.int .i64 (emD (fdY (fdX (forD op) s) t) q).a, .int .i64 (emD (fdY (fdX (forD op) s) t) q).b, .int .i64 (emD (fdY (fdX (forD op) s) t) q).c, .int .i64 (emD (fdY (fdX (forD op) s) t) q).d, .int .i64 (emD (fdY (fdX (forD op) s) t) q).e, .int .i64 (emD (fdY (fdX (forD op) s) t) q).f, .int .i64 (emD (fdY (fdX (forD op) s) t) q).g, .int .i64 (emD (fdY (fdX (forD op) s) t) q).h] 26)) (w4.heap.size) #[.int .i64 (fdX (forD op) s).a, .int .i64 (fdX (forD op) s).b, .int .i64 (fdX (forD op) s).c, .int .i64 (fdX (forD op) s).d, .int .i64 (fdX (forD op) s).e, .int .i64 (fdX (forD op) s).f, .int .i64 (fdX (forD op) s).g, .int .i64 (fdX (forD op) s).h] := (xX_18.alloc _)
      have xY_19 : Bx (w18.alloc (.cells #[.int .i64 (emD (fdY (fdX (forD op) s) t) q).a, .int .i64 (emD (fdY (fdX (forD op) s) t) q).b, .int .i64 (emD (fdY (fdX (forD op) s) t) q).c, .int .i64 (emD (fdY (fdX (forD op) s) t) q).d, .int .i64 (emD (fdY (fdX (forD op) s) t) q).e, .int .i64 (emD (fdY (fdX (forD op) s) t) q).f, .int .i64 (emD (fdY (fdX (forD op) s) t) q).g, .int .i64 (emD (fdY (fdX (forD op) s) t) q).h] 26)) (w6.heap.size) #[.int .i64 (fdY (fdX (forD op) s) t).a, .int .i64 (fdY (fdX (forD op) s) t).b, .int .i64 (fdY (fdX (forD op) s) t).c, .int .i64 (fdY (fdX (forD op) s) t).d, .int .i64 (fdY (fdX (forD op) s) t).e, .int .i64 (fdY (fdX (forD op) s) t).f, .int .i64 (fdY (fdX (forD op) s) t).g, .int .i64 (fdY (fdX (forD op) s) t).h] := (xY_18.alloc _)
      have xFU_19 : Bx (w18.alloc (.cells #[.int .i64 (emD (fdY (fdX (forD op) s) t) q).a, .int .i64 (emD (fdY (fdX (forD op) s) t) q).b, .int .i64 (emD (fdY (fdX (forD op) s) t) q).c, .int .i64 (emD (fdY (fdX (forD op) s) t) q).d, .int .i64 (emD (fdY (fdX (forD op) s) t) q).e, .int .i64 (emD (fdY (fdX (forD op) s) t) q).f, .int .i64 (emD (fdY (fdX (forD op) s) t) q).g, .int .i64 (emD (fdY (fdX (forD op) s) t) q).h] 26)) (w7.heap.size) #[.int .i64 U, .int .i64 1] := (xFU_18.alloc _)
      have xFV_19 : Bx (w18.alloc (.cells #[.int .i64 (emD (fdY (fdX (forD op) s) t) q).a, .int .i64 (emD (fdY (fdX (forD op) s) t) q).b, .int .i64 (emD (fdY (fdX (forD op) s) t) q).c, .int .i64 (emD (fdY (fdX (forD op) s) t) q).d, .int .i64 (emD (fdY (fdX (forD op) s) t) q).e, .int .i64 (emD (fdY (fdX (forD op) s) t) q).f, .int .i64 (emD (fdY (fdX (forD op) s) t) q).g, .int .i64 (emD (fdY (fdX (forD op) s) t) q).h] 26)) (w8.heap.size) #[.int .i64 V, .int .i64 1] := (xFV_18.alloc _)
      have xVL_19 : Bx (w18.alloc (.cells #[.int .i64 (emD (fdY (fdX (forD op) s) t) q).a, .int .i64 (emD (fdY (fdX (forD op) s) t) q).b, .int .i64 (emD (fdY (fdX (forD op) s) t) q).c, .int .i64 (emD (fdY (fdX (forD op) s) t) q).d, .int .i64 (emD (fdY (fdX (forD op) s) t) q).e, .int .i64 (emD (fdY (fdX (forD op) s) t) q).f, .int .i64 (emD (fdY (fdX (forD op) s) t) q).g, .int .i64 (emD (fdY (fdX (forD op) s) t) q).h] 26)) (w10.heap.size) #[.int .i64 p, .int .i64 c] := (xVL_18.alloc _)
      have xFA_19 : Bx (w18.alloc (.cells #[.int .i64 (emD (fdY (fdX (forD op) s) t) q).a, .int .i64 (emD (fdY (fdX (forD op) s) t) q).b, .int .i64 (emD (fdY (fdX (forD op) s) t) q).c, .int .i64 (emD (fdY (fdX (forD op) s) t) q).d, .int .i64 (emD (fdY (fdX (forD op) s) t) q).e, .int .i64 (emD (fdY (fdX (forD op) s) t) q).f, .int .i64 (emD (fdY (fdX (forD op) s) t) q).g, .int .i64 (emD (fdY (fdX (forD op) s) t) q).h] 26)) (w12.heap.size) #[.int .i64 (s * U + 1), .int .i64 U] := (xFA_18.alloc _)
      have xFB_19 : Bx (w18.alloc (.cells #[.int .i64 (emD (fdY (fdX (forD op) s) t) q).a, .int .i64 (emD (fdY (fdX (forD op) s) t) q).b, .int .i64 (emD (fdY (fdX (forD op) s) t) q).c, .int .i64 (emD (fdY (fdX (forD op) s) t) q).d, .int .i64 (emD (fdY (fdX (forD op) s) t) q).e, .int .i64 (emD (fdY (fdX (forD op) s) t) q).f, .int .i64 (emD (fdY (fdX (forD op) s) t) q).g, .int .i64 (emD (fdY (fdX (forD op) s) t) q).h] 26)) (w14.heap.size) #[.int .i64 (t * V + 1), .int .i64 V] := (xFB_18.alloc _)
      have xWN_19 : Bx (w18.alloc (.cells #[.int .i64 (emD (fdY (fdX (forD op) s) t) q).a, .int .i64 (emD (fdY (fdX (forD op) s) t) q).b, .int .i64 (emD (fdY (fdX (forD op) s) t) q).c, .int .i64 (emD (fdY (fdX (forD op) s) t) q).d, .int .i64 (emD (fdY (fdX (forD op) s) t) q).e, .int .i64 (emD (fdY (fdX (forD op) s) t) q).f, .int .i64 (emD (fdY (fdX (forD op) s) t) q).g, .int .i64 (emD (fdY (fdX (forD op) s) t) q).h] 26)) (w16.heap.size) #[.int .i64 p, .int .i64 c] := (xWN_18.alloc _)
      have xEM_19 : Bx (w18.alloc (.cells #[.int .i64 (emD (fdY (fdX (forD op) s) t) q).a, .int .i64 (emD (fdY (fdX (forD op) s) t) q).b, .int .i64 (emD (fdY (fdX (forD op) s) t) q).c, .int .i64 (emD (fdY (fdX (forD op) s) t) q).d, .int .i64 (emD (fdY (fdX (forD op) s) t) q).e, .int .i64 (emD (fdY (fdX (forD op) s) t) q).f, .int .i64 (emD (fdY (fdX (forD op) s) t) q).g, .int .i64 (emD (fdY (fdX (forD op) s) t) q).h] 26)) (w18.heap.size) #[.int .i64 (emD (fdY (fdX (forD op) s) t) q).a, .int .i64 (emD (fdY (fdX (forD op) s) t) q).b, .int .i64 (emD (fdY (fdX (forD op) s) t) q).c, .int .i64 (emD (fdY (fdX (forD op) s) t) q).d, .int .i64 (emD (fdY (fdX (forD op) s) t) q).e, .int .i64 (emD (fdY (fdX (forD op) s) t) q).f, .int .i64 (emD (fdY (fdX (forD op) s) t) q).g, .int .i64 (emD (fdY (fdX (forD op) s) t) q).h] := (Bx.new (b := w18.heap.size) _ #[.int .i64 (emD (fdY (fdX (forD op) s) t) q).a, .int .i64 (emD (fdY (fdX (forD op) s) t) q).b, .int .i64 (emD (fdY (fdX (forD op) s) t) q).c, .int .i64 (emD (fdY (fdX (forD op) s) t) q).d, .int .i64 (emD (fdY (fdX (forD op) s) t) q).e, .int .i64 (emD (fdY (fdX (forD op) s) t) q).f, .int .i64 (emD (fdY (fdX (forD op) s) t) q).g, .int .i64 (emD (fdY (fdX (forD op) s) t) q).h] 26 (by first | rfl | simp))
      have zz19 : w18.heap.size + 1 ≤ (w18.alloc (.cells #[.int .i64 (emD (fdY (fdX (forD op) s) t) q).a, .int .i64 (emD (fdY (fdX (forD op) s) t) q).b, .int .i64 (emD (fdY (fdX (forD op) s) t) q).c, .int .i64 (emD (fdY (fdX (forD op) s) t) q).d, .int .i64 (emD (fdY (fdX (forD op) s) t) q).e, .int .i64 (emD (fdY (fdX (forD op) s) t) q).f, .int .i64 (emD (fdY (fdX (forD op) s) t) q).g, .int .i64 (emD (fdY (fdX (forD op) s) t) q).h] 26)).heap.size := (by simp)
      clear cD_18 fD_18 zD_18 cX_18 fX_18 zX_18 cY_18 fY_18 zY_18 cFU_18 fFU_18 zFU_18 cFV_18 fFV_18 zFV_18 cVL_18 fVL_18 zVL_18 cFA_18 fFA_18 zFA_18 cFB_18 fFB_18 zFB_18 cWN_18 fWN_18 zWN_18
      generalize (w18.alloc (.cells #[.int .i64 (emD (fdY (fdX (forD op) s) t) q).a, .int .i64 (emD (fdY (fdX (forD op) s) t) q).b, .int .i64 (emD (fdY (fdX (forD op) s) t) q).c, .int .i64 (emD (fdY (fdX (forD op) s) t) q).d, .int .i64 (emD (fdY (fdX (forD op) s) t) q).e, .int .i64 (emD (fdY (fdX (forD op) s) t) q).f, .int .i64 (emD (fdY (fdX (forD op) s) t) q).g, .int .i64 (emD (fdY (fdX (forD op) s) t) q).h] 26)) = w19 at *
      obtain ⟨cD_19, fD_19, zD_19⟩ := xD_19.out
      obtain ⟨cX_19, fX_19, zX_19⟩ := xX_19.out
      obtain ⟨cY_19, fY_19, zY_19⟩ := xY_19.out
      obtain ⟨cFU_19, fFU_19, zFU_19⟩ := xFU_19.out
      obtain ⟨cFV_19, fFV_19, zFV_19⟩ := xFV_19.out
      obtain ⟨cVL_19, fVL_19, zVL_19⟩ := xVL_19.out
      obtain ⟨cFA_19, fFA_19, zFA_19⟩ := xFA_19.out
      obtain ⟨cFB_19, fFB_19, zFB_19⟩ := xFB_19.out
      obtain ⟨cWN_19, fWN_19, zWN_19⟩ := xWN_19.out
      obtain ⟨cEM_19, fEM_19, zEM_19⟩ := xEM_19.out
      refine (sfloor_eq HQ.out.okp HFL.out _).mono ?_
      rintro e w20 ⟨rfl, hb20⟩
      have B20 : Bl w w20 := bl_call B19 hb20
      have xD_20 : Bx w20 (w1.heap.size) #[.int .i64 (forD op).a, .int .i64 (forD op).b, .int .i64 (forD op).c, .int .i64 (forD op).d, .int .i64 (forD op).e, .int .i64 (forD op).f, .int .i64 (forD op).g, .int .i64 (forD op).h] := xD_19.below hb20
      have xX_20 : Bx w20 (w4.heap.size) #[.int .i64 (fdX (forD op) s).a, .int .i64 (fdX (forD op) s).b, .int .i64 (fdX (forD op) s).c, .int .i64 (fdX (forD op) s).d, .int .i64 (fdX (forD op) s).e, .int .i64 (fdX (forD op) s).f, .int .i64 (fdX (forD op) s).g, .int .i64 (fdX (forD op) s).h] := xX_19.below hb20
      have xY_20 : Bx w20 (w6.heap.size) #[.int .i64 (fdY (fdX (forD op) s) t).a, .int .i64 (fdY (fdX (forD op) s) t).b, .int .i64 (fdY (fdX (forD op) s) t).c, .int .i64 (fdY (fdX (forD op) s) t).d, .int .i64 (fdY (fdX (forD op) s) t).e, .int .i64 (fdY (fdX (forD op) s) t).f, .int .i64 (fdY (fdX (forD op) s) t).g, .int .i64 (fdY (fdX (forD op) s) t).h] := xY_19.below hb20
      have xFU_20 : Bx w20 (w7.heap.size) #[.int .i64 U, .int .i64 1] := xFU_19.below hb20
      have xFV_20 : Bx w20 (w8.heap.size) #[.int .i64 V, .int .i64 1] := xFV_19.below hb20
      have xVL_20 : Bx w20 (w10.heap.size) #[.int .i64 p, .int .i64 c] := xVL_19.below hb20
      have xFA_20 : Bx w20 (w12.heap.size) #[.int .i64 (s * U + 1), .int .i64 U] := xFA_19.below hb20
      have xFB_20 : Bx w20 (w14.heap.size) #[.int .i64 (t * V + 1), .int .i64 V] := xFB_19.below hb20
      have xWN_20 : Bx w20 (w16.heap.size) #[.int .i64 p, .int .i64 c] := xWN_19.below hb20
      have xEM_20 : Bx w20 (w18.heap.size) #[.int .i64 (emD (fdY (fdX (forD op) s) t) q).a, .int .i64 (emD (fdY (fdX (forD op) s) t) q).b, .int .i64 (emD (fdY (fdX (forD op) s) t) q).c, .int .i64 (emD (fdY (fdX (forD op) s) t) q).d, .int .i64 (emD (fdY (fdX (forD op) s) t) q).e, .int .i64 (emD (fdY (fdX (forD op) s) t) q).f, .int .i64 (emD (fdY (fdX (forD op) s) t) q).g, .int .i64 (emD (fdY (fdX (forD op) s) t) q).h] := xEM_19.below hb20
      clear cD_19 fD_19 zD_19 cX_19 fX_19 zX_19 cY_19 fY_19 zY_19 cFU_19 fFU_19 zFU_19 cFV_19 fFV_19 zFV_19 cVL_19 fVL_19 zVL_19 cFA_19 fFA_19 zFA_19 cFB_19 fFB_19 zFB_19 cWN_19 fWN_19 zWN_19 cEM_19 fEM_19 zEM_19
      obtain ⟨cD_20, fD_20, zD_20⟩ := xD_20.out
      obtain ⟨cX_20, fX_20, zX_20⟩ := xX_20.out
      obtain ⟨cY_20, fY_20, zY_20⟩ := xY_20.out
      obtain ⟨cFU_20, fFU_20, zFU_20⟩ := xFU_20.out
      obtain ⟨cFV_20, fFV_20, zFV_20⟩ := xFV_20.out
      obtain ⟨cVL_20, fVL_20, zVL_20⟩ := xVL_20.out
      obtain ⟨cFA_20, fFA_20, zFA_20⟩ := xFA_20.out
      obtain ⟨cFB_20, fFB_20, zFB_20⟩ := xFB_20.out
      obtain ⟨cWN_20, fWN_20, zWN_20⟩ := xWN_20.out
      obtain ⟨cEM_20, fEM_20, zEM_20⟩ := xEM_20.out
      cases hS : okS (leX (fdY (fdX (forD op) s) t)) with
      | true =>
        have HS := Lib.hid hS
        clear hS
        go_wp2_with fail
        refine (EndF_yes (fdY (fdX (forD op) s) t) _ O3.out HS.out).mono ?_
        rintro e w21 ⟨rfl, hb21⟩
        have B21 : Bl w w21 := bl_call B20 hb21
        have xD_21 : Bx w21 (w1.heap.size) #[.int .i64 (forD op).a, .int .i64 (forD op).b, .int .i64 (forD op).c, .int .i64 (forD op).d, .int .i64 (forD op).e, .int .i64 (forD op).f, .int .i64 (forD op).g, .int .i64 (forD op).h] := xD_20.below hb21
        have xX_21 : Bx w21 (w4.heap.size) #[.int .i64 (fdX (forD op) s).a, .int .i64 (fdX (forD op) s).b, .int .i64 (fdX (forD op) s).c, .int .i64 (fdX (forD op) s).d, .int .i64 (fdX (forD op) s).e, .int .i64 (fdX (forD op) s).f, .int .i64 (fdX (forD op) s).g, .int .i64 (fdX (forD op) s).h] := xX_20.below hb21
        have xY_21 : Bx w21 (w6.heap.size) #[.int .i64 (fdY (fdX (forD op) s) t).a, .int .i64 (fdY (fdX (forD op) s) t).b, .int .i64 (fdY (fdX (forD op) s) t).c, .int .i64 (fdY (fdX (forD op) s) t).d, .int .i64 (fdY (fdX (forD op) s) t).e, .int .i64 (fdY (fdX (forD op) s) t).f, .int .i64 (fdY (fdX (forD op) s) t).g, .int .i64 (fdY (fdX (forD op) s) t).h] := xY_20.below hb21
        have xFU_21 : Bx w21 (w7.heap.size) #[.int .i64 U, .int .i64 1] := xFU_20.below hb21
        have xFV_21 : Bx w21 (w8.heap.size) #[.int .i64 V, .int .i64 1] := xFV_20.below hb21
        have xVL_21 : Bx w21 (w10.heap.size) #[.int .i64 p, .int .i64 c] := xVL_20.below hb21
        have xFA_21 : Bx w21 (w12.heap.size) #[.int .i64 (s * U + 1), .int .i64 U] := xFA_20.below hb21
        have xFB_21 : Bx w21 (w14.heap.size) #[.int .i64 (t * V + 1), .int .i64 V] := xFB_20.below hb21
        have xWN_21 : Bx w21 (w16.heap.size) #[.int .i64 p, .int .i64 c] := xWN_20.below hb21
        have xEM_21 : Bx w21 (w18.heap.size) #[.int .i64 (emD (fdY (fdX (forD op) s) t) q).a, .int .i64 (emD (fdY (fdX (forD op) s) t) q).b, .int .i64 (emD (fdY (fdX (forD op) s) t) q).c, .int .i64 (emD (fdY (fdX (forD op) s) t) q).d, .int .i64 (emD (fdY (fdX (forD op) s) t) q).e, .int .i64 (emD (fdY (fdX (forD op) s) t) q).f, .int .i64 (emD (fdY (fdX (forD op) s) t) q).g, .int .i64 (emD (fdY (fdX (forD op) s) t) q).h] := xEM_20.below hb21
        clear cD_20 fD_20 zD_20 cX_20 fX_20 zX_20 cY_20 fY_20 zY_20 cFU_20 fFU_20 zFU_20 cFV_20 fFV_20 zFV_20 cVL_20 fVL_20 zVL_20 cFA_20 fFA_20 zFA_20 cFB_20 fFB_20 zFB_20 cWN_20 fWN_20 zWN_20 cEM_20 fEM_20 zEM_20
        obtain ⟨cD_21, fD_21, zD_21⟩ := xD_21.out
        obtain ⟨cX_21, fX_21, zX_21⟩ := xX_21.out
        obtain ⟨cY_21, fY_21, zY_21⟩ := xY_21.out
        obtain ⟨cFU_21, fFU_21, zFU_21⟩ := xFU_21.out
        obtain ⟨cFV_21, fFV_21, zFV_21⟩ := xFV_21.out
        obtain ⟨cVL_21, fVL_21, zVL_21⟩ := xVL_21.out
        obtain ⟨cFA_21, fFA_21, zFA_21⟩ := xFA_21.out
        obtain ⟨cFB_21, fFB_21, zFB_21⟩ := xFB_21.out
        obtain ⟨cWN_21, fWN_21, zWN_21⟩ := xWN_21.out
        obtain ⟨cEM_21, fEM_21, zEM_21⟩ := xEM_21.out
        go_wp2_with fail
        have B22 : Bl w (w21.alloc (.cells #[.int .i64 (leX (fdY (fdX (forD op) s) t)).a, .int .i64 (leX (fdY (fdX (forD op) s) t)).b, .int .i64 (leX (fdY (fdX (forD op) s) t)).c, .int .i64 (leX (fdY (fdX (forD op) s) t)).d] 41)) := (bl_alloc B21 _)
        have xD_22 : Bx (w21.alloc (.cells #[.int .i64 (leX (fdY (fdX (forD op) s) t)).a, .int .i64 (leX (fdY (fdX (forD op) s) t)).b, .int .i64 (leX (fdY (fdX (forD op) s) t)).c, .int .i64 (leX (fdY (fdX (forD op) s) t)).d] 41)) (w1.heap.size) #[.int .i64 (forD op).a, .int .i64 (forD op).b, .int .i64 (forD op).c, .int .i64 (forD op).d, .int .i64 (forD op).e, .int .i64 (forD op).f, .int .i64 (forD op).g, .int .i64 (forD op).h] := (xD_21.alloc _)
        have xX_22 : Bx (w21.alloc (.cells #[.int .i64 (leX (fdY (fdX (forD op) s) t)).a, .int .i64 (leX (fdY (fdX (forD op) s) t)).b, .int .i64 (leX (fdY (fdX (forD op) s) t)).c, .int .i64 (leX (fdY (fdX (forD op) s) t)).d] 41)) (w4.heap.size) #[.int .i64 (fdX (forD op) s).a, .int .i64 (fdX (forD op) s).b, .int .i64 (fdX (forD op) s).c, .int .i64 (fdX (forD op) s).d, .int .i64 (fdX (forD op) s).e, .int .i64 (fdX (forD op) s).f, .int .i64 (fdX (forD op) s).g, .int .i64 (fdX (forD op) s).h] := (xX_21.alloc _)
        have xY_22 : Bx (w21.alloc (.cells #[.int .i64 (leX (fdY (fdX (forD op) s) t)).a, .int .i64 (leX (fdY (fdX (forD op) s) t)).b, .int .i64 (leX (fdY (fdX (forD op) s) t)).c, .int .i64 (leX (fdY (fdX (forD op) s) t)).d] 41)) (w6.heap.size) #[.int .i64 (fdY (fdX (forD op) s) t).a, .int .i64 (fdY (fdX (forD op) s) t).b, .int .i64 (fdY (fdX (forD op) s) t).c, .int .i64 (fdY (fdX (forD op) s) t).d, .int .i64 (fdY (fdX (forD op) s) t).e, .int .i64 (fdY (fdX (forD op) s) t).f, .int .i64 (fdY (fdX (forD op) s) t).g, .int .i64 (fdY (fdX (forD op) s) t).h] := (xY_21.alloc _)
        have xFU_22 : Bx (w21.alloc (.cells #[.int .i64 (leX (fdY (fdX (forD op) s) t)).a, .int .i64 (leX (fdY (fdX (forD op) s) t)).b, .int .i64 (leX (fdY (fdX (forD op) s) t)).c, .int .i64 (leX (fdY (fdX (forD op) s) t)).d] 41)) (w7.heap.size) #[.int .i64 U, .int .i64 1] := (xFU_21.alloc _)
        have xFV_22 : Bx (w21.alloc (.cells #[.int .i64 (leX (fdY (fdX (forD op) s) t)).a, .int .i64 (leX (fdY (fdX (forD op) s) t)).b, .int .i64 (leX (fdY (fdX (forD op) s) t)).c, .int .i64 (leX (fdY (fdX (forD op) s) t)).d] 41)) (w8.heap.size) #[.int .i64 V, .int .i64 1] := (xFV_21.alloc _)
        have xVL_22 : Bx (w21.alloc (.cells #[.int .i64 (leX (fdY (fdX (forD op) s) t)).a, .int .i64 (leX (fdY (fdX (forD op) s) t)).b, .int .i64 (leX (fdY (fdX (forD op) s) t)).c, .int .i64 (leX (fdY (fdX (forD op) s) t)).d] 41)) (w10.heap.size) #[.int .i64 p, .int .i64 c] := (xVL_21.alloc _)
        have xFA_22 : Bx (w21.alloc (.cells #[.int .i64 (leX (fdY (fdX (forD op) s) t)).a, .int .i64 (leX (fdY (fdX (forD op) s) t)).b, .int .i64 (leX (fdY (fdX (forD op) s) t)).c, .int .i64 (leX (fdY (fdX (forD op) s) t)).d] 41)) (w12.heap.size) #[.int .i64 (s * U + 1), .int .i64 U] := (xFA_21.alloc _)
        have xFB_22 : Bx (w21.alloc (.cells #[.int .i64 (leX (fdY (fdX (forD op) s) t)).a, .int .i64 (leX (fdY (fdX (forD op) s) t)).b, .int .i64 (leX (fdY (fdX (forD op) s) t)).c, .int .i64 (leX (fdY (fdX (forD op) s) t)).d] 41)) (w14.heap.size) #[.int .i64 (t * V + 1), .int .i64 V] := (xFB_21.alloc _)
        have xWN_22 : Bx (w21.alloc (.cells #[.int .i64 (leX (fdY (fdX (forD op) s) t)).a, .int .i64 (leX (fdY (fdX (forD op) s) t)).b, .int .i64 (leX (fdY (fdX (forD op) s) t)).c, .int .i64 (leX (fdY (fdX (forD op) s) t)).d] 41)) (w16.heap.size) #[.int .i64 p, .int .i64 c] := (xWN_21.alloc _)
        have xEM_22 : Bx (w21.alloc (.cells #[.int .i64 (leX (fdY (fdX (forD op) s) t)).a, .int .i64 (leX (fdY (fdX (forD op) s) t)).b, .int .i64 (leX (fdY (fdX (forD op) s) t)).c, .int .i64 (leX (fdY (fdX (forD op) s) t)).d] 41)) (w18.heap.size) #[.int .i64 (emD (fdY (fdX (forD op) s) t) q).a, .int .i64 (emD (fdY (fdX (forD op) s) t) q).b, .int .i64 (emD (fdY (fdX (forD op) s) t) q).c, .int .i64 (emD (fdY (fdX (forD op) s) t) q).d, .int .i64 (emD (fdY (fdX (forD op) s) t) q).e, .int .i64 (emD (fdY (fdX (forD op) s) t) q).f, .int .i64 (emD (fdY (fdX (forD op) s) t) q).g, .int .i64 (emD (fdY (fdX (forD op) s) t) q).h] := (xEM_21.alloc _)
        have xLE_22 : Bx (w21.alloc (.cells #[.int .i64 (leX (fdY (fdX (forD op) s) t)).a, .int .i64 (leX (fdY (fdX (forD op) s) t)).b, .int .i64 (leX (fdY (fdX (forD op) s) t)).c, .int .i64 (leX (fdY (fdX (forD op) s) t)).d] 41)) (w21.heap.size) #[.int .i64 (leX (fdY (fdX (forD op) s) t)).a, .int .i64 (leX (fdY (fdX (forD op) s) t)).b, .int .i64 (leX (fdY (fdX (forD op) s) t)).c, .int .i64 (leX (fdY (fdX (forD op) s) t)).d] := (Bx.new (b := w21.heap.size) _ #[.int .i64 (leX (fdY (fdX (forD op) s) t)).a, .int .i64 (leX (fdY (fdX (forD op) s) t)).b, .int .i64 (leX (fdY (fdX (forD op) s) t)).c, .int .i64 (leX (fdY (fdX (forD op) s) t)).d] 41 (by first | rfl | simp))
        have zz22 : w21.heap.size + 1 ≤ (w21.alloc (.cells #[.int .i64 (leX (fdY (fdX (forD op) s) t)).a, .int .i64 (leX (fdY (fdX (forD op) s) t)).b, .int .i64 (leX (fdY (fdX (forD op) s) t)).c, .int .i64 (leX (fdY (fdX (forD op) s) t)).d] 41)).heap.size := (by simp)
        clear cD_21 fD_21 zD_21 cX_21 fX_21 zX_21 cY_21 fY_21 zY_21 cFU_21 fFU_21 zFU_21 cFV_21 fFV_21 zFV_21 cVL_21 fVL_21 zVL_21 cFA_21 fFA_21 zFA_21 cFB_21 fFB_21 zFB_21 cWN_21 fWN_21 zWN_21 cEM_21 fEM_21 zEM_21
        generalize (w21.alloc (.cells #[.int .i64 (leX (fdY (fdX (forD op) s) t)).a, .int .i64 (leX (fdY (fdX (forD op) s) t)).b, .int .i64 (leX (fdY (fdX (forD op) s) t)).c, .int .i64 (leX (fdY (fdX (forD op) s) t)).d] 41)) = w22 at *
        obtain ⟨cD_22, fD_22, zD_22⟩ := xD_22.out
        obtain ⟨cX_22, fX_22, zX_22⟩ := xX_22.out
        obtain ⟨cY_22, fY_22, zY_22⟩ := xY_22.out
        obtain ⟨cFU_22, fFU_22, zFU_22⟩ := xFU_22.out
        obtain ⟨cFV_22, fFV_22, zFV_22⟩ := xFV_22.out
        obtain ⟨cVL_22, fVL_22, zVL_22⟩ := xVL_22.out
        obtain ⟨cFA_22, fFA_22, zFA_22⟩ := xFA_22.out
        obtain ⟨cFB_22, fFB_22, zFB_22⟩ := xFB_22.out
        obtain ⟨cWN_22, fWN_22, zWN_22⟩ := xWN_22.out
        obtain ⟨cEM_22, fEM_22, zEM_22⟩ := xEM_22.out
        obtain ⟨cLE_22, fLE_22, zLE_22⟩ := xLE_22.out
        refine (svS_any HS.out _).mono ?_
        rintro e w23 ⟨rfl, hb23⟩
        have B23 : Bl w w23 := bl_call B22 hb23
        have xD_23 : Bx w23 (w1.heap.size) #[.int .i64 (forD op).a, .int .i64 (forD op).b, .int .i64 (forD op).c, .int .i64 (forD op).d, .int .i64 (forD op).e, .int .i64 (forD op).f, .int .i64 (forD op).g, .int .i64 (forD op).h] := xD_22.below hb23
        have xX_23 : Bx w23 (w4.heap.size) #[.int .i64 (fdX (forD op) s).a, .int .i64 (fdX (forD op) s).b, .int .i64 (fdX (forD op) s).c, .int .i64 (fdX (forD op) s).d, .int .i64 (fdX (forD op) s).e, .int .i64 (fdX (forD op) s).f, .int .i64 (fdX (forD op) s).g, .int .i64 (fdX (forD op) s).h] := xX_22.below hb23
        have xY_23 : Bx w23 (w6.heap.size) #[.int .i64 (fdY (fdX (forD op) s) t).a, .int .i64 (fdY (fdX (forD op) s) t).b, .int .i64 (fdY (fdX (forD op) s) t).c, .int .i64 (fdY (fdX (forD op) s) t).d, .int .i64 (fdY (fdX (forD op) s) t).e, .int .i64 (fdY (fdX (forD op) s) t).f, .int .i64 (fdY (fdX (forD op) s) t).g, .int .i64 (fdY (fdX (forD op) s) t).h] := xY_22.below hb23
        have xFU_23 : Bx w23 (w7.heap.size) #[.int .i64 U, .int .i64 1] := xFU_22.below hb23
        have xFV_23 : Bx w23 (w8.heap.size) #[.int .i64 V, .int .i64 1] := xFV_22.below hb23
        have xVL_23 : Bx w23 (w10.heap.size) #[.int .i64 p, .int .i64 c] := xVL_22.below hb23
        have xFA_23 : Bx w23 (w12.heap.size) #[.int .i64 (s * U + 1), .int .i64 U] := xFA_22.below hb23
        have xFB_23 : Bx w23 (w14.heap.size) #[.int .i64 (t * V + 1), .int .i64 V] := xFB_22.below hb23
        have xWN_23 : Bx w23 (w16.heap.size) #[.int .i64 p, .int .i64 c] := xWN_22.below hb23
        have xEM_23 : Bx w23 (w18.heap.size) #[.int .i64 (emD (fdY (fdX (forD op) s) t) q).a, .int .i64 (emD (fdY (fdX (forD op) s) t) q).b, .int .i64 (emD (fdY (fdX (forD op) s) t) q).c, .int .i64 (emD (fdY (fdX (forD op) s) t) q).d, .int .i64 (emD (fdY (fdX (forD op) s) t) q).e, .int .i64 (emD (fdY (fdX (forD op) s) t) q).f, .int .i64 (emD (fdY (fdX (forD op) s) t) q).g, .int .i64 (emD (fdY (fdX (forD op) s) t) q).h] := xEM_22.below hb23
        have xLE_23 : Bx w23 (w21.heap.size) #[.int .i64 (leX (fdY (fdX (forD op) s) t)).a, .int .i64 (leX (fdY (fdX (forD op) s) t)).b, .int .i64 (leX (fdY (fdX (forD op) s) t)).c, .int .i64 (leX (fdY (fdX (forD op) s) t)).d] := xLE_22.below hb23
        clear cD_22 fD_22 zD_22 cX_22 fX_22 zX_22 cY_22 fY_22 zY_22 cFU_22 fFU_22 zFU_22 cFV_22 fFV_22 zFV_22 cVL_22 fVL_22 zVL_22 cFA_22 fFA_22 zFA_22 cFB_22 fFB_22 zFB_22 cWN_22 fWN_22 zWN_22 cEM_22 fEM_22 zEM_22 cLE_22 fLE_22 zLE_22
        obtain ⟨cD_23, fD_23, zD_23⟩ := xD_23.out
        obtain ⟨cX_23, fX_23, zX_23⟩ := xX_23.out
        obtain ⟨cY_23, fY_23, zY_23⟩ := xY_23.out
        obtain ⟨cFU_23, fFU_23, zFU_23⟩ := xFU_23.out
        obtain ⟨cFV_23, fFV_23, zFV_23⟩ := xFV_23.out
        obtain ⟨cVL_23, fVL_23, zVL_23⟩ := xVL_23.out
        obtain ⟨cFA_23, fFA_23, zFA_23⟩ := xFA_23.out
        obtain ⟨cFB_23, fFB_23, zFB_23⟩ := xFB_23.out
        obtain ⟨cWN_23, fWN_23, zWN_23⟩ := xWN_23.out
        obtain ⟨cEM_23, fEM_23, zEM_23⟩ := xEM_23.out
        obtain ⟨cLE_23, fLE_23, zLE_23⟩ := xLE_23.out
        go_wp2
        go_ret
        exact ⟨rfl, B23⟩
      | false =>
        have HS := Lib.hid hS
        clear hS
        go_wp2_with fail
        refine (EndF_no (fdY (fdX (forD op) s) t) _ O3.out HS.out).mono ?_
        rintro e w21 ⟨rfl, hb21⟩
        have B21 : Bl w w21 := bl_call B20 hb21
        have xD_21 : Bx w21 (w1.heap.size) #[.int .i64 (forD op).a, .int .i64 (forD op).b, .int .i64 (forD op).c, .int .i64 (forD op).d, .int .i64 (forD op).e, .int .i64 (forD op).f, .int .i64 (forD op).g, .int .i64 (forD op).h] := xD_20.below hb21
        have xX_21 : Bx w21 (w4.heap.size) #[.int .i64 (fdX (forD op) s).a, .int .i64 (fdX (forD op) s).b, .int .i64 (fdX (forD op) s).c, .int .i64 (fdX (forD op) s).d, .int .i64 (fdX (forD op) s).e, .int .i64 (fdX (forD op) s).f, .int .i64 (fdX (forD op) s).g, .int .i64 (fdX (forD op) s).h] := xX_20.below hb21
        have xY_21 : Bx w21 (w6.heap.size) #[.int .i64 (fdY (fdX (forD op) s) t).a, .int .i64 (fdY (fdX (forD op) s) t).b, .int .i64 (fdY (fdX (forD op) s) t).c, .int .i64 (fdY (fdX (forD op) s) t).d, .int .i64 (fdY (fdX (forD op) s) t).e, .int .i64 (fdY (fdX (forD op) s) t).f, .int .i64 (fdY (fdX (forD op) s) t).g, .int .i64 (fdY (fdX (forD op) s) t).h] := xY_20.below hb21
        have xFU_21 : Bx w21 (w7.heap.size) #[.int .i64 U, .int .i64 1] := xFU_20.below hb21
        have xFV_21 : Bx w21 (w8.heap.size) #[.int .i64 V, .int .i64 1] := xFV_20.below hb21
        have xVL_21 : Bx w21 (w10.heap.size) #[.int .i64 p, .int .i64 c] := xVL_20.below hb21
        have xFA_21 : Bx w21 (w12.heap.size) #[.int .i64 (s * U + 1), .int .i64 U] := xFA_20.below hb21
        have xFB_21 : Bx w21 (w14.heap.size) #[.int .i64 (t * V + 1), .int .i64 V] := xFB_20.below hb21
        have xWN_21 : Bx w21 (w16.heap.size) #[.int .i64 p, .int .i64 c] := xWN_20.below hb21
        have xEM_21 : Bx w21 (w18.heap.size) #[.int .i64 (emD (fdY (fdX (forD op) s) t) q).a, .int .i64 (emD (fdY (fdX (forD op) s) t) q).b, .int .i64 (emD (fdY (fdX (forD op) s) t) q).c, .int .i64 (emD (fdY (fdX (forD op) s) t) q).d, .int .i64 (emD (fdY (fdX (forD op) s) t) q).e, .int .i64 (emD (fdY (fdX (forD op) s) t) q).f, .int .i64 (emD (fdY (fdX (forD op) s) t) q).g, .int .i64 (emD (fdY (fdX (forD op) s) t) q).h] := xEM_20.below hb21
        clear cD_20 fD_20 zD_20 cX_20 fX_20 zX_20 cY_20 fY_20 zY_20 cFU_20 fFU_20 zFU_20 cFV_20 fFV_20 zFV_20 cVL_20 fVL_20 zVL_20 cFA_20 fFA_20 zFA_20 cFB_20 fFB_20 zFB_20 cWN_20 fWN_20 zWN_20 cEM_20 fEM_20 zEM_20
        obtain ⟨cD_21, fD_21, zD_21⟩ := xD_21.out
        obtain ⟨cX_21, fX_21, zX_21⟩ := xX_21.out
        obtain ⟨cY_21, fY_21, zY_21⟩ := xY_21.out
        obtain ⟨cFU_21, fFU_21, zFU_21⟩ := xFU_21.out
        obtain ⟨cFV_21, fFV_21, zFV_21⟩ := xFV_21.out
        obtain ⟨cVL_21, fVL_21, zVL_21⟩ := xVL_21.out
        obtain ⟨cFA_21, fFA_21, zFA_21⟩ := xFA_21.out
        obtain ⟨cFB_21, fFB_21, zFB_21⟩ := xFB_21.out
        obtain ⟨cWN_21, fWN_21, zWN_21⟩ := xWN_21.out
        obtain ⟨cEM_21, fEM_21, zEM_21⟩ := xEM_21.out
        go_wp2
        go_ret
        exact ⟨rfl, bl_alloc B21 _⟩

set_option maxRecDepth 100000 in
theorem fnDoubleSteps_lifted (os : Os) (started : os.Started) (H : Type) (enc : TypeId × Value → H) :
    ReturnsInHanded {} Try.checked os 3 .any (Rows.fnDoubleStepsSpec.pre6 enc Try.prog Try.f3 Rows.fnDoubleStepsRow.domain false) (Rows.fnDoubleStepsSpec.post enc Try.prog Try.f3 false true false false) := by
  refine returnsInHanded_of_change (C := Try.checked) own started (by kernel_rfl) Try.func3
    (ChangeSpec.witness6 (enc := enc) (C := Try.checked) false ⟨#[], #[.slice none 0 0, .slice none 0 0], []⟩ 8 (by kernel_rfl) (by kernel_rfl) (by kernel_rfl) (by kernel_rfl)) ?_
  intro W base args ds gs before hval0 hW hcnd _
  have hval : ∀ (j : Nat) t v, Try.f3.params[j]? = some t → args[j]? = some v → Value.okWide Try.prog W .any base t v := hval0
  have hW' := hW
  obtain ⟨p, q, hA0, hV, rfl, hfz, hnd⟩ := hW
  have hA : DataW.TrodAll enc Try.prog W 0 (fun _ => true) true Try.f3.params.toList args.toList ds p := hA0
  rw [Try.params3] at hA hval
  obtain ⟨v0, vs0, d0, ds0, p0, q0, hargs, rfl, rfl, h0, r0⟩ := trodAll_cons hA
  obtain ⟨v1, vs1, d1, ds1, p1, q1, rfl, rfl, rfl, h1, r1⟩ := trodAll_cons r0
  obtain ⟨rfl, rfl, rfl⟩ := trodAll_nil r1
  obtain rfl : args = #[v0, v1] := by cases args; simp_all
  obtain ⟨rfl, rfl⟩ := trodVars_none hV
  have k0 := h0
  have lt0 : ∀ x ∈ p0, x.block < W.heap.size := by obtain ⟨m, hm⟩ := k0; exact DataW.trod_lt m _ _ _ hm
  have k1 := h1
  have lt1 : ∀ x ∈ p1, x.block < W.heap.size := by obtain ⟨m, hm⟩ := k1; exact DataW.trod_lt m _ _ _ hm
  obtain ⟨x0, S0⟩ := bytes_of_trod (hval 0 22 v0 rfl rfl) h0
  obtain ⟨x1, S1⟩ := bytes_of_trod (hval 1 22 v1 rfl rfl) h1
  clear hA0 hval0
  refine (lawDoubleSteps v0 x0 v1 x1 W S0 S1).mono fun e W' ⟨he, bel⟩ => ?_
  subst he
  exact ⟨_, rfl, _, _, _, [], _, [], hW', trodAll_mk1 (shut_bool Try.underlying4 _), (trodAll_cons_mk (Below.trod laidOut (by kernel_rfl) (of_decide_eq_true (by kernel_rfl)) k0 bel lt0) (trodAll_cons_mk (Below.trod laidOut (by kernel_rfl) (of_decide_eq_true (by kernel_rfl)) k1 bel lt1) trodAll_mk0)), rfl, bel.frame _, fun h => by cases h⟩

/-- THE STATEMENT. -/
theorem fnDoubleSteps_holds : Rows.FnDoubleStepsSaid :=
  OpenClaim.holds_of_wide 3 Try.f3 rfl rfl rfl rfl rfl rfl rfl ⟨rfl, rfl, rfl, rfl, rfl⟩ rfl rfl rfl rfl rfl (by kernel_rfl) Try.func3 (by kernel_rfl)
    (of_decide_eq_true (by kernel_rfl)) (by unfold Func.isWrapper; first | (rw [if_pos (by decide +kernel)]; kernel_rfl) | (rw [if_neg (by decide +kernel)]; exact ⟨rfl, rfl⟩))
    (fun os started H enc _ => fnDoubleSteps_lifted os started H enc)
#print axioms fnDoubleSteps_holds

end Go.Proofs.Ytbncinbngmfamaa
