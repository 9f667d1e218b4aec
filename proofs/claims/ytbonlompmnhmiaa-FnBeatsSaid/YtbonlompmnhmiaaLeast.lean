/- LeastDenominator: the program and the reference give the same. No condition. -/
import Derived.Test.YtbonlompmnhmiaaLeastW
namespace Go.Proofs.Ytbonlompmnhmiaa
open Go.RowKit
set_option linter.unusedVariables false
set_option linter.unusedSimpArgs false

theorem withinE {n lo hi : Int} {b : Bool} (h : inB n lo hi = b) (w : World) : Calls Try.prog 57 #[.int .i64 n, .int .i64 lo, .int .i64 hi] w fun e w' => e = .returned (.bool b) ∧ w = w' := h ▸ within_any n lo hi w
def leastC (n d num den : Int) : Int := bestC (inB num 0 1000000 && inB den 1 1000000) [(n, d)]
noncomputable def leastF (n d num den : Int) : (Int × Int) × Int := if leastC n d num den = 0 then (((nearF n d (leastQ n d num den)).1, leastQ n d num den), 0) else ((0, 0), leastC n d num den)
structure Lst (n d num den : Int) : Prop where
  n1 : -1000000 ≤ n
  n2 : n ≤ 1000000
  d1 : 1 ≤ d
  d2 : d ≤ 1000000
  u1 : 0 ≤ num
  u2 : num ≤ 1000000
  e1 : 1 ≤ den
  e2 : den ≤ 1000000
  o : okF n d = true
theorem leastC_zero {n d num den : Int} (h : leastC n d num den = 0) : inB num 0 1000000 = true ∧ inB den 1 1000000 = true ∧ Lst n d num den := by
  obtain ⟨h0, h1, h2⟩ := bestC_zero h
  have q := h1 (n, d) (by simp)
  have o1 := okP_bd (h1 (n, d) (by simp)); have s1 := smP_bd (h2 (n, d) (by simp))
  simp only [Bool.and_eq_true] at h0
  have i := inB_iff.1 h0.1
  have j := inB_iff.1 h0.2
  exact ⟨h0.1, h0.2, by omega, by omega, by omega, by omega, i.1, i.2, j.1, j.2, q⟩
theorem near_bd {n d : Int} (hd : 0 < d) (q : Int) : 0 ≤ (nearF n d q).2.1 ∧ (nearF n d q).2.1 ≤ d := by
  have a := near_least (n := n) hd q (n * q / d)
  have b := near_dist (n := n) hd q
  have c := rest_bd (k := n * q) (d := d) hd
  have e : ab (n * q - n * q / d * d) ≤ d := ab_le (by omega)
  omega
theorem leastQ_le {n d num den q : Int} (hd : 1 ≤ d) (hn : 0 ≤ num * d * q) (hq : q = d) : (nearF n d q).2.1 * den ≤ num * d * q := by
  subst hq
  rw [near_own (by omega)]
  omega
theorem nearest_bd {n d m : Int} (ok : okF n d = true) (h1 : 1 ≤ m) (hm : m ≤ d) (hn : -1000000 ≤ n ∧ n ≤ 1000000) : (1 ≤ (nearestF n d m).2 ∧ (nearestF n d m).2 ≤ m) ∧ -1000001 ≤ (nearestF n d m).1 ∧ (nearestF n d m).1 ≤ 1000001 := by
  have hok := okF_bd ok
  obtain ⟨g1, g2, g3⟩ := nearest_min ok h1
  generalize nearestF n d m = f at *
  obtain ⟨u, q⟩ := f
  simp only [] at *
  refine ⟨⟨g1, g2⟩, ?_⟩
  have k := g3 (n * q / d) q g1 g2
  have k' := Int.le_of_mul_le_mul_right k (by omega)
  have c := rest_bd (k := n * q) (d := d) (by omega)
  have e : ab (n * q - n * q / d * d) ≤ d := ab_le (by omega)
  have e1 : offF n d u q ≤ d := by omega
  have e2 : -d ≤ n * q - u * d ∧ n * q - u * d ≤ d := by unfold offF ab at e1; omega
  have p := Int.mul_le_mul_of_nonneg_right hn.2 (show 0 ≤ q by omega)
  have p' := Int.mul_le_mul_of_nonneg_right hn.1 (show 0 ≤ q by omega)
  constructor
  · rcases Int.lt_or_le u (-1000001) with h | h
    · have := Int.mul_le_mul_of_nonneg_right (show u ≤ -1000002 by omega) (show 0 ≤ d by omega)
      omega
    · exact h
  · rcases Int.lt_or_le 1000001 u with h | h
    · have := Int.mul_le_mul_of_nonneg_right (show 1000002 ≤ u by omega) (show 0 ≤ d by omega)
      omega
    · exact h
theorem snearest_eq {n d m u q : Int} (h : nearestF n d m = (u, q)) (w : World) (hok : okF n d = true) (hn : -1000000 ≤ n ∧ n ≤ 1000000) (hd : d ≤ 1000000) (hm : 1 ≤ m) :
    Calls Try.prog 69 #[.agg #[.int .i64 n, .int .i64 d], .int .i64 m] w fun r w' => r = .returned (.agg #[.int .i64 u, .int .i64 q]) ∧ Bl w w' := by
  have := snearest_any n d m w hok hn hd hm
  rw [h] at this
  exact this
set_option maxRecDepth 100000 in
set_option maxHeartbeats 3200000 in
theorem impl_Least_no (n d num den : Int) (w : World) (hc : leastC n d num den ≠ 0) :
    Calls Try.prog 27 #[.agg #[.int .i64 n, .int .i64 d], .int .i64 num, .int .i64 den] w fun r w' => r = .returned (.tuple #[.agg #[.int .i64 (leastF n d num den).1.1, .int .i64 (leastF n d num den).1.2], .int .i64 (leastF n d num den).2]) ∧ Bl w w' := by
  cases e1 : inB num 0 1000000 with
  | false =>
    have HR := Lib.hid (show leastF n d num den = ((0, 0), leastC n d num den) by rw [leastF, if_neg hc])
    have hl : leastC n d num den = bestC false [(n, d)] := by simp [leastC, e1]
    rw [hl] at HR hc
    have hb : (bestC false [(n, d)] != 0) = true := by simp [hc]
    have E1 := Lib.hid e1
    clear hc hl e1
    generalize hcc : bestC false [(n, d)] = cc at *
    have HC := Lib.hid hcc
    clear hcc
    go_enter Try.func27, Try.ntmps27
    go_wp2_with fail
    have B1 : Bl w ((w.alloc (.cells #[.int .i64 (n), .int .i64 (d)] 26)).alloc (.cells #[.int .i64 (0), .int .i64 (0)] 26)) := (bl_alloc (bl_alloc (bl_refl _) _) _)
    have xF_1 : Bx ((w.alloc (.cells #[.int .i64 (n), .int .i64 (d)] 26)).alloc (.cells #[.int .i64 (0), .int .i64 (0)] 26)) (w.heap.size) #[.int .i64 (n), .int .i64 (d)] := ((Bx.new (b := w.heap.size) _ #[.int .i64 (n), .int .i64 (d)] 26 (by first | rfl | simp)).alloc _)
    have xR_1 : Bx ((w.alloc (.cells #[.int .i64 (n), .int .i64 (d)] 26)).alloc (.cells #[.int .i64 (0), .int .i64 (0)] 26)) (w.heap.size + 1) #[.int .i64 (0), .int .i64 (0)] := (Bx.new (b := w.heap.size + 1) _ #[.int .i64 (0), .int .i64 (0)] 26 (by first | rfl | simp))
    have zz1 : w.heap.size + 2 ≤ ((w.alloc (.cells #[.int .i64 (n), .int .i64 (d)] 26)).alloc (.cells #[.int .i64 (0), .int .i64 (0)] 26)).heap.size := (by simp)
    generalize ((w.alloc (.cells #[.int .i64 (n), .int .i64 (d)] 26)).alloc (.cells #[.int .i64 (0), .int .i64 (0)] 26)) = w1 at *
    obtain ⟨cF_1, fF_1, zF_1⟩ := xF_1.out
    obtain ⟨cR_1, fR_1, zR_1⟩ := xR_1.out
    go_cut [8] (fun s8 wx => s8 = .int .i64 cc ∧ Bl w1 wx)
    case first =>
      (first | go_region_with
        (first | (go_at_call_of 57 (Value.int IntKind.i64 num); go_must (refine (withinE E1.out _).mono ?_; rintro _ _ ⟨rfl, rfl⟩)) | (go_at_call 66; go_must (refine (checkBest_eq HC.out _ (SlF.lit (fs := [(n, d)]) (cs := #[.int .i64 (n), .int .i64 (d)]) (by first | exact (Bx.new (b := w1.heap.size) _ #[.int .i64 (n), .int .i64 (d)] 26 (by first | rfl | simp)).drew | exact (Bx.new (b := w1.heap.size) _ #[.int .i64 (n), .int .i64 (d)] 26 (by first | rfl | simp))) rfl (Nat.le_refl _) (by simp [maxLen]) (lit1 n d))).mono ?_; rintro e wk ⟨rfl, hbk⟩; have Bk : Bl w1 wk := (by first | exact bl_call (bl_drew (bl_alloc (bl_refl _) _)) hbk | exact bl_call (bl_alloc (bl_drew (bl_refl _)) _) hbk); obtain ⟨cy, fy, zy⟩ := (xF_1.below Bk).out))) | fail)
      all_goals (go_wp2_with fail; all_goals go_meet; all_goals exact ⟨rfl, Bk⟩)
    case rest =>
      obtain ⟨rfl, hj⟩ := hcut
      obtain ⟨w2, rfl⟩ : ∃ x : World, x = wc := ⟨_, rfl⟩
      have B2 : Bl w w2 := bl_call B1 hj
      have xF_2 : Bx w2 (w.heap.size) #[.int .i64 (n), .int .i64 (d)] := xF_1.below hj
      have xR_2 : Bx w2 (w.heap.size + 1) #[.int .i64 (0), .int .i64 (0)] := xR_1.below hj
      clear cF_1 fF_1 zF_1 cR_1 fR_1 zR_1
      obtain ⟨cF_2, fF_2, zF_2⟩ := xF_2.out
      obtain ⟨cR_2, fR_2, zR_2⟩ := xR_2.out
      go_wp2
      refine bodyPost_ret (v := .tuple #[.agg #[.int .i64 0, .int .i64 0], .int .i64 cc]) (by simp only [results, Try.results27]; go_simp) rfl ?_
      refine ⟨ret_fi2 HR.out, ?_⟩
      repeat first | (with_reducible exact B2) | (with_reducible refine bl_alloc ?_ _) | (with_reducible refine bl_drew ?_) | (with_reducible refine bl_set ?_ (by first | exact Nat.le_refl _ | (simp; done) | (simp; omega)) _)
  | true =>
    cases e2 : inB den 1 1000000 with
    | false =>
      have HR := Lib.hid (show leastF n d num den = ((0, 0), leastC n d num den) by rw [leastF, if_neg hc])
      have hl : leastC n d num den = bestC false [(n, d)] := by simp [leastC, e1, e2]
      rw [hl] at HR hc
      have hb : (bestC false [(n, d)] != 0) = true := by simp [hc]
      have E1 := Lib.hid e1
      have E2 := Lib.hid e2
      clear hc hl e1 e2
      generalize hcc : bestC false [(n, d)] = cc at *
      have HC := Lib.hid hcc
      clear hcc
      go_enter Try.func27, Try.ntmps27
      go_wp2_with fail
      have B1 : Bl w ((w.alloc (.cells #[.int .i64 (n), .int .i64 (d)] 26)).alloc (.cells #[.int .i64 (0), .int .i64 (0)] 26)) := (bl_alloc (bl_alloc (bl_refl _) _) _)
      have xF_1 : Bx ((w.alloc (.cells #[.int .i64 (n), .int .i64 (d)] 26)).alloc (.cells #[.int .i64 (0), .int .i64 (0)] 26)) (w.heap.size) #[.int .i64 (n), .int .i64 (d)] := ((Bx.new (b := w.heap.size) _ #[.int .i64 (n), .int .i64 (d)] 26 (by first | rfl | simp)).alloc _)
      have xR_1 : Bx ((w.alloc (.cells #[.int .i64 (n), .int .i64 (d)] 26)).alloc (.cells #[.int .i64 (0), .int .i64 (0)] 26)) (w.heap.size + 1) #[.int .i64 (0), .int .i64 (0)] := (Bx.new (b := w.heap.size + 1) _ #[.int .i64 (0), .int .i64 (0)] 26 (by first | rfl | simp))
      have zz1 : w.heap.size + 2 ≤ ((w.alloc (.cells #[.int .i64 (n), .int .i64 (d)] 26)).alloc (.cells #[.int .i64 (0), .int .i64 (0)] 26)).heap.size := (by simp)
      generalize ((w.alloc (.cells #[.int .i64 (n), .int .i64 (d)] 26)).alloc (.cells #[.int .i64 (0), .int .i64 (0)] 26)) = w1 at *
      obtain ⟨cF_1, fF_1, zF_1⟩ := xF_1.out
      obtain ⟨cR_1, fR_1, zR_1⟩ := xR_1.out
      go_cut [8] (fun s8 wx => s8 = .int .i64 cc ∧ Bl w1 wx)
      case first =>
        (first | go_region_held3 (fun w' => w'.cell? ⟨w.heap.size, 0, none⟩ = some (.int .i64 (n)) ∧ w'.cell? ⟨w.heap.size, 1, none⟩ = some (.int .i64 (d))) (first | (simp [*]; done) | (go_simp; done) | go_keep)
          (first | (go_at_call_of 57 (Value.int IntKind.i64 num); go_must (refine (withinE E1.out _).mono ?_; rintro _ _ ⟨rfl, rfl⟩)) | (go_at_call_of 57 (Value.int IntKind.i64 den); go_must (refine (withinE E2.out _).mono ?_; rintro _ _ ⟨rfl, rfl⟩)) | (go_at_call 66; go_must (refine (checkBest_eq HC.out _ (SlF.lit (fs := [(n, d)]) (cs := #[.int .i64 (n), .int .i64 (d)]) (by first | exact (Bx.new (b := w1.heap.size) _ #[.int .i64 (n), .int .i64 (d)] 26 (by first | rfl | simp)).drew | exact (Bx.new (b := w1.heap.size) _ #[.int .i64 (n), .int .i64 (d)] 26 (by first | rfl | simp))) rfl (Nat.le_refl _) (by simp [maxLen]) (lit1 n d))).mono ?_; rintro e wk ⟨rfl, hbk⟩; have Bk : Bl w1 wk := (by first | exact bl_call (bl_drew (bl_alloc (bl_refl _) _)) hbk | exact bl_call (bl_alloc (bl_drew (bl_refl _)) _) hbk); obtain ⟨cy, fy, zy⟩ := (xF_1.below Bk).out))) | fail)
        all_goals (go_wp2_with fail; all_goals go_meet; all_goals exact ⟨rfl, Bk⟩)
      case rest =>
        obtain ⟨rfl, hj⟩ := hcut
        obtain ⟨w2, rfl⟩ : ∃ x : World, x = wc := ⟨_, rfl⟩
        have B2 : Bl w w2 := bl_call B1 hj
        have xF_2 : Bx w2 (w.heap.size) #[.int .i64 (n), .int .i64 (d)] := xF_1.below hj
        have xR_2 : Bx w2 (w.heap.size + 1) #[.int .i64 (0), .int .i64 (0)] := xR_1.below hj
        clear cF_1 fF_1 zF_1 cR_1 fR_1 zR_1
        obtain ⟨cF_2, fF_2, zF_2⟩ := xF_2.out
        obtain ⟨cR_2, fR_2, zR_2⟩ := xR_2.out
        go_wp2
        refine bodyPost_ret (v := .tuple #[.agg #[.int .i64 0, .int .i64 0], .int .i64 cc]) (by simp only [results, Try.results27]; go_simp) rfl ?_
        refine ⟨ret_fi2 HR.out, ?_⟩
        repeat first | (with_reducible exact B2) | (with_reducible refine bl_alloc ?_ _) | (with_reducible refine bl_drew ?_) | (with_reducible refine bl_set ?_ (by first | exact Nat.le_refl _ | (simp; done) | (simp; omega)) _)
    | true =>
      have HR := Lib.hid (show leastF n d num den = ((0, 0), leastC n d num den) by rw [leastF, if_neg hc])
      have hl : leastC n d num den = bestC true [(n, d)] := by simp [leastC, e1, e2]
      rw [hl] at HR hc
      have hb : (bestC true [(n, d)] != 0) = true := by simp [hc]
      have E1 := Lib.hid e1
      have E2 := Lib.hid e2
      clear hc hl e1 e2
      generalize hcc : bestC true [(n, d)] = cc at *
      have HC := Lib.hid hcc
      clear hcc
      go_enter Try.func27, Try.ntmps27
      go_wp2_with fail
      have B1 : Bl w ((w.alloc (.cells #[.int .i64 (n), .int .i64 (d)] 26)).alloc (.cells #[.int .i64 (0), .int .i64 (0)] 26)) := (bl_alloc (bl_alloc (bl_refl _) _) _)
      have xF_1 : Bx ((w.alloc (.cells #[.int .i64 (n), .int .i64 (d)] 26)).alloc (.cells #[.int .i64 (0), .int .i64 (0)] 26)) (w.heap.size) #[.int .i64 (n), .int .i64 (d)] := ((Bx.new (b := w.heap.size) _ #[.int .i64 (n), .int .i64 (d)] 26 (by first | rfl | simp)).alloc _)
      have xR_1 : Bx ((w.alloc (.cells #[.int .i64 (n), .int .i64 (d)] 26)).alloc (.cells #[.int .i64 (0), .int .i64 (0)] 26)) (w.heap.size + 1) #[.int .i64 (0), .int .i64 (0)] := (Bx.new (b := w.heap.size + 1) _ #[.int .i64 (0), .int .i64 (0)] 26 (by first | rfl | simp))
      have zz1 : w.heap.size + 2 ≤ ((w.alloc (.cells #[.int .i64 (n), .int .i64 (d)] 26)).alloc (.cells #[.int .i64 (0), .int .i64 (0)] 26)).heap.size := (by simp)
      generalize ((w.alloc (.cells #[.int .i64 (n), .int .i64 (d)] 26)).alloc (.cells #[.int .i64 (0), .int .i64 (0)] 26)) = w1 at *
      obtain ⟨cF_1, fF_1, zF_1⟩ := xF_1.out
      obtain ⟨cR_1, fR_1, zR_1⟩ := xR_1.out
      go_cut [8] (fun s8 wx => s8 = .int .i64 cc ∧ Bl w1 wx)
      case first =>
        (first | go_region_held3 (fun w' => w'.cell? ⟨w.heap.size, 0, none⟩ = some (.int .i64 (n)) ∧ w'.cell? ⟨w.heap.size, 1, none⟩ = some (.int .i64 (d))) (first | (simp [*]; done) | (go_simp; done) | go_keep)
          (first | (go_at_call_of 57 (Value.int IntKind.i64 num); go_must (refine (withinE E1.out _).mono ?_; rintro _ _ ⟨rfl, rfl⟩)) | (go_at_call_of 57 (Value.int IntKind.i64 den); go_must (refine (withinE E2.out _).mono ?_; rintro _ _ ⟨rfl, rfl⟩)) | (go_at_call 66; go_must (refine (checkBest_eq HC.out _ (SlF.lit (fs := [(n, d)]) (cs := #[.int .i64 (n), .int .i64 (d)]) (by first | exact (Bx.new (b := w1.heap.size) _ #[.int .i64 (n), .int .i64 (d)] 26 (by first | rfl | simp)).drew | exact (Bx.new (b := w1.heap.size) _ #[.int .i64 (n), .int .i64 (d)] 26 (by first | rfl | simp))) rfl (Nat.le_refl _) (by simp [maxLen]) (lit1 n d))).mono ?_; rintro e wk ⟨rfl, hbk⟩; have Bk : Bl w1 wk := (by first | exact bl_call (bl_drew (bl_alloc (bl_refl _) _)) hbk | exact bl_call (bl_alloc (bl_drew (bl_refl _)) _) hbk); obtain ⟨cy, fy, zy⟩ := (xF_1.below Bk).out))) | fail)
        all_goals (go_wp2_with fail; all_goals go_meet; all_goals exact ⟨rfl, Bk⟩)
      case rest =>
        obtain ⟨rfl, hj⟩ := hcut
        obtain ⟨w2, rfl⟩ : ∃ x : World, x = wc := ⟨_, rfl⟩
        have B2 : Bl w w2 := bl_call B1 hj
        have xF_2 : Bx w2 (w.heap.size) #[.int .i64 (n), .int .i64 (d)] := xF_1.below hj
        have xR_2 : Bx w2 (w.heap.size + 1) #[.int .i64 (0), .int .i64 (0)] := xR_1.below hj
        clear cF_1 fF_1 zF_1 cR_1 fR_1 zR_1
        obtain ⟨cF_2, fF_2, zF_2⟩ := xF_2.out
        obtain ⟨cR_2, fR_2, zR_2⟩ := xR_2.out
        go_wp2
        refine bodyPost_ret (v := .tuple #[.agg #[.int .i64 0, .int .i64 0], .int .i64 cc]) (by simp only [results, Try.results27]; go_simp) rfl ?_
        refine ⟨ret_fi2 HR.out, ?_⟩
        repeat first | (with_reducible exact B2) | (with_reducible refine bl_alloc ?_ _) | (with_reducible refine bl_drew ?_) | (with_reducible refine bl_set ?_ (by first | exact Nat.le_refl _ | (simp; done) | (simp; omega)) _)

set_option maxRecDepth 100000 in
set_option maxHeartbeats 3200000 in
theorem impl_Least_yes (n d num den : Int) (w : World) (hc : leastC n d num den = 0) :
    Calls Try.prog 27 #[.agg #[.int .i64 n, .int .i64 d], .int .i64 num, .int .i64 den] w fun r w' => r = .returned (.tuple #[.agg #[.int .i64 (leastF n d num den).1.1, .int .i64 (leastF n d num den).1.2], .int .i64 (leastF n d num den).2]) ∧ Bl w w' := by
  have HR := Lib.hid (show leastF n d num den = (((nearF n d (leastQ n d num den)).1, leastQ n d num den), 0) by rw [leastF, if_pos hc])
  obtain ⟨e1, e2, L⟩ := leastC_zero hc
  have HL := Lib.hid L
  obtain ⟨n1, n2, d1, d2, u1, u2, t1, t2, _⟩ := L
  have hl : leastC n d num den = bestC true [(n, d)] := by simp [leastC, e1, e2]
  rw [hl] at hc
  have hb : (bestC true [(n, d)] != 0) = false := by simp [hc]
  have E1 := Lib.hid e1
  have E2 := Lib.hid e2
  clear hc hl e1 e2
  generalize hcc : bestC true [(n, d)] = cc at *
  have HC := Lib.hid hcc
  clear hcc
  have p1 := mul_bd (show -1000000 ≤ num by omega) u2 (show 0 ≤ d by omega) d2
  have W3 : IntKind.i64.wrap (num * d) = num * d := IntWalk.i64_in _ (by omega)
  have p0 := Int.mul_nonneg u1 (show 0 ≤ d by omega)
  go_enter Try.func27, Try.ntmps27
  go_wp2_with fail
  have B1 : Bl w ((w.alloc (.cells #[.int .i64 (n), .int .i64 (d)] 26)).alloc (.cells #[.int .i64 (0), .int .i64 (0)] 26)) := (bl_alloc (bl_alloc (bl_refl _) _) _)
  have xF_1 : Bx ((w.alloc (.cells #[.int .i64 (n), .int .i64 (d)] 26)).alloc (.cells #[.int .i64 (0), .int .i64 (0)] 26)) (w.heap.size) #[.int .i64 (n), .int .i64 (d)] := ((Bx.new (b := w.heap.size) _ #[.int .i64 (n), .int .i64 (d)] 26 (by first | rfl | simp)).alloc _)
  have xR_1 : Bx ((w.alloc (.cells #[.int .i64 (n), .int .i64 (d)] 26)).alloc (.cells #[.int .i64 (0), .int .i64 (0)] 26)) (w.heap.size + 1) #[.int .i64 (0), .int .i64 (0)] := (Bx.new (b := w.heap.size + 1) _ #[.int .i64 (0), .int .i64 (0)] 26 (by first | rfl | simp))
  have zz1 : w.heap.size + 2 ≤ ((w.alloc (.cells #[.int .i64 (n), .int .i64 (d)] 26)).alloc (.cells #[.int .i64 (0), .int .i64 (0)] 26)).heap.size := (by simp)
  generalize ((w.alloc (.cells #[.int .i64 (n), .int .i64 (d)] 26)).alloc (.cells #[.int .i64 (0), .int .i64 (0)] 26)) = w1 at *
  obtain ⟨cF_1, fF_1, zF_1⟩ := xF_1.out
  obtain ⟨cR_1, fR_1, zR_1⟩ := xR_1.out
  go_cut [8] (fun s8 wx => s8 = .int .i64 cc ∧ Bl w1 wx)
  case first =>
    (first | go_region_held3 (fun w' => w'.cell? ⟨w.heap.size, 0, none⟩ = some (.int .i64 (n)) ∧ w'.cell? ⟨w.heap.size, 1, none⟩ = some (.int .i64 (d))) (first | (simp [*]; done) | (go_simp; done) | go_keep)
      (first | (go_at_call_of 57 (Value.int IntKind.i64 num); go_must (refine (withinE E1.out _).mono ?_; rintro _ _ ⟨rfl, rfl⟩)) | (go_at_call_of 57 (Value.int IntKind.i64 den); go_must (refine (withinE E2.out _).mono ?_; rintro _ _ ⟨rfl, rfl⟩)) | (go_at_call 66; go_must (refine (checkBest_eq HC.out _ (SlF.lit (fs := [(n, d)]) (cs := #[.int .i64 (n), .int .i64 (d)]) (by first | exact (Bx.new (b := w1.heap.size) _ #[.int .i64 (n), .int .i64 (d)] 26 (by first | rfl | simp)).drew | exact (Bx.new (b := w1.heap.size) _ #[.int .i64 (n), .int .i64 (d)] 26 (by first | rfl | simp))) rfl (Nat.le_refl _) (by simp [maxLen]) (lit1 n d))).mono ?_; rintro e wk ⟨rfl, hbk⟩; have Bk : Bl w1 wk := (by first | exact bl_call (bl_drew (bl_alloc (bl_refl _) _)) hbk | exact bl_call (bl_alloc (bl_drew (bl_refl _)) _) hbk); obtain ⟨cy, fy, zy⟩ := (xF_1.below Bk).out))) | fail)
    all_goals (go_wp2_with fail; all_goals go_meet; all_goals exact ⟨rfl, Bk⟩)
  case rest =>
    obtain ⟨rfl, hj⟩ := hcut
    obtain ⟨w2, rfl⟩ : ∃ x : World, x = wc := ⟨_, rfl⟩
    have B2 : Bl w w2 := bl_call B1 hj
    have xF_2 : Bx w2 (w.heap.size) #[.int .i64 (n), .int .i64 (d)] := xF_1.below hj
    have xR_2 : Bx w2 (w.heap.size + 1) #[.int .i64 (0), .int .i64 (0)] := xR_1.below hj
    clear cF_1 fF_1 zF_1 cR_1 fR_1 zR_1
    obtain ⟨cF_2, fF_2, zF_2⟩ := xF_2.out
    obtain ⟨cR_2, fR_2, zR_2⟩ := xR_2.out
    go_wp2_with fail
    go_loopg [9, 10, 11, 12] (d - 1).toNat (fun k s9 s10 s11 s12 wr => ∃ q, s9 = .int .i64 q ∧ Hid (∀ q', 1 ≤ q' → q' < q → num * d * q' < (nearF n d q').2.1 * den) ∧ 1 ≤ q ∧ q ≤ d ∧ ((k : Int) = d - q) ∧ Bx wr (w.heap.size) #[.int .i64 (n), .int .i64 (d)] ∧ Bx wr (w.heap.size + 1) #[.int .i64 (0), .int .i64 (0)] ∧ Bl w wr)
    case atStart =>
      refine ⟨1, rfl, Lib.hid (fun q h1 h2 => absurd h1 (by omega)), by omega, by omega, by omega, xF_2, xR_2, B2⟩
    case round =>
      rcases hrel with ⟨q, rfl, hall, hq1, hq2, hk, yF, yR, Br⟩
      clear cF_2 fF_2 zF_2 cR_2 fR_2 zR_2
      obtain ⟨cF, fF, zF⟩ := yF.out
      obtain ⟨cR, fR, zR⟩ := yR.out
      have nb := near_bd (n := n) (show 0 < d by omega) q
      have hown := leastQ_le (n := n) (d := d) (num := num) (den := den) (q := q) d1 (Int.mul_nonneg p0 (by omega))
      obtain ⟨⟨P, R, O⟩, hnf⟩ : ∃ z, z = nearF n d q := ⟨_, rfl⟩
      have HN := Lib.hid hnf.symm
      rw [← hnf] at nb hown
      clear hnf
      simp only [] at nb hown
      have p2 := mul_bd (show -1000000 ≤ R by omega) (show R ≤ 1000000 by omega) (show 0 ≤ den by omega) t2
      have p3 := mul_bd p1.1 p1.2 (show 0 ≤ q by omega) (show q ≤ 1000000 by omega)
      have W1 : IntKind.i64.wrap (R * den) = R * den := IntWalk.i64_in _ (by omega)
      have W2 : IntKind.i64.wrap (num * d * q) = num * d * q := IntWalk.i64_in _ (by omega)
      rcases Int.lt_or_le (num * d * q) (R * den) with hlt | hge
      ·
        have hqd : q < d := by
          rcases Int.lt_or_le q d with h | h
          · exact h
          · have := hown (by omega); omega
        have HA := Lib.hid (show ∀ q', 1 ≤ q' → q' < q + 1 → num * d * q' < (nearF n d q').2.1 * den from fun q' a b => by
          rcases (show q' < q ∨ q' = q by omega) with h | h
          · exact hall.out q' a h
          · subst h; rw [HN.out]; exact hlt)
        have W4 : IntKind.i64.wrap (q + 1) = q + 1 := IntWalk.i64_in _ (by omega)
        have HK : (((d - (q + 1)).toNat : Nat) : Int) = d - (q + 1) ∧ (d - (q + 1)).toNat < gk := by omega
        have HB := (show decide (R * den ≤ num * d * q) = false by simp; omega)
        clear hown p2 p3
        go_wp2_with fail
        refine (inear_eq HN.out _ (by omega) (by omega) (by omega)).mono ?_
        rintro e wr1 ⟨rfl, hbr1⟩
        have Br1 : Bl w wr1 := bl_call Br hbr1
        have xF_r1 : Bx wr1 (w.heap.size) #[.int .i64 (n), .int .i64 (d)] := yF.below hbr1
        have xR_r1 : Bx wr1 (w.heap.size + 1) #[.int .i64 (0), .int .i64 (0)] := yR.below hbr1
        clear cF fF zF cR fR zR
        obtain ⟨cF_r1, fF_r1, zF_r1⟩ := xF_r1.out
        obtain ⟨cR_r1, fR_r1, zR_r1⟩ := xR_r1.out
        go_wp2_with fail
        go_roundg (d - (q + 1)).toNat
        case measure => exact HK.2
        case rel => exact ⟨_, rfl, HA, by omega, by omega, HK.1, xF_r1, xR_r1, Br1⟩
      ·
        have HQ := Lib.hid (leastQ_eq (n := n) (d := d) (num := num) (den := den) (q := q) ⟨hq1, by rw [HN.out]; exact hge, hall.out⟩)
        have HB := (show decide (R * den ≤ num * d * q) = true by simp; omega)
        clear hown p2 p3
        go_wp2_with fail
        refine (inear_eq HN.out _ (by omega) (by omega) (by omega)).mono ?_
        rintro e wr1 ⟨rfl, hbr1⟩
        have Br1 : Bl w wr1 := bl_call Br hbr1
        have xF_r1 : Bx wr1 (w.heap.size) #[.int .i64 (n), .int .i64 (d)] := yF.below hbr1
        have xR_r1 : Bx wr1 (w.heap.size + 1) #[.int .i64 (0), .int .i64 (0)] := yR.below hbr1
        clear cF fF zF cR fR zR
        obtain ⟨cF_r1, fF_r1, zF_r1⟩ := xF_r1.out
        obtain ⟨cR_r1, fR_r1, zR_r1⟩ := xR_r1.out
        go_wp2
        refine bodyPost_ret (v := .tuple #[.agg #[.int .i64 P, .int .i64 q], .int .i64 0]) (by simp only [results, Try.results27]; go_simp) rfl ?_
        refine ⟨ret_fi2 (by rw [HR.out, HQ.out, HN.out]), ?_⟩
        repeat first | (with_reducible exact Br1) | (with_reducible refine bl_alloc ?_ _) | (with_reducible refine bl_drew ?_) | (with_reducible refine bl_set ?_ (by first | exact Nat.le_refl _ | (simp; done) | (simp; omega)) _)

theorem impl_LeastDenominator (n d num den : Int) (w : World) :
    Calls Try.prog 27 #[.agg #[.int .i64 n, .int .i64 d], .int .i64 num, .int .i64 den] w fun r w' => r = .returned (.tuple #[.agg #[.int .i64 (leastF n d num den).1.1, .int .i64 (leastF n d num den).1.2], .int .i64 (leastF n d num den).2]) ∧ Bl w w' := by
  by_cases hc : leastC n d num den = 0
  · exact impl_Least_yes n d num den w hc
  · exact impl_Least_no n d num den w hc

theorem inE {n lo hi : Int} {b : Bool} (h : inB n lo hi = b) (w : World) : Calls Try.prog 54 #[.int .i64 n, .int .i64 lo, .int .i64 hi] w fun e w' => e = .returned (.bool b) ∧ w = w' := h ▸ in_any n lo hi w

end Go.Proofs.Ytbonlompmnhmiaa
