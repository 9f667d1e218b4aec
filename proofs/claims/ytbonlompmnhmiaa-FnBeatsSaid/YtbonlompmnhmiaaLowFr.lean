/- LowerFraction and UpperFraction: the program and the reference give the same. No condition. -/
import Derived.Test.YtbonlompmnhmiaaMost
namespace Go.Proofs.Ytbonlompmnhmiaa
open Go.RowKit
set_option linter.unusedVariables false
set_option linter.unusedSimpArgs false


noncomputable def lowFrF (n d m : Int) : (Int × Int) × Int := if mostC n d m = 0 then ((sidesF n d m).1, 0) else ((0, 0), mostC n d m)

set_option maxRecDepth 100000 in
set_option maxHeartbeats 1600000 in
theorem impl_LowerFraction (n d m : Int) (w : World) :
    Calls Try.prog 34 #[.agg #[.int .i64 n, .int .i64 d], .int .i64 m] w fun r w' => r = .returned (.tuple #[.agg #[.int .i64 (lowFrF n d m).1.1, .int .i64 (lowFrF n d m).1.2], .int .i64 (lowFrF n d m).2]) ∧ Bl w w' := by
  by_cases hc : mostC n d m = 0
  ·
    have HR := Lib.hid (show lowFrF n d m = ((sidesF n d m).1, 0) by rw [lowFrF, if_pos hc])
    have hb : (mostC n d m != 0) = false := by simp [hc]
    have HS := Lib.hid (mostC_zero hc)
    clear hc
    generalize hcc : mostC n d m = cc at *
    have HC := Lib.hid hcc
    clear hcc
    obtain ⟨⟨⟨a, b⟩, ⟨p, q⟩⟩, hs⟩ : ∃ x, x = sidesF n d m := ⟨_, rfl⟩
    have HSD := Lib.hid hs.symm
    rw [← hs] at HR
    clear hs
    go_enter Try.func34, Try.ntmps34
    go_wp2_with fail
    have B1 : Bl w ((w.alloc (.cells #[.int .i64 (n), .int .i64 (d)] 26)).alloc (.cells #[.int .i64 (0), .int .i64 (0)] 26)) := (bl_alloc (bl_alloc (bl_refl _) _) _)
    have xF_1 : Bx ((w.alloc (.cells #[.int .i64 (n), .int .i64 (d)] 26)).alloc (.cells #[.int .i64 (0), .int .i64 (0)] 26)) (w.heap.size) #[.int .i64 (n), .int .i64 (d)] := ((Bx.new (b := w.heap.size) _ #[.int .i64 (n), .int .i64 (d)] 26 (by first | rfl | simp)).alloc _)
    have xR_1 : Bx ((w.alloc (.cells #[.int .i64 (n), .int .i64 (d)] 26)).alloc (.cells #[.int .i64 (0), .int .i64 (0)] 26)) (w.heap.size + 1) #[.int .i64 (0), .int .i64 (0)] := (Bx.new (b := w.heap.size + 1) _ #[.int .i64 (0), .int .i64 (0)] 26 (by first | rfl | simp))
    have zz1 : w.heap.size + 2 ≤ ((w.alloc (.cells #[.int .i64 (n), .int .i64 (d)] 26)).alloc (.cells #[.int .i64 (0), .int .i64 (0)] 26)).heap.size := (by simp)
    generalize ((w.alloc (.cells #[.int .i64 (n), .int .i64 (d)] 26)).alloc (.cells #[.int .i64 (0), .int .i64 (0)] 26)) = w1 at *
    obtain ⟨cF_1, fF_1, zF_1⟩ := xF_1.out
    obtain ⟨cR_1, fR_1, zR_1⟩ := xR_1.out
    go_cut [6] (fun s6 wx => s6 = .int .i64 cc ∧ Bl w1 wx)
    case first =>
      go_region_held3 (fun w' => w'.cell? ⟨w.heap.size, 0, none⟩ = some (.int .i64 (n)) ∧ w'.cell? ⟨w.heap.size, 1, none⟩ = some (.int .i64 (d))) (first | (simp [*]; done) | (go_simp; done) | go_keep)
        (first | (go_at_call 57; go_must (refine (within_any _ _ _ _).mono ?_; rintro _ _ ⟨rfl, rfl⟩)) | (go_at_call 66; go_must (refine (checkBest_eq HC.out _ (SlF.lit (fs := [(n, d)]) (cs := #[.int .i64 (n), .int .i64 (d)]) (by first | exact (Bx.new (b := w1.heap.size) _ #[.int .i64 (n), .int .i64 (d)] 26 (by first | rfl | simp)).drew | exact (Bx.new (b := w1.heap.size) _ #[.int .i64 (n), .int .i64 (d)] 26 (by first | rfl | simp))) rfl (Nat.le_refl _) (by simp [maxLen]) (lit1 n d))).mono ?_; rintro e wk ⟨rfl, hbk⟩; have Bk : Bl w1 wk := (by first | exact bl_call (bl_drew (bl_alloc (bl_refl _) _)) hbk | exact bl_call (bl_alloc (bl_drew (bl_refl _)) _) hbk); obtain ⟨cy, fy, zy⟩ := (xF_1.below Bk).out)))
      all_goals (go_wp2_with fail; all_goals go_meet; all_goals exact ⟨rfl, Bk⟩)
    case rest =>
      obtain ⟨rfl, hj⟩ := hcut
      obtain ⟨w2, rfl⟩ : ∃ x : World, x = wc := ⟨_, rfl⟩
      have B2 : Bl w w2 := bl_call B1 hj
      have xF_2 : Bx w2 (w.heap.size) #[.int .i64 (n), .int .i64 (d)] := xF_1.below hj
      have xR_2 : Bx w2 (w.heap.size + 1) #[.int .i64 (0), .int .i64 (0)] := xR_1.below hj
      clear cF_1 fF_1 zF_1 cR_1 fR_1 zR_1
      obtain ⟨cF_2, fF_2, zF_2⟩ := xF_2.out
      obtain ⟨cR_2, fR_2, zR_2⟩ := xR_2.out
      go_wp2_with fail
      refine (around_eq HS.out.o m HS.out.m1 HSD.out _).mono ?_
      rintro e w3 ⟨rfl, hb3⟩
      have B3 : Bl w w3 := bl_call B2 hb3
      have xF_3 : Bx w3 (w.heap.size) #[.int .i64 (n), .int .i64 (d)] := xF_2.below hb3
      have xR_3 : Bx w3 (w.heap.size + 1) #[.int .i64 (0), .int .i64 (0)] := xR_2.below hb3
      clear cF_2 fF_2 zF_2 cR_2 fR_2 zR_2
      obtain ⟨cF_3, fF_3, zF_3⟩ := xF_3.out
      obtain ⟨cR_3, fR_3, zR_3⟩ := xR_3.out
      go_wp2
      refine bodyPost_ret (v := .tuple #[.agg #[.int .i64 a, .int .i64 b], .int .i64 0]) (by simp only [results, Try.results34]; go_simp) rfl ?_
      refine ⟨ret_fi2 HR.out, ?_⟩
      repeat first | (with_reducible exact B3) | (with_reducible refine bl_alloc ?_ _) | (with_reducible refine bl_drew ?_) | (with_reducible refine bl_set ?_ (by first | exact Nat.le_refl _ | (simp; done) | (simp; omega)) _)
  ·
    have HR := Lib.hid (show lowFrF n d m = ((0, 0), mostC n d m) by rw [lowFrF, if_neg hc])
    have hb : (mostC n d m != 0) = true := by simp [hc]
    clear hc
    generalize hcc : mostC n d m = cc at *
    have HC := Lib.hid hcc
    clear hcc
    go_enter Try.func34, Try.ntmps34
    go_wp2_with fail
    have B1 : Bl w ((w.alloc (.cells #[.int .i64 (n), .int .i64 (d)] 26)).alloc (.cells #[.int .i64 (0), .int .i64 (0)] 26)) := (bl_alloc (bl_alloc (bl_refl _) _) _)
    have xF_1 : Bx ((w.alloc (.cells #[.int .i64 (n), .int .i64 (d)] 26)).alloc (.cells #[.int .i64 (0), .int .i64 (0)] 26)) (w.heap.size) #[.int .i64 (n), .int .i64 (d)] := ((Bx.new (b := w.heap.size) _ #[.int .i64 (n), .int .i64 (d)] 26 (by first | rfl | simp)).alloc _)
    have xR_1 : Bx ((w.alloc (.cells #[.int .i64 (n), .int .i64 (d)] 26)).alloc (.cells #[.int .i64 (0), .int .i64 (0)] 26)) (w.heap.size + 1) #[.int .i64 (0), .int .i64 (0)] := (Bx.new (b := w.heap.size + 1) _ #[.int .i64 (0), .int .i64 (0)] 26 (by first | rfl | simp))
    have zz1 : w.heap.size + 2 ≤ ((w.alloc (.cells #[.int .i64 (n), .int .i64 (d)] 26)).alloc (.cells #[.int .i64 (0), .int .i64 (0)] 26)).heap.size := (by simp)
    generalize ((w.alloc (.cells #[.int .i64 (n), .int .i64 (d)] 26)).alloc (.cells #[.int .i64 (0), .int .i64 (0)] 26)) = w1 at *
    obtain ⟨cF_1, fF_1, zF_1⟩ := xF_1.out
    obtain ⟨cR_1, fR_1, zR_1⟩ := xR_1.out
    go_cut [6] (fun s6 wx => s6 = .int .i64 cc ∧ Bl w1 wx)
    case first =>
      go_region_held3 (fun w' => w'.cell? ⟨w.heap.size, 0, none⟩ = some (.int .i64 (n)) ∧ w'.cell? ⟨w.heap.size, 1, none⟩ = some (.int .i64 (d))) (first | (simp [*]; done) | (go_simp; done) | go_keep)
        (first | (go_at_call 57; go_must (refine (within_any _ _ _ _).mono ?_; rintro _ _ ⟨rfl, rfl⟩)) | (go_at_call 66; go_must (refine (checkBest_eq HC.out _ (SlF.lit (fs := [(n, d)]) (cs := #[.int .i64 (n), .int .i64 (d)]) (by first | exact (Bx.new (b := w1.heap.size) _ #[.int .i64 (n), .int .i64 (d)] 26 (by first | rfl | simp)).drew | exact (Bx.new (b := w1.heap.size) _ #[.int .i64 (n), .int .i64 (d)] 26 (by first | rfl | simp))) rfl (Nat.le_refl _) (by simp [maxLen]) (lit1 n d))).mono ?_; rintro e wk ⟨rfl, hbk⟩; have Bk : Bl w1 wk := (by first | exact bl_call (bl_drew (bl_alloc (bl_refl _) _)) hbk | exact bl_call (bl_alloc (bl_drew (bl_refl _)) _) hbk); obtain ⟨cy, fy, zy⟩ := (xF_1.below Bk).out)))
      all_goals (go_wp2_with fail; all_goals go_meet; all_goals exact ⟨rfl, Bk⟩)
    case rest =>
      obtain ⟨rfl, hj⟩ := hcut
      obtain ⟨w2, rfl⟩ : ∃ x : World, x = wc := ⟨_, rfl⟩
      have B2 : Bl w w2 := bl_call B1 hj
      have xF_2 : Bx w2 (w.heap.size) #[.int .i64 (n), .int .i64 (d)] := xF_1.below hj
      have xR_2 : Bx w2 (w.heap.size + 1) #[.int .i64 (0), .int .i64 (0)] := xR_1.below hj
      clear cF_1 fF_1 zF_1 cR_1 fR_1 zR_1
      obtain ⟨cF_2, fF_2, zF_2⟩ := xF_2.out
      obtain ⟨cR_2, fR_2, zR_2⟩ := xR_2.out
      go_wp2
      refine bodyPost_ret (v := .tuple #[.agg #[.int .i64 0, .int .i64 0], .int .i64 cc]) (by simp only [results, Try.results34]; go_simp) rfl ?_
      refine ⟨ret_fi2 HR.out, ?_⟩
      repeat first | (with_reducible exact B2) | (with_reducible refine bl_alloc ?_ _) | (with_reducible refine bl_drew ?_) | (with_reducible refine bl_set ?_ (by first | exact Nat.le_refl _ | (simp; done) | (simp; omega)) _)

noncomputable def upFrF (n d m : Int) : (Int × Int) × Int := if mostC n d m = 0 then ((sidesF n d m).2, 0) else ((0, 0), mostC n d m)

set_option maxRecDepth 100000 in
set_option maxHeartbeats 1600000 in
theorem impl_UpperFraction (n d m : Int) (w : World) :
    Calls Try.prog 35 #[.agg #[.int .i64 n, .int .i64 d], .int .i64 m] w fun r w' => r = .returned (.tuple #[.agg #[.int .i64 (upFrF n d m).1.1, .int .i64 (upFrF n d m).1.2], .int .i64 (upFrF n d m).2]) ∧ Bl w w' := by
  by_cases hc : mostC n d m = 0
  ·
    have HR := Lib.hid (show upFrF n d m = ((sidesF n d m).2, 0) by rw [upFrF, if_pos hc])
    have hb : (mostC n d m != 0) = false := by simp [hc]
    have HS := Lib.hid (mostC_zero hc)
    clear hc
    generalize hcc : mostC n d m = cc at *
    have HC := Lib.hid hcc
    clear hcc
    obtain ⟨⟨⟨a, b⟩, ⟨p, q⟩⟩, hs⟩ : ∃ x, x = sidesF n d m := ⟨_, rfl⟩
    have HSD := Lib.hid hs.symm
    rw [← hs] at HR
    clear hs
    go_enter Try.func35, Try.ntmps35
    go_wp2_with fail
    have B1 : Bl w ((w.alloc (.cells #[.int .i64 (n), .int .i64 (d)] 26)).alloc (.cells #[.int .i64 (0), .int .i64 (0)] 26)) := (bl_alloc (bl_alloc (bl_refl _) _) _)
    have xF_1 : Bx ((w.alloc (.cells #[.int .i64 (n), .int .i64 (d)] 26)).alloc (.cells #[.int .i64 (0), .int .i64 (0)] 26)) (w.heap.size) #[.int .i64 (n), .int .i64 (d)] := ((Bx.new (b := w.heap.size) _ #[.int .i64 (n), .int .i64 (d)] 26 (by first | rfl | simp)).alloc _)
    have xR_1 : Bx ((w.alloc (.cells #[.int .i64 (n), .int .i64 (d)] 26)).alloc (.cells #[.int .i64 (0), .int .i64 (0)] 26)) (w.heap.size + 1) #[.int .i64 (0), .int .i64 (0)] := (Bx.new (b := w.heap.size + 1) _ #[.int .i64 (0), .int .i64 (0)] 26 (by first | rfl | simp))
    have zz1 : w.heap.size + 2 ≤ ((w.alloc (.cells #[.int .i64 (n), .int .i64 (d)] 26)).alloc (.cells #[.int .i64 (0), .int .i64 (0)] 26)).heap.size := (by simp)
    generalize ((w.alloc (.cells #[.int .i64 (n), .int .i64 (d)] 26)).alloc (.cells #[.int .i64 (0), .int .i64 (0)] 26)) = w1 at *
    obtain ⟨cF_1, fF_1, zF_1⟩ := xF_1.out
    obtain ⟨cR_1, fR_1, zR_1⟩ := xR_1.out
    go_cut [6] (fun s6 wx => s6 = .int .i64 cc ∧ Bl w1 wx)
    case first =>
      go_region_held3 (fun w' => w'.cell? ⟨w.heap.size, 0, none⟩ = some (.int .i64 (n)) ∧ w'.cell? ⟨w.heap.size, 1, none⟩ = some (.int .i64 (d))) (first | (simp [*]; done) | (go_simp; done) | go_keep)
        (first | (go_at_call 57; go_must (refine (within_any _ _ _ _).mono ?_; rintro _ _ ⟨rfl, rfl⟩)) | (go_at_call 66; go_must (refine (checkBest_eq HC.out _ (SlF.lit (fs := [(n, d)]) (cs := #[.int .i64 (n), .int .i64 (d)]) (by first | exact (Bx.new (b := w1.heap.size) _ #[.int .i64 (n), .int .i64 (d)] 26 (by first | rfl | simp)).drew | exact (Bx.new (b := w1.heap.size) _ #[.int .i64 (n), .int .i64 (d)] 26 (by first | rfl | simp))) rfl (Nat.le_refl _) (by simp [maxLen]) (lit1 n d))).mono ?_; rintro e wk ⟨rfl, hbk⟩; have Bk : Bl w1 wk := (by first | exact bl_call (bl_drew (bl_alloc (bl_refl _) _)) hbk | exact bl_call (bl_alloc (bl_drew (bl_refl _)) _) hbk); obtain ⟨cy, fy, zy⟩ := (xF_1.below Bk).out)))
      all_goals (go_wp2_with fail; all_goals go_meet; all_goals exact ⟨rfl, Bk⟩)
    case rest =>
      obtain ⟨rfl, hj⟩ := hcut
      obtain ⟨w2, rfl⟩ : ∃ x : World, x = wc := ⟨_, rfl⟩
      have B2 : Bl w w2 := bl_call B1 hj
      have xF_2 : Bx w2 (w.heap.size) #[.int .i64 (n), .int .i64 (d)] := xF_1.below hj
      have xR_2 : Bx w2 (w.heap.size + 1) #[.int .i64 (0), .int .i64 (0)] := xR_1.below hj
      clear cF_1 fF_1 zF_1 cR_1 fR_1 zR_1
      obtain ⟨cF_2, fF_2, zF_2⟩ := xF_2.out
      obtain ⟨cR_2, fR_2, zR_2⟩ := xR_2.out
      go_wp2_with fail
      refine (around_eq HS.out.o m HS.out.m1 HSD.out _).mono ?_
      rintro e w3 ⟨rfl, hb3⟩
      have B3 : Bl w w3 := bl_call B2 hb3
      have xF_3 : Bx w3 (w.heap.size) #[.int .i64 (n), .int .i64 (d)] := xF_2.below hb3
      have xR_3 : Bx w3 (w.heap.size + 1) #[.int .i64 (0), .int .i64 (0)] := xR_2.below hb3
      clear cF_2 fF_2 zF_2 cR_2 fR_2 zR_2
      obtain ⟨cF_3, fF_3, zF_3⟩ := xF_3.out
      obtain ⟨cR_3, fR_3, zR_3⟩ := xR_3.out
      go_wp2
      refine bodyPost_ret (v := .tuple #[.agg #[.int .i64 p, .int .i64 q], .int .i64 0]) (by simp only [results, Try.results35]; go_simp) rfl ?_
      refine ⟨ret_fi2 HR.out, ?_⟩
      repeat first | (with_reducible exact B3) | (with_reducible refine bl_alloc ?_ _) | (with_reducible refine bl_drew ?_) | (with_reducible refine bl_set ?_ (by first | exact Nat.le_refl _ | (simp; done) | (simp; omega)) _)
  ·
    have HR := Lib.hid (show upFrF n d m = ((0, 0), mostC n d m) by rw [upFrF, if_neg hc])
    have hb : (mostC n d m != 0) = true := by simp [hc]
    clear hc
    generalize hcc : mostC n d m = cc at *
    have HC := Lib.hid hcc
    clear hcc
    go_enter Try.func35, Try.ntmps35
    go_wp2_with fail
    have B1 : Bl w ((w.alloc (.cells #[.int .i64 (n), .int .i64 (d)] 26)).alloc (.cells #[.int .i64 (0), .int .i64 (0)] 26)) := (bl_alloc (bl_alloc (bl_refl _) _) _)
    have xF_1 : Bx ((w.alloc (.cells #[.int .i64 (n), .int .i64 (d)] 26)).alloc (.cells #[.int .i64 (0), .int .i64 (0)] 26)) (w.heap.size) #[.int .i64 (n), .int .i64 (d)] := ((Bx.new (b := w.heap.size) _ #[.int .i64 (n), .int .i64 (d)] 26 (by first | rfl | simp)).alloc _)
    have xR_1 : Bx ((w.alloc (.cells #[.int .i64 (n), .int .i64 (d)] 26)).alloc (.cells #[.int .i64 (0), .int .i64 (0)] 26)) (w.heap.size + 1) #[.int .i64 (0), .int .i64 (0)] := (Bx.new (b := w.heap.size + 1) _ #[.int .i64 (0), .int .i64 (0)] 26 (by first | rfl | simp))
    have zz1 : w.heap.size + 2 ≤ ((w.alloc (.cells #[.int .i64 (n), .int .i64 (d)] 26)).alloc (.cells #[.int .i64 (0), .int .i64 (0)] 26)).heap.size := (by simp)
    generalize ((w.alloc (.cells #[.int .i64 (n), .int .i64 (d)] 26)).alloc (.cells #[.int .i64 (0), .int .i64 (0)] 26)) = w1 at *
    obtain ⟨cF_1, fF_1, zF_1⟩ := xF_1.out
    obtain ⟨cR_1, fR_1, zR_1⟩ := xR_1.out
    go_cut [6] (fun s6 wx => s6 = .int .i64 cc ∧ Bl w1 wx)
    case first =>
      go_region_held3 (fun w' => w'.cell? ⟨w.heap.size, 0, none⟩ = some (.int .i64 (n)) ∧ w'.cell? ⟨w.heap.size, 1, none⟩ = some (.int .i64 (d))) (first | (simp [*]; done) | (go_simp; done) | go_keep)
        (first | (go_at_call 57; go_must (refine (within_any _ _ _ _).mono ?_; rintro _ _ ⟨rfl, rfl⟩)) | (go_at_call 66; go_must (refine (checkBest_eq HC.out _ (SlF.lit (fs := [(n, d)]) (cs := #[.int .i64 (n), .int .i64 (d)]) (by first | exact (Bx.new (b := w1.heap.size) _ #[.int .i64 (n), .int .i64 (d)] 26 (by first | rfl | simp)).drew | exact (Bx.new (b := w1.heap.size) _ #[.int .i64 (n), .int .i64 (d)] 26 (by first | rfl | simp))) rfl (Nat.le_refl _) (by simp [maxLen]) (lit1 n d))).mono ?_; rintro e wk ⟨rfl, hbk⟩; have Bk : Bl w1 wk := (by first | exact bl_call (bl_drew (bl_alloc (bl_refl _) _)) hbk | exact bl_call (bl_alloc (bl_drew (bl_refl _)) _) hbk); obtain ⟨cy, fy, zy⟩ := (xF_1.below Bk).out)))
      all_goals (go_wp2_with fail; all_goals go_meet; all_goals exact ⟨rfl, Bk⟩)
    case rest =>
      obtain ⟨rfl, hj⟩ := hcut
      obtain ⟨w2, rfl⟩ : ∃ x : World, x = wc := ⟨_, rfl⟩
      have B2 : Bl w w2 := bl_call B1 hj
      have xF_2 : Bx w2 (w.heap.size) #[.int .i64 (n), .int .i64 (d)] := xF_1.below hj
      have xR_2 : Bx w2 (w.heap.size + 1) #[.int .i64 (0), .int .i64 (0)] := xR_1.below hj
      clear cF_1 fF_1 zF_1 cR_1 fR_1 zR_1
      obtain ⟨cF_2, fF_2, zF_2⟩ := xF_2.out
      obtain ⟨cR_2, fR_2, zR_2⟩ := xR_2.out
      go_wp2
      refine bodyPost_ret (v := .tuple #[.agg #[.int .i64 0, .int .i64 0], .int .i64 cc]) (by simp only [results, Try.results35]; go_simp) rfl ?_
      refine ⟨ret_fi2 HR.out, ?_⟩
      repeat first | (with_reducible exact B2) | (with_reducible refine bl_alloc ?_ _) | (with_reducible refine bl_drew ?_) | (with_reducible refine bl_set ?_ (by first | exact Nat.le_refl _ | (simp; done) | (simp; omega)) _)

end Go.Proofs.Ytbonlompmnhmiaa
