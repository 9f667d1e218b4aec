/- Some of the texts of this claim, joined in one file: Nearest, SecM. -/
import Derived.Test.YtgkelemfbmmgnaaMTp28
/- NearestFraction: the program and the reference give the same. No condition. -/
namespace Go.Proofs.Ytgkelemfbmmgnaa
open Go.RowKit
set_option linter.unusedVariables false
set_option linter.unusedSimpArgs false

/-- The nearest of both sides. -/
noncomputable def nearestF (n d m : Int) : Int × Int :=
  if 0 < cmpErrF n d (sidesF n d m).1.1 (sidesF n d m).1.2 (sidesF n d m).2.1 (sidesF n d m).2.2 ∨ cmpErrF n d (sidesF n d m).1.1 (sidesF n d m).1.2 (sidesF n d m).2.1 (sidesF n d m).2.2 = 0 ∧ (sidesF n d m).2.2 < (sidesF n d m).1.2 then (sidesF n d m).2 else (sidesF n d m).1
theorem nearestF_eq {n d m a b p q : Int} (hs : sidesF n d m = ((a, b), (p, q))) : nearestF n d m = if 0 < cmpErrF n d a b p q ∨ cmpErrF n d a b p q = 0 ∧ q < b then (p, q) else (a, b) := by rw [nearestF, hs]
theorem ret_f2 {r : Int × Int} {a b : Int} (h : r = (a, b)) : Ending.returned (.agg #[.int .i64 a, .int .i64 b]) = .returned (.agg #[.int .i64 r.1, .int .i64 r.2]) := by subst h; rfl

set_option maxRecDepth 100000 in
set_option maxHeartbeats 1600000 in
theorem inearest_any (n d m : Int) (w : World) (hok : okF n d = true) (hn : -1000000 ≤ n ∧ n ≤ 1000000) (hd : d ≤ 1000000) (hm : 1 ≤ m) :
    Calls Try.prog 72 #[.agg #[.int .i64 n, .int .i64 d], .int .i64 m] w fun r w' => r = .returned (.agg #[.int .i64 (nearestF n d m).1, .int .i64 (nearestF n d m).2]) ∧ Bl w w' := by
  have HOK := Lib.hid hok
  clear hok
  obtain ⟨⟨⟨a, b⟩, ⟨p, q⟩⟩, hs⟩ : ∃ x, x = sidesF n d m := ⟨_, rfl⟩
  have HSD := Lib.hid hs.symm
  have HSM := Lib.hid (sides_small HOK.out hm hn hd hs.symm)
  have HN := Lib.hid (nearestF_eq hs.symm)
  clear hs
  obtain ⟨C, hC⟩ : ∃ C, C = cmpErrF n d a b p q := ⟨_, rfl⟩
  have HC := Lib.hid hC.symm
  clear hC
  rcases (show 0 < C ∨ (C = 0 ∧ q < b) ∨ (C = 0 ∧ b ≤ q) ∨ C < 0 by omega) with h | h | h | h
  ·
    have HR := Lib.hid (show nearestF n d m = (p, q) by rw [HN.out, HC.out, if_pos (.inl h)])
    go_enter Try.func72, Try.ntmps72
    go_wp2_with fail
    refine (around_eq HOK.out m hm HSD.out _).mono ?_
    rintro e w1 ⟨rfl, hb1⟩
    have B1 : Bl w w1 := bl_call (bl_alloc (bl_alloc (bl_refl _) _) _) hb1
    have xF_1 : Bx w1 (w.heap.size) #[.int .i64 (n), .int .i64 (d)] := ((Bx.new (b := w.heap.size) _ #[.int .i64 (n), .int .i64 (d)] 44 (by first | rfl | simp)).alloc _).below hb1
    have xR_1 : Bx w1 (w.heap.size + 1) #[.int .i64 (0), .int .i64 (0)] := (Bx.new (b := w.heap.size + 1) _ #[.int .i64 (0), .int .i64 (0)] 44 (by first | rfl | simp)).below hb1
    obtain ⟨cF_1, fF_1, zF_1⟩ := xF_1.out
    obtain ⟨cR_1, fR_1, zR_1⟩ := xR_1.out
    go_wp2_with fail
    refine (icmpErr_any n d a b p q _ HSM.out.1).mono ?_
    rintro e w2 ⟨rfl, hb2⟩
    have B2 : Bl w w2 := bl_call (bl_alloc (bl_alloc B1 _) _) hb2
    have xF_2 : Bx w2 (w.heap.size) #[.int .i64 (n), .int .i64 (d)] := ((xF_1.alloc _).alloc _).below hb2
    have xR_2 : Bx w2 (w.heap.size + 1) #[.int .i64 (0), .int .i64 (0)] := ((xR_1.alloc _).alloc _).below hb2
    have xL_2 : Bx w2 (w1.heap.size) #[.int .i64 (a), .int .i64 (b)] := ((Bx.new (b := w1.heap.size) _ #[.int .i64 (a), .int .i64 (b)] 44 (by first | rfl | simp)).alloc _).below hb2
    have xH_2 : Bx w2 (w1.heap.size + 1) #[.int .i64 (p), .int .i64 (q)] := (Bx.new (b := w1.heap.size + 1) _ #[.int .i64 (p), .int .i64 (q)] 44 (by first | rfl | simp)).below hb2
    clear cF_1 fF_1 zF_1 cR_1 fR_1 zR_1
    obtain ⟨cF_2, fF_2, zF_2⟩ := xF_2.out
    obtain ⟨cR_2, fR_2, zR_2⟩ := xR_2.out
    obtain ⟨cL_2, fL_2, zL_2⟩ := xL_2.out
    obtain ⟨cH_2, fH_2, zH_2⟩ := xH_2.out
    rw [HC.out]
    go_wp2
    refine bodyPost_ret (v := .agg #[.int .i64 p, .int .i64 q]) (by simp only [results, Try.results72]; go_simp) rfl ?_
    refine ⟨ret_f2 HR.out, ?_⟩
    repeat first | (with_reducible exact B2) | (with_reducible refine bl_alloc ?_ _) | (with_reducible refine bl_drew ?_) | (with_reducible refine bl_set ?_ (by first | exact Nat.le_refl _ | (simp; done) | (simp; omega)) _)
  ·
    have HR := Lib.hid (show nearestF n d m = (p, q) by rw [HN.out, HC.out, if_pos (.inr h)])
    have k0 : (C == 0) = true := by simp [h.1]
    have k1 := Int.le_of_eq h.1
    have k2 := h.2
    clear h
    go_enter Try.func72, Try.ntmps72
    go_wp2_with fail
    refine (around_eq HOK.out m hm HSD.out _).mono ?_
    rintro e w1 ⟨rfl, hb1⟩
    have B1 : Bl w w1 := bl_call (bl_alloc (bl_alloc (bl_refl _) _) _) hb1
    have xF_1 : Bx w1 (w.heap.size) #[.int .i64 (n), .int .i64 (d)] := ((Bx.new (b := w.heap.size) _ #[.int .i64 (n), .int .i64 (d)] 44 (by first | rfl | simp)).alloc _).below hb1
    have xR_1 : Bx w1 (w.heap.size + 1) #[.int .i64 (0), .int .i64 (0)] := (Bx.new (b := w.heap.size + 1) _ #[.int .i64 (0), .int .i64 (0)] 44 (by first | rfl | simp)).below hb1
    obtain ⟨cF_1, fF_1, zF_1⟩ := xF_1.out
    obtain ⟨cR_1, fR_1, zR_1⟩ := xR_1.out
    go_wp2_with fail
    refine (icmpErr_any n d a b p q _ HSM.out.1).mono ?_
    rintro e w2 ⟨rfl, hb2⟩
    have B2 : Bl w w2 := bl_call (bl_alloc (bl_alloc B1 _) _) hb2
    have xF_2 : Bx w2 (w.heap.size) #[.int .i64 (n), .int .i64 (d)] := ((xF_1.alloc _).alloc _).below hb2
    have xR_2 : Bx w2 (w.heap.size + 1) #[.int .i64 (0), .int .i64 (0)] := ((xR_1.alloc _).alloc _).below hb2
    have xL_2 : Bx w2 (w1.heap.size) #[.int .i64 (a), .int .i64 (b)] := ((Bx.new (b := w1.heap.size) _ #[.int .i64 (a), .int .i64 (b)] 44 (by first | rfl | simp)).alloc _).below hb2
    have xH_2 : Bx w2 (w1.heap.size + 1) #[.int .i64 (p), .int .i64 (q)] := (Bx.new (b := w1.heap.size + 1) _ #[.int .i64 (p), .int .i64 (q)] 44 (by first | rfl | simp)).below hb2
    clear cF_1 fF_1 zF_1 cR_1 fR_1 zR_1
    obtain ⟨cF_2, fF_2, zF_2⟩ := xF_2.out
    obtain ⟨cR_2, fR_2, zR_2⟩ := xR_2.out
    obtain ⟨cL_2, fL_2, zL_2⟩ := xL_2.out
    obtain ⟨cH_2, fH_2, zH_2⟩ := xH_2.out
    rw [HC.out]
    go_wp2
    refine bodyPost_ret (v := .agg #[.int .i64 p, .int .i64 q]) (by simp only [results, Try.results72]; go_simp) rfl ?_
    refine ⟨ret_f2 HR.out, ?_⟩
    repeat first | (with_reducible exact B2) | (with_reducible refine bl_alloc ?_ _) | (with_reducible refine bl_drew ?_) | (with_reducible refine bl_set ?_ (by first | exact Nat.le_refl _ | (simp; done) | (simp; omega)) _)
  ·
    have HR := Lib.hid (show nearestF n d m = (a, b) by rw [HN.out, HC.out, if_neg (by omega)])
    have k0 : (C == 0) = true := by simp [h.1]
    have k1 := Int.le_of_eq h.1
    have k2 := h.2
    clear h
    go_enter Try.func72, Try.ntmps72
    go_wp2_with fail
    refine (around_eq HOK.out m hm HSD.out _).mono ?_
    rintro e w1 ⟨rfl, hb1⟩
    have B1 : Bl w w1 := bl_call (bl_alloc (bl_alloc (bl_refl _) _) _) hb1
    have xF_1 : Bx w1 (w.heap.size) #[.int .i64 (n), .int .i64 (d)] := ((Bx.new (b := w.heap.size) _ #[.int .i64 (n), .int .i64 (d)] 44 (by first | rfl | simp)).alloc _).below hb1
    have xR_1 : Bx w1 (w.heap.size + 1) #[.int .i64 (0), .int .i64 (0)] := (Bx.new (b := w.heap.size + 1) _ #[.int .i64 (0), .int .i64 (0)] 44 (by first | rfl | simp)).below hb1
    obtain ⟨cF_1, fF_1, zF_1⟩ := xF_1.out
    obtain ⟨cR_1, fR_1, zR_1⟩ := xR_1.out
    go_wp2_with fail
    refine (icmpErr_any n d a b p q _ HSM.out.1).mono ?_
    rintro e w2 ⟨rfl, hb2⟩
    have B2 : Bl w w2 := bl_call (bl_alloc (bl_alloc B1 _) _) hb2
    have xF_2 : Bx w2 (w.heap.size) #[.int .i64 (n), .int .i64 (d)] := ((xF_1.alloc _).alloc _).below hb2
    have xR_2 : Bx w2 (w.heap.size + 1) #[.int .i64 (0), .int .i64 (0)] := ((xR_1.alloc _).alloc _).below hb2
    have xL_2 : Bx w2 (w1.heap.size) #[.int .i64 (a), .int .i64 (b)] := ((Bx.new (b := w1.heap.size) _ #[.int .i64 (a), .int .i64 (b)] 44 (by first | rfl | simp)).alloc _).below hb2
    have xH_2 : Bx w2 (w1.heap.size + 1) #[.int .i64 (p), .int .i64 (q)] := (Bx.new (b := w1.heap.size + 1) _ #[.int .i64 (p), .int .i64 (q)] 44 (by first | rfl | simp)).below hb2
    clear cF_1 fF_1 zF_1 cR_1 fR_1 zR_1
    obtain ⟨cF_2, fF_2, zF_2⟩ := xF_2.out
    obtain ⟨cR_2, fR_2, zR_2⟩ := xR_2.out
    obtain ⟨cL_2, fL_2, zL_2⟩ := xL_2.out
    obtain ⟨cH_2, fH_2, zH_2⟩ := xH_2.out
    rw [HC.out]
    go_wp2
    refine bodyPost_ret (v := .agg #[.int .i64 a, .int .i64 b]) (by simp only [results, Try.results72]; go_simp) rfl ?_
    refine ⟨ret_f2 HR.out, ?_⟩
    repeat first | (with_reducible exact B2) | (with_reducible refine bl_alloc ?_ _) | (with_reducible refine bl_drew ?_) | (with_reducible refine bl_set ?_ (by first | exact Nat.le_refl _ | (simp; done) | (simp; omega)) _)
  ·
    have HR := Lib.hid (show nearestF n d m = (a, b) by rw [HN.out, HC.out, if_neg (by omega)])
    have k0 : (C == 0) = false := by simp; omega
    go_enter Try.func72, Try.ntmps72
    go_wp2_with fail
    refine (around_eq HOK.out m hm HSD.out _).mono ?_
    rintro e w1 ⟨rfl, hb1⟩
    have B1 : Bl w w1 := bl_call (bl_alloc (bl_alloc (bl_refl _) _) _) hb1
    have xF_1 : Bx w1 (w.heap.size) #[.int .i64 (n), .int .i64 (d)] := ((Bx.new (b := w.heap.size) _ #[.int .i64 (n), .int .i64 (d)] 44 (by first | rfl | simp)).alloc _).below hb1
    have xR_1 : Bx w1 (w.heap.size + 1) #[.int .i64 (0), .int .i64 (0)] := (Bx.new (b := w.heap.size + 1) _ #[.int .i64 (0), .int .i64 (0)] 44 (by first | rfl | simp)).below hb1
    obtain ⟨cF_1, fF_1, zF_1⟩ := xF_1.out
    obtain ⟨cR_1, fR_1, zR_1⟩ := xR_1.out
    go_wp2_with fail
    refine (icmpErr_any n d a b p q _ HSM.out.1).mono ?_
    rintro e w2 ⟨rfl, hb2⟩
    have B2 : Bl w w2 := bl_call (bl_alloc (bl_alloc B1 _) _) hb2
    have xF_2 : Bx w2 (w.heap.size) #[.int .i64 (n), .int .i64 (d)] := ((xF_1.alloc _).alloc _).below hb2
    have xR_2 : Bx w2 (w.heap.size + 1) #[.int .i64 (0), .int .i64 (0)] := ((xR_1.alloc _).alloc _).below hb2
    have xL_2 : Bx w2 (w1.heap.size) #[.int .i64 (a), .int .i64 (b)] := ((Bx.new (b := w1.heap.size) _ #[.int .i64 (a), .int .i64 (b)] 44 (by first | rfl | simp)).alloc _).below hb2
    have xH_2 : Bx w2 (w1.heap.size + 1) #[.int .i64 (p), .int .i64 (q)] := (Bx.new (b := w1.heap.size + 1) _ #[.int .i64 (p), .int .i64 (q)] 44 (by first | rfl | simp)).below hb2
    clear cF_1 fF_1 zF_1 cR_1 fR_1 zR_1
    obtain ⟨cF_2, fF_2, zF_2⟩ := xF_2.out
    obtain ⟨cR_2, fR_2, zR_2⟩ := xR_2.out
    obtain ⟨cL_2, fL_2, zL_2⟩ := xL_2.out
    obtain ⟨cH_2, fH_2, zH_2⟩ := xH_2.out
    rw [HC.out]
    go_wp2
    refine bodyPost_ret (v := .agg #[.int .i64 a, .int .i64 b]) (by simp only [results, Try.results72]; go_simp) rfl ?_
    refine ⟨ret_f2 HR.out, ?_⟩
    repeat first | (with_reducible exact B2) | (with_reducible refine bl_alloc ?_ _) | (with_reducible refine bl_drew ?_) | (with_reducible refine bl_set ?_ (by first | exact Nat.le_refl _ | (simp; done) | (simp; omega)) _)

noncomputable def nearFrF (n d m : Int) : (Int × Int) × Int := if mostC n d m = 0 then (nearestF n d m, 0) else ((0, 0), mostC n d m)

set_option maxRecDepth 100000 in
set_option maxHeartbeats 1600000 in
theorem impl_NearestFraction (n d m : Int) (w : World) :
    Calls Try.prog 32 #[.agg #[.int .i64 n, .int .i64 d], .int .i64 m] w fun r w' => r = .returned (.tuple #[.agg #[.int .i64 (nearFrF n d m).1.1, .int .i64 (nearFrF n d m).1.2], .int .i64 (nearFrF n d m).2]) ∧ Bl w w' := by
  by_cases hc : mostC n d m = 0
  ·
    have HR := Lib.hid (show nearFrF n d m = (((nearestF n d m).1, (nearestF n d m).2), 0) by rw [nearFrF, if_pos hc])
    have hb : (mostC n d m != 0) = false := by simp [hc]
    have HS := Lib.hid (mostC_zero hc)
    clear hc
    generalize hcc : mostC n d m = cc at *
    have HC := Lib.hid hcc
    clear hcc
    obtain ⟨⟨⟨a, b⟩, ⟨p, q⟩⟩, hs⟩ : ∃ x, x = sidesF n d m := ⟨_, rfl⟩
    have HSD := Lib.hid hs.symm
    (try rw [← hs] at HR)
    clear hs
    go_enter Try.func32, Try.ntmps32
    go_wp2_with fail
    have B1 : Bl w ((w.alloc (.cells #[.int .i64 (n), .int .i64 (d)] 44)).alloc (.cells #[.int .i64 (0), .int .i64 (0)] 44)) := (bl_alloc (bl_alloc (bl_refl _) _) _)
    have xF_1 : Bx ((w.alloc (.cells #[.int .i64 (n), .int .i64 (d)] 44)).alloc (.cells #[.int .i64 (0), .int .i64 (0)] 44)) (w.heap.size) #[.int .i64 (n), .int .i64 (d)] := ((Bx.new (b := w.heap.size) _ #[.int .i64 (n), .int .i64 (d)] 44 (by first | rfl | simp)).alloc _)
    have xR_1 : Bx ((w.alloc (.cells #[.int .i64 (n), .int .i64 (d)] 44)).alloc (.cells #[.int .i64 (0), .int .i64 (0)] 44)) (w.heap.size + 1) #[.int .i64 (0), .int .i64 (0)] := (Bx.new (b := w.heap.size + 1) _ #[.int .i64 (0), .int .i64 (0)] 44 (by first | rfl | simp))
    have zz1 : w.heap.size + 2 ≤ ((w.alloc (.cells #[.int .i64 (n), .int .i64 (d)] 44)).alloc (.cells #[.int .i64 (0), .int .i64 (0)] 44)).heap.size := (by simp)
    generalize ((w.alloc (.cells #[.int .i64 (n), .int .i64 (d)] 44)).alloc (.cells #[.int .i64 (0), .int .i64 (0)] 44)) = w1 at *
    obtain ⟨cF_1, fF_1, zF_1⟩ := xF_1.out
    obtain ⟨cR_1, fR_1, zR_1⟩ := xR_1.out
    go_cut [6] (fun s6 wx => s6 = .int .i64 cc ∧ Bl w1 wx)
    case first =>
      go_region_held3 (fun w' => w'.cell? ⟨w.heap.size, 0, none⟩ = some (.int .i64 (n)) ∧ w'.cell? ⟨w.heap.size, 1, none⟩ = some (.int .i64 (d))) (first | (simp [*]; done) | (go_simp; done) | go_keep)
        (first | (go_at_call 67; go_must (refine (within_any _ _ _ _).mono ?_; rintro _ _ ⟨rfl, rfl⟩)) | (go_at_call 71; go_must (refine (checkBest_eq HC.out _ (SlF.lit (fs := [(n, d)]) (cs := #[.int .i64 (n), .int .i64 (d)]) (by first | exact (Bx.new (b := w1.heap.size) _ #[.int .i64 (n), .int .i64 (d)] 44 (by first | rfl | simp)).drew | exact (Bx.new (b := w1.heap.size) _ #[.int .i64 (n), .int .i64 (d)] 44 (by first | rfl | simp))) rfl (Nat.le_refl _) (by simp [maxLen]) (lit1 n d))).mono ?_; rintro e wk ⟨rfl, hbk⟩; have Bk : Bl w1 wk := (by first | exact bl_call (bl_drew (bl_alloc (bl_refl _) _)) hbk | exact bl_call (bl_alloc (bl_drew (bl_refl _)) _) hbk); obtain ⟨cy, fy, zy⟩ := (xF_1.below Bk).out)))
      all_goals (go_wp2_with fail; all_goals go_meet; all_goals exact ⟨rfl, Bk⟩)
    case rest =>
      obtain ⟨rfl, hj⟩ := hcut
      obtain ⟨w2, rfl⟩ : ∃ x : World, x = wc := ⟨_, rfl⟩
      have B2 : Bl w w2 := bl_call B1 hj
      have xF_2 : Bx w2 (w.heap.size) #[.int .i64 (n), .int .i64 (d)] := xF_1.below hj
      have xR_2 : Bx w2 (w.heap.size + 1) #[.int .i64 (0), .int .i64 (0)] := xR_1.below hj
      clear cF_1 fF_1 zF_1 cR_1 fR_1 zR_1
      obtain ⟨cF_2, fF_2, zF_2⟩ := xF_2.out
      obtain ⟨cR_2, fR_2, zR_2⟩ := xR_2.out
      obtain ⟨n1, n2, d1, d2, m1, m2, _⟩ := HS.out
      go_wp2_with fail
      refine (inearest_any n d m _ HS.out.o ⟨HS.out.n1, HS.out.n2⟩ HS.out.d2 HS.out.m1).mono ?_
      rintro e w3 ⟨rfl, hb3⟩
      have B3 : Bl w w3 := bl_call B2 hb3
      have xF_3 : Bx w3 (w.heap.size) #[.int .i64 (n), .int .i64 (d)] := xF_2.below hb3
      have xR_3 : Bx w3 (w.heap.size + 1) #[.int .i64 (0), .int .i64 (0)] := xR_2.below hb3
      clear cF_2 fF_2 zF_2 cR_2 fR_2 zR_2
      obtain ⟨cF_3, fF_3, zF_3⟩ := xF_3.out
      obtain ⟨cR_3, fR_3, zR_3⟩ := xR_3.out
      go_wp2
      refine bodyPost_ret (v := .tuple #[.agg #[.int .i64 (nearestF n d m).1, .int .i64 (nearestF n d m).2], .int .i64 0]) (by simp only [results, Try.results32]; go_simp) rfl ?_
      refine ⟨ret_fi2 HR.out, ?_⟩
      repeat first | (with_reducible exact B3) | (with_reducible refine bl_alloc ?_ _) | (with_reducible refine bl_drew ?_) | (with_reducible refine bl_set ?_ (by first | exact Nat.le_refl _ | (simp; done) | (simp; omega)) _)
  ·
    have HR := Lib.hid (show nearFrF n d m = ((0, 0), mostC n d m) by rw [nearFrF, if_neg hc])
    have hb : (mostC n d m != 0) = true := by simp [hc]
    clear hc
    generalize hcc : mostC n d m = cc at *
    have HC := Lib.hid hcc
    clear hcc
    go_enter Try.func32, Try.ntmps32
    go_wp2_with fail
    have B1 : Bl w ((w.alloc (.cells #[.int .i64 (n), .int .i64 (d)] 44)).alloc (.cells #[.int .i64 (0), .int .i64 (0)] 44)) := (bl_alloc (bl_alloc (bl_refl _) _) _)
    have xF_1 : Bx ((w.alloc (.cells #[.int .i64 (n), .int .i64 (d)] 44)).alloc (.cells #[.int .i64 (0), .int .i64 (0)] 44)) (w.heap.size) #[.int .i64 (n), .int .i64 (d)] := ((Bx.new (b := w.heap.size) _ #[.int .i64 (n), .int .i64 (d)] 44 (by first | rfl | simp)).alloc _)
    have xR_1 : Bx ((w.alloc (.cells #[.int .i64 (n), .int .i64 (d)] 44)).alloc (.cells #[.int .i64 (0), .int .i64 (0)] 44)) (w.heap.size + 1) #[.int .i64 (0), .int .i64 (0)] := (Bx.new (b := w.heap.size + 1) _ #[.int .i64 (0), .int .i64 (0)] 44 (by first | rfl | simp))
    have zz1 : w.heap.size + 2 ≤ ((w.alloc (.cells #[.int .i64 (n), .int .i64 (d)] 44)).alloc (.cells #[.int .i64 (0), .int .i64 (0)] 44)).heap.size := (by simp)
    generalize ((w.alloc (.cells #[.int .i64 (n), .int .i64 (d)] 44)).alloc (.cells #[.int .i64 (0), .int .i64 (0)] 44)) = w1 at *
    obtain ⟨cF_1, fF_1, zF_1⟩ := xF_1.out
    obtain ⟨cR_1, fR_1, zR_1⟩ := xR_1.out
    go_cut [6] (fun s6 wx => s6 = .int .i64 cc ∧ Bl w1 wx)
    case first =>
      go_region_held3 (fun w' => w'.cell? ⟨w.heap.size, 0, none⟩ = some (.int .i64 (n)) ∧ w'.cell? ⟨w.heap.size, 1, none⟩ = some (.int .i64 (d))) (first | (simp [*]; done) | (go_simp; done) | go_keep)
        (first | (go_at_call 67; go_must (refine (within_any _ _ _ _).mono ?_; rintro _ _ ⟨rfl, rfl⟩)) | (go_at_call 71; go_must (refine (checkBest_eq HC.out _ (SlF.lit (fs := [(n, d)]) (cs := #[.int .i64 (n), .int .i64 (d)]) (by first | exact (Bx.new (b := w1.heap.size) _ #[.int .i64 (n), .int .i64 (d)] 44 (by first | rfl | simp)).drew | exact (Bx.new (b := w1.heap.size) _ #[.int .i64 (n), .int .i64 (d)] 44 (by first | rfl | simp))) rfl (Nat.le_refl _) (by simp [maxLen]) (lit1 n d))).mono ?_; rintro e wk ⟨rfl, hbk⟩; have Bk : Bl w1 wk := (by first | exact bl_call (bl_drew (bl_alloc (bl_refl _) _)) hbk | exact bl_call (bl_alloc (bl_drew (bl_refl _)) _) hbk); obtain ⟨cy, fy, zy⟩ := (xF_1.below Bk).out)))
      all_goals (go_wp2_with fail; all_goals go_meet; all_goals exact ⟨rfl, Bk⟩)
    case rest =>
      obtain ⟨rfl, hj⟩ := hcut
      obtain ⟨w2, rfl⟩ : ∃ x : World, x = wc := ⟨_, rfl⟩
      have B2 : Bl w w2 := bl_call B1 hj
      have xF_2 : Bx w2 (w.heap.size) #[.int .i64 (n), .int .i64 (d)] := xF_1.below hj
      have xR_2 : Bx w2 (w.heap.size + 1) #[.int .i64 (0), .int .i64 (0)] := xR_1.below hj
      clear cF_1 fF_1 zF_1 cR_1 fR_1 zR_1
      obtain ⟨cF_2, fF_2, zF_2⟩ := xF_2.out
      obtain ⟨cR_2, fR_2, zR_2⟩ := xR_2.out
      go_wp2
      refine bodyPost_ret (v := .tuple #[.agg #[.int .i64 0, .int .i64 0], .int .i64 cc]) (by simp only [results, Try.results32]; go_simp) rfl ?_
      refine ⟨ret_fi2 HR.out, ?_⟩
      repeat first | (with_reducible exact B2) | (with_reducible refine bl_alloc ?_ _) | (with_reducible refine bl_drew ?_) | (with_reducible refine bl_set ?_ (by first | exact Nat.le_refl _ | (simp; done) | (simp; omega)) _)

end Go.Proofs.Ytgkelemfbmmgnaa

/- Plain numbers, no program: the nearest numerator over a denominator, and when a fraction is nearer than all with lesser denominators. -/
namespace Go.Proofs.Ytgkelemfbmmgnaa
set_option linter.unusedVariables false
set_option linter.unusedSimpArgs false

/-- The nearest numerator over q, the distance, and whether there is only one. -/
def nearF (n d q : Int) : Int × Int × Bool :=
  if d < 2 * (n * q - n * q / d * d) then (n * q / d + 1, d - (n * q - n * q / d * d), true) else (n * q / d, n * q - n * q / d * d, decide (2 * (n * q - n * q / d * d) < d))

theorem rest_bd {k d : Int} (hd : 0 < d) : 0 ≤ k - k / d * d ∧ k - k / d * d < d := by
  have e := Int.mul_ediv_add_emod k d
  have r1 := Int.emod_nonneg k (show d ≠ 0 by omega)
  have r2 := Int.emod_lt_of_pos k hd
  have c1 : k / d * d = d * (k / d) := Int.mul_comm _ _
  omega
/-- Every other numerator is a whole d away. -/
theorem off_or {k d p u : Int} (hd : 0 < d) : k - u * d ≤ k - p * d - d ∨ k - u * d = k - p * d ∧ u = p ∨ k - p * d + d ≤ k - u * d := by
  rcases Int.lt_trichotomy u p with h | h | h
  · right; right
    have := Int.mul_le_mul_of_nonneg_right (show u + 1 ≤ p by omega) (show 0 ≤ d by omega)
    have e : (u + 1) * d = u * d + d := by grind
    omega
  · right; left; subst h; exact ⟨rfl, rfl⟩
  · left
    have := Int.mul_le_mul_of_nonneg_right (show p + 1 ≤ u by omega) (show 0 ≤ d by omega)
    have e : (p + 1) * d = p * d + d := by grind
    omega
theorem near_dist {n d : Int} (hd : 0 < d) (q : Int) : ab (n * q - (nearF n d q).1 * d) = (nearF n d q).2.1 ∧ 0 ≤ (nearF n d q).2.1 := by
  have b := rest_bd (k := n * q) hd
  unfold nearF
  split
  · have e : (n * q / d + 1) * d = n * q / d * d + d := by grind
    simp only []
    rw [ab_neg (by omega)]
    omega
  · simp only []
    rw [ab_pos (by omega)]
    omega
theorem near_least {n d : Int} (hd : 0 < d) (q u : Int) : (nearF n d q).2.1 ≤ ab (n * q - u * d) := by
  have b := rest_bd (k := n * q) hd
  have o := off_or (k := n * q) (p := n * q / d) (u := u) hd
  unfold nearF ab
  split
  · simp only []
    omega
  · simp only []
    omega
theorem near_only {n d : Int} (hd : 0 < d) (q u : Int) (ho : (nearF n d q).2.2 = true) (hu : ab (n * q - u * d) = (nearF n d q).2.1) : u = (nearF n d q).1 := by
  have b := rest_bd (k := n * q) hd
  have o := off_or (k := n * q) (p := n * q / d) (u := u) hd
  have o2 := off_or (k := n * q) (p := n * q / d + 1) (u := u) hd
  have e : (n * q / d + 1) * d = n * q / d * d + d := by grind
  unfold nearF at ho hu ⊢
  unfold ab at hu
  split at hu
  · rename_i h1
    simp only [if_pos h1] at ho ⊢
    simp only [] at hu
    omega
  · rename_i h1
    simp only [if_neg h1, decide_eq_true_eq] at ho ⊢
    simp only [] at hu
    omega
theorem near_two {n d : Int} (hd : 0 < d) (q : Int) (ho : (nearF n d q).2.2 = false) : ab (n * q - ((nearF n d q).1 + 1) * d) = (nearF n d q).2.1 := by
  have b := rest_bd (k := n * q) hd
  have e : (n * q / d + 1) * d = n * q / d * d + d := by grind
  unfold nearF at ho ⊢
  split at ho
  · simp at ho
  · rename_i h1
    simp only [if_neg h1, decide_eq_false_iff_not] at ho ⊢
    rw [ab_neg (by omega)]
    omega

/-- A fraction with a bounded denominator in terms of the two neighbours. -/
theorem SP.comb {N D m a b c e : Int} (x : SP N D m a b c e) (hx : m < b + e) {u q : Int} (h1 : 1 ≤ q) (h2 : q ≤ m) :
    ∃ s t : Int, u = s * a + t * c ∧ q = s * b + t * e ∧ N * q - u * D = s * (N * b - a * D) - t * (c * D - N * e) ∧ ((1 ≤ s ∧ t ≤ 0) ∨ (s ≤ 0 ∧ 1 ≤ t)) := by
  have dt := x.det
  have hq : q = (c * q - e * u) * b + (b * u - a * q) * e := by grind
  refine ⟨c * q - e * u, b * u - a * q, by grind, hq, by grind, ?_⟩
  have hb := x.hb; have he := x.hd
  generalize c * q - e * u = s at *
  generalize b * u - a * q = t at *
  rcases Int.lt_or_le 0 s with h | h
  · rcases Int.lt_or_le 0 t with g | g
    · have g1 := Int.mul_le_mul_of_nonneg_right (show 1 ≤ s by omega) (show 0 ≤ b by omega)
      have g2 := Int.mul_le_mul_of_nonneg_right (show 1 ≤ t by omega) (show 0 ≤ e by omega)
      omega
    · left; omega
  · right
    refine ⟨h, ?_⟩
    rcases Int.lt_or_le 0 t with g | g
    · omega
    · have g1 := Int.mul_le_mul_of_nonneg_right (show s ≤ 0 by omega) (show 0 ≤ b by omega)
      have g2 := Int.mul_le_mul_of_nonneg_right (show t ≤ 0 by omega) (show 0 ≤ e by omega)
      omega
/-- No fraction with a bounded denominator comes nearer than the neighbours do. -/
theorem SP.far {N D m a b c e : Int} (x : SP N D m a b c e) (hx : m < b + e) {u q : Int} (h1 : 1 ≤ q) (h2 : q ≤ m) :
    (N * b - a * D ≤ ab (N * q - u * D) ∧ (ab (N * q - u * D) = N * b - a * D → N * b - a * D < c * D - N * e → u = a ∧ q = b)) ∨
    (c * D - N * e ≤ ab (N * q - u * D) ∧ (ab (N * q - u * D) = c * D - N * e → c * D - N * e < N * b - a * D → u = c ∧ q = e)) := by
  obtain ⟨s, t, hu, hq, hv, hst⟩ := x.comb hx (u := u) h1 h2
  have hX := x.lo; have hY := x.hi
  rcases hst with ⟨hs, ht⟩ | ⟨hs, ht⟩
  · left
    have g1 := Int.mul_le_mul_of_nonneg_right (show (0 : Int) ≤ s - 1 by omega) (show 0 ≤ N * b - a * D by omega)
    have g2 := Int.mul_le_mul_of_nonneg_right (show (0 : Int) ≤ -t by omega) (show 0 ≤ c * D - N * e by omega)
    have e1 : (s - 1) * (N * b - a * D) = s * (N * b - a * D) - (N * b - a * D) := by grind
    have e2 : -t * (c * D - N * e) = -(t * (c * D - N * e)) := by grind
    rw [ab_pos (by omega)]
    refine ⟨by omega, fun h _ => ?_⟩
    have hs1 : s = 1 := by
      rcases Int.lt_or_le 1 s with g | g
      · have := Int.mul_le_mul_of_nonneg_right (show (1 : Int) ≤ s - 1 by omega) (show 0 ≤ N * b - a * D by omega)
        omega
      · omega
    have ht0 : t = 0 := by
      rcases Int.lt_or_le t 0 with g | g
      · have := Int.mul_le_mul_of_nonneg_right (show (1 : Int) ≤ -t by omega) (show 0 ≤ c * D - N * e by omega)
        omega
      · omega
    subst hs1 ht0
    constructor <;> grind
  · right
    have g1 := Int.mul_le_mul_of_nonneg_right (show (0 : Int) ≤ t - 1 by omega) (show 0 ≤ c * D - N * e by omega)
    have g2 := Int.mul_le_mul_of_nonneg_right (show (0 : Int) ≤ -s by omega) (show 0 ≤ N * b - a * D by omega)
    have e1 : (t - 1) * (c * D - N * e) = t * (c * D - N * e) - (c * D - N * e) := by grind
    have e2 : -s * (N * b - a * D) = -(s * (N * b - a * D)) := by grind
    rw [ab_neg (by omega)]
    refine ⟨by omega, fun h _ => ?_⟩
    have ht1 : t = 1 := by
      rcases Int.lt_or_le 1 t with g | g
      · have := Int.mul_le_mul_of_nonneg_right (show (1 : Int) ≤ t - 1 by omega) (show 0 ≤ c * D - N * e by omega)
        omega
      · omega
    have hs0 : s = 0 := by
      rcases Int.lt_or_le s 0 with g | g
      · have := Int.mul_le_mul_of_nonneg_right (show (1 : Int) ≤ -s by omega) (show 0 ≤ N * b - a * D by omega)
        omega
      · omega
    subst ht1 hs0
    constructor <;> grind

/-- A best approximation of the second kind, as the reference says it. -/
noncomputable def secondF (n d x y : Int) : Bool :=
  if y = d then decide (x = n)
  else if d < y then false
  else (decide (offF n d (sidesF n d y).1.1 (sidesF n d y).1.2 < offF n d (sidesF n d y).2.1 (sidesF n d y).2.2) && (decide (x = (sidesF n d y).1.1) && decide (y = (sidesF n d y).1.2))) ||
    (decide (offF n d (sidesF n d y).2.1 (sidesF n d y).2.2 < offF n d (sidesF n d y).1.1 (sidesF n d y).1.2) && (decide (x = (sidesF n d y).2.1) && decide (y = (sidesF n d y).2.2)))

/-- The two sides for a lesser denominator: all that is needed of them. -/
theorem second_sides {n d y : Int} (hg : gcdI n d = 1) (h1 : 1 ≤ y) (hy : y < d) : ∃ a b c e, sidesF n d y = ((a, b), (c, e)) ∧ SP n d y a b c e ∧ y < b + e ∧ offF n d a b = n * b - a * d ∧ offF n d c e = c * d - n * e := by
  have s := sidesF_spec hg h1 (show ¬ d ≤ y by omega)
  generalize sidesF n d y = z at *
  obtain ⟨⟨a, b⟩, ⟨c, e⟩⟩ := z
  simp only [] at s
  have s5 := s.1.lo; have s6 := s.1.hi
  exact ⟨a, b, c, e, rfl, s.1, s.2, by rw [offF, ab_pos (by omega)], by rw [offF, ab_neg (by omega)]; omega⟩

theorem no_own {n d q : Int} (hd : 0 < d) (hg : gcdI n d = 1) (h1 : 1 ≤ q) (hq : q < d) : 0 < (nearF n d q).2.1 := by
  have g := near_dist (n := n) hd q
  have hne := not_own (N := n) (D := d) (a := (nearF n d q).1) (b := q) hg h1 hq
  have : (nearF n d q).2.1 ≠ 0 := by
    intro h
    rw [h] at g
    unfold ab at g
    omega
  omega

/-- A nearer or equally near numerator over a lesser denominator: no. -/
theorem second_no {n d x y q : Int} (hd : 0 < d) (hg : gcdI n d = 1) (h1 : 1 ≤ q) (hq : q < y) (h : (nearF n d q).2.1 ≤ offF n d x y) : secondF n d x y = false := by
  unfold secondF
  split
  · rename_i e
    subst e
    simp only [decide_eq_false_iff_not]
    rintro rfl
    have := no_own hd hg h1 hq
    have : offF x y x y = 0 := by simp [offF, ab]
    omega
  · split
    · rfl
    · obtain ⟨a, b, c, e, hs, hsp, hx, o1, o2⟩ := second_sides hg (show 1 ≤ y by omega) (show y < d by omega)
      rw [hs]
      simp only []
      have g := near_dist (n := n) hd q
      have f := hsp.far hx (u := (nearF n d q).1) (q := q) h1 (by omega)
      rw [g.1] at f
      simp only [Bool.or_eq_false_iff, Bool.and_eq_false_iff, decide_eq_false_iff_not]
      rw [o1, o2]
      constructor
      · by_cases hlt : n * b - a * d < c * d - n * e
        · right
          by_cases hxa : x = a
          · right
            intro hyb
            subst hxa hyb
            rw [o1] at h
            rcases f with f | f
            · have := (f.2 (by omega) hlt).2
              omega
            · omega
          · exact .inl hxa
        · exact .inl hlt
      · by_cases hlt : c * d - n * e < n * b - a * d
        · right
          by_cases hxa : x = c
          · right
            intro hyb
            subst hxa hyb
            rw [o2] at h
            rcases f with f | f
            · omega
            · have := (f.2 (by omega) hlt).2
              omega
          · exact .inl hxa
        · exact .inl hlt

/-- Nearer than all with lesser denominators: the test at the denominator itself decides. -/
theorem second_end {n d x y : Int} (hd : 0 < d) (hg : gcdI n d = 1) (h1 : 1 ≤ y) (hall : ∀ q, 1 ≤ q → q < y → offF n d x y < (nearF n d q).2.1) :
    secondF n d x y = (decide ((nearF n d y).1 = x) && decide ((nearF n d y).2.1 = offF n d x y) && (nearF n d y).2.2) := by
  have hoff : offF n d x y = ab (n * y - x * d) := rfl
  have gy := near_dist (n := n) hd y
  have ly := near_least (n := n) hd y
  have key : secondF n d x y = true ↔ ((nearF n d y).1 = x ∧ (nearF n d y).2.1 = offF n d x y) ∧ (nearF n d y).2.2 = true := by
    unfold secondF
    split
    · rename_i e
      subst e
      have hz := ly n
      rw [show n * y - n * y = 0 by omega] at hz
      have hz0 : (nearF n y y).2.1 = 0 := by
        have : ab 0 = 0 := by simp [ab]
        omega
      rw [hz0] at gy
      have hp : (nearF n y y).1 = n := by
        have h0 : n * y - (nearF n y y).1 * y = 0 := by
          have := gy.1
          unfold ab at this
          omega
        have : ((nearF n y y).1) * y = n * y := by omega
        exact Int.eq_of_mul_eq_mul_right (by omega) this
      have ho : (nearF n y y).2.2 = true := by
        cases hb : (nearF n y y).2.2 with
        | true => rfl
        | false =>
          have := near_two (n := n) hd y hb
          rw [hz0, hp] at this
          have e : (n + 1) * y = n * y + y := by grind
          unfold ab at this
          omega
      simp only [decide_eq_true_eq]
      rw [hp, hz0, ho]
      constructor
      · rintro rfl
        exact ⟨⟨rfl, by simp [offF, ab]⟩, rfl⟩
      · rintro ⟨⟨rfl, _⟩, _⟩; rfl
    · rename_i hne
      split
      · rename_i hlt
        constructor
        · intro h; cases h
        · intro _
          have h0 := hall d (by omega) hlt
          have hz := near_least (n := n) hd d n
          rw [show n * d - n * d = 0 by omega] at hz
          have : ab 0 = 0 := by simp [ab]
          have := offF_nonneg n d x y
          omega
      · rename_i hge
        obtain ⟨a, b, c, e, hs, hsp, hx, o1, o2⟩ := second_sides hg h1 (show y < d by omega)
        rw [hs]
        simp only [Bool.or_eq_true, Bool.and_eq_true, decide_eq_true_eq]
        rw [o1, o2]
        have hb := hsp.hb; have he := hsp.hd; have bm := hsp.bm; have em := hsp.dm
        have fg : ∀ u, _ := fun u => hsp.far hx (u := u) (q := y) h1 (Int.le_refl _)
        have nb := near_least (n := n) hd b a
        have ne := near_least (n := n) hd e c
        rw [show ab (n * b - a * d) = n * b - a * d from ab_pos (by have := hsp.lo; omega)] at nb
        rw [show ab (n * e - c * d) = c * d - n * e by rw [ab_neg (by have := hsp.hi; omega)]; omega] at ne
        constructor
        · rintro (⟨hlt, hxa, hyb⟩ | ⟨hlt, hxa, hyb⟩)
          · subst hxa hyb
            have f1 := fg (nearF n d y).1
            rw [gy.1] at f1
            have hr : (nearF n d y).2.1 = n * y - x * d := by
              rcases f1 with f1 | f1 <;> omega
            have hp : (nearF n d y).1 = x := by
              rcases f1 with f1 | f1
              · exact (f1.2 hr hlt).1
              · omega
            refine ⟨⟨hp, by rw [o1]; exact hr⟩, ?_⟩
            cases ho : (nearF n d y).2.2 with
            | true => rfl
            | false =>
              have t := near_two (n := n) hd y ho
              have f2 := fg ((nearF n d y).1 + 1)
              rw [t, hr] at f2
              rcases f2 with f2 | f2
              · have := (f2.2 rfl hlt).1; omega
              · omega
          · subst hxa hyb
            have f1 := fg (nearF n d y).1
            rw [gy.1] at f1
            have hr : (nearF n d y).2.1 = x * d - n * y := by
              rcases f1 with f1 | f1 <;> omega
            have hp : (nearF n d y).1 = x := by
              rcases f1 with f1 | f1
              · omega
              · exact (f1.2 hr hlt).1
            refine ⟨⟨hp, by rw [o2]; exact hr⟩, ?_⟩
            cases ho : (nearF n d y).2.2 with
            | true => rfl
            | false =>
              have t := near_two (n := n) hd y ho
              have f2 := fg ((nearF n d y).1 + 1)
              rw [t, hr] at f2
              rcases f2 with f2 | f2
              · omega
              · have := (f2.2 rfl hlt).1; omega
        · rintro ⟨⟨hp, hr⟩, ho⟩
          have fx := fg x
          rw [← hoff] at fx
          have cb : b < y → n * b - a * d > offF n d x y := fun h => by have := hall b hb h; omega
          have ce : e < y → c * d - n * e > offF n d x y := fun h => by have := hall e he h; omega
          have hbe : b = y ∨ e = y := by
            rcases Int.lt_or_le b y with h | h
            · rcases Int.lt_or_le e y with g | g
              · have := cb h; have := ce g
                rcases fx with fx | fx <;> omega
              · right; omega
            · left; omega
          have only : ∀ u, ab (n * y - u * d) = offF n d x y → u = x := fun u hu => by
            have := near_only (n := n) hd y u ho (by omega)
            omega
          have la := ly a
          have lc := ly c
          have hlo := hsp.lo; have hhi := hsp.hi
          rcases hbe with hby | hey
          · subst hby
            rw [show ab (n * b - a * d) = n * b - a * d from ab_pos (by omega)] at la
            rcases Int.lt_trichotomy (n * b - a * d) (c * d - n * e) with hlt | heq | hgt
            · left
              have h3 : offF n d x b = n * b - a * d := by rcases fx with fx | fx <;> omega
              have := only a (by rw [ab_pos (by omega)]; omega)
              exact ⟨hlt, this.symm, rfl⟩
            · exfalso
              have h3 : offF n d x b = n * b - a * d := by rcases fx with fx | fx <;> omega
              have ha := only a (by rw [ab_pos (by omega)]; omega)
              rcases Int.lt_or_le e b with g | g
              · have := ce g; omega
              · have eb : e = b := by omega
                subst eb
                have hc := only c (by rw [ab_neg (by omega)]; omega)
                have := hsp.det
                rw [ha, hc] at this
                have e0 : x * e - x * e = 0 := by omega
                omega
            · right
              rcases Int.lt_or_le e b with g | g
              · have := ce g
                rcases fx with fx | fx <;> omega
              · have eb : e = b := by omega
                subst eb
                rw [show ab (n * e - c * d) = c * d - n * e by rw [ab_neg (by omega)]; omega] at lc
                have h3 : offF n d x e = c * d - n * e := by rcases fx with fx | fx <;> omega
                have := only c (by rw [ab_neg (by omega)]; omega)
                exact ⟨hgt, this.symm, rfl⟩
          · subst hey
            rw [show ab (n * e - c * d) = c * d - n * e by rw [ab_neg (by omega)]; omega] at lc
            rcases Int.lt_trichotomy (n * b - a * d) (c * d - n * e) with hlt | heq | hgt
            · left
              rcases Int.lt_or_le b e with g | g
              · have := cb g
                rcases fx with fx | fx <;> omega
              · have eb : b = e := by omega
                subst eb
                rw [show ab (n * b - a * d) = n * b - a * d from ab_pos (by omega)] at la
                have h3 : offF n d x b = n * b - a * d := by rcases fx with fx | fx <;> omega
                have := only a (by rw [ab_pos (by omega)]; omega)
                exact ⟨hlt, this.symm, rfl⟩
            · exfalso
              have h3 : offF n d x e = c * d - n * e := by rcases fx with fx | fx <;> omega
              have hc := only c (by rw [ab_neg (by omega)]; omega)
              rcases Int.lt_or_le b e with g | g
              · have := cb g; omega
              · have eb : b = e := by omega
                subst eb
                have ha := only a (by rw [ab_pos (by omega)]; omega)
                have := hsp.det
                rw [ha, hc] at this
                have e0 : x * b - x * b = 0 := by omega
                omega
            · right
              have h3 : offF n d x e = c * d - n * e := by rcases fx with fx | fx <;> omega
              have := only c (by rw [ab_neg (by omega)]; omega)
              exact ⟨hgt, this.symm, rfl⟩
  rw [Bool.eq_iff_iff]
  simp only [Bool.and_eq_true, decide_eq_true_eq]
  exact key

end Go.Proofs.Ytgkelemfbmmgnaa

