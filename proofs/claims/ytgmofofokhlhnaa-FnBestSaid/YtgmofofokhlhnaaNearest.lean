/- NearestFraction: the program and the reference give the same. No condition. -/
import Derived.Test.YtgmofofokhlhnaaMost
namespace Go.Proofs.Ytgmofofokhlhnaa
open Go.RowKit
set_option linter.unusedVariables false
set_option linter.unusedSimpArgs false

/-- The nearest of both sides. -/
noncomputable def nearestF (n d m : Int) : Int × Int :=
  if 0 < cmpErrF n d (sidesF n d m).1.1 (sidesF n d m).1.2 (sidesF n d m).2.1 (sidesF n d m).2.2 ∨ cmpErrF n d (sidesF n d m).1.1 (sidesF n d m).1.2 (sidesF n d m).2.1 (sidesF n d m).2.2 = 0 ∧ (sidesF n d m).2.2 < (sidesF n d m).1.2 then (sidesF n d m).2 else (sidesF n d m).1
theorem nearestF_eq {n d m a b p q : Int} (hs : sidesF n d m = ((a, b), (p, q))) : nearestF n d m = if 0 < cmpErrF n d a b p q ∨ cmpErrF n d a b p q = 0 ∧ q < b then (p, q) else (a, b) := by rw [nearestF, hs]
theorem ret_f2 {r : Int × Int} {a b : Int} (h : r = (a, b)) : Ending.returned (.agg #[.int .i64 a, .int .i64 b]) = .returned (.agg #[.int .i64 r.1, .int .i64 r.2]) := by subst h; rfl

set_option maxRecDepth 100000 in
set_option maxHeartbeats 1600000 in
theorem snearest_any (n d m : Int) (w : World) (hok : okF n d = true) (hn : -1000000 ≤ n ∧ n ≤ 1000000) (hd : d ≤ 1000000) (hm : 1 ≤ m) :
    Calls Try.prog 123 #[.agg #[.int .i64 n, .int .i64 d], .int .i64 m] w fun r w' => r = .returned (.agg #[.int .i64 (nearestF n d m).1, .int .i64 (nearestF n d m).2]) ∧ Bl w w' := by
  have HOK := Lib.hid hok
  clear hok
  obtain ⟨⟨⟨a, b⟩, ⟨p, q⟩⟩, hs⟩ : ∃ x, x = sidesF n d m := ⟨_, rfl⟩
  have HSD := Lib.hid hs.symm
  have HSM := Lib.hid (sides_small HOK.out hm hn hd hs.symm)
  have HN := Lib.hid (nearestF_eq hs.symm)
  clear hs
  obtain ⟨C, hC⟩ : ∃ C, C = cmpErrF n d a b p q := ⟨_, rfl⟩
  have HC := Lib.hid hC.symm
  clear hC
  rcases (show 0 < C ∨ (C = 0 ∧ q < b) ∨ (C = 0 ∧ b ≤ q) ∨ C < 0 by omega) with h | h | h | h
  ·
    have HR := Lib.hid (show nearestF n d m = (p, q) by rw [HN.out, HC.out, if_pos (.inl h)])
    go_enter Try.func123, Try.ntmps123
    go_wp2_with fail
    refine (sides_eq HOK.out m hm HSD.out _).mono ?_
    rintro e w1 ⟨rfl, hb1⟩
    have B1 : Bl w w1 := bl_call (bl_alloc (bl_alloc (bl_refl _) _) _) hb1
    have xF_1 : Bx w1 (w.heap.size) #[.int .i64 (n), .int .i64 (d)] := ((Bx.new (b := w.heap.size) _ #[.int .i64 (n), .int .i64 (d)] 55 (by first | rfl | simp)).alloc _).below hb1
    have xR_1 : Bx w1 (w.heap.size + 1) #[.int .i64 (0), .int .i64 (0)] := (Bx.new (b := w.heap.size + 1) _ #[.int .i64 (0), .int .i64 (0)] 55 (by first | rfl | simp)).below hb1
    obtain ⟨cF_1, fF_1, zF_1⟩ := xF_1.out
    obtain ⟨cR_1, fR_1, zR_1⟩ := xR_1.out
    go_wp2_with fail
    refine (scmpErr_any n d a b p q _ HSM.out.1).mono ?_
    rintro e w2 ⟨rfl, hb2⟩
    have B2 : Bl w w2 := bl_call (bl_alloc (bl_alloc B1 _) _) hb2
    have xF_2 : Bx w2 (w.heap.size) #[.int .i64 (n), .int .i64 (d)] := ((xF_1.alloc _).alloc _).below hb2
    have xR_2 : Bx w2 (w.heap.size + 1) #[.int .i64 (0), .int .i64 (0)] := ((xR_1.alloc _).alloc _).below hb2
    have xL_2 : Bx w2 (w1.heap.size) #[.int .i64 (a), .int .i64 (b)] := ((Bx.new (b := w1.heap.size) _ #[.int .i64 (a), .int .i64 (b)] 55 (by first | rfl | simp)).alloc _).below hb2
    have xH_2 : Bx w2 (w1.heap.size + 1) #[.int .i64 (p), .int .i64 (q)] := (Bx.new (b := w1.heap.size + 1) _ #[.int .i64 (p), .int .i64 (q)] 55 (by first | rfl | simp)).below hb2
    clear cF_1 fF_1 zF_1 cR_1 fR_1 zR_1
    obtain ⟨cF_2, fF_2, zF_2⟩ := xF_2.out
    obtain ⟨cR_2, fR_2, zR_2⟩ := xR_2.out
    obtain ⟨cL_2, fL_2, zL_2⟩ := xL_2.out
    obtain ⟨cH_2, fH_2, zH_2⟩ := xH_2.out
    rw [HC.out]
    go_wp2
    refine bodyPost_ret (v := .agg #[.int .i64 p, .int .i64 q]) (by simp only [results, Try.results123]; go_simp) rfl ?_
    refine ⟨ret_f2 HR.out, ?_⟩
    repeat first | (with_reducible exact B2) | (with_reducible refine bl_alloc ?_ _) | (with_reducible refine bl_drew ?_) | (with_reducible refine bl_set ?_ (by first | exact Nat.le_refl _ | (simp; done) | (simp; omega)) _)
  ·
    have HR := Lib.hid (show nearestF n d m = (p, q) by rw [HN.out, HC.out, if_pos (.inr h)])
    have k0 : (C == 0) = true := by simp [h.1]
    have k1 := Int.le_of_eq h.1
    have k2 := h.2
    clear h
    go_enter Try.func123, Try.ntmps123
    go_wp2_with fail
    refine (sides_eq HOK.out m hm HSD.out _).mono ?_
    rintro e w1 ⟨rfl, hb1⟩
    have B1 : Bl w w1 := bl_call (bl_alloc (bl_alloc (bl_refl _) _) _) hb1
    have xF_1 : Bx w1 (w.heap.size) #[.int .i64 (n), .int .i64 (d)] := ((Bx.new (b := w.heap.size) _ #[.int .i64 (n), .int .i64 (d)] 55 (by first | rfl | simp)).alloc _).below hb1
    have xR_1 : Bx w1 (w.heap.size + 1) #[.int .i64 (0), .int .i64 (0)] := (Bx.new (b := w.heap.size + 1) _ #[.int .i64 (0), .int .i64 (0)] 55 (by first | rfl | simp)).below hb1
    obtain ⟨cF_1, fF_1, zF_1⟩ := xF_1.out
    obtain ⟨cR_1, fR_1, zR_1⟩ := xR_1.out
    go_wp2_with fail
    refine (scmpErr_any n d a b p q _ HSM.out.1).mono ?_
    rintro e w2 ⟨rfl, hb2⟩
    have B2 : Bl w w2 := bl_call (bl_alloc (bl_alloc B1 _) _) hb2
    have xF_2 : Bx w2 (w.heap.size) #[.int .i64 (n), .int .i64 (d)] := ((xF_1.alloc _).alloc _).below hb2
    have xR_2 : Bx w2 (w.heap.size + 1) #[.int .i64 (0), .int .i64 (0)] := ((xR_1.alloc _).alloc _).below hb2
    have xL_2 : Bx w2 (w1.heap.size) #[.int .i64 (a), .int .i64 (b)] := ((Bx.new (b := w1.heap.size) _ #[.int .i64 (a), .int .i64 (b)] 55 (by first | rfl | simp)).alloc _).below hb2
    have xH_2 : Bx w2 (w1.heap.size + 1) #[.int .i64 (p), .int .i64 (q)] := (Bx.new (b := w1.heap.size + 1) _ #[.int .i64 (p), .int .i64 (q)] 55 (by first | rfl | simp)).below hb2
    clear cF_1 fF_1 zF_1 cR_1 fR_1 zR_1
    obtain ⟨cF_2, fF_2, zF_2⟩ := xF_2.out
    obtain ⟨cR_2, fR_2, zR_2⟩ := xR_2.out
    obtain ⟨cL_2, fL_2, zL_2⟩ := xL_2.out
    obtain ⟨cH_2, fH_2, zH_2⟩ := xH_2.out
    rw [HC.out]
    go_wp2
    refine bodyPost_ret (v := .agg #[.int .i64 p, .int .i64 q]) (by simp only [results, Try.results123]; go_simp) rfl ?_
    refine ⟨ret_f2 HR.out, ?_⟩
    repeat first | (with_reducible exact B2) | (with_reducible refine bl_alloc ?_ _) | (with_reducible refine bl_drew ?_) | (with_reducible refine bl_set ?_ (by first | exact Nat.le_refl _ | (simp; done) | (simp; omega)) _)
  ·
    have HR := Lib.hid (show nearestF n d m = (a, b) by rw [HN.out, HC.out, if_neg (by omega)])
    have k0 : (C == 0) = true := by simp [h.1]
    have k1 := Int.le_of_eq h.1
    have k2 := h.2
    clear h
    go_enter Try.func123, Try.ntmps123
    go_wp2_with fail
    refine (sides_eq HOK.out m hm HSD.out _).mono ?_
    rintro e w1 ⟨rfl, hb1⟩
    have B1 : Bl w w1 := bl_call (bl_alloc (bl_alloc (bl_refl _) _) _) hb1
    have xF_1 : Bx w1 (w.heap.size) #[.int .i64 (n), .int .i64 (d)] := ((Bx.new (b := w.heap.size) _ #[.int .i64 (n), .int .i64 (d)] 55 (by first | rfl | simp)).alloc _).below hb1
    have xR_1 : Bx w1 (w.heap.size + 1) #[.int .i64 (0), .int .i64 (0)] := (Bx.new (b := w.heap.size + 1) _ #[.int .i64 (0), .int .i64 (0)] 55 (by first | rfl | simp)).below hb1
    obtain ⟨cF_1, fF_1, zF_1⟩ := xF_1.out
    obtain ⟨cR_1, fR_1, zR_1⟩ := xR_1.out
    go_wp2_with fail
    refine (scmpErr_any n d a b p q _ HSM.out.1).mono ?_
    rintro e w2 ⟨rfl, hb2⟩
    have B2 : Bl w w2 := bl_call (bl_alloc (bl_alloc B1 _) _) hb2
    have xF_2 : Bx w2 (w.heap.size) #[.int .i64 (n), .int .i64 (d)] := ((xF_1.alloc _).alloc _).below hb2
    have xR_2 : Bx w2 (w.heap.size + 1) #[.int .i64 (0), .int .i64 (0)] := ((xR_1.alloc _).alloc _).below hb2
    have xL_2 : Bx w2 (w1.heap.size) #[.int .i64 (a), .int .i64 (b)] := ((Bx.new (b := w1.heap.size) _ #[.int .i64 (a), .int .i64 (b)] 55 (by first | rfl | simp)).alloc _).below hb2
    have xH_2 : Bx w2 (w1.heap.size + 1) #[.int .i64 (p), .int .i64 (q)] := (Bx.new (b := w1.heap.size + 1) _ #[.int .i64 (p), .int .i64 (q)] 55 (by first | rfl | simp)).below hb2
    clear cF_1 fF_1 zF_1 cR_1 fR_1 zR_1
    obtain ⟨cF_2, fF_2, zF_2⟩ := xF_2.out
    obtain ⟨cR_2, fR_2, zR_2⟩ := xR_2.out
    obtain ⟨cL_2, fL_2, zL_2⟩ := xL_2.out
    obtain ⟨cH_2, fH_2, zH_2⟩ := xH_2.out
    rw [HC.out]
    go_wp2
    refine bodyPost_ret (v := .agg #[.int .i64 a, .int .i64 b]) (by simp only [results, Try.results123]; go_simp) rfl ?_
    refine ⟨ret_f2 HR.out, ?_⟩
    repeat first | (with_reducible exact B2) | (with_reducible refine bl_alloc ?_ _) | (with_reducible refine bl_drew ?_) | (with_reducible refine bl_set ?_ (by first | exact Nat.le_refl _ | (simp; done) | (simp; omega)) _)
  ·
    have HR := Lib.hid (show nearestF n d m = (a, b) by rw [HN.out, HC.out, if_neg (by omega)])
    have k0 : (C == 0) = false := by simp; omega
    go_enter Try.func123, Try.ntmps123
    go_wp2_with fail
    refine (sides_eq HOK.out m hm HSD.out _).mono ?_
    rintro e w1 ⟨rfl, hb1⟩
    have B1 : Bl w w1 := bl_call (bl_alloc (bl_alloc (bl_refl _) _) _) hb1
    have xF_1 : Bx w1 (w.heap.size) #[.int .i64 (n), .int .i64 (d)] := ((Bx.new (b := w.heap.size) _ #[.int .i64 (n), .int .i64 (d)] 55 (by first | rfl | simp)).alloc _).below hb1
    have xR_1 : Bx w1 (w.heap.size + 1) #[.int .i64 (0), .int .i64 (0)] := (Bx.new (b := w.heap.size + 1) _ #[.int .i64 (0), .int .i64 (0)] 55 (by first | rfl | simp)).below hb1
    obtain ⟨cF_1, fF_1, zF_1⟩ := xF_1.out
    obtain ⟨cR_1, fR_1, zR_1⟩ := xR_1.out
    go_wp2_with fail
    refine (scmpErr_any n d a b p q _ HSM.out.1).mono ?_
    rintro e w2 ⟨rfl, hb2⟩
    have B2 : Bl w w2 := bl_call (bl_alloc (bl_alloc B1 _) _) hb2
    have xF_2 : Bx w2 (w.heap.size) #[.int .i64 (n), .int .i64 (d)] := ((xF_1.alloc _).alloc _).below hb2
    have xR_2 : Bx w2 (w.heap.size + 1) #[.int .i64 (0), .int .i64 (0)] := ((xR_1.alloc _).alloc _).below hb2
    have xL_2 : Bx w2 (w1.heap.size) #[.int .i64 (a), .int .i64 (b)] := ((Bx.new (b := w1.heap.size) _ #[.int .i64 (a), .int .i64 (b)] 55 (by first | rfl | simp)).alloc _).below hb2
    have xH_2 : Bx w2 (w1.heap.size + 1) #[.int .i64 (p), .int .i64 (q)] := (Bx.new (b := w1.heap.size + 1) _ #[.int .i64 (p), .int .i64 (q)] 55 (by first | rfl | simp)).below hb2
    clear cF_1 fF_1 zF_1 cR_1 fR_1 zR_1
    obtain ⟨cF_2, fF_2, zF_2⟩ := xF_2.out
    obtain ⟨cR_2, fR_2, zR_2⟩ := xR_2.out
    obtain ⟨cL_2, fL_2, zL_2⟩ := xL_2.out
    obtain ⟨cH_2, fH_2, zH_2⟩ := xH_2.out
    rw [HC.out]
    go_wp2
    refine bodyPost_ret (v := .agg #[.int .i64 a, .int .i64 b]) (by simp only [results, Try.results123]; go_simp) rfl ?_
    refine ⟨ret_f2 HR.out, ?_⟩
    repeat first | (with_reducible exact B2) | (with_reducible refine bl_alloc ?_ _) | (with_reducible refine bl_drew ?_) | (with_reducible refine bl_set ?_ (by first | exact Nat.le_refl _ | (simp; done) | (simp; omega)) _)

noncomputable def nearFrF (n d m : Int) : (Int × Int) × Int := if mostC n d m = 0 then (nearestF n d m, 0) else ((0, 0), mostC n d m)

set_option maxRecDepth 100000 in
set_option maxHeartbeats 1600000 in
theorem spec_NearestFraction (n d m : Int) (w : World) :
    Calls Try.prog 54 #[.agg #[.int .i64 n, .int .i64 d], .int .i64 m] w fun r w' => r = .returned (.tuple #[.agg #[.int .i64 (nearFrF n d m).1.1, .int .i64 (nearFrF n d m).1.2], .int .i64 (nearFrF n d m).2]) ∧ Bl w w' := by
  by_cases hc : mostC n d m = 0
  ·
    have HR := Lib.hid (show nearFrF n d m = (((nearestF n d m).1, (nearestF n d m).2), 0) by rw [nearFrF, if_pos hc])
    have hb : (mostC n d m != 0) = false := by simp [hc]
    have HS := Lib.hid (mostC_zero hc)
    clear hc
    generalize hcc : mostC n d m = cc at *
    have HC := Lib.hid hcc
    clear hcc
    obtain ⟨⟨⟨a, b⟩, ⟨p, q⟩⟩, hs⟩ : ∃ x, x = sidesF n d m := ⟨_, rfl⟩
    have HSD := Lib.hid hs.symm
    (try rw [← hs] at HR)
    clear hs
    go_enter Try.func54, Try.ntmps54
    go_wp2_with fail
    refine (most_any n d m _).mono ?_
    rintro e w1 ⟨rfl, hb1⟩
    have B1 : Bl w w1 := bl_call (bl_alloc (bl_alloc (bl_refl _) _) _) hb1
    have xF_1 : Bx w1 (w.heap.size) #[.int .i64 (n), .int .i64 (d)] := ((Bx.new (b := w.heap.size) _ #[.int .i64 (n), .int .i64 (d)] 55 (by first | rfl | simp)).alloc _).below hb1
    have xR_1 : Bx w1 (w.heap.size + 1) #[.int .i64 (0), .int .i64 (0)] := (Bx.new (b := w.heap.size + 1) _ #[.int .i64 (0), .int .i64 (0)] 55 (by first | rfl | simp)).below hb1
    obtain ⟨cF_1, fF_1, zF_1⟩ := xF_1.out
    obtain ⟨cR_1, fR_1, zR_1⟩ := xR_1.out
    rw [HC.out]
    obtain ⟨n1, n2, d1, d2, m1, m2, _⟩ := HS.out
    go_wp2_with fail
    refine (snearest_any n d m _ HS.out.o ⟨HS.out.n1, HS.out.n2⟩ HS.out.d2 HS.out.m1).mono ?_
    rintro e w2 ⟨rfl, hb2⟩
    have B2 : Bl w w2 := bl_call B1 hb2
    have xF_2 : Bx w2 (w.heap.size) #[.int .i64 (n), .int .i64 (d)] := xF_1.below hb2
    have xR_2 : Bx w2 (w.heap.size + 1) #[.int .i64 (0), .int .i64 (0)] := xR_1.below hb2
    clear cF_1 fF_1 zF_1 cR_1 fR_1 zR_1
    obtain ⟨cF_2, fF_2, zF_2⟩ := xF_2.out
    obtain ⟨cR_2, fR_2, zR_2⟩ := xR_2.out
    go_wp2
    refine bodyPost_ret (v := .tuple #[.agg #[.int .i64 (nearestF n d m).1, .int .i64 (nearestF n d m).2], .int .i64 0]) (by simp only [results, Try.results54]; go_simp) rfl ?_
    refine ⟨ret_fi2 HR.out, ?_⟩
    repeat first | (with_reducible exact B2) | (with_reducible refine bl_alloc ?_ _) | (with_reducible refine bl_drew ?_) | (with_reducible refine bl_set ?_ (by first | exact Nat.le_refl _ | (simp; done) | (simp; omega)) _)
  ·
    have HR := Lib.hid (show nearFrF n d m = ((0, 0), mostC n d m) by rw [nearFrF, if_neg hc])
    have hb : (mostC n d m != 0) = true := by simp [hc]
    clear hc
    generalize hcc : mostC n d m = cc at *
    have HC := Lib.hid hcc
    clear hcc
    go_enter Try.func54, Try.ntmps54
    go_wp2_with fail
    refine (most_any n d m _).mono ?_
    rintro e w1 ⟨rfl, hb1⟩
    have B1 : Bl w w1 := bl_call (bl_alloc (bl_alloc (bl_refl _) _) _) hb1
    have xF_1 : Bx w1 (w.heap.size) #[.int .i64 (n), .int .i64 (d)] := ((Bx.new (b := w.heap.size) _ #[.int .i64 (n), .int .i64 (d)] 55 (by first | rfl | simp)).alloc _).below hb1
    have xR_1 : Bx w1 (w.heap.size + 1) #[.int .i64 (0), .int .i64 (0)] := (Bx.new (b := w.heap.size + 1) _ #[.int .i64 (0), .int .i64 (0)] 55 (by first | rfl | simp)).below hb1
    obtain ⟨cF_1, fF_1, zF_1⟩ := xF_1.out
    obtain ⟨cR_1, fR_1, zR_1⟩ := xR_1.out
    rw [HC.out]
    go_wp2
    refine bodyPost_ret (v := .tuple #[.agg #[.int .i64 0, .int .i64 0], .int .i64 cc]) (by simp only [results, Try.results54]; go_simp) rfl ?_
    refine ⟨ret_fi2 HR.out, ?_⟩
    repeat first | (with_reducible exact B1) | (with_reducible refine bl_alloc ?_ _) | (with_reducible refine bl_drew ?_) | (with_reducible refine bl_set ?_ (by first | exact Nat.le_refl _ | (simp; done) | (simp; omega)) _)

end Go.Proofs.Ytgmofofokhlhnaa
