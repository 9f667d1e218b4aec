/- LowerBest and UpperBest: the program and the reference give the same. No condition. -/
import Derived.Test.YtggpldbihndgmaaSide
import Derived.Test.YtggpldbihndgmaaOk
namespace Go.Proofs.Ytggpldbihndgmaa
open Go.RowKit
set_option linter.unusedVariables false
set_option linter.unusedSimpArgs false

theorem ret_fi2 {r : (Int × Int) × Int} {x y c : Int} (h : r = ((x, y), c)) : Ending.returned (.tuple #[.agg #[.int .i64 x, .int .i64 y], .int .i64 c]) = .returned (.tuple #[.agg #[.int .i64 r.1.1, .int .i64 r.1.2], .int .i64 r.2]) := by subst h; rfl
theorem okF_bd {n d : Int} (h : okF n d = true) : 1 ≤ d ∧ d ≤ 1000000000 ∧ -1000000000 ≤ n ∧ n ≤ 1000000000 ∧ gcdI n d = 1 := by
  have := okF_iff.1 h
  exact ⟨this.1.1, this.1.2, this.2.1.1, this.2.1.2, this.2.2⟩
theorem around_any {N D : Int} (h : okF N D = true) (m : Int) (h1 : 1 ≤ m) (w : World) :
    Calls Try.prog 80 #[.agg #[.int .i64 N, .int .i64 D], .int .i64 m] w fun r w' => r = .returned (.tuple #[.agg #[.int .i64 (sidesF N D m).1.1, .int .i64 (sidesF N D m).1.2], .agg #[.int .i64 (sidesF N D m).2.1, .int .i64 (sidesF N D m).2.2]]) ∧ Bl w w' := by
  have := okF_bd h
  by_cases hm : D ≤ m
  · exact around_own N D m w hm
  · exact around_far N D m w h1 hm (by omega) (by omega) (by omega)
theorem side_any {N D : Int} (h : okF N D = true) (m s : Int) (h1 : 1 ≤ m) (w : World) :
    Calls Try.prog 78 #[.agg #[.int .i64 N, .int .i64 D], .int .i64 m, .int .i64 s] w fun r w' => r = .returned (.agg #[.int .i64 (sideF N D m s).1, .int .i64 (sideF N D m s).2]) ∧ Bl w w' := by
  have := okF_bd h
  by_cases hm : D ≤ m
  · exact side_own N D m s w hm
  · exact side_far N D m s w h1 hm (by omega) (by omega) (by omega)
/-- The code of a fraction and a limit. -/
def askC (n d m hi : Int) : Int := if okF n d then (if inB m 1 hi then 0 else 2) else 1

set_option maxHeartbeats 800000 in
theorem asked_any (n d m : Int) (w : World) :
    Calls Try.prog 77 #[.agg #[.int .i64 n, .int .i64 d], .int .i64 m] w fun r w' => r = .returned (.int .i64 (askC n d m 1000000000)) ∧ Bl w w' := by
  cases e1 : okF n d with
  | false =>
    have HR := Lib.hid (show (1 : Int) = askC n d m 1000000000 by simp [askC, e1])
    go_enter Try.func77, Try.ntmps77
    go_wp2_with fail
    refine (ok_any n d _).mono ?_
    rintro e w1 ⟨rfl, hb1⟩
    have B1 : Bl w w1 := bl_call (bl_alloc (bl_refl _) _) hb1
    have xF_1 : Bx w1 (w.heap.size) #[.int .i64 (n), .int .i64 (d)] := (Bx.new (b := w.heap.size) _ #[.int .i64 (n), .int .i64 (d)] 35 (by first | rfl | simp)).below hb1
    obtain ⟨cF_1, fF_1, zF_1⟩ := xF_1.out
    go_wp2
    go_ret
    exact ⟨ret_int HR.out, B1⟩
  | true =>
    cases e2 : inB m 1 1000000000 with
    | false =>
      have HR := Lib.hid (show (2 : Int) = askC n d m 1000000000 by simp [askC, e1, e2])
      have HI := Lib.hid e2
      clear e2
      go_enter Try.func77, Try.ntmps77
      go_wp2_with fail
      refine (ok_any n d _).mono ?_
      rintro e w1 ⟨rfl, hb1⟩
      have B1 : Bl w w1 := bl_call (bl_alloc (bl_refl _) _) hb1
      have xF_1 : Bx w1 (w.heap.size) #[.int .i64 (n), .int .i64 (d)] := (Bx.new (b := w.heap.size) _ #[.int .i64 (n), .int .i64 (d)] 35 (by first | rfl | simp)).below hb1
      obtain ⟨cF_1, fF_1, zF_1⟩ := xF_1.out
      go_wp2_with fail
      refine (in_any _ _ _ _).mono ?_
      rintro _ _ ⟨rfl, rfl⟩
      rw [HI.out]
      go_wp2
      go_ret
      exact ⟨ret_int HR.out, B1⟩
    | true =>
      have HR := Lib.hid (show (0 : Int) = askC n d m 1000000000 by simp [askC, e1, e2])
      have HI := Lib.hid e2
      clear e2
      go_enter Try.func77, Try.ntmps77
      go_wp2_with fail
      refine (ok_any n d _).mono ?_
      rintro e w1 ⟨rfl, hb1⟩
      have B1 : Bl w w1 := bl_call (bl_alloc (bl_refl _) _) hb1
      have xF_1 : Bx w1 (w.heap.size) #[.int .i64 (n), .int .i64 (d)] := (Bx.new (b := w.heap.size) _ #[.int .i64 (n), .int .i64 (d)] 35 (by first | rfl | simp)).below hb1
      obtain ⟨cF_1, fF_1, zF_1⟩ := xF_1.out
      go_wp2_with fail
      refine (in_any _ _ _ _).mono ?_
      rintro _ _ ⟨rfl, rfl⟩
      rw [HI.out]
      go_wp2
      go_ret
      exact ⟨ret_int HR.out, B1⟩

set_option maxHeartbeats 800000 in
theorem between_any (n d m hi : Int) (w : World) :
    Calls Try.prog 79 #[.agg #[.int .i64 n, .int .i64 d], .int .i64 m, .int .i64 hi] w fun r w' => r = .returned (.int .i64 (askC n d m hi)) ∧ Bl w w' := by
  cases e1 : okF n d with
  | false =>
    have HR := Lib.hid (show (1 : Int) = askC n d m hi by simp [askC, e1])
    go_enter Try.func79, Try.ntmps79
    go_wp2_with fail
    refine (validF_any n d _).mono ?_
    rintro e w1 ⟨rfl, hb1⟩
    have B1 : Bl w w1 := bl_call (bl_alloc (bl_refl _) _) hb1
    have xF_1 : Bx w1 (w.heap.size) #[.int .i64 (n), .int .i64 (d)] := (Bx.new (b := w.heap.size) _ #[.int .i64 (n), .int .i64 (d)] 35 (by first | rfl | simp)).below hb1
    obtain ⟨cF_1, fF_1, zF_1⟩ := xF_1.out
    go_wp2
    go_ret
    exact ⟨ret_int HR.out, B1⟩
  | true =>
    cases e2 : inB m 1 hi with
    | false =>
      have HR := Lib.hid (show (2 : Int) = askC n d m hi by simp [askC, e1, e2])
      have HI := Lib.hid e2
      clear e2
      go_enter Try.func79, Try.ntmps79
      go_wp2_with fail
      refine (validF_any n d _).mono ?_
      rintro e w1 ⟨rfl, hb1⟩
      have B1 : Bl w w1 := bl_call (bl_alloc (bl_refl _) _) hb1
      have xF_1 : Bx w1 (w.heap.size) #[.int .i64 (n), .int .i64 (d)] := (Bx.new (b := w.heap.size) _ #[.int .i64 (n), .int .i64 (d)] 35 (by first | rfl | simp)).below hb1
      obtain ⟨cF_1, fF_1, zF_1⟩ := xF_1.out
      go_wp2_with fail
      refine (within_any _ _ _ _).mono ?_
      rintro _ _ ⟨rfl, rfl⟩
      rw [HI.out]
      go_wp2
      go_ret
      exact ⟨ret_int HR.out, B1⟩
    | true =>
      have HR := Lib.hid (show (0 : Int) = askC n d m hi by simp [askC, e1, e2])
      have HI := Lib.hid e2
      clear e2
      go_enter Try.func79, Try.ntmps79
      go_wp2_with fail
      refine (validF_any n d _).mono ?_
      rintro e w1 ⟨rfl, hb1⟩
      have B1 : Bl w w1 := bl_call (bl_alloc (bl_refl _) _) hb1
      have xF_1 : Bx w1 (w.heap.size) #[.int .i64 (n), .int .i64 (d)] := (Bx.new (b := w.heap.size) _ #[.int .i64 (n), .int .i64 (d)] 35 (by first | rfl | simp)).below hb1
      obtain ⟨cF_1, fF_1, zF_1⟩ := xF_1.out
      go_wp2_with fail
      refine (within_any _ _ _ _).mono ?_
      rintro _ _ ⟨rfl, rfl⟩
      rw [HI.out]
      go_wp2
      go_ret
      exact ⟨ret_int HR.out, B1⟩

theorem askC_zero {n d m hi : Int} (h : askC n d m hi = 0) : okF n d = true ∧ 1 ≤ m ∧ m ≤ hi := by
  unfold askC at h
  split at h
  · rename_i h1
    split at h
    · rename_i h2
      have := inB_iff.1 h2
      exact ⟨h1, this.1, this.2⟩
    · simp at h
  · simp at h

noncomputable def lowerBestF (n d m : Int) : (Int × Int) × Int := if askC n d m 1000000000 = 0 then ((sidesF n d m).1, 0) else ((0, 0), askC n d m 1000000000)

set_option maxRecDepth 100000 in
set_option maxHeartbeats 1600000 in
theorem impl_LowerBest (n d m : Int) (w : World) :
    Calls Try.prog 40 #[.agg #[.int .i64 n, .int .i64 d], .int .i64 m] w fun r w' => r = .returned (.tuple #[.agg #[.int .i64 (lowerBestF n d m).1.1, .int .i64 (lowerBestF n d m).1.2], .int .i64 (lowerBestF n d m).2]) ∧ Bl w w' := by
  by_cases hc : askC n d m 1000000000 = 0
  ·
    have HR := Lib.hid (show lowerBestF n d m = (((sidesF n d m).1.1, (sidesF n d m).1.2), 0) by rw [lowerBestF, if_pos hc])
    have hb : (askC n d m 1000000000 != 0) = false := by simp [hc]
    have HS := Lib.hid (askC_zero hc)
    clear hc
    generalize hcc : askC n d m 1000000000 = cc at *
    have HC := Lib.hid hcc
    clear hcc
    go_enter Try.func40, Try.ntmps40
    go_wp2_with fail
    refine (between_any n d m 1000000000 _).mono ?_
    rintro e w1 ⟨rfl, hb1⟩
    have B1 : Bl w w1 := bl_call (bl_alloc (bl_alloc (bl_refl _) _) _) hb1
    have xF_1 : Bx w1 (w.heap.size) #[.int .i64 (n), .int .i64 (d)] := ((Bx.new (b := w.heap.size) _ #[.int .i64 (n), .int .i64 (d)] 35 (by first | rfl | simp)).alloc _).below hb1
    have xR_1 : Bx w1 (w.heap.size + 1) #[.int .i64 (0), .int .i64 (0)] := (Bx.new (b := w.heap.size + 1) _ #[.int .i64 (0), .int .i64 (0)] 35 (by first | rfl | simp)).below hb1
    obtain ⟨cF_1, fF_1, zF_1⟩ := xF_1.out
    obtain ⟨cR_1, fR_1, zR_1⟩ := xR_1.out
    rw [HC.out]
    go_wp2_with fail
    refine (around_any HS.out.1 m HS.out.2.1 _).mono ?_
    rintro e w2 ⟨rfl, hb2⟩
    have B2 : Bl w w2 := bl_call B1 hb2
    have xF_2 : Bx w2 (w.heap.size) #[.int .i64 (n), .int .i64 (d)] := xF_1.below hb2
    have xR_2 : Bx w2 (w.heap.size + 1) #[.int .i64 (0), .int .i64 (0)] := xR_1.below hb2
    clear cF_1 fF_1 zF_1 cR_1 fR_1 zR_1
    obtain ⟨cF_2, fF_2, zF_2⟩ := xF_2.out
    obtain ⟨cR_2, fR_2, zR_2⟩ := xR_2.out
    go_wp2
    refine bodyPost_ret (v := .tuple #[.agg #[.int .i64 (sidesF n d m).1.1, .int .i64 (sidesF n d m).1.2], .int .i64 0]) (by simp only [results, Try.results40]; go_simp) rfl ?_
    refine ⟨ret_fi2 HR.out, ?_⟩
    repeat first | (with_reducible exact B2) | (with_reducible refine bl_alloc ?_ _) | (with_reducible refine bl_drew ?_) | (with_reducible refine bl_set ?_ (by first | exact Nat.le_refl _ | (simp; done) | (simp; omega)) _)
  ·
    have HR := Lib.hid (show lowerBestF n d m = ((0, 0), askC n d m 1000000000) by rw [lowerBestF, if_neg hc])
    have hb : (askC n d m 1000000000 != 0) = true := by simp [hc]
    clear hc
    generalize hcc : askC n d m 1000000000 = cc at *
    have HC := Lib.hid hcc
    clear hcc
    go_enter Try.func40, Try.ntmps40
    go_wp2_with fail
    refine (between_any n d m 1000000000 _).mono ?_
    rintro e w1 ⟨rfl, hb1⟩
    have B1 : Bl w w1 := bl_call (bl_alloc (bl_alloc (bl_refl _) _) _) hb1
    have xF_1 : Bx w1 (w.heap.size) #[.int .i64 (n), .int .i64 (d)] := ((Bx.new (b := w.heap.size) _ #[.int .i64 (n), .int .i64 (d)] 35 (by first | rfl | simp)).alloc _).below hb1
    have xR_1 : Bx w1 (w.heap.size + 1) #[.int .i64 (0), .int .i64 (0)] := (Bx.new (b := w.heap.size + 1) _ #[.int .i64 (0), .int .i64 (0)] 35 (by first | rfl | simp)).below hb1
    obtain ⟨cF_1, fF_1, zF_1⟩ := xF_1.out
    obtain ⟨cR_1, fR_1, zR_1⟩ := xR_1.out
    rw [HC.out]
    go_wp2
    refine bodyPost_ret (v := .tuple #[.agg #[.int .i64 0, .int .i64 0], .int .i64 cc]) (by simp only [results, Try.results40]; go_simp) rfl ?_
    exact ⟨ret_fi2 HR.out, bl_set (bl_set B1 (by first | exact Nat.le_refl _ | (simp; done) | (simp; omega)) _) (by first | exact Nat.le_refl _ | (simp; done) | (simp; omega)) _⟩

set_option maxRecDepth 100000 in
set_option maxHeartbeats 1600000 in
theorem spec_LowerBest (n d m : Int) (w : World) :
    Calls Try.prog 39 #[.agg #[.int .i64 n, .int .i64 d], .int .i64 m] w fun r w' => r = .returned (.tuple #[.agg #[.int .i64 (lowerBestF n d m).1.1, .int .i64 (lowerBestF n d m).1.2], .int .i64 (lowerBestF n d m).2]) ∧ Bl w w' := by
  by_cases hc : askC n d m 1000000000 = 0
  ·
    have HR := Lib.hid (show lowerBestF n d m = (((sidesF n d m).1.1, (sidesF n d m).1.2), 0) by rw [lowerBestF, if_pos hc])
    have hb : (askC n d m 1000000000 != 0) = false := by simp [hc]
    have HS := Lib.hid (askC_zero hc)
    clear hc
    generalize hcc : askC n d m 1000000000 = cc at *
    have HC := Lib.hid hcc
    clear hcc
    go_enter Try.func39, Try.ntmps39
    go_wp2_with fail
    refine (asked_any n d m _).mono ?_
    rintro e w1 ⟨rfl, hb1⟩
    have B1 : Bl w w1 := bl_call (bl_alloc (bl_alloc (bl_refl _) _) _) hb1
    have xF_1 : Bx w1 (w.heap.size) #[.int .i64 (n), .int .i64 (d)] := ((Bx.new (b := w.heap.size) _ #[.int .i64 (n), .int .i64 (d)] 35 (by first | rfl | simp)).alloc _).below hb1
    have xR_1 : Bx w1 (w.heap.size + 1) #[.int .i64 (0), .int .i64 (0)] := (Bx.new (b := w.heap.size + 1) _ #[.int .i64 (0), .int .i64 (0)] 35 (by first | rfl | simp)).below hb1
    obtain ⟨cF_1, fF_1, zF_1⟩ := xF_1.out
    obtain ⟨cR_1, fR_1, zR_1⟩ := xR_1.out
    rw [HC.out]
    go_wp2_with fail
    refine (side_any HS.out.1 m (1) HS.out.2.1 _).mono ?_
    rintro e w2 ⟨rfl, hb2⟩
    have B2 : Bl w w2 := bl_call B1 hb2
    have xF_2 : Bx w2 (w.heap.size) #[.int .i64 (n), .int .i64 (d)] := xF_1.below hb2
    have xR_2 : Bx w2 (w.heap.size + 1) #[.int .i64 (0), .int .i64 (0)] := xR_1.below hb2
    clear cF_1 fF_1 zF_1 cR_1 fR_1 zR_1
    obtain ⟨cF_2, fF_2, zF_2⟩ := xF_2.out
    obtain ⟨cR_2, fR_2, zR_2⟩ := xR_2.out
    rw [show sideF n d m (1) = (sidesF n d m).1 from if_pos (by decide)]
    go_wp2
    refine bodyPost_ret (v := .tuple #[.agg #[.int .i64 (sidesF n d m).1.1, .int .i64 (sidesF n d m).1.2], .int .i64 0]) (by simp only [results, Try.results39]; go_simp) rfl ?_
    exact ⟨ret_fi2 HR.out, bl_set (bl_set B2 (by first | exact Nat.le_refl _ | (simp; done) | (simp; omega)) _) (by first | exact Nat.le_refl _ | (simp; done) | (simp; omega)) _⟩
  ·
    have HR := Lib.hid (show lowerBestF n d m = ((0, 0), askC n d m 1000000000) by rw [lowerBestF, if_neg hc])
    have hb : (askC n d m 1000000000 != 0) = true := by simp [hc]
    clear hc
    generalize hcc : askC n d m 1000000000 = cc at *
    have HC := Lib.hid hcc
    clear hcc
    go_enter Try.func39, Try.ntmps39
    go_wp2_with fail
    refine (asked_any n d m _).mono ?_
    rintro e w1 ⟨rfl, hb1⟩
    have B1 : Bl w w1 := bl_call (bl_alloc (bl_alloc (bl_refl _) _) _) hb1
    have xF_1 : Bx w1 (w.heap.size) #[.int .i64 (n), .int .i64 (d)] := ((Bx.new (b := w.heap.size) _ #[.int .i64 (n), .int .i64 (d)] 35 (by first | rfl | simp)).alloc _).below hb1
    have xR_1 : Bx w1 (w.heap.size + 1) #[.int .i64 (0), .int .i64 (0)] := (Bx.new (b := w.heap.size + 1) _ #[.int .i64 (0), .int .i64 (0)] 35 (by first | rfl | simp)).below hb1
    obtain ⟨cF_1, fF_1, zF_1⟩ := xF_1.out
    obtain ⟨cR_1, fR_1, zR_1⟩ := xR_1.out
    rw [HC.out]
    go_wp2
    refine bodyPost_ret (v := .tuple #[.agg #[.int .i64 0, .int .i64 0], .int .i64 cc]) (by simp only [results, Try.results39]; go_simp) rfl ?_
    exact ⟨ret_fi2 HR.out, bl_set (bl_set B1 (by first | exact Nat.le_refl _ | (simp; done) | (simp; omega)) _) (by first | exact Nat.le_refl _ | (simp; done) | (simp; omega)) _⟩

noncomputable def upperBestF (n d m : Int) : (Int × Int) × Int := if askC n d m 1000000000 = 0 then ((sidesF n d m).2, 0) else ((0, 0), askC n d m 1000000000)

set_option maxRecDepth 100000 in
set_option maxHeartbeats 1600000 in
theorem impl_UpperBest (n d m : Int) (w : World) :
    Calls Try.prog 42 #[.agg #[.int .i64 n, .int .i64 d], .int .i64 m] w fun r w' => r = .returned (.tuple #[.agg #[.int .i64 (upperBestF n d m).1.1, .int .i64 (upperBestF n d m).1.2], .int .i64 (upperBestF n d m).2]) ∧ Bl w w' := by
  by_cases hc : askC n d m 1000000000 = 0
  ·
    have HR := Lib.hid (show upperBestF n d m = (((sidesF n d m).2.1, (sidesF n d m).2.2), 0) by rw [upperBestF, if_pos hc])
    have hb : (askC n d m 1000000000 != 0) = false := by simp [hc]
    have HS := Lib.hid (askC_zero hc)
    clear hc
    generalize hcc : askC n d m 1000000000 = cc at *
    have HC := Lib.hid hcc
    clear hcc
    go_enter Try.func42, Try.ntmps42
    go_wp2_with fail
    refine (between_any n d m 1000000000 _).mono ?_
    rintro e w1 ⟨rfl, hb1⟩
    have B1 : Bl w w1 := bl_call (bl_alloc (bl_alloc (bl_refl _) _) _) hb1
    have xF_1 : Bx w1 (w.heap.size) #[.int .i64 (n), .int .i64 (d)] := ((Bx.new (b := w.heap.size) _ #[.int .i64 (n), .int .i64 (d)] 35 (by first | rfl | simp)).alloc _).below hb1
    have xR_1 : Bx w1 (w.heap.size + 1) #[.int .i64 (0), .int .i64 (0)] := (Bx.new (b := w.heap.size + 1) _ #[.int .i64 (0), .int .i64 (0)] 35 (by first | rfl | simp)).below hb1
    obtain ⟨cF_1, fF_1, zF_1⟩ := xF_1.out
    obtain ⟨cR_1, fR_1, zR_1⟩ := xR_1.out
    rw [HC.out]
    go_wp2_with fail
    refine (around_any HS.out.1 m HS.out.2.1 _).mono ?_
    rintro e w2 ⟨rfl, hb2⟩
    have B2 : Bl w w2 := bl_call B1 hb2
    have xF_2 : Bx w2 (w.heap.size) #[.int .i64 (n), .int .i64 (d)] := xF_1.below hb2
    have xR_2 : Bx w2 (w.heap.size + 1) #[.int .i64 (0), .int .i64 (0)] := xR_1.below hb2
    clear cF_1 fF_1 zF_1 cR_1 fR_1 zR_1
    obtain ⟨cF_2, fF_2, zF_2⟩ := xF_2.out
    obtain ⟨cR_2, fR_2, zR_2⟩ := xR_2.out
    go_wp2
    refine bodyPost_ret (v := .tuple #[.agg #[.int .i64 (sidesF n d m).2.1, .int .i64 (sidesF n d m).2.2], .int .i64 0]) (by simp only [results, Try.results42]; go_simp) rfl ?_
    refine ⟨ret_fi2 HR.out, ?_⟩
    repeat first | (with_reducible exact B2) | (with_reducible refine bl_alloc ?_ _) | (with_reducible refine bl_drew ?_) | (with_reducible refine bl_set ?_ (by first | exact Nat.le_refl _ | (simp; done) | (simp; omega)) _)
  ·
    have HR := Lib.hid (show upperBestF n d m = ((0, 0), askC n d m 1000000000) by rw [upperBestF, if_neg hc])
    have hb : (askC n d m 1000000000 != 0) = true := by simp [hc]
    clear hc
    generalize hcc : askC n d m 1000000000 = cc at *
    have HC := Lib.hid hcc
    clear hcc
    go_enter Try.func42, Try.ntmps42
    go_wp2_with fail
    refine (between_any n d m 1000000000 _).mono ?_
    rintro e w1 ⟨rfl, hb1⟩
    have B1 : Bl w w1 := bl_call (bl_alloc (bl_alloc (bl_refl _) _) _) hb1
    have xF_1 : Bx w1 (w.heap.size) #[.int .i64 (n), .int .i64 (d)] := ((Bx.new (b := w.heap.size) _ #[.int .i64 (n), .int .i64 (d)] 35 (by first | rfl | simp)).alloc _).below hb1
    have xR_1 : Bx w1 (w.heap.size + 1) #[.int .i64 (0), .int .i64 (0)] := (Bx.new (b := w.heap.size + 1) _ #[.int .i64 (0), .int .i64 (0)] 35 (by first | rfl | simp)).below hb1
    obtain ⟨cF_1, fF_1, zF_1⟩ := xF_1.out
    obtain ⟨cR_1, fR_1, zR_1⟩ := xR_1.out
    rw [HC.out]
    go_wp2
    refine bodyPost_ret (v := .tuple #[.agg #[.int .i64 0, .int .i64 0], .int .i64 cc]) (by simp only [results, Try.results42]; go_simp) rfl ?_
    exact ⟨ret_fi2 HR.out, bl_set (bl_set B1 (by first | exact Nat.le_refl _ | (simp; done) | (simp; omega)) _) (by first | exact Nat.le_refl _ | (simp; done) | (simp; omega)) _⟩

set_option maxRecDepth 100000 in
set_option maxHeartbeats 1600000 in
theorem spec_UpperBest (n d m : Int) (w : World) :
    Calls Try.prog 41 #[.agg #[.int .i64 n, .int .i64 d], .int .i64 m] w fun r w' => r = .returned (.tuple #[.agg #[.int .i64 (upperBestF n d m).1.1, .int .i64 (upperBestF n d m).1.2], .int .i64 (upperBestF n d m).2]) ∧ Bl w w' := by
  by_cases hc : askC n d m 1000000000 = 0
  ·
    have HR := Lib.hid (show upperBestF n d m = (((sidesF n d m).2.1, (sidesF n d m).2.2), 0) by rw [upperBestF, if_pos hc])
    have hb : (askC n d m 1000000000 != 0) = false := by simp [hc]
    have HS := Lib.hid (askC_zero hc)
    clear hc
    generalize hcc : askC n d m 1000000000 = cc at *
    have HC := Lib.hid hcc
    clear hcc
    go_enter Try.func41, Try.ntmps41
    go_wp2_with fail
    refine (asked_any n d m _).mono ?_
    rintro e w1 ⟨rfl, hb1⟩
    have B1 : Bl w w1 := bl_call (bl_alloc (bl_alloc (bl_refl _) _) _) hb1
    have xF_1 : Bx w1 (w.heap.size) #[.int .i64 (n), .int .i64 (d)] := ((Bx.new (b := w.heap.size) _ #[.int .i64 (n), .int .i64 (d)] 35 (by first | rfl | simp)).alloc _).below hb1
    have xR_1 : Bx w1 (w.heap.size + 1) #[.int .i64 (0), .int .i64 (0)] := (Bx.new (b := w.heap.size + 1) _ #[.int .i64 (0), .int .i64 (0)] 35 (by first | rfl | simp)).below hb1
    obtain ⟨cF_1, fF_1, zF_1⟩ := xF_1.out
    obtain ⟨cR_1, fR_1, zR_1⟩ := xR_1.out
    rw [HC.out]
    go_wp2_with fail
    refine (side_any HS.out.1 m (-1) HS.out.2.1 _).mono ?_
    rintro e w2 ⟨rfl, hb2⟩
    have B2 : Bl w w2 := bl_call B1 hb2
    have xF_2 : Bx w2 (w.heap.size) #[.int .i64 (n), .int .i64 (d)] := xF_1.below hb2
    have xR_2 : Bx w2 (w.heap.size + 1) #[.int .i64 (0), .int .i64 (0)] := xR_1.below hb2
    clear cF_1 fF_1 zF_1 cR_1 fR_1 zR_1
    obtain ⟨cF_2, fF_2, zF_2⟩ := xF_2.out
    obtain ⟨cR_2, fR_2, zR_2⟩ := xR_2.out
    rw [show sideF n d m (-1) = (sidesF n d m).2 from if_neg (by decide)]
    go_wp2
    refine bodyPost_ret (v := .tuple #[.agg #[.int .i64 (sidesF n d m).2.1, .int .i64 (sidesF n d m).2.2], .int .i64 0]) (by simp only [results, Try.results41]; go_simp) rfl ?_
    exact ⟨ret_fi2 HR.out, bl_set (bl_set B2 (by first | exact Nat.le_refl _ | (simp; done) | (simp; omega)) _) (by first | exact Nat.le_refl _ | (simp; done) | (simp; omega)) _⟩
  ·
    have HR := Lib.hid (show upperBestF n d m = ((0, 0), askC n d m 1000000000) by rw [upperBestF, if_neg hc])
    have hb : (askC n d m 1000000000 != 0) = true := by simp [hc]
    clear hc
    generalize hcc : askC n d m 1000000000 = cc at *
    have HC := Lib.hid hcc
    clear hcc
    go_enter Try.func41, Try.ntmps41
    go_wp2_with fail
    refine (asked_any n d m _).mono ?_
    rintro e w1 ⟨rfl, hb1⟩
    have B1 : Bl w w1 := bl_call (bl_alloc (bl_alloc (bl_refl _) _) _) hb1
    have xF_1 : Bx w1 (w.heap.size) #[.int .i64 (n), .int .i64 (d)] := ((Bx.new (b := w.heap.size) _ #[.int .i64 (n), .int .i64 (d)] 35 (by first | rfl | simp)).alloc _).below hb1
    have xR_1 : Bx w1 (w.heap.size + 1) #[.int .i64 (0), .int .i64 (0)] := (Bx.new (b := w.heap.size + 1) _ #[.int .i64 (0), .int .i64 (0)] 35 (by first | rfl | simp)).below hb1
    obtain ⟨cF_1, fF_1, zF_1⟩ := xF_1.out
    obtain ⟨cR_1, fR_1, zR_1⟩ := xR_1.out
    rw [HC.out]
    go_wp2
    refine bodyPost_ret (v := .tuple #[.agg #[.int .i64 0, .int .i64 0], .int .i64 cc]) (by simp only [results, Try.results41]; go_simp) rfl ?_
    exact ⟨ret_fi2 HR.out, bl_set (bl_set B1 (by first | exact Nat.le_refl _ | (simp; done) | (simp; omega)) _) (by first | exact Nat.le_refl _ | (simp; done) | (simp; omega)) _⟩

end Go.Proofs.Ytggpldbihndgmaa
