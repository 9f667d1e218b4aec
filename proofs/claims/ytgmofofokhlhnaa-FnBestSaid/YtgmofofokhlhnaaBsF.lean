/- BestFirst and BestSecond: the program. Each theorem names its conditions. -/
import Derived.Test.YtgmofofokhlhnaaBsI
import Derived.Test.YtgmofofokhlhnaaMost
import Derived.Outline
import Derived.Deep.AppendLies
import Derived.Deep.RegionLaw
namespace Go.Proofs.Ytgmofofokhlhnaa
open Go.RowKit
set_option linter.unusedVariables false
set_option linter.unusedSimpArgs false

set_option linter.unusedSimpArgs false


noncomputable def bestsF (sec : Bool) (n d m : Int) : List (Int × Int) × Int := if mostC n d m = 0 then bestsT sec n d (min m d).toNat else ([], mostC n d m)
theorem bestsF_yes {sec : Bool} {n d m : Int} (h : mostC n d m = 0) : bestsF sec n d m = bestsT sec n d (min m d).toNat := by rw [bestsF, if_pos h]
theorem bestsF_no {sec : Bool} {n d m : Int} (h : ¬ mostC n d m = 0) : bestsF sec n d m = ([], mostC n d m) := by rw [bestsF, if_neg h]
theorem gd_ok {sec : Bool} {n d m : Int} {L : List (Int × Int)} (h : Gd sec n d (min m d) L false) : bestsT sec n d (min m d).toNat = (L, 0) := by
  rcases h with ⟨h, _⟩ | ⟨_, rfl, h2⟩
  · cases h
  · exact bestsT_ok rfl h2
theorem gd_no {sec : Bool} {n d m : Int} {L : List (Int × Int)} (h : Gd sec n d (min m d) L true) : bestsT sec n d (min m d).toNat = ([], 5) := by
  rcases h with ⟨_, h⟩ | ⟨h, _⟩
  · exact bestsT_full rfl h (Nat.le_refl _)
  · cases h
theorem bests_len (sec : Bool) (n d m : Int) : (bestsF sec n d m).1.length ≤ 1048576 := by
  by_cases h : mostC n d m = 0
  · rw [bestsF_yes h]
    unfold bestsT
    split
    · simp
    · rename_i h2
      show (tgt sec n d (min m d).toNat).length ≤ _
      omega
  · rw [bestsF_no h]; simp
set_option maxRecDepth 100000 in
set_option maxHeartbeats 3200000 in
theorem impl_BestFirst (n d m : Int) (w : World) : Calls Try.prog 48 #[.agg #[.int .i64 n, .int .i64 d], .int .i64 m] w (BestsP w (bestsF false n d m)) := by
  by_cases hc : mostC n d m = 0
  ·
    have HR := Lib.hid (bestsF_yes (sec := false) hc)
    have hb : (mostC n d m != 0) = false := by simp [hc]
    have HS := Lib.hid (mostC_zero hc)
    have hm1 := HS.out.m1
    have hd1 := HS.out.d1
    clear hc
    generalize hcc : mostC n d m = cc at *
    have HC := Lib.hid hcc
    clear hcc
    go_enter Try.func48, Try.ntmps48
    go_wp2_with fail
    have B1 : Bl w (w.alloc (.cells #[.int .i64 (n), .int .i64 (d)] 55)) := (bl_alloc (bl_refl _) _)
    have xF_1 : Bx (w.alloc (.cells #[.int .i64 (n), .int .i64 (d)] 55)) (w.heap.size) #[.int .i64 (n), .int .i64 (d)] := (Bx.new (b := w.heap.size) _ #[.int .i64 (n), .int .i64 (d)] 55 (by first | rfl | simp))
    have zz1 : w.heap.size + 1 ≤ (w.alloc (.cells #[.int .i64 (n), .int .i64 (d)] 55)).heap.size := (by simp)
    generalize (w.alloc (.cells #[.int .i64 (n), .int .i64 (d)] 55)) = w1 at *
    obtain ⟨cF_1, fF_1, zF_1⟩ := xF_1.out
    go_cut [6] (fun s6 wx => s6 = .int .i64 cc ∧ Bl w1 wx)
    case first =>
      go_region_held3 (fun w' => w'.cell? ⟨w.heap.size, 0, none⟩ = some (.int .i64 (n)) ∧ w'.cell? ⟨w.heap.size, 1, none⟩ = some (.int .i64 (d))) (first | (simp [*]; done) | (go_simp; done) | go_keep)
        (first | (go_at_call 95; go_must (refine (within_any _ _ _ _).mono ?_; rintro _ _ ⟨rfl, rfl⟩)) | (go_at_call 112; go_must (refine (checkBest_eq HC.out _ (SlF.lit (fs := [(n, d)]) (cs := #[.int .i64 (n), .int .i64 (d)]) (by first | exact (Bx.new (b := w1.heap.size) _ #[.int .i64 (n), .int .i64 (d)] 55 (by first | rfl | simp)).drew | exact (Bx.new (b := w1.heap.size) _ #[.int .i64 (n), .int .i64 (d)] 55 (by first | rfl | simp))) rfl (Nat.le_refl _) (by simp [maxLen]) (lit1 n d))).mono ?_; rintro e wk ⟨rfl, hbk⟩; have Bk : Bl w1 wk := (by first | exact bl_call (bl_drew (bl_alloc (bl_refl _) _)) hbk | exact bl_call (bl_alloc (bl_drew (bl_refl _)) _) hbk); obtain ⟨cy, fy, zy⟩ := (xF_1.below Bk).out)))
      all_goals (go_wp2_with fail; all_goals go_meet; all_goals exact ⟨rfl, Bk⟩)
    case rest =>
      obtain ⟨rfl, hj⟩ := hcut
      obtain ⟨w2, rfl⟩ : ∃ x : World, x = wc := ⟨_, rfl⟩
      have B2 : Bl w w2 := bl_call B1 hj
      have xF_2 : Bx w2 (w.heap.size) #[.int .i64 (n), .int .i64 (d)] := xF_1.below hj
      clear cF_1 fF_1 zF_1
      obtain ⟨cF_2, fF_2, zF_2⟩ := xF_2.out
      by_cases hmd : m ≤ d
      ·
        go_wp2_with fail
        refine (bests_lo_f n d m (min m d).toNat _ HS.out.o ⟨HS.out.n1, HS.out.n2⟩ HS.out.d2 ⟨HS.out.m1, HS.out.m2⟩ (by omega) (by omega)).mono ?_
        rintro e w3 ⟨a, k, c, rfl, HO, hb3⟩
        have B3 : Bl w w3 := bl_call B2 hb3
        have xF_3 : Bx w3 (w.heap.size) #[.int .i64 (n), .int .i64 (d)] := xF_2.below hb3
        clear cF_2 fF_2 zF_2
        obtain ⟨cF_3, fF_3, zF_3⟩ := xF_3.out
        have HO := Lib.hid HO
        go_wp2
        go_ret2
        rw [← HR.out] at HO
        rw [← HR.out]
        exact ⟨a, k, c, rfl, HO.out.mono (by have := B2.size; omega), B3⟩
      ·
        go_wp2_with fail
        refine (bests_hi_f n d m (min m d).toNat _ HS.out.o ⟨HS.out.n1, HS.out.n2⟩ HS.out.d2 ⟨HS.out.m1, HS.out.m2⟩ (by omega) (by omega)).mono ?_
        rintro e w3 ⟨a, k, c, rfl, HO, hb3⟩
        have B3 : Bl w w3 := bl_call B2 hb3
        have xF_3 : Bx w3 (w.heap.size) #[.int .i64 (n), .int .i64 (d)] := xF_2.below hb3
        clear cF_2 fF_2 zF_2
        obtain ⟨cF_3, fF_3, zF_3⟩ := xF_3.out
        have HO := Lib.hid HO
        go_wp2
        go_ret2
        rw [← HR.out] at HO
        rw [← HR.out]
        exact ⟨a, k, c, rfl, HO.out.mono (by have := B2.size; omega), B3⟩
  ·
    have HR := Lib.hid (bestsF_no (sec := false) hc)
    have hb : (mostC n d m != 0) = true := by simp [hc]
    clear hc
    generalize hcc : mostC n d m = cc at *
    have HC := Lib.hid hcc
    clear hcc
    go_enter Try.func48, Try.ntmps48
    go_wp2_with fail
    have B1 : Bl w (w.alloc (.cells #[.int .i64 (n), .int .i64 (d)] 55)) := (bl_alloc (bl_refl _) _)
    have xF_1 : Bx (w.alloc (.cells #[.int .i64 (n), .int .i64 (d)] 55)) (w.heap.size) #[.int .i64 (n), .int .i64 (d)] := (Bx.new (b := w.heap.size) _ #[.int .i64 (n), .int .i64 (d)] 55 (by first | rfl | simp))
    have zz1 : w.heap.size + 1 ≤ (w.alloc (.cells #[.int .i64 (n), .int .i64 (d)] 55)).heap.size := (by simp)
    generalize (w.alloc (.cells #[.int .i64 (n), .int .i64 (d)] 55)) = w1 at *
    obtain ⟨cF_1, fF_1, zF_1⟩ := xF_1.out
    go_cut [6] (fun s6 wx => s6 = .int .i64 cc ∧ Bl w1 wx)
    case first =>
      go_region_held3 (fun w' => w'.cell? ⟨w.heap.size, 0, none⟩ = some (.int .i64 (n)) ∧ w'.cell? ⟨w.heap.size, 1, none⟩ = some (.int .i64 (d))) (first | (simp [*]; done) | (go_simp; done) | go_keep)
        (first | (go_at_call 95; go_must (refine (within_any _ _ _ _).mono ?_; rintro _ _ ⟨rfl, rfl⟩)) | (go_at_call 112; go_must (refine (checkBest_eq HC.out _ (SlF.lit (fs := [(n, d)]) (cs := #[.int .i64 (n), .int .i64 (d)]) (by first | exact (Bx.new (b := w1.heap.size) _ #[.int .i64 (n), .int .i64 (d)] 55 (by first | rfl | simp)).drew | exact (Bx.new (b := w1.heap.size) _ #[.int .i64 (n), .int .i64 (d)] 55 (by first | rfl | simp))) rfl (Nat.le_refl _) (by simp [maxLen]) (lit1 n d))).mono ?_; rintro e wk ⟨rfl, hbk⟩; have Bk : Bl w1 wk := (by first | exact bl_call (bl_drew (bl_alloc (bl_refl _) _)) hbk | exact bl_call (bl_alloc (bl_drew (bl_refl _)) _) hbk); obtain ⟨cy, fy, zy⟩ := (xF_1.below Bk).out)))
      all_goals (go_wp2_with fail; all_goals go_meet; all_goals exact ⟨rfl, Bk⟩)
    case rest =>
      obtain ⟨rfl, hj⟩ := hcut
      obtain ⟨w2, rfl⟩ : ∃ x : World, x = wc := ⟨_, rfl⟩
      have B2 : Bl w w2 := bl_call B1 hj
      have xF_2 : Bx w2 (w.heap.size) #[.int .i64 (n), .int .i64 (d)] := xF_1.below hj
      clear cF_1 fF_1 zF_1
      obtain ⟨cF_2, fF_2, zF_2⟩ := xF_2.out
      go_wp2
      go_ret2
      exact bests_mk HR.out (OwnF.nil _ _) B2
set_option maxRecDepth 100000 in
set_option maxHeartbeats 3200000 in
theorem impl_BestSecond (n d m : Int) (w : World) : Calls Try.prog 49 #[.agg #[.int .i64 n, .int .i64 d], .int .i64 m] w (BestsP w (bestsF true n d m)) := by
  by_cases hc : mostC n d m = 0
  ·
    have HR := Lib.hid (bestsF_yes (sec := true) hc)
    have hb : (mostC n d m != 0) = false := by simp [hc]
    have HS := Lib.hid (mostC_zero hc)
    have hm1 := HS.out.m1
    have hd1 := HS.out.d1
    clear hc
    generalize hcc : mostC n d m = cc at *
    have HC := Lib.hid hcc
    clear hcc
    go_enter Try.func49, Try.ntmps49
    go_wp2_with fail
    have B1 : Bl w (w.alloc (.cells #[.int .i64 (n), .int .i64 (d)] 55)) := (bl_alloc (bl_refl _) _)
    have xF_1 : Bx (w.alloc (.cells #[.int .i64 (n), .int .i64 (d)] 55)) (w.heap.size) #[.int .i64 (n), .int .i64 (d)] := (Bx.new (b := w.heap.size) _ #[.int .i64 (n), .int .i64 (d)] 55 (by first | rfl | simp))
    have zz1 : w.heap.size + 1 ≤ (w.alloc (.cells #[.int .i64 (n), .int .i64 (d)] 55)).heap.size := (by simp)
    generalize (w.alloc (.cells #[.int .i64 (n), .int .i64 (d)] 55)) = w1 at *
    obtain ⟨cF_1, fF_1, zF_1⟩ := xF_1.out
    go_cut [6] (fun s6 wx => s6 = .int .i64 cc ∧ Bl w1 wx)
    case first =>
      go_region_held3 (fun w' => w'.cell? ⟨w.heap.size, 0, none⟩ = some (.int .i64 (n)) ∧ w'.cell? ⟨w.heap.size, 1, none⟩ = some (.int .i64 (d))) (first | (simp [*]; done) | (go_simp; done) | go_keep)
        (first | (go_at_call 95; go_must (refine (within_any _ _ _ _).mono ?_; rintro _ _ ⟨rfl, rfl⟩)) | (go_at_call 112; go_must (refine (checkBest_eq HC.out _ (SlF.lit (fs := [(n, d)]) (cs := #[.int .i64 (n), .int .i64 (d)]) (by first | exact (Bx.new (b := w1.heap.size) _ #[.int .i64 (n), .int .i64 (d)] 55 (by first | rfl | simp)).drew | exact (Bx.new (b := w1.heap.size) _ #[.int .i64 (n), .int .i64 (d)] 55 (by first | rfl | simp))) rfl (Nat.le_refl _) (by simp [maxLen]) (lit1 n d))).mono ?_; rintro e wk ⟨rfl, hbk⟩; have Bk : Bl w1 wk := (by first | exact bl_call (bl_drew (bl_alloc (bl_refl _) _)) hbk | exact bl_call (bl_alloc (bl_drew (bl_refl _)) _) hbk); obtain ⟨cy, fy, zy⟩ := (xF_1.below Bk).out)))
      all_goals (go_wp2_with fail; all_goals go_meet; all_goals exact ⟨rfl, Bk⟩)
    case rest =>
      obtain ⟨rfl, hj⟩ := hcut
      obtain ⟨w2, rfl⟩ : ∃ x : World, x = wc := ⟨_, rfl⟩
      have B2 : Bl w w2 := bl_call B1 hj
      have xF_2 : Bx w2 (w.heap.size) #[.int .i64 (n), .int .i64 (d)] := xF_1.below hj
      clear cF_1 fF_1 zF_1
      obtain ⟨cF_2, fF_2, zF_2⟩ := xF_2.out
      by_cases hmd : m ≤ d
      ·
        go_wp2_with fail
        refine (bests_lo_s n d m (min m d).toNat _ HS.out.o ⟨HS.out.n1, HS.out.n2⟩ HS.out.d2 ⟨HS.out.m1, HS.out.m2⟩ (by omega) (by omega)).mono ?_
        rintro e w3 ⟨a, k, c, rfl, HO, hb3⟩
        have B3 : Bl w w3 := bl_call B2 hb3
        have xF_3 : Bx w3 (w.heap.size) #[.int .i64 (n), .int .i64 (d)] := xF_2.below hb3
        clear cF_2 fF_2 zF_2
        obtain ⟨cF_3, fF_3, zF_3⟩ := xF_3.out
        have HO := Lib.hid HO
        go_wp2
        go_ret2
        rw [← HR.out] at HO
        rw [← HR.out]
        exact ⟨a, k, c, rfl, HO.out.mono (by have := B2.size; omega), B3⟩
      ·
        go_wp2_with fail
        refine (bests_hi_s n d m (min m d).toNat _ HS.out.o ⟨HS.out.n1, HS.out.n2⟩ HS.out.d2 ⟨HS.out.m1, HS.out.m2⟩ (by omega) (by omega)).mono ?_
        rintro e w3 ⟨a, k, c, rfl, HO, hb3⟩
        have B3 : Bl w w3 := bl_call B2 hb3
        have xF_3 : Bx w3 (w.heap.size) #[.int .i64 (n), .int .i64 (d)] := xF_2.below hb3
        clear cF_2 fF_2 zF_2
        obtain ⟨cF_3, fF_3, zF_3⟩ := xF_3.out
        have HO := Lib.hid HO
        go_wp2
        go_ret2
        rw [← HR.out] at HO
        rw [← HR.out]
        exact ⟨a, k, c, rfl, HO.out.mono (by have := B2.size; omega), B3⟩
  ·
    have HR := Lib.hid (bestsF_no (sec := true) hc)
    have hb : (mostC n d m != 0) = true := by simp [hc]
    clear hc
    generalize hcc : mostC n d m = cc at *
    have HC := Lib.hid hcc
    clear hcc
    go_enter Try.func49, Try.ntmps49
    go_wp2_with fail
    have B1 : Bl w (w.alloc (.cells #[.int .i64 (n), .int .i64 (d)] 55)) := (bl_alloc (bl_refl _) _)
    have xF_1 : Bx (w.alloc (.cells #[.int .i64 (n), .int .i64 (d)] 55)) (w.heap.size) #[.int .i64 (n), .int .i64 (d)] := (Bx.new (b := w.heap.size) _ #[.int .i64 (n), .int .i64 (d)] 55 (by first | rfl | simp))
    have zz1 : w.heap.size + 1 ≤ (w.alloc (.cells #[.int .i64 (n), .int .i64 (d)] 55)).heap.size := (by simp)
    generalize (w.alloc (.cells #[.int .i64 (n), .int .i64 (d)] 55)) = w1 at *
    obtain ⟨cF_1, fF_1, zF_1⟩ := xF_1.out
    go_cut [6] (fun s6 wx => s6 = .int .i64 cc ∧ Bl w1 wx)
    case first =>
      go_region_held3 (fun w' => w'.cell? ⟨w.heap.size, 0, none⟩ = some (.int .i64 (n)) ∧ w'.cell? ⟨w.heap.size, 1, none⟩ = some (.int .i64 (d))) (first | (simp [*]; done) | (go_simp; done) | go_keep)
        (first | (go_at_call 95; go_must (refine (within_any _ _ _ _).mono ?_; rintro _ _ ⟨rfl, rfl⟩)) | (go_at_call 112; go_must (refine (checkBest_eq HC.out _ (SlF.lit (fs := [(n, d)]) (cs := #[.int .i64 (n), .int .i64 (d)]) (by first | exact (Bx.new (b := w1.heap.size) _ #[.int .i64 (n), .int .i64 (d)] 55 (by first | rfl | simp)).drew | exact (Bx.new (b := w1.heap.size) _ #[.int .i64 (n), .int .i64 (d)] 55 (by first | rfl | simp))) rfl (Nat.le_refl _) (by simp [maxLen]) (lit1 n d))).mono ?_; rintro e wk ⟨rfl, hbk⟩; have Bk : Bl w1 wk := (by first | exact bl_call (bl_drew (bl_alloc (bl_refl _) _)) hbk | exact bl_call (bl_alloc (bl_drew (bl_refl _)) _) hbk); obtain ⟨cy, fy, zy⟩ := (xF_1.below Bk).out)))
      all_goals (go_wp2_with fail; all_goals go_meet; all_goals exact ⟨rfl, Bk⟩)
    case rest =>
      obtain ⟨rfl, hj⟩ := hcut
      obtain ⟨w2, rfl⟩ : ∃ x : World, x = wc := ⟨_, rfl⟩
      have B2 : Bl w w2 := bl_call B1 hj
      have xF_2 : Bx w2 (w.heap.size) #[.int .i64 (n), .int .i64 (d)] := xF_1.below hj
      clear cF_1 fF_1 zF_1
      obtain ⟨cF_2, fF_2, zF_2⟩ := xF_2.out
      go_wp2
      go_ret2
      exact bests_mk HR.out (OwnF.nil _ _) B2

end Go.Proofs.Ytgmofofokhlhnaa
