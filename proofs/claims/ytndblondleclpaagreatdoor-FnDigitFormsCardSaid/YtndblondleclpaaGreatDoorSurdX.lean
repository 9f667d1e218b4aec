/- Surds: the reference's source. Each theorem names its conditions. -/
import Derived.Test.YtndblondleclpaaGreatDoorSurdW
import Derived.Test.YtndblondleclpaaGreatDoorSkipR
import Derived.OwnWalk
namespace Go.Proofs.YtndblondleclpaaGreatDoor
open Go.RowKit
set_option linter.unusedVariables false
set_option linter.unusedSimpArgs false

theorem surdF_bad {p d q : Int} (h : okU p d q = false) : surdF p d q = (⟨[], [], []⟩, 1) := by unfold surdF; rw [h]; rfl
theorem surdF_full {p d q : Int} (h : okU p d q = true) (hw : wkF [] [] (p, d, q) = none) : surdF p d q = (⟨[], [], []⟩, 5) := by unfold surdF; rw [if_pos h, hw]
theorem surdF_no {p d q : Int} {r : List Int × Nat} (h : okU p d q = true) (hw : wkF [] [] (p, d, q) = some r) (ho : okSrc (srcU r) = false) : surdF p d q = (⟨[], [], []⟩, 5) := by
  unfold surdF; rw [if_pos h, hw]; simp only []; rw [if_neg (by rw [ho]; simp)]
theorem surdF_yes {p d q : Int} {r : List Int × Nat} (h : okU p d q = true) (hw : wkF [] [] (p, d, q) = some r) (ho : okSrc (srcU r) = true) : surdF p d q = (srcU r, 0) := by
  unfold surdF; rw [if_pos h, hw]; simp only []; rw [if_pos ho]
set_option maxRecDepth 100000 in
set_option maxHeartbeats 12800000 in
theorem spec_SourceOfSurd (p d q : Int) (w : World) : Calls Tryz.prog 115 #[.agg #[.int .i64 p, .int .i64 d, .int .i64 q]] w (SkP (surdF p d q) w) := by
  cases hok : okU p d q with
  | false =>
    have E := Lib.hid hok
    have HR := Lib.hid (surdF_bad hok)
    clear hok
    go_enter Tryz.func115, Tryz.ntmps115
    go_wp2_with fail
    have B1 : Bl w ((w.alloc (.cells #[.int .i64 p, .int .i64 d, .int .i64 q] 143)).alloc (.cells #[.slice none 0 0, .slice none 0 0, .slice none 0 0] 26)) := (bl_alloc (bl_alloc (bl_refl _) _) _)
    have xS_1 : Bx ((w.alloc (.cells #[.int .i64 p, .int .i64 d, .int .i64 q] 143)).alloc (.cells #[.slice none 0 0, .slice none 0 0, .slice none 0 0] 26)) (w.heap.size) #[.int .i64 p, .int .i64 d, .int .i64 q] := ((Bx.new (b := w.heap.size) _ #[.int .i64 p, .int .i64 d, .int .i64 q] 143 (by first | rfl | simp)).alloc _)
    have xR_1 : Bx ((w.alloc (.cells #[.int .i64 p, .int .i64 d, .int .i64 q] 143)).alloc (.cells #[.slice none 0 0, .slice none 0 0, .slice none 0 0] 26)) (w.heap.size + 1) #[.slice none 0 0, .slice none 0 0, .slice none 0 0] := (Bx.new (b := w.heap.size + 1) _ #[.slice none 0 0, .slice none 0 0, .slice none 0 0] 26 (by first | rfl | simp))
    have zz1 : w.heap.size + 2 ≤ ((w.alloc (.cells #[.int .i64 p, .int .i64 d, .int .i64 q] 143)).alloc (.cells #[.slice none 0 0, .slice none 0 0, .slice none 0 0] 26)).heap.size := (by simp)
    generalize ((w.alloc (.cells #[.int .i64 p, .int .i64 d, .int .i64 q] 143)).alloc (.cells #[.slice none 0 0, .slice none 0 0, .slice none 0 0] 26)) = w1 at *
    obtain ⟨cS_1, fS_1, zS_1⟩ := xS_1.out
    obtain ⟨cR_1, fR_1, zR_1⟩ := xR_1.out
    refine (scode_bad _ E.out).mono ?_
    rintro e w2 ⟨v, rfl, hb2⟩
    have B2 : Bl w w2 := bl_call B1 hb2
    have xS_2 : Bx w2 (w.heap.size) #[.int .i64 p, .int .i64 d, .int .i64 q] := xS_1.below hb2
    have xR_2 : Bx w2 (w.heap.size + 1) #[.slice none 0 0, .slice none 0 0, .slice none 0 0] := xR_1.below hb2
    clear cS_1 fS_1 zS_1 cR_1 fR_1 zR_1
    obtain ⟨cS_2, fS_2, zS_2⟩ := xS_2.out
    obtain ⟨cR_2, fR_2, zR_2⟩ := xR_2.out
    go_wp2
    refine bodyPost_ret (v := .tuple #[.agg #[.slice none 0 0, .slice none 0 0, .slice none 0 0], .int .i64 1]) (by simp only [results, Tryz.results115]; go_simp) rfl ?_
    exact skp_no HR.out (bl_set (bl_set (bl_set B2 (p := ⟨w.heap.size + 1, 0, none⟩) (by first | (simp; done) | (simp; omega)) _) (p := ⟨w.heap.size + 1, 1, none⟩) (by first | (simp; done) | (simp; omega)) _) (p := ⟨w.heap.size + 1, 2, none⟩) (by first | (simp; done) | (simp; omega)) _)
  | true =>
    cases hw : wkF [] [] (p, d, q) with
    | none =>
      have E := Lib.hid hok
      have HW := Lib.hid hw
      have HR := Lib.hid (surdF_full hok hw)
      clear hok hw
      go_enter Tryz.func115, Tryz.ntmps115
      go_wp2_with fail
      have B1 : Bl w ((w.alloc (.cells #[.int .i64 p, .int .i64 d, .int .i64 q] 143)).alloc (.cells #[.slice none 0 0, .slice none 0 0, .slice none 0 0] 26)) := (bl_alloc (bl_alloc (bl_refl _) _) _)
      have xS_1 : Bx ((w.alloc (.cells #[.int .i64 p, .int .i64 d, .int .i64 q] 143)).alloc (.cells #[.slice none 0 0, .slice none 0 0, .slice none 0 0] 26)) (w.heap.size) #[.int .i64 p, .int .i64 d, .int .i64 q] := ((Bx.new (b := w.heap.size) _ #[.int .i64 p, .int .i64 d, .int .i64 q] 143 (by first | rfl | simp)).alloc _)
      have xR_1 : Bx ((w.alloc (.cells #[.int .i64 p, .int .i64 d, .int .i64 q] 143)).alloc (.cells #[.slice none 0 0, .slice none 0 0, .slice none 0 0] 26)) (w.heap.size + 1) #[.slice none 0 0, .slice none 0 0, .slice none 0 0] := (Bx.new (b := w.heap.size + 1) _ #[.slice none 0 0, .slice none 0 0, .slice none 0 0] 26 (by first | rfl | simp))
      have zz1 : w.heap.size + 2 ≤ ((w.alloc (.cells #[.int .i64 p, .int .i64 d, .int .i64 q] 143)).alloc (.cells #[.slice none 0 0, .slice none 0 0, .slice none 0 0] 26)).heap.size := (by simp)
      generalize ((w.alloc (.cells #[.int .i64 p, .int .i64 d, .int .i64 q] 143)).alloc (.cells #[.slice none 0 0, .slice none 0 0, .slice none 0 0] 26)) = w1 at *
      obtain ⟨cS_1, fS_1, zS_1⟩ := xS_1.out
      obtain ⟨cR_1, fR_1, zR_1⟩ := xR_1.out
      refine (scode_full _ E.out HW.out).mono ?_
      rintro e w2 ⟨v, rfl, hb2⟩
      have B2 : Bl w w2 := bl_call B1 hb2
      have xS_2 : Bx w2 (w.heap.size) #[.int .i64 p, .int .i64 d, .int .i64 q] := xS_1.below hb2
      have xR_2 : Bx w2 (w.heap.size + 1) #[.slice none 0 0, .slice none 0 0, .slice none 0 0] := xR_1.below hb2
      clear cS_1 fS_1 zS_1 cR_1 fR_1 zR_1
      obtain ⟨cS_2, fS_2, zS_2⟩ := xS_2.out
      obtain ⟨cR_2, fR_2, zR_2⟩ := xR_2.out
      go_wp2
      refine bodyPost_ret (v := .tuple #[.agg #[.slice none 0 0, .slice none 0 0, .slice none 0 0], .int .i64 5]) (by simp only [results, Tryz.results115]; go_simp) rfl ?_
      exact skp_no HR.out (bl_set (bl_set (bl_set B2 (p := ⟨w.heap.size + 1, 0, none⟩) (by first | (simp; done) | (simp; omega)) _) (p := ⟨w.heap.size + 1, 1, none⟩) (by first | (simp; done) | (simp; omega)) _) (p := ⟨w.heap.size + 1, 2, none⟩) (by first | (simp; done) | (simp; omega)) _)
    | some r =>
      obtain ⟨T, k⟩ := r
      have E := Lib.hid hok
      have HW := Lib.hid hw
      have HRN := Lib.hid (surdF_no hok hw)
      have HRY := Lib.hid (surdF_yes hok hw)
      clear hok hw
      go_enter Tryz.func115, Tryz.ntmps115
      go_wp2_with fail
      have B1 : Bl w ((w.alloc (.cells #[.int .i64 p, .int .i64 d, .int .i64 q] 143)).alloc (.cells #[.slice none 0 0, .slice none 0 0, .slice none 0 0] 26)) := (bl_alloc (bl_alloc (bl_refl _) _) _)
      have xS_1 : Bx ((w.alloc (.cells #[.int .i64 p, .int .i64 d, .int .i64 q] 143)).alloc (.cells #[.slice none 0 0, .slice none 0 0, .slice none 0 0] 26)) (w.heap.size) #[.int .i64 p, .int .i64 d, .int .i64 q] := ((Bx.new (b := w.heap.size) _ #[.int .i64 p, .int .i64 d, .int .i64 q] 143 (by first | rfl | simp)).alloc _)
      have xR_1 : Bx ((w.alloc (.cells #[.int .i64 p, .int .i64 d, .int .i64 q] 143)).alloc (.cells #[.slice none 0 0, .slice none 0 0, .slice none 0 0] 26)) (w.heap.size + 1) #[.slice none 0 0, .slice none 0 0, .slice none 0 0] := (Bx.new (b := w.heap.size + 1) _ #[.slice none 0 0, .slice none 0 0, .slice none 0 0] 26 (by first | rfl | simp))
      have zz1 : w.heap.size + 2 ≤ ((w.alloc (.cells #[.int .i64 p, .int .i64 d, .int .i64 q] 143)).alloc (.cells #[.slice none 0 0, .slice none 0 0, .slice none 0 0] 26)).heap.size := (by simp)
      generalize ((w.alloc (.cells #[.int .i64 p, .int .i64 d, .int .i64 q] 143)).alloc (.cells #[.slice none 0 0, .slice none 0 0, .slice none 0 0] 26)) = w1 at *
      obtain ⟨cS_1, fS_1, zS_1⟩ := xS_1.out
      obtain ⟨cR_1, fR_1, zR_1⟩ := xR_1.out
      refine (scode_ok _ E.out HW.out).mono ?_
      rintro e w2 ⟨b, rfl, hwb, hb2⟩
      have B2 : Bl w w2 := bl_call B1 hb2
      have xS_2 : Bx w2 (w.heap.size) #[.int .i64 p, .int .i64 d, .int .i64 q] := xS_1.below hb2
      have xR_2 : Bx w2 (w.heap.size + 1) #[.slice none 0 0, .slice none 0 0, .slice none 0 0] := xR_1.below hb2
      clear cS_1 fS_1 zS_1 cR_1 fR_1 zR_1
      obtain ⟨cS_2, fS_2, zS_2⟩ := xS_2.out
      obtain ⟨cR_2, fR_2, zR_2⟩ := xR_2.out
      obtain ⟨hb0, hkT, hT4, lv, tv, xB, hT⟩ := hwb
      obtain ⟨ta, tc, rfl, htc⟩ := hT.form
      have SLT := Lib.hid (hT.sl.take k hkT)
      obtain ⟨a9, c9, hsl1, hsl2, hsl3⟩ := slice_from hT.sl k hkT
      have SLD := Lib.hid hsl3
      have HT := Lib.hid hT
      clear hsl3 hT
      have hlt : (T.take k).length = k := by rw [List.length_take]; omega
      have hld : (T.drop k).length = T.length - k := by rw [List.length_drop]
      have HLT := Lib.hid hlt
      have HLD := Lib.hid hld
      clear hlt hld
      have hK0 : (0 : Int) ≤ (k : Int) := by omega
      have hK1 : (k : Int) ≤ (T.length : Int) := by omega
      have hK2 : (k : Int) ≤ (tc : Int) := by omega
      have hK3 : k ≤ tc := by omega
      obtain ⟨cB, fB, zB⟩ := xB.out
      go_wp2_with fail
      go_cut [6] (fun s6 wx => ∃ y a1 c1 a2 c2, s6 = .pointer (some ⟨y, 0, none⟩) ∧ Bx wx y #[.slice a1 k c1, .slice a2 (T.length - k) c2, .slice none 0 0] ∧ Own wx w2.heap.size (.slice a1 k c1) (T.take k) ∧ Own wx w2.heap.size (.slice a2 (T.length - k) c2) (T.drop k) ∧ Apart (.slice a1 k c1) (.slice a2 (T.length - k) c2) ∧ w2.heap.size ≤ y ∧ (∀ j, (Value.slice a1 k c1).ownBlock = some j → j ≠ y) ∧ (∀ j, (Value.slice a2 (T.length - k) c2).ownBlock = some j → j ≠ y) ∧ Bl w2 wx)
      case first =>
        have BB := bl_drew (bl_refl w2)
        have bb0 := xB
        clear cS_2 fS_2 zS_2 cR_2 fR_2 zR_2 cB fB zB
        obtain ⟨cB, fB, zB⟩ := bb0.out
        have nn1 := World.new_ne w2 ⟨b, 1, none⟩ (show w2.cell? ⟨b, 1, none⟩ = some (.slice ta T.length tc) by rw [bb0.out.1]; rfl)
        have nn2 := World.new_ne w2 ⟨b, 2, none⟩ (show w2.cell? ⟨b, 2, none⟩ = some (.int .i64 k) by rw [bb0.out.1]; rfl)
        go_region_held3 (fun w' => w'.cell? ⟨b, 1, none⟩ = some (.slice ta T.length tc) ∧ w'.cell? ⟨b, 2, none⟩ = some (.int .i64 k)) (first | (simp [*]; done) | (go_simp; done) | go_keep)
          (first | (go_at_call 55; refine (own_any _ (T.take k) _ (by first | exact SLT.out.below BB | exact SLT.out.below (bl_alloc BB _)) (by rw [HLT.out]; omega)).mono ?_; rintro e w5 ⟨a1, c1, rfl, O1, hb5⟩; rw [HLT.out] at O1; rw [HLT.out]; have L1 := Lib.hid O1.lt; have z1 := hb5.size; have BB : Bl w2 w5 := bl_call (by first | exact BB | exact bl_alloc BB _) hb5; clear cB fB zB; obtain ⟨cB, fB, zB⟩ := (bb0.below BB).out; have ne_w5 : w5.heap.size ≠ b := (by omega); have nnA_w5 := World.new_ne w5 ⟨b, 1, none⟩ (show w5.cell? ⟨b, 1, none⟩ = some (.slice ta T.length tc) by rw [cB]; rfl); have nnB_w5 := World.new_ne w5 ⟨b, 2, none⟩ (show w5.cell? ⟨b, 2, none⟩ = some (.int .i64 k) by rw [cB]; rfl); (first | (have O2 := O2.below hb5) | (have O2 := (O2.alloc _).below hb5) | skip); (first | (have nb := nb.below hb5; obtain ⟨cn, fn, zn⟩ := nb.out) | (have nb := (Bx.new _ #[.slice none 0 0, .slice none 0 0, .slice none 0 0] 26 rfl).below hb5; obtain ⟨cn, fn, zn⟩ := nb.out) | (have nb := (Bx.new w2 #[.slice none 0 0, .slice none 0 0, .slice none 0 0] 26 rfl).drew.below hb5; obtain ⟨cn, fn, zn⟩ := nb.out) | skip))
                 | (go_at_call 55; refine (own_any _ (T.drop k) _ (by first | exact SLD.out.below BB | exact SLD.out.below (bl_alloc BB _)) (by rw [HLD.out]; omega)).mono ?_; rintro e w6 ⟨a2, c2, rfl, O2, hb6⟩; rw [HLD.out] at O2; rw [HLD.out]; have L2 := Lib.hid O2.lt; have z2 := hb6.size; have BB : Bl w2 w6 := bl_call (by first | exact BB | exact bl_alloc BB _) hb6; clear cB fB zB; obtain ⟨cB, fB, zB⟩ := (bb0.below BB).out; have ne_w6 : w6.heap.size ≠ b := (by omega); have nnA_w6 := World.new_ne w6 ⟨b, 1, none⟩ (show w6.cell? ⟨b, 1, none⟩ = some (.slice ta T.length tc) by rw [cB]; rfl); have nnB_w6 := World.new_ne w6 ⟨b, 2, none⟩ (show w6.cell? ⟨b, 2, none⟩ = some (.int .i64 k) by rw [cB]; rfl); (first | (have O1 := O1.below hb6) | (have O1 := (O1.alloc _).below hb6) | skip); (first | (have nb := nb.below hb6; obtain ⟨cn, fn, zn⟩ := nb.out) | (have nb := (Bx.new _ #[.slice none 0 0, .slice none 0 0, .slice none 0 0] 26 rfl).below hb6; obtain ⟨cn, fn, zn⟩ := nb.out) | (have nb := (Bx.new w2 #[.slice none 0 0, .slice none 0 0, .slice none 0 0] 26 rfl).drew.below hb6; obtain ⟨cn, fn, zn⟩ := nb.out) | skip)))
        all_goals (go_wp2_with fail; go_meet)
        all_goals have AP : Apart (.slice a1 k c1) (.slice a2 (T.length - k) c2) := (fun j e q => (by have q1 := L1.out j e; have q2 := L2.out j q; (try simp at q1 q2 z1 z2); omega))
        all_goals (first
          | (refine ⟨_, a1, c1, a2, c2, rfl, ((nb.set 0 _).set 1 _).set 2 _, ?_, ?_, AP, ?_, ?_, ?_, ?_⟩
             · exact (((own_farU (own_farU (own_farU O1 (fun j hj => by have q := L1.out j hj; (try simp at q z1 z2); simp; omega) _) (fun j hj => by have q := L1.out j hj; (try simp at q z1 z2); simp; omega) _) (fun j hj => by have q := L1.out j hj; (try simp at q z1 z2); simp; omega) _)).mono (by first | exact Nat.le_refl _ | ((try simp at z1 z2); have h5 := hb5.size; have h6 := hb6.size; (try simp at h5 h6); first | omega | (simp; done) | (simp; omega))))
             · exact (((own_farU (own_farU (own_farU O2 (fun j hj => by have q := L2.out j hj; (try simp at q z1 z2); simp; omega) _) (fun j hj => by have q := L2.out j hj; (try simp at q z1 z2); simp; omega) _) (fun j hj => by have q := L2.out j hj; (try simp at q z1 z2); simp; omega) _)).mono (by first | exact Nat.le_refl _ | ((try simp at z1 z2); have h5 := hb5.size; have h6 := hb6.size; (try simp at h5 h6); first | omega | (simp; done) | (simp; omega))))
             · ((try simp at z1 z2); have h5 := hb5.size; have h6 := hb6.size; (try simp at h5 h6); first | omega | (simp; done) | (simp; omega))
             · exact fun j hj => by have q := L1.out j hj; (try simp at q z1 z2); first | omega | (simp; omega)
             · exact fun j hj => by have q := L2.out j hj; (try simp at q z1 z2); first | omega | (simp; omega)
             · exact bl_set (bl_set (bl_set BB (by ((try simp at z1 z2); have h5 := hb5.size; have h6 := hb6.size; (try simp at h5 h6); first | omega | (simp; done) | (simp; omega))) _) (by ((try simp at z1 z2); have h5 := hb5.size; have h6 := hb6.size; (try simp at h5 h6); first | omega | (simp; done) | (simp; omega))) _) (by ((try simp at z1 z2); have h5 := hb5.size; have h6 := hb6.size; (try simp at h5 h6); first | omega | (simp; done) | (simp; omega))) _)
          | exact ⟨_, a1, c1, a2, c2, rfl, Bx.new _ _ _ rfl, (O1.alloc _).mono (by first | exact Nat.le_refl _ | ((try simp at z1 z2); have h5 := hb5.size; have h6 := hb6.size; (try simp at h5 h6); first | omega | (simp; done) | (simp; omega))), (O2.alloc _).mono (by first | exact Nat.le_refl _ | ((try simp at z1 z2); have h5 := hb5.size; have h6 := hb6.size; (try simp at h5 h6); first | omega | (simp; done) | (simp; omega))), AP, BB.size, fun j hj => by have q := O1.lt j hj; omega, fun j hj => by have q := O2.lt j hj; omega, bl_alloc BB _⟩)
      case rest =>
        obtain ⟨y, a1, c1, a2, c2, rfl, xY, o1, o2, AP, hy, n1, n2, hj⟩ := hcut
        obtain ⟨w3, rfl⟩ : ∃ x : World, x = wc := ⟨_, rfl⟩
        have B3 : Bl w w3 := bl_call B2 hj
        have xR3 := xR_2.below hj
        have z3 := hj.size
        clear cS_2 fS_2 zS_2 cR_2 fR_2 zR_2 cB fB zB
        obtain ⟨cY, fY, zY⟩ := xY.out
        obtain ⟨i0, hi, hz0, hz1, hz2⟩ := info_parts info_i64
        have O1 := Lib.hid o1
        have O2 := Lib.hid o2
        have N1 := Lib.hid n1
        have N2 := Lib.hid n2
        have HAP := Lib.hid AP
        clear o1 o2 n1 n2 AP
        go_wp2_with (at_make; refine wpList_make_full _ rfl _ _ 24 rfl w2.heap.size 2 i0 (.int .i64 0) 1 Tryz.underlying24 hi hz0 hz1 .i64 .i64 _ _ (T.length - k) rfl rfl rfl rfl ?c1 ?c2 ?c3 ?_)
        case c1 => rw [hz2]; omega
        case c2 => unfold maxLen; omega
        case c3 => exact z3
        intro w5 hown5 hgrow5
        have hb5 : Bl w3 w5 := below_of_grown hgrow5
        have o3 : Own w5 w2.heap.size (.slice (some ⟨w3.heap.size, 0, none⟩) (T.length - k) (T.length - k)) (List.replicate (T.length - k) 0) := ⟨by simpa [toList_madeCells_one] using hown5, fun x hx => by have := List.eq_of_mem_replicate hx; subst this; unfold R64; omega⟩
        have O3 := Lib.hid o3
        have hs5 : w3.heap.size + 1 ≤ w5.heap.size := by have := (o3.lt w3.heap.size rfl).2; omega
        have xY5 := xY.below hb5
        have xR5 := xR3.below hb5
        have B5 := bl_call B3 hb5
        clear cY fY zY hown5 hgrow5 o3
        obtain ⟨cY, fY, zY⟩ := xY5.out
        have hyl : y < w3.heap.size := xY.out.2.2
        have hRl : w.heap.size + 1 < w2.heap.size := xR_2.out.2.2
        have xY6 := xY5.set 2 (.slice (some ⟨w3.heap.size, 0, none⟩) (T.length - k) (T.length - k))
        have xR6 := xR5.far (p := ⟨y, 2, none⟩) (by simp; omega) (.slice (some ⟨w3.heap.size, 0, none⟩) (T.length - k) (T.length - k))
        have B6 : Bl w (w5.setCell ⟨y, 2, none⟩ (.slice (some ⟨w3.heap.size, 0, none⟩) (T.length - k) (T.length - k))) := bl_set B5 (by have := B2.size; simp; omega) _
        have O16 := Lib.hid (own_farU (O1.out.below hb5) (p := ⟨y, 2, none⟩) N1.out (.slice (some ⟨w3.heap.size, 0, none⟩) (T.length - k) (T.length - k)))
        have O26 := Lib.hid (own_farU (O2.out.below hb5) (p := ⟨y, 2, none⟩) N2.out (.slice (some ⟨w3.heap.size, 0, none⟩) (T.length - k) (T.length - k)))
        have O36 := Lib.hid (own_farU O3.out (p := ⟨y, 2, none⟩) (fun j hj => by have : w3.heap.size = j := (by injection hj); simp; omega) (.slice (some ⟨w3.heap.size, 0, none⟩) (T.length - k) (T.length - k)))
        have A13 : Apart (.slice a1 k c1) (.slice (some ⟨w3.heap.size, 0, none⟩) (T.length - k) (T.length - k)) := fun j e q => by
          have := (O1.out.lt j e).2
          have : w3.heap.size = j := by injection q
          omega
        have A23 : Apart (.slice a2 (T.length - k) c2) (.slice (some ⟨w3.heap.size, 0, none⟩) (T.length - k) (T.length - k)) := fun j e q => by
          have := (O2.out.lt j e).2
          have : w3.heap.size = j := by injection q
          omega
        have OS := Lib.hid (show OwnS _ w2.heap.size (.slice a1 k c1) (.slice a2 (T.length - k) c2) (.slice (some ⟨w3.heap.size, 0, none⟩) (T.length - k) (T.length - k)) (srcU (T, k)) from ⟨O16.out, O26.out, O36.out, HAP.out, A13, A23⟩)
        clear A13 A23 O1 O2 O3 O16 O26 O36
        go_wp2_with fail
        generalize w5.setCell ⟨y, 2, none⟩ (.slice (some ⟨w3.heap.size, 0, none⟩) (T.length - k) (T.length - k)) = w6 at *
        clear cY fY zY
        cases hsrc : okSrc (srcU (T, k)) with
        | false =>
          have HS := Lib.hid hsrc
          clear hsrc
          refine (svalid_eqKu HS.out _ OS.out.sl xY6).mono ?_
          rintro e w7 ⟨rfl, hb7⟩
          have B7 := bl_call B6 hb7
          obtain ⟨cR, fR, zR⟩ := (xR6.below hb7).out
          go_wp2
          refine bodyPost_ret (v := .tuple #[.agg #[.slice none 0 0, .slice none 0 0, .slice none 0 0], .int .i64 5]) (by simp only [results, Tryz.results115]; go_simp) rfl ?_
          exact skp_no (HRN.out HS.out) (bl_set (bl_set (bl_set B7 (p := ⟨w.heap.size + 1, 0, none⟩) (by first | (simp; done) | (simp; omega)) _) (p := ⟨w.heap.size + 1, 1, none⟩) (by first | (simp; done) | (simp; omega)) _) (p := ⟨w.heap.size + 1, 2, none⟩) (by first | (simp; done) | (simp; omega)) _)
        | true =>
          have HS := Lib.hid hsrc
          clear hsrc
          refine (svalid_eqKu HS.out _ OS.out.sl xY6).mono ?_
          rintro e w7 ⟨rfl, hb7⟩
          have B7 := bl_call B6 hb7
          obtain ⟨cR, fR, zR⟩ := (xR6.below hb7).out
          obtain ⟨cY, fY, zY⟩ := (xY6.below hb7).out
          have OS7 := OS.out.below hb7
          go_wp2
          refine bodyPost_ret (v := .tuple #[.agg #[.slice a1 k c1, .slice a2 (T.length - k) c2, .slice (some ⟨w3.heap.size, 0, none⟩) (T.length - k) (T.length - k)], .int .i64 0]) (by simp only [results, Tryz.results115]; go_simp) rfl ?_
          exact skp_yes (HRY.out HS.out) (OwnS.mono (B := w2.heap.size) ⟨(own_farU (own_farU (own_farU OS7.1 (p := ⟨w.heap.size + 1, 0, none⟩) (fun j hj => by have := (OS7.1.lt j hj).1; simp; omega) _) (p := ⟨w.heap.size + 1, 1, none⟩) (fun j hj => by have := (OS7.1.lt j hj).1; simp; omega) _) (p := ⟨w.heap.size + 1, 2, none⟩) (fun j hj => by have := (OS7.1.lt j hj).1; simp; omega) _), (own_farU (own_farU (own_farU OS7.2.1 (p := ⟨w.heap.size + 1, 0, none⟩) (fun j hj => by have := (OS7.2.1.lt j hj).1; simp; omega) _) (p := ⟨w.heap.size + 1, 1, none⟩) (fun j hj => by have := (OS7.2.1.lt j hj).1; simp; omega) _) (p := ⟨w.heap.size + 1, 2, none⟩) (fun j hj => by have := (OS7.2.1.lt j hj).1; simp; omega) _), (own_farU (own_farU (own_farU OS7.2.2.1 (p := ⟨w.heap.size + 1, 0, none⟩) (fun j hj => by have := (OS7.2.2.1.lt j hj).1; simp; omega) _) (p := ⟨w.heap.size + 1, 1, none⟩) (fun j hj => by have := (OS7.2.2.1.lt j hj).1; simp; omega) _) (p := ⟨w.heap.size + 1, 2, none⟩) (fun j hj => by have := (OS7.2.2.1.lt j hj).1; simp; omega) _), OS7.2.2.2⟩ (by have := B2.size; omega)) (bl_set (bl_set (bl_set B7 (p := ⟨w.heap.size + 1, 0, none⟩) (by first | (simp; done) | (simp; omega)) _) (p := ⟨w.heap.size + 1, 1, none⟩) (by first | (simp; done) | (simp; omega)) _) (p := ⟨w.heap.size + 1, 2, none⟩) (by first | (simp; done) | (simp; omega)) _)

end Go.Proofs.YtndblondleclpaaGreatDoor
