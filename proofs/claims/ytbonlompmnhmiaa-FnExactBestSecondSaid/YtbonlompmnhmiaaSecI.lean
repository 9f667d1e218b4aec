/- IsBestSecond of the program. No condition. -/
import Derived.Test.YtbonlompmnhmiaaFirst
import Derived.Test.YtbonlompmnhmiaaLeastW
namespace Go.Proofs.Ytbonlompmnhmiaa
open Go.RowKit
set_option linter.unusedVariables false
set_option linter.unusedSimpArgs false

noncomputable def isSecF (n d x y : Int) : Bool × Int := if bestC true [(n, d), (x, y)] = 0 then (secondF n d x y, 0) else (false, bestC true [(n, d), (x, y)])

set_option maxRecDepth 100000 in
set_option maxHeartbeats 3200000 in
theorem impl_IsBestSecond (n d x y : Int) (w : World) :
    Calls Try.prog 32 #[.agg #[.int .i64 n, .int .i64 d], .agg #[.int .i64 x, .int .i64 y]] w fun r w' => r = .returned (.tuple #[.bool (isSecF n d x y).1, .int .i64 (isSecF n d x y).2]) ∧ Bl w w' := by
  by_cases hc : bestC true [(n, d), (x, y)] = 0
  ·
    have HR := Lib.hid (show isSecF n d x y = (secondF n d x y, 0) by rw [isSecF, if_pos hc])
    have hb : (bestC true [(n, d), (x, y)] != 0) = false := by simp [hc]
    have HS := Lib.hid (sm2_of hc)
    clear hc
    generalize hcc : bestC true [(n, d), (x, y)] = cc at *
    have HC := Lib.hid hcc
    clear hcc
    obtain ⟨n1, n2, d1, d2, x1, x2, y1, y2, _, _⟩ := HS.out
    have m1 := mul_bd n1 n2 (show 0 ≤ y by omega) y2
    have m2 := mul_bd x1 x2 (show 0 ≤ d by omega) d2
    go_enter Try.func32, Try.ntmps32
    go_wp2_with fail
    refine (checkBest_any true _ _ _ (SlF.lit (fs := [(n, d), (x, y)]) (Bx.new (b := w.heap.size + 1 + 1) _ #[.int .i64 (n), .int .i64 (d), .int .i64 (x), .int .i64 (y)] 26 (by first | rfl | simp)) rfl (Nat.le_refl _) (by simp [maxLen]) (lit2 n d x y))).mono ?_
    rintro e w1 ⟨rfl, hb1⟩
    have B1 : Bl w w1 := bl_call (bl_alloc (bl_alloc (bl_alloc (bl_refl _) _) _) _) hb1
    have xF_1 : Bx w1 (w.heap.size) #[.int .i64 (n), .int .i64 (d)] := (((Bx.new (b := w.heap.size) _ #[.int .i64 (n), .int .i64 (d)] 26 (by first | rfl | simp)).alloc _).alloc _).below hb1
    have xG_1 : Bx w1 (w.heap.size + 1) #[.int .i64 (x), .int .i64 (y)] := ((Bx.new (b := w.heap.size + 1) _ #[.int .i64 (x), .int .i64 (y)] 26 (by first | rfl | simp)).alloc _).below hb1
    have xL_1 : Bx w1 (w.heap.size + 1 + 1) #[.int .i64 (n), .int .i64 (d), .int .i64 (x), .int .i64 (y)] := (Bx.new (b := w.heap.size + 1 + 1) _ #[.int .i64 (n), .int .i64 (d), .int .i64 (x), .int .i64 (y)] 26 (by first | rfl | simp)).below hb1
    obtain ⟨cF_1, fF_1, zF_1⟩ := xF_1.out
    obtain ⟨cG_1, fG_1, zG_1⟩ := xG_1.out
    obtain ⟨cL_1, fL_1, zL_1⟩ := xL_1.out
    rw [HC.out]
    go_wp2_with fail
    refine (ioff_any n d x y _ (by omega) (by omega) (by omega) (by omega)).mono ?_
    rintro e w2 ⟨rfl, hb2⟩
    have B2 : Bl w w2 := bl_call B1 hb2
    have xF_2 : Bx w2 (w.heap.size) #[.int .i64 (n), .int .i64 (d)] := xF_1.below hb2
    have xG_2 : Bx w2 (w.heap.size + 1) #[.int .i64 (x), .int .i64 (y)] := xG_1.below hb2
    have xL_2 : Bx w2 (w.heap.size + 1 + 1) #[.int .i64 (n), .int .i64 (d), .int .i64 (x), .int .i64 (y)] := xL_1.below hb2
    clear cF_1 fF_1 zF_1 cG_1 fG_1 zG_1 cL_1 fL_1 zL_1
    obtain ⟨cF_2, fF_2, zF_2⟩ := xF_2.out
    obtain ⟨cG_2, fG_2, zG_2⟩ := xG_2.out
    obtain ⟨cL_2, fL_2, zL_2⟩ := xL_2.out
    go_wp2_with fail
    have ho := offF_nonneg n d x y
    generalize hof : offF n d x y = own at *
    have HO := Lib.hid hof
    clear hof
    go_loopg [8, 9, 10, 11] (y - 1).toNat (fun k s8 s9 s10 s11 wr => ∃ q, s8 = .int .i64 q ∧ Hid (∀ q', 1 ≤ q' → q' < q → own < (nearF n d q').2.1) ∧ 1 ≤ q ∧ q ≤ y ∧ ((k : Int) = y - q) ∧ Bx wr (w.heap.size) #[.int .i64 (n), .int .i64 (d)] ∧ Bx wr (w.heap.size + 1) #[.int .i64 (x), .int .i64 (y)] ∧ Bl w wr)
    case atStart =>
      refine ⟨1, rfl, Lib.hid (fun q h1 h2 => absurd h1 (by omega)), by omega, by omega, by omega, xF_2, xG_2, B2⟩
    case round =>
      rcases hrel with ⟨q, rfl, hall, hq1, hq2, hk, yF, yG, Br⟩
      clear cF_2 fF_2 zF_2 cG_2 fG_2 zG_2 cL_2 fL_2 zL_2
      obtain ⟨cF, fF, zF⟩ := yF.out
      obtain ⟨cG, fG, zG⟩ := yG.out
      rcases Int.lt_or_le q y with hlt | hge
      ·
        obtain ⟨⟨P, R, O⟩, hnf⟩ : ∃ z, z = nearF n d q := ⟨_, rfl⟩
        have HN := Lib.hid hnf.symm
        clear hnf
        go_wp2_with fail
        refine (inear_eq HN.out _ (by omega) (by omega) (by omega)).mono ?_
        rintro e wr1 ⟨rfl, hbr1⟩
        have Br1 : Bl w wr1 := bl_call Br hbr1
        have xF_r1 : Bx wr1 (w.heap.size) #[.int .i64 (n), .int .i64 (d)] := yF.below hbr1
        have xG_r1 : Bx wr1 (w.heap.size + 1) #[.int .i64 (x), .int .i64 (y)] := yG.below hbr1
        clear cF fF zF cG fG zG
        obtain ⟨cF_r1, fF_r1, zF_r1⟩ := xF_r1.out
        obtain ⟨cG_r1, fG_r1, zG_r1⟩ := xG_r1.out
        rcases Int.lt_or_le own R with hr | hr
        ·
          have HA := Lib.hid (show ∀ q', 1 ≤ q' → q' < q + 1 → own < (nearF n d q').2.1 from fun q' a b => by
            rcases (show q' < q ∨ q' = q by omega) with h | h
            · exact hall.out q' a h
            · subst h; rw [HN.out]; exact hr)
          have W1 : IntKind.i64.wrap (q + 1) = q + 1 := IntWalk.i64_in _ (by omega)
          have HK : (((y - (q + 1)).toNat : Nat) : Int) = y - (q + 1) ∧ (y - (q + 1)).toNat < gk := by omega
          go_wp2_with fail
          go_roundg (y - (q + 1)).toNat
          case measure => exact HK.2
          case rel => exact ⟨_, rfl, HA, by omega, by omega, HK.1, xF_r1, xG_r1, Br1⟩
        ·
          have HE := Lib.hid (show secondF n d x y = false from second_no (q := q) (by omega) HS.out.g hq1 hlt (by rw [HN.out, HO.out]; exact hr))
          go_wp2
          go_ret2
          exact ⟨ret_bi (by rw [HR.out, HE.out]), Br1⟩
      ·
        obtain rfl : y = q := by omega
        obtain ⟨⟨P, R, O⟩, hnf⟩ : ∃ z, z = nearF n d y := ⟨_, rfl⟩
        have HN := Lib.hid hnf.symm
        clear hnf
        have HE := Lib.hid (show secondF n d x y = (decide (P = x) && decide (R = own) && O) by
          have := second_end (x := x) (show 0 < d by omega) HS.out.g hq1 (by rw [HO.out]; exact hall.out)
          rw [HO.out, HN.out] at this; exact this)
        go_wp2_with fail
        refine (inear_eq HN.out _ (by omega) (by omega) (by omega)).mono ?_
        rintro e wr1 ⟨rfl, hbr1⟩
        have Br1 : Bl w wr1 := bl_call Br hbr1
        have xF_r1 : Bx wr1 (w.heap.size) #[.int .i64 (n), .int .i64 (d)] := yF.below hbr1
        have xG_r1 : Bx wr1 (w.heap.size + 1) #[.int .i64 (x), .int .i64 (y)] := yG.below hbr1
        clear cF fF zF cG fG zG
        obtain ⟨cF_r1, fF_r1, zF_r1⟩ := xF_r1.out
        obtain ⟨cG_r1, fG_r1, zG_r1⟩ := xG_r1.out
        by_cases hp : P = x
        · by_cases hr : R = own
          ·
            have HV := Lib.hid (show secondF n d x y = O by rw [HE.out]; simp [hp, hr])
            have c1 : (P == x) = true := by simp [hp]
            have c2 : (R == own) = true := by simp [hr]
            clear hp hr
            go_wp2
            go_ret2
            exact ⟨ret_bi (by rw [HR.out, HV.out]), Br1⟩
          ·
            have HV := Lib.hid (show secondF n d x y = false by rw [HE.out]; simp [hr])
            have c1 : (P == x) = true := by simp [hp]
            have c2 : (R == own) = false := by simp [hr]
            clear hp hr
            go_wp2
            go_ret2
            exact ⟨ret_bi (by rw [HR.out, HV.out]), Br1⟩
        ·
          have HV := Lib.hid (show secondF n d x y = false by rw [HE.out]; simp [hp])
          have c1 : (P == x) = false := by simp [hp]
          clear hp
          go_wp2
          go_ret2
          exact ⟨ret_bi (by rw [HR.out, HV.out]), Br1⟩
  ·
    have HR := Lib.hid (show isSecF n d x y = (false, bestC true [(n, d), (x, y)]) by rw [isSecF, if_neg hc])
    have hb : (bestC true [(n, d), (x, y)] != 0) = true := by simp [hc]
    clear hc
    generalize hcc : bestC true [(n, d), (x, y)] = cc at *
    have HC := Lib.hid hcc
    clear hcc
    go_enter Try.func32, Try.ntmps32
    go_wp2_with fail
    refine (checkBest_any true _ _ _ (SlF.lit (fs := [(n, d), (x, y)]) (Bx.new (b := w.heap.size + 1 + 1) _ #[.int .i64 (n), .int .i64 (d), .int .i64 (x), .int .i64 (y)] 26 (by first | rfl | simp)) rfl (Nat.le_refl _) (by simp [maxLen]) (lit2 n d x y))).mono ?_
    rintro e w1 ⟨rfl, hb1⟩
    have B1 : Bl w w1 := bl_call (bl_alloc (bl_alloc (bl_alloc (bl_refl _) _) _) _) hb1
    have xF_1 : Bx w1 (w.heap.size) #[.int .i64 (n), .int .i64 (d)] := (((Bx.new (b := w.heap.size) _ #[.int .i64 (n), .int .i64 (d)] 26 (by first | rfl | simp)).alloc _).alloc _).below hb1
    have xG_1 : Bx w1 (w.heap.size + 1) #[.int .i64 (x), .int .i64 (y)] := ((Bx.new (b := w.heap.size + 1) _ #[.int .i64 (x), .int .i64 (y)] 26 (by first | rfl | simp)).alloc _).below hb1
    have xL_1 : Bx w1 (w.heap.size + 1 + 1) #[.int .i64 (n), .int .i64 (d), .int .i64 (x), .int .i64 (y)] := (Bx.new (b := w.heap.size + 1 + 1) _ #[.int .i64 (n), .int .i64 (d), .int .i64 (x), .int .i64 (y)] 26 (by first | rfl | simp)).below hb1
    obtain ⟨cF_1, fF_1, zF_1⟩ := xF_1.out
    obtain ⟨cG_1, fG_1, zG_1⟩ := xG_1.out
    obtain ⟨cL_1, fL_1, zL_1⟩ := xL_1.out
    rw [HC.out]
    go_wp2
    go_ret2
    exact ⟨ret_bi HR.out, B1⟩

end Go.Proofs.Ytbonlompmnhmiaa
