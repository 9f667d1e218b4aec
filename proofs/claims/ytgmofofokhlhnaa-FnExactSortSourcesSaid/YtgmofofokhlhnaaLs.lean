/- Lists of sources: the least one. Each theorem names its conditions. -/
import Derived.Test.YtgmofofokhlhnaaLsC
namespace Go.Proofs.Ytgmofofokhlhnaa
open Go.RowKit
set_option linter.unusedVariables false
set_option linter.unusedSimpArgs false


set_option maxRecDepth 100000 in
set_option maxHeartbeats 3200000 in
theorem impl_LeastSource (va : Value) (ss : List Src) (m : Int) (w : World) (ha : SlL w va ss) :
    Calls Try.prog 19 #[va, .int .i64 m] w fun e w' => e = .returned (.tuple #[.int .i64 (leastF ss m).1, .int .i64 (leastF ss m).2]) ∧ Bl w w' := by
  have hl := ha.len
  obtain ⟨a, c, rfl, hc⟩ := ha.form
  have HA := Lib.hid ha
  clear ha
  by_cases hz : listC ss m = 0
  · obtain ⟨hall, hm, hl50⟩ := listC_zero hz
    have HALL := Lib.hid hall
    have HZ := Lib.hid hz
    obtain ⟨M, rfl⟩ := Int.eq_ofNat_of_zero_le (show 0 ≤ m by omega)
    by_cases h0 : ss.length = 0
    · have HR := Lib.hid (show leastF ss (M : Int) = (0, 3) by rw [leastF, if_pos hz, if_pos h0])
      have h1 : ((ss.length : Int) == 0) = true := beq_iff_eq.2 (by omega)
      clear hall hz h0
      go_enter Try.func19, Try.ntmps19
      go_wp2_with fail
      refine (icheck_eq HZ.out _ HA.out).mono ?_
      rintro e w1 ⟨rfl, hb1⟩
      go_wp2
      go_ret2
      exact ⟨ret_ii2 HR.out, hb1⟩
    · have HR := Lib.hid (show leastF ss (M : Int) = leastG (cmpAt ss M) (ss.length - 1) 0 1 by rw [leastF, if_pos hz, if_neg h0, Int.toNat_natCast])
      have h1 : ((ss.length : Int) == 0) = false := beq_eq_false_iff_ne.2 (by omega)
      have hpos : 0 < ss.length := by omega
      clear hall hz h0
      go_enter Try.func19, Try.ntmps19
      go_wp2_with fail
      refine (icheck_eq HZ.out _ HA.out).mono ?_
      rintro e w1 ⟨rfl, hb1⟩
      go_wp2
      go_loopw [7, 8] (fun s7 s8 wr => ∃ b i : Nat, s7 = .int .i64 b ∧ s8 = .int .i64 i ∧ b < ss.length ∧ 1 ≤ i ∧ i ≤ ss.length ∧ Hid (leastF ss (M : Int) = leastG (cmpAt ss M) (ss.length - i) b i) ∧ Bl w wr) (fun _ s8 _ => ss.length - (intOf s8).toNat)
      case atStart => exact ⟨0, 1, rfl, rfl, hpos, Nat.le_refl _, hpos, HR, hb1⟩
      case round =>
        obtain ⟨b, i, rfl, rfl, hbl, hi1, hi2, HG, hB⟩ := hrel
        by_cases hlt : i < ss.length
        · obtain ⟨pb, po, rfl, h, p, g, s, hs, x3, xs⟩ := HA.out.at hB hlt
          obtain ⟨t, ht⟩ : ∃ t, ss[b]? = some t := ⟨_, List.getElem?_eq_getElem hbl⟩
          obtain ⟨h', p', g', y3, ys⟩ := HA.out.atR hB ht
          obtain ⟨cc, q, hcq⟩ : ∃ cc q, cmpP (plainS s) (plainS t) M = (cc, q) := ⟨_, _, rfl⟩
          have HC := Lib.hid hcq
          have HF := Lib.hid (show cmpAt ss M i b = (cc, q) by rw [cmpAt_eq hs ht]; exact hcq)
          have HK1 := Lib.hid (all_ok HALL.out hs)
          have HK2 := Lib.hid (all_ok HALL.out ht)
          have HX := Lib.hid x3
          have HY := Lib.hid y3
          have HXS := Lib.hid xs
          have HYS := Lib.hid ys
          obtain ⟨cx, cx1, cx2⟩ := x3
          obtain ⟨cy, cy1, cy2⟩ := y3
          clear hs ht hcq xs ys
          go_wp2_with fail
          go_region_held3 (fun w' => w'.cell? ⟨pb, po + i * 3, none⟩ = some h ∧ w'.cell? ⟨pb, po + i * 3 + 1, none⟩ = some p ∧ w'.cell? ⟨pb, po + i * 3 + 2, none⟩ = some g ∧ w'.cell? ⟨pb, po + b * 3, none⟩ = some h' ∧ w'.cell? ⟨pb, po + b * 3 + 1, none⟩ = some p' ∧ w'.cell? ⟨pb, po + b * 3 + 2, none⟩ = some g') (first | (simp [*]; done) | (go_simp; done) | go_keep)
            (first | (go_at_call_of 81 (h); go_must (refine (shortOf_ok _ (HXS.out.drew) HK1.out).mono ?_; rintro e w3 ⟨ax1, nx1, cx1', ax2, nx2, cx2', ax3, nx3, cx3, ax4, nx4, cx4, fx, rfl, HP, hb3⟩; have HX := Lib.hid HX.out.drew; have HY := Lib.hid HY.out.drew; have B3 : Bl w w3 := bl_call (bl_drew hB) hb3; have HX := Lib.hid (HX.out.below hb3); have HY := Lib.hid (HY.out.below hb3); clear cx cx1 cx2 cy cy1 cy2; obtain ⟨cx, cx1, cx2⟩ := HX.out; obtain ⟨cy, cy1, cy2⟩ := HY.out)) | (go_at_call_of 81 (h'); go_must (refine (shortOf_ok _ ((HYS.out.drew).below hb3) HK2.out).mono ?_; rintro e w4 ⟨ay1, ny1, cy1', ay2, ny2, cy2', ay3, ny3, cy3, ay4, ny4, cy4, fy, rfl, HQ, hb4⟩; have B4 : Bl w w4 := bl_call B3 hb4; have HX := Lib.hid (HX.out.below hb4); have HY := Lib.hid (HY.out.below hb4); clear cx cx1 cx2 cy cy1 cy2; obtain ⟨cx, cx1, cx2⟩ := HX.out; obtain ⟨cy, cy1, cy2⟩ := HY.out)) | (go_at_call 80; go_must (refine (compareBy_eq HC.out _ (HP.below hb4) HQ (by omega)).mono ?_; rintro e w5 ⟨rfl, hb5⟩; have B5 : Bl w w5 := bl_call B4 hb5; have HX := Lib.hid (HX.out.below hb5); have HY := Lib.hid (HY.out.below hb5); clear cx cx1 cx2 cy cy1 cy2; obtain ⟨cx, cx1, cx2⟩ := HX.out; obtain ⟨cy, cy1, cy2⟩ := HY.out)))
          by_cases hq : q = 0
          · subst hq
            by_cases hcc : cc < 0
            · have HN := Lib.hid (least_less HG.out hlt HF.out hcc)
              go_wp2
              go_roundw
              case rel => exact ⟨i, i + 1, rfl, by go_num, hlt, by omega, by omega, HN, B5⟩
              case measure => simp only [intOf]; omega
            · have HN := Lib.hid (least_keep HG.out hlt HF.out hcc)
              go_wp2
              go_roundw
              case rel => exact ⟨b, i + 1, rfl, by go_num, hbl, by omega, by omega, HN, B5⟩
              case measure => simp only [intOf]; omega
          · have HN := Lib.hid (least_stop HG.out hlt HF.out hq)
            have hq1 : (q != 0) = true := bne_iff_ne.2 hq
            go_wp2
            go_ret2
            exact ⟨ret_ii2 HN.out, B5⟩
        · have HN := Lib.hid (least_end HG.out (by omega))
          go_wp2
          go_ret2
          exact ⟨ret_ii2 HN.out, hB⟩
  · have HR := Lib.hid (show leastF ss m = (0, listC ss m) by rw [leastF, if_neg hz])
    have hz1 : (listC ss m != 0) = true := bne_iff_ne.2 hz
    have hz2 : (listC ss m == 0) = false := beq_eq_false_iff_ne.2 hz
    clear hz
    generalize hcc : listC ss m = cc at *
    have HZ := Lib.hid hcc
    clear hcc
    go_enter Try.func19, Try.ntmps19
    go_wp2_with fail
    refine (icheck_eq HZ.out _ HA.out).mono ?_
    rintro e w1 ⟨rfl, hb1⟩
    go_wp2
    go_ret2
    exact ⟨ret_ii2 HR.out, hb1⟩

set_option maxRecDepth 100000 in
set_option maxHeartbeats 3200000 in
theorem spec_LeastSource (va : Value) (ss : List Src) (m : Int) (w : World) (ha : SlL w va ss) :
    Calls Try.prog 20 #[va, .int .i64 m] w fun e w' => e = .returned (.tuple #[.int .i64 (leastF ss m).1, .int .i64 (leastF ss m).2]) ∧ Bl w w' := by
  have hl := ha.len
  obtain ⟨a, c, rfl, hc⟩ := ha.form
  have HA := Lib.hid ha
  clear ha
  by_cases hz : listC ss m = 0
  · obtain ⟨hall, hm, hl50⟩ := listC_zero hz
    have HALL := Lib.hid hall
    have HZ := Lib.hid hz
    obtain ⟨M, rfl⟩ := Int.eq_ofNat_of_zero_le (show 0 ≤ m by omega)
    by_cases h0 : ss.length = 0
    · have HR := Lib.hid (show leastF ss (M : Int) = (0, 3) by rw [leastF, if_pos hz, if_pos h0])
      have h1 : ((ss.length : Int) == 0) = true := beq_iff_eq.2 (by omega)
      clear hall hz h0
      go_enter Try.func20, Try.ntmps20
      go_wp2_with fail
      refine (scheck_eq HZ.out _ HA.out).mono ?_
      rintro e w1 ⟨rfl, hb1⟩
      go_wp2
      go_ret2
      exact ⟨ret_ii2 HR.out, hb1⟩
    · have HR := Lib.hid (show leastF ss (M : Int) = leastG (cmpAt ss M) (ss.length - 1) 0 1 by rw [leastF, if_pos hz, if_neg h0, Int.toNat_natCast])
      have h1 : ((ss.length : Int) == 0) = false := beq_eq_false_iff_ne.2 (by omega)
      have hpos : 0 < ss.length := by omega
      clear hall hz h0
      go_enter Try.func20, Try.ntmps20
      go_wp2_with fail
      refine (scheck_eq HZ.out _ HA.out).mono ?_
      rintro e w1 ⟨rfl, hb1⟩
      go_wp2
      go_loopw [7, 8] (fun s7 s8 wr => ∃ b i : Nat, s7 = .int .i64 b ∧ s8 = .int .i64 i ∧ b < ss.length ∧ 1 ≤ i ∧ i ≤ ss.length ∧ Hid (leastF ss (M : Int) = leastG (cmpAt ss M) (ss.length - i) b i) ∧ Bl w wr) (fun _ s8 _ => ss.length - (intOf s8).toNat)
      case atStart => exact ⟨0, 1, rfl, rfl, hpos, Nat.le_refl _, hpos, HR, hb1⟩
      case round =>
        obtain ⟨b, i, rfl, rfl, hbl, hi1, hi2, HG, hB⟩ := hrel
        by_cases hlt : i < ss.length
        · obtain ⟨pb, po, rfl, h, p, g, s, hs, x3, xs⟩ := HA.out.at hB hlt
          obtain ⟨t, ht⟩ : ∃ t, ss[b]? = some t := ⟨_, List.getElem?_eq_getElem hbl⟩
          obtain ⟨h', p', g', y3, ys⟩ := HA.out.atR hB ht
          obtain ⟨cc, q, hcq⟩ : ∃ cc q, cmpP (plainS s) (plainS t) M = (cc, q) := ⟨_, _, rfl⟩
          have HC := Lib.hid hcq
          have HF := Lib.hid (show cmpAt ss M i b = (cc, q) by rw [cmpAt_eq hs ht]; exact hcq)
          have HK1 := Lib.hid (all_ok HALL.out hs)
          have HK2 := Lib.hid (all_ok HALL.out ht)
          have HX := Lib.hid x3
          have HY := Lib.hid y3
          have HXS := Lib.hid xs
          have HYS := Lib.hid ys
          obtain ⟨cx, cx1, cx2⟩ := x3
          obtain ⟨cy, cy1, cy2⟩ := y3
          clear hs ht hcq xs ys
          go_wp2_with fail
          go_region_held3 (fun w' => w'.cell? ⟨pb, po + i * 3, none⟩ = some h ∧ w'.cell? ⟨pb, po + i * 3 + 1, none⟩ = some p ∧ w'.cell? ⟨pb, po + i * 3 + 2, none⟩ = some g ∧ w'.cell? ⟨pb, po + b * 3, none⟩ = some h' ∧ w'.cell? ⟨pb, po + b * 3 + 1, none⟩ = some p' ∧ w'.cell? ⟨pb, po + b * 3 + 2, none⟩ = some g') (first | (simp [*]; done) | (go_simp; done) | go_keep)
            ((go_at_call 83; refine (scompare_eqP HC.out _ _ _ _ _ (HXS.out.drew) (HYS.out.drew) HX.out.drew HY.out.drew HK1.out HK2.out (by omega)).mono ?_; rintro e w5 ⟨rfl, hb5⟩; have B5 : Bl w w5 := bl_call (bl_drew hB) hb5; have HX := Lib.hid (HX.out.drew.below hb5); have HY := Lib.hid (HY.out.drew.below hb5); clear cx cx1 cx2 cy cy1 cy2; obtain ⟨cx, cx1, cx2⟩ := HX.out; obtain ⟨cy, cy1, cy2⟩ := HY.out))
          by_cases hq : q = 0
          · subst hq
            by_cases hcc : cc < 0
            · have HN := Lib.hid (least_less HG.out hlt HF.out hcc)
              go_wp2
              go_roundw
              case rel => exact ⟨i, i + 1, rfl, by go_num, hlt, by omega, by omega, HN, B5⟩
              case measure => simp only [intOf]; omega
            · have HN := Lib.hid (least_keep HG.out hlt HF.out hcc)
              go_wp2
              go_roundw
              case rel => exact ⟨b, i + 1, rfl, by go_num, hbl, by omega, by omega, HN, B5⟩
              case measure => simp only [intOf]; omega
          · have HN := Lib.hid (least_stop HG.out hlt HF.out hq)
            have hq1 : (q != 0) = true := bne_iff_ne.2 hq
            go_wp2
            go_ret2
            exact ⟨ret_ii2 HN.out, B5⟩
        · have HN := Lib.hid (least_end HG.out (by omega))
          go_wp2
          go_ret2
          exact ⟨ret_ii2 HN.out, hB⟩
  · have HR := Lib.hid (show leastF ss m = (0, listC ss m) by rw [leastF, if_neg hz])
    have hz1 : (listC ss m != 0) = true := bne_iff_ne.2 hz
    have hz2 : (listC ss m == 0) = false := beq_eq_false_iff_ne.2 hz
    clear hz
    generalize hcc : listC ss m = cc at *
    have HZ := Lib.hid hcc
    clear hcc
    go_enter Try.func20, Try.ntmps20
    go_wp2_with fail
    refine (scheck_eq HZ.out _ HA.out).mono ?_
    rintro e w1 ⟨rfl, hb1⟩
    go_wp2
    go_ret2
    exact ⟨ret_ii2 HR.out, hb1⟩

end Go.Proofs.Ytgmofofokhlhnaa
