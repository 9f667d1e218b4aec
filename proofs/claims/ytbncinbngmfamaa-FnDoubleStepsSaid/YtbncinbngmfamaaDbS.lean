/- A run of a function of two numbers: the reference. Each theorem names its conditions. -/
import Derived.Test.YtbncinbngmfamaaDb9
import Derived.Deep.RegionLaw
import Derived.StillTailTactics
namespace Go.Proofs.Ytbncinbngmfamaa
open Go.RowKit
set_option linter.unusedVariables false
set_option linter.unusedSimpArgs false


theorem own_madeAt (X : World) {B k : Nat} (hk : k = X.heap.size) (hB : B ≤ X.heap.size) : Own (X.alloc (.cells #[] 2)) B (.slice (some ⟨k, 0, none⟩) 0 0) [] := by subst hk; exact own_made X hB

set_option maxRecDepth 100000 in
set_option maxHeartbeats 12800000 in
theorem srun_any {w : World} {d : Db} {vx vy : Value} {xs ys : List Int} (hx : Sl w vx xs) (hy : Sl w vy ys) (hb : bdD d = true) (hp : termsP xs = true) (hq : termsP ys = true) :
    Calls Try.prog 116 #[.agg #[.int .i64 d.a, .int .i64 d.b, .int .i64 d.c, .int .i64 d.d, .int .i64 d.e, .int .i64 d.f, .int .i64 d.g, .int .i64 d.h], vx, vy] w (FinP (runDF xs ys 0 d []) w) := by
  obtain ⟨ax, cx, rfl, hcx⟩ := hx.form'
  obtain ⟨ay, cy, rfl, hcy⟩ := hy.form'
  have hlx := (termsP_iff.1 hp).1
  have hly := (termsP_iff.1 hq).1
  obtain ⟨bx, ox, rfl, _⟩ := hx.cellAt' (bl_refl w) (k := 0) (by omega)
  obtain ⟨by', oy, rfl, _⟩ := hy.cellAt' (bl_refl w) (k := 0) (by omega)
  have HX := Lib.hid hx
  have HY := Lib.hid hy
  have HB := Lib.hid hb
  have HP := Lib.hid hp
  have HQ := Lib.hid hq
  clear hx hy hb hp hq
  obtain ⟨R, hR⟩ : ∃ R, runDF xs ys 0 d [] = R := ⟨_, rfl⟩
  rw [hR]
  have HR := Lib.hid hR
  clear hR
  go_enter Try.func116, Try.ntmps116
  go_wp2_with fail
  go_loopw [9] (fun s9 wr => ∃ i : Nat, s9 = .int .i64 i ∧ i ≤ 2 * xs.length + 1 ∧ ((∃ (d1 : Db) (o1 : List Int) (v1 : Value), (i + 1) / 2 ≤ xs.length ∧ i / 2 ≤ ys.length ∧ Bx wr (w.heap.size + 1 + 1) #[.int .i64 d1.a, .int .i64 d1.b, .int .i64 d1.c, .int .i64 d1.d, .int .i64 d1.e, .int .i64 d1.f, .int .i64 d1.g, .int .i64 d1.h, v1, .bool false, .int .i64 0] ∧ Own wr w.heap.size v1 o1 ∧ Hid (runDF xs ys i d1 o1 = R) ∧ Hid (bdD d1 = true) ∧ Hid (EmD d1 o1) ∧ Hid (i ≤ 1 → o1 = []) ∧ Hid (v1.ownBlock ≠ some (w.heap.size + 1 + 1))) ∨ (Hid (R = ([], 5)) ∧ ∃ (d1 : Db) (v1 : Value), Bx wr (w.heap.size + 1 + 1) #[.int .i64 d1.a, .int .i64 d1.b, .int .i64 d1.c, .int .i64 d1.d, .int .i64 d1.e, .int .i64 d1.f, .int .i64 d1.g, .int .i64 d1.h, v1, .bool false, .int .i64 5])) ∧ Bl w wr) (fun s9 _ => 2 * xs.length + 2 - (intOf s9).toNat)
  case atStart => exact ⟨0, rfl, by omega, .inl ⟨d, [], _, by omega, by omega, Bx.new (b := w.heap.size + 1 + 1) ((w.alloc (.cells #[.int .i64 d.a, .int .i64 d.b, .int .i64 d.c, .int .i64 d.d, .int .i64 d.e, .int .i64 d.f, .int .i64 d.g, .int .i64 d.h] 26)).alloc (.cells #[] 2)) #[.int .i64 d.a, .int .i64 d.b, .int .i64 d.c, .int .i64 d.d, .int .i64 d.e, .int .i64 d.f, .int .i64 d.g, .int .i64 d.h, .slice (some ⟨w.heap.size + 1, 0, none⟩) 0 0, .bool false, .int .i64 0] 150 (by first | rfl | simp), (own_madeAt (w.alloc (.cells #[.int .i64 d.a, .int .i64 d.b, .int .i64 d.c, .int .i64 d.d, .int .i64 d.e, .int .i64 d.f, .int .i64 d.g, .int .i64 d.h] 26)) (B := w.heap.size) (k := w.heap.size + 1) (by simp) (by simp)).alloc _, HR, HB, Lib.hid (EmD.nil _), Lib.hid (fun _ => rfl), Lib.hid (by simp [Value.ownBlock])⟩, bl_alloc (bl_alloc (bl_alloc (bl_refl _) _) _) _⟩
  case round =>
    obtain ⟨i, rfl, hi9, hor, Br⟩ := hrel
    have hBs := Br.size
    rcases hor with ⟨d1, o1, v1, hi1, hi2, x1, h1, HR1, HBB, HJ, HI0, HNE⟩ | ⟨HR1, d1, v1, x1⟩
    case inr =>
      obtain ⟨c1, f1, z1⟩ := x1.out
      go_wp2_with fail
      go_quiet (fail)
      go_wp2
      go_ret2
      exact finp_no HR1.out (bl_call Br (Drawn.below ⟨_, rfl⟩ _))
    have HO := Lib.hid h1
    obtain ⟨oa, oc, rfl, _⟩ := h1.form
    clear h1
    obtain ⟨c1, f1, z1⟩ := x1.out
    obtain ⟨k, hk⟩ : ∃ k : Nat, i = 2 * k ∨ i = 2 * k + 1 := ⟨i / 2, by omega⟩
    have hcast : (-9223372036854775808 : Int) ≤ (i : Int) ∧ (i : Int) ≤ 1000 := by omega
    rcases hk with hk | hk
    · have hq1 : (i : Int).tdiv 2 = (k : Int) := by rw [Int.tdiv_eq_ediv_of_nonneg (by omega)]; omega
      have hq2 : (i : Int) / 2 = (k : Int) := by omega
      have hr1 : (i : Int).tmod 2 = 0 := by rw [Int.tmod_eq_emod_of_nonneg (by omega)]; omega
      have hr2 : (i : Int) % 2 = 0 := by omega
      have HIK := Lib.hid hk
      have HI2 := Lib.hid (show i / 2 = k by omega)
      have HPY := Lib.hid (show i % 2 = 0 by omega)
      by_cases hkc : k < xs.length
      · have hkI : (k : Int) < (xs.length : Int) := by omega
        have ck : ((k : Int) == (xs.length : Int)) = false := by rw [beq_eq_false_iff_ne]; omega
        have hin1 : (i + 1 + 1) / 2 ≤ xs.length := by omega
        have hin2 : (i + 1) / 2 ≤ ys.length := by omega
        have hin3 : i ≤ 2 * xs.length := by omega
        have hin4 : k = 0 → i ≤ 1 := by omega
        clear hk
        obtain ⟨t, ht, ct⟩ := sl_cell HX.out Br hkc
        have htb := termsP_bdT HP.out ht
        have HE := Lib.hid (show stepD xs ys i (fdX d1 t) o1 = R by rw [← HR1.out, rund_x hin3 (by rw [HPY.out]) (by rw [HI2.out]; exact ht)])
        have HJF := Lib.hid (HJ.out.fdX (term_low HP.out ht (fun q => HI0.out (hin4 q))))
        clear ht hin4
        go_wp2_with fail
        refine (sfdX_feed x1 HBB.out htb).mono ?_
        rintro e w3 ⟨rfl, hu3, hy3, hn3⟩
        have B3 : Bl w w3 := bl_upd Br hu3 (by omega)
        have HO3 := Lib.hid (HO.out.upd hu3 HNE.out)
        have h3s := B3.size
        clear c1 f1 z1 ct
        cases hok : okD (fdX d1 t) with
        | false =>
          have x3 := hn3 hok
          have HR2 := Lib.hid (show R = ([], 5) by rw [← HE.out, stepd_bad hok])
          clear hok hy3 hn3
          obtain ⟨c3, f3, z3⟩ := x3.out
          by_cases hi0 : i = 0
          · have ci : decide ((0 : Int) < (i : Int)) = false := decide_eq_false (by omega)
            have ci2 : decide ((i : Int) > 0) = false := ci
            have ci3 : ¬ (0 : Int) < (i : Int) := by omega
            go_wp2
            go_roundw
            case rel => exact ⟨i + 1, by go_num, by omega, .inr ⟨HR2, _, _, x3⟩, B3⟩
            case measure => simp only [intOf, Int.toNat_natCast]; omega
          · have ci : decide ((0 : Int) < (i : Int)) = true := decide_eq_true (by omega)
            have ci2 : decide ((i : Int) > 0) = true := ci
            have ci3 : (0 : Int) < (i : Int) := by omega
            go_wp2_with fail
            refine (semT_bad x3).mono ?_
            rintro e w4 ⟨rfl, rfl⟩
            go_wp2
            go_roundw
            case rel => exact ⟨i + 1, by go_num, by omega, .inr ⟨HR2, _, _, x3⟩, B3⟩
            case measure => simp only [intOf, Int.toNat_natCast]; omega
        | true =>
          have x3 := hy3 hok
          have HBF := Lib.hid (okD_bd hok)
          clear hy3 hn3
          obtain ⟨c3, f3, z3⟩ := x3.out
          by_cases hi0 : i = 0
          · have ci : decide ((0 : Int) < (i : Int)) = false := decide_eq_false (by omega)
            have ci2 : decide ((i : Int) > 0) = false := ci
            have ci3 : ¬ (0 : Int) < (i : Int) := by omega
            have HE2 := Lib.hid (show runDF xs ys (i + 1) (fdX d1 t) o1 = R by rw [← HE.out, stepd_0 hok hi0])
            clear hok
            go_wp2
            go_roundw
            case rel => exact ⟨i + 1, by go_num, by omega, .inl ⟨fdX d1 t, o1, _, hin1, hin2, x3, HO3.out, HE2, HBF, HJF, Lib.hid (fun q => HI0.out (by omega)), HNE⟩, B3⟩
            case measure => simp only [intOf, Int.toNat_natCast]; omega
          · have ci : decide ((0 : Int) < (i : Int)) = true := decide_eq_true (by omega)
            have ci2 : decide ((i : Int) > 0) = true := ci
            have ci3 : (0 : Int) < (i : Int) := by omega
            have hl1 := HJF.out.len
            cases hem : emitDF (fdX d1 t) o1 with
            | none =>
              have HR2 := Lib.hid (show R = ([], 5) by rw [← HE.out, stepd_none hok hi0 hem])
              have HEM := Lib.hid hem
              clear hok hem
              go_wp2_with fail
              have HH := semT_any (d := fdX d1 t) x3 HO3.out h3s HNE.out HBF.out hl1
              refine HH.mono ?_
              clear HH
              rintro e w6 hE
              rw [HEM.out] at hE
              obtain ⟨hU, rfl, d2, v2, x6⟩ := hE
              have B6 := bl_upv B3 hU (by omega) (fun k hk => (HO3.out.lt k hk).1)
              clear c3 f3 z3
              obtain ⟨c6, f6, z6⟩ := x6.out
              go_wp2
              go_roundw
              case rel => exact ⟨i + 1, by go_num, by omega, .inr ⟨HR2, _, _, x6⟩, B6⟩
              case measure => simp only [intOf, Int.toNat_natCast]; omega
            | some r =>
              obtain ⟨d2, o2, b2⟩ := r
              have HK := Lib.hid (emd_keeps (okD_bd hok) HJF.out hem)
              have HEM := Lib.hid hem
              have HOK := Lib.hid hok
              clear hok hem
              go_wp2_with fail
              have HH := semT_any (d := fdX d1 t) x3 HO3.out h3s HNE.out HBF.out hl1
              refine HH.mono ?_
              clear HH
              rintro e w6 hE
              rw [HEM.out] at hE
              obtain ⟨hU, rfl, v2, x6, ho2, hr2⟩ := hE
              have B6 := bl_upv B3 hU (by omega) (fun k hk => (HO3.out.lt k hk).1)
              have h6s := B6.size
              have HNE2 := Lib.hid (own_ne hr2 HNE.out z3)
              obtain ⟨va, vc, rfl, _⟩ := ho2.form
              have HO2 := Lib.hid ho2
              clear c3 f3 z3 ho2 hr2
              obtain ⟨c6, f6, z6⟩ := x6.out
              cases b2 with
              | false =>
                have HE2 := Lib.hid (show runDF xs ys (i + 1) d2 o2 = R by rw [← HE.out, stepd_on HOK.out hi0 HEM.out])
                go_wp2
                go_roundw
                case rel => exact ⟨i + 1, by go_num, by omega, .inl ⟨d2, o2, _, hin1, hin2, x6, HO2.out, HE2, Lib.hid HK.out.1, Lib.hid HK.out.2.1, Lib.hid (fun q => absurd q (by omega)), HNE2⟩, B6⟩
                case measure => simp only [intOf, Int.toNat_natCast]; omega
              | true =>
                have HR2 := Lib.hid (show R = (shortL o2, 0) by rw [← HE.out, stepd_done HOK.out hi0 HEM.out])
                have hl2 := HK.out.2.1.len
                go_wp2_with fail
                have HH := short13_any _ o2 w6 HO2.out.sl (by omega) HK.out.2.1.shb
                refine HH.mono ?_
                clear HH
                rintro e w7 ⟨a7, c7, rfl, ho7, hb7⟩
                have B7 := bl_call B6 hb7
                have HO7 := Lib.hid ho7
                have H7 := Lib.hid h6s
                clear c6 f6 z6 ho7 h6s
                go_wp2
                go_ret2
                exact finp_yes HR2.out H7.out HO7.out B7
      · have ck : ((k : Int) == (xs.length : Int)) = true := by simp; omega
        have HRR := Lib.hid (show R = restF (leX d1) o1 (ys.drop k) by rw [← HR1.out, rund_xend (by omega) (by omega) (by omega), show i / 2 = k by omega])
        have hkpos : 1 ≤ k := by omega
        clear hk
        have hmin2 : (k : Int) ≤ (ys.length : Int) := by omega
        have hmin5 : k ≤ ys.length := by omega
        have hmin3 : (0 : Int) ≤ (k : Int) := by omega
        have HDB := Lib.hid (drop_bd (k := k) HQ.out (by omega))
        have HLB := Lib.hid (show (ys.drop k).length ≤ 1000000 by rw [List.length_drop]; omega)
        by_cases hck : cy = k
        · have HD := Lib.hid (sl_dropB HY.out (k := k) (by omega) hck)
          go_upto_region 9 with fail
          go_region_law ((first | (go_simp; go_at_call 149; go_must (refine (sleX_any d1 _).mono ?_; rintro e w3 ⟨rfl, hb3⟩; have x3 := x1.drew.below hb3; have HO3 := Lib.hid (HO.out.drew.below hb3); have B3 : Bl w w3 := bl_call (bl_drew Br) hb3; clear c1 f1; obtain ⟨c3, f3, z3⟩ := x3.out); go_wp2_with fail) | (go_simp; go_at_call 148; go_must (have HH := srest_any (w0 := w) (s := leX d1) B3 HD.out HO3.out (bdS_leX HBB.out) HJ.out.leX HDB.out HLB.out; refine HH.mono ?_; clear HH; rintro e w4 hF; have hF2 := finp_is HRR.out hF; obtain ⟨y, yn, yc, rfl, hy, hBy⟩ := hF); go_wp2_with fail)))
          all_goals (go_wp2; go_ret2; exact hF2)
        · have HD := Lib.hid (sl_dropA HY.out (k := k) (by omega))
          go_upto_region 9 with fail
          go_region_law ((first | (go_simp; go_at_call 149; go_must (refine (sleX_any d1 _).mono ?_; rintro e w3 ⟨rfl, hb3⟩; have x3 := x1.drew.below hb3; have HO3 := Lib.hid (HO.out.drew.below hb3); have B3 : Bl w w3 := bl_call (bl_drew Br) hb3; clear c1 f1; obtain ⟨c3, f3, z3⟩ := x3.out); go_wp2_with fail) | (go_simp; go_at_call 148; go_must (have HH := srest_any (w0 := w) (s := leX d1) B3 HD.out HO3.out (bdS_leX HBB.out) HJ.out.leX HDB.out HLB.out; refine HH.mono ?_; clear HH; rintro e w4 hF; have hF2 := finp_is HRR.out hF; obtain ⟨y, yn, yc, rfl, hy, hBy⟩ := hF); go_wp2_with fail)))
          all_goals (go_wp2; go_ret2; exact hF2)
    · have hq1 : (i : Int).tdiv 2 = (k : Int) := by rw [Int.tdiv_eq_ediv_of_nonneg (by omega)]; omega
      have hq2 : (i : Int) / 2 = (k : Int) := by omega
      have hr1 : (i : Int).tmod 2 = 1 := by rw [Int.tmod_eq_emod_of_nonneg (by omega)]; omega
      have hr2 : (i : Int) % 2 = 1 := by omega
      have HIK := Lib.hid hk
      have HI2 := Lib.hid (show i / 2 = k by omega)
      have HPY := Lib.hid (show i % 2 = 1 by omega)
      by_cases hkc : k < ys.length
      · have hkI : (k : Int) < (ys.length : Int) := by omega
        have ck : ((k : Int) == (ys.length : Int)) = false := by rw [beq_eq_false_iff_ne]; omega
        have hin1 : (i + 1 + 1) / 2 ≤ xs.length := by omega
        have hin2 : (i + 1) / 2 ≤ ys.length := by omega
        have hin3 : i ≤ 2 * xs.length := by omega
        have hin4 : k = 0 → i ≤ 1 := by omega
        clear hk
        obtain ⟨t, ht, ct⟩ := sl_cell HY.out Br hkc
        have htb := termsP_bdT HQ.out ht
        have HE := Lib.hid (show stepD xs ys i (fdY d1 t) o1 = R by rw [← HR1.out, rund_y hin3 (by rw [HPY.out]; simp) (by rw [HI2.out]; exact ht)])
        have HJF := Lib.hid (HJ.out.fdY (term_low HQ.out ht (fun q => HI0.out (hin4 q))))
        clear ht hin4
        go_wp2_with fail
        refine (sfdY_feed x1 HBB.out htb).mono ?_
        rintro e w3 ⟨rfl, hu3, hy3, hn3⟩
        have B3 : Bl w w3 := bl_upd Br hu3 (by omega)
        have HO3 := Lib.hid (HO.out.upd hu3 HNE.out)
        have h3s := B3.size
        clear c1 f1 z1 ct
        cases hok : okD (fdY d1 t) with
        | false =>
          have x3 := hn3 hok
          have HR2 := Lib.hid (show R = ([], 5) by rw [← HE.out, stepd_bad hok])
          clear hok hy3 hn3
          obtain ⟨c3, f3, z3⟩ := x3.out
          by_cases hi0 : i = 0
          · exact absurd hi0 (by have := HPY.out; omega)
          · have ci : decide ((0 : Int) < (i : Int)) = true := decide_eq_true (by omega)
            have ci2 : decide ((i : Int) > 0) = true := ci
            have ci3 : (0 : Int) < (i : Int) := by omega
            go_wp2_with fail
            refine (semT_bad x3).mono ?_
            rintro e w4 ⟨rfl, rfl⟩
            go_wp2
            go_roundw
            case rel => exact ⟨i + 1, by go_num, by omega, .inr ⟨HR2, _, _, x3⟩, B3⟩
            case measure => simp only [intOf, Int.toNat_natCast]; omega
        | true =>
          have x3 := hy3 hok
          have HBF := Lib.hid (okD_bd hok)
          clear hy3 hn3
          obtain ⟨c3, f3, z3⟩ := x3.out
          by_cases hi0 : i = 0
          · exact absurd hi0 (by have := HPY.out; omega)
          · have ci : decide ((0 : Int) < (i : Int)) = true := decide_eq_true (by omega)
            have ci2 : decide ((i : Int) > 0) = true := ci
            have ci3 : (0 : Int) < (i : Int) := by omega
            have hl1 := HJF.out.len
            cases hem : emitDF (fdY d1 t) o1 with
            | none =>
              have HR2 := Lib.hid (show R = ([], 5) by rw [← HE.out, stepd_none hok hi0 hem])
              have HEM := Lib.hid hem
              clear hok hem
              go_wp2_with fail
              have HH := semT_any (d := fdY d1 t) x3 HO3.out h3s HNE.out HBF.out hl1
              refine HH.mono ?_
              clear HH
              rintro e w6 hE
              rw [HEM.out] at hE
              obtain ⟨hU, rfl, d2, v2, x6⟩ := hE
              have B6 := bl_upv B3 hU (by omega) (fun k hk => (HO3.out.lt k hk).1)
              clear c3 f3 z3
              obtain ⟨c6, f6, z6⟩ := x6.out
              go_wp2
              go_roundw
              case rel => exact ⟨i + 1, by go_num, by omega, .inr ⟨HR2, _, _, x6⟩, B6⟩
              case measure => simp only [intOf, Int.toNat_natCast]; omega
            | some r =>
              obtain ⟨d2, o2, b2⟩ := r
              have HK := Lib.hid (emd_keeps (okD_bd hok) HJF.out hem)
              have HEM := Lib.hid hem
              have HOK := Lib.hid hok
              clear hok hem
              go_wp2_with fail
              have HH := semT_any (d := fdY d1 t) x3 HO3.out h3s HNE.out HBF.out hl1
              refine HH.mono ?_
              clear HH
              rintro e w6 hE
              rw [HEM.out] at hE
              obtain ⟨hU, rfl, v2, x6, ho2, hr2⟩ := hE
              have B6 := bl_upv B3 hU (by omega) (fun k hk => (HO3.out.lt k hk).1)
              have h6s := B6.size
              have HNE2 := Lib.hid (own_ne hr2 HNE.out z3)
              obtain ⟨va, vc, rfl, _⟩ := ho2.form
              have HO2 := Lib.hid ho2
              clear c3 f3 z3 ho2 hr2
              obtain ⟨c6, f6, z6⟩ := x6.out
              cases b2 with
              | false =>
                have HE2 := Lib.hid (show runDF xs ys (i + 1) d2 o2 = R by rw [← HE.out, stepd_on HOK.out hi0 HEM.out])
                go_wp2
                go_roundw
                case rel => exact ⟨i + 1, by go_num, by omega, .inl ⟨d2, o2, _, hin1, hin2, x6, HO2.out, HE2, Lib.hid HK.out.1, Lib.hid HK.out.2.1, Lib.hid (fun q => absurd q (by omega)), HNE2⟩, B6⟩
                case measure => simp only [intOf, Int.toNat_natCast]; omega
              | true =>
                have HR2 := Lib.hid (show R = (shortL o2, 0) by rw [← HE.out, stepd_done HOK.out hi0 HEM.out])
                have hl2 := HK.out.2.1.len
                go_wp2_with fail
                have HH := short13_any _ o2 w6 HO2.out.sl (by omega) HK.out.2.1.shb
                refine HH.mono ?_
                clear HH
                rintro e w7 ⟨a7, c7, rfl, ho7, hb7⟩
                have B7 := bl_call B6 hb7
                have HO7 := Lib.hid ho7
                have H7 := Lib.hid h6s
                clear c6 f6 z6 ho7 h6s
                go_wp2
                go_ret2
                exact finp_yes HR2.out H7.out HO7.out B7
      · obtain ⟨k1, hk1⟩ : ∃ k1 : Nat, k1 = k + 1 := ⟨_, rfl⟩
        have HK1 := Lib.hid hk1
        have hk1I : (k : Int) + 1 = (k1 : Int) := by omega
        have hwrap : IntKind.i64.wrap ((k : Int) + 1) = (k1 : Int) := by rw [hk1I, IntKind.wrap_i64]; omega
        have hwrap2 : IntKind.i64.wrap (k1 : Int) = (k1 : Int) := by rw [IntKind.wrap_i64]; omega
        have ck : ((k : Int) == (ys.length : Int)) = true := by simp; omega
        have HRR := Lib.hid (show R = restF (leY d1) o1 (xs.drop k1) by rw [← HR1.out, rund_yend (by omega) (by omega) (by omega), show i / 2 = k by omega, ← HK1.out])
        have hkpos : 1 ≤ k1 := by omega
        have hkx : k1 ≤ xs.length := by omega
        clear hk1
        clear hk
        have hmin2 : (k1 : Int) ≤ (xs.length : Int) := by omega
        have hmin5 : k1 ≤ xs.length := by omega
        have hmin3 : (0 : Int) ≤ (k1 : Int) := by omega
        have HDB := Lib.hid (drop_bd (k := k1) HP.out (by omega))
        have HLB := Lib.hid (show (xs.drop k1).length ≤ 1000000 by rw [List.length_drop]; omega)
        by_cases hck : cx = k1
        · have HD := Lib.hid (sl_dropB HX.out (k := k1) (by omega) hck)
          go_upto_region 11 with fail
          go_region_law ((first | (go_simp; go_at_call 150; go_must (refine (sswD_any d1 _).mono ?_; rintro e w2 ⟨rfl, hb2⟩; have x2 := x1.drew.below hb2; have HO2 := Lib.hid (HO.out.drew.below hb2); have B2 : Bl w w2 := bl_call (bl_drew Br) hb2; clear c1 f1; obtain ⟨c2, f2, z2⟩ := x2.out); go_wp2_with fail) | (go_simp; go_at_call 149; go_must (refine (sleX_any (swD d1) _).mono ?_; rintro e w3 ⟨rfl, hb3⟩; have x3 := x2.below hb3; have HO3 := Lib.hid (HO2.out.below hb3); have B3 : Bl w w3 := bl_call B2 hb3; clear c2 f2; obtain ⟨c3, f3, z3⟩ := x3.out); go_wp2_with fail) | (go_simp; go_at_call 148; go_must (have HH := srest_any (w0 := w) (s := leX (swD d1)) B3 HD.out HO3.out (bdS_leY HBB.out) HJ.out.leY HDB.out HLB.out; refine HH.mono ?_; clear HH; rintro e w4 hF; have hF2 := finp_is HRR.out hF; obtain ⟨y, yn, yc, rfl, hy, hBy⟩ := hF); go_wp2_with fail)))
          all_goals (go_wp2; go_ret2; exact hF2)
        · have HD := Lib.hid (sl_dropA HX.out (k := k1) (by omega))
          go_upto_region 11 with fail
          go_region_law ((first | (go_simp; go_at_call 150; go_must (refine (sswD_any d1 _).mono ?_; rintro e w2 ⟨rfl, hb2⟩; have x2 := x1.drew.below hb2; have HO2 := Lib.hid (HO.out.drew.below hb2); have B2 : Bl w w2 := bl_call (bl_drew Br) hb2; clear c1 f1; obtain ⟨c2, f2, z2⟩ := x2.out); go_wp2_with fail) | (go_simp; go_at_call 149; go_must (refine (sleX_any (swD d1) _).mono ?_; rintro e w3 ⟨rfl, hb3⟩; have x3 := x2.below hb3; have HO3 := Lib.hid (HO2.out.below hb3); have B3 : Bl w w3 := bl_call B2 hb3; clear c2 f2; obtain ⟨c3, f3, z3⟩ := x3.out); go_wp2_with fail) | (go_simp; go_at_call 148; go_must (have HH := srest_any (w0 := w) (s := leX (swD d1)) B3 HD.out HO3.out (bdS_leY HBB.out) HJ.out.leY HDB.out HLB.out; refine HH.mono ?_; clear HH; rintro e w4 hF; have hF2 := finp_is HRR.out hF; obtain ⟨y, yn, yc, rfl, hy, hBy⟩ := hF); go_wp2_with fail)))
          all_goals (go_wp2; go_ret2; exact hF2)

end Go.Proofs.Ytbncinbngmfamaa
