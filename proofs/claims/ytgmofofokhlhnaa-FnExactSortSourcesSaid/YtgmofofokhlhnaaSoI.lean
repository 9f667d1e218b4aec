/- SortSources. Each theorem names its conditions. -/
import Derived.Test.YtgmofofokhlhnaaSoW
namespace Go.Proofs.Ytgmofofokhlhnaa
open Go.RowKit
set_option linter.unusedVariables false
set_option linter.unusedSimpArgs false


set_option maxRecDepth 100000 in
set_option maxHeartbeats 6400000 in
theorem impl_SortSources (va : Value) (ss : List Src) (m : Int) (w : World) (ha : SlL w va ss) :
    Calls Try.prog 17 #[va, .int .i64 m] w fun e w' => ∃ a n c, e = .returned (.tuple #[.slice a n c, .int .i64 (sortF ss m).2]) ∧ Own w' w.heap.size (.slice a n c) (sortF ss m).1 ∧ Bl w w' := by
  have hl := ha.len
  obtain ⟨a, c, rfl, hc⟩ := ha.form
  have HA := Lib.hid ha
  clear ha
  by_cases hz : listC ss m = 0
  · obtain ⟨hall, hm, hl50⟩ := listC_zero hz
    have HALL := Lib.hid hall
    have HZ := Lib.hid hz
    obtain ⟨M, rfl⟩ := Int.eq_ofNat_of_zero_le (show 0 ≤ m by omega)
    have hfok := Lib.hid (cmpAt_ok ss M)
    clear hall hz
    go_enter Try.func17, Try.ntmps17
    go_wp2_with fail
    refine (icheck_eq HZ.out _ HA.out).mono ?_
    rintro e w1 ⟨rfl, hb1⟩
    go_wp2
    go_loopw [7, 22] (fun s7 s22 wr => ∃ (i : Nat) (a : Option Addr) (c : Nat) (out : List Nat), s22 = .int .i64 i ∧ s7 = .slice a i c ∧ i ≤ ss.length ∧ Hid (Srt (cmpAt ss M) i out ∧ Dec (cmpAt ss M) i ∧ out = sortG (cmpAt ss M) i) ∧ Hid (Own wr w.heap.size (.slice a i c) (natL out)) ∧ Bl w wr) (fun _ s22 _ => ss.length - (intOf s22).toNat)
    case atStart => exact ⟨0, none, 0, [], rfl, rfl, Nat.zero_le _, Lib.hid ⟨srt_nil _, fun i j h => absurd h (by omega), rfl⟩, Lib.hid (Own.nil _ _), hb1⟩
    case round =>
      obtain ⟨i, oa, oc, out, rfl, rfl, hi, HS, HO, hBo⟩ := hrel
      rename World => wo
      have hol : out.length = i := HS.out.1.len
      have hnl : (natL out).length = i := by rw [natL_len]; exact hol
      have HOL := Lib.hid hol
      have HNL := Lib.hid hnl
      clear hol hnl
      by_cases hlt : i < ss.length
      · go_wp2
        go_loopw [9, 29] (fun s9 s29 wi => ∃ k q : Nat, s29 = .int .i64 k ∧ s9 = .int .i64 q ∧ k ≤ i ∧ q ≤ i ∧ Hid (Dec (cmpAt ss M) (i + 1) → q = if posF (cmpAt ss M) out i < k then posF (cmpAt ss M) out i else i) ∧ Hid (∀ j x, j < k → out[j]? = some x → (cmpAt ss M i x).2 = 0) ∧ Bl wo wi) (fun _ s29 _ => i - (intOf s29).toNat)
        case atStart => exact ⟨0, i, rfl, rfl, Nat.zero_le _, Nat.le_refl _, Lib.hid (fun _ => by simp), Lib.hid (fun j x h => absurd h (by omega)), bl_refl _⟩
        case round =>
          obtain ⟨k, q, rfl, rfl, hk, hq, HAT, HD, hBi⟩ := hrel
          have hB : Bl w wr := bl_call hBo hBi
          by_cases hlk : k < i
          · obtain ⟨b, hj⟩ : ∃ b, out[k]? = some b := ⟨_, List.getElem?_eq_getElem (by have := HOL.out; omega)⟩
            have hji : b < i := (HS.out.1.mem b).1 (List.mem_of_getElem? hj)
            obtain ⟨ob, oo, rfl, x, hx, cj, _⟩ := HO.out.sl.cellAt hBi (k := k) (by have := HNL.out; omega)
            obtain rfl : x = (b : Int) := by rw [natL_get hj] at hx; exact (Option.some.inj hx).symm
            obtain ⟨pb, po, rfl, h, p, g, s, hs, x3, xs⟩ := HA.out.at hB hlt
            obtain ⟨t, ht⟩ : ∃ t, ss[b]? = some t := ⟨_, List.getElem?_eq_getElem (by omega)⟩
            obtain ⟨h', p', g', y3, ys⟩ := HA.out.atR hB ht
            obtain ⟨cc, q0, hcq⟩ : ∃ cc q0, cmpP (plainS s) (plainS t) M = (cc, q0) := ⟨_, _, rfl⟩
            have HC := Lib.hid hcq
            have HF := Lib.hid (show cmpAt ss M i b = (cc, q0) by rw [cmpAt_eq hs ht]; exact hcq)
            have HK1 := Lib.hid (all_ok HALL.out hs)
            have HK2 := Lib.hid (all_ok HALL.out ht)
            have hbl : b < ss.length := by omega
            have HX := Lib.hid x3
            have HY := Lib.hid y3
            have HXS := Lib.hid xs
            have HYS := Lib.hid ys
            have HJ := Lib.hid hj
            obtain ⟨cx, cx1, cx2⟩ := x3
            obtain ⟨cy, cy1, cy2⟩ := y3
            clear hs ht hcq xs ys hj hx
            go_wp2_with fail
            clear cj
            go_region_held3 (fun w' => w'.cell? ⟨pb, po + i * 3, none⟩ = some h ∧ w'.cell? ⟨pb, po + i * 3 + 1, none⟩ = some p ∧ w'.cell? ⟨pb, po + i * 3 + 2, none⟩ = some g ∧ w'.cell? ⟨pb, po + b * 3, none⟩ = some h' ∧ w'.cell? ⟨pb, po + b * 3 + 1, none⟩ = some p' ∧ w'.cell? ⟨pb, po + b * 3 + 2, none⟩ = some g') (first | (simp [*]; done) | (go_simp; done) | go_keep)
              (first | (go_at_call_of 81 (h); go_must (refine (shortOf_ok _ (HXS.out.drew) HK1.out).mono ?_; rintro e w3 ⟨ax1, nx1, cx1', ax2, nx2, cx2', ax3, nx3, cx3, ax4, nx4, cx4, fx, rfl, HP, hb3⟩; have HX := Lib.hid HX.out.drew; have HY := Lib.hid HY.out.drew; have B3 : Bl w w3 := bl_call (bl_drew hB) hb3; have HX := Lib.hid (HX.out.below hb3); have HY := Lib.hid (HY.out.below hb3); clear cx cx1 cx2 cy cy1 cy2; obtain ⟨cx, cx1, cx2⟩ := HX.out; obtain ⟨cy, cy1, cy2⟩ := HY.out)) | (go_at_call_of 81 (h'); go_must (refine (shortOf_ok _ ((HYS.out.drew).below hb3) HK2.out).mono ?_; rintro e w4 ⟨ay1, ny1, cy1', ay2, ny2, cy2', ay3, ny3, cy3, ay4, ny4, cy4, fy, rfl, HQ, hb4⟩; have B4 : Bl w w4 := bl_call B3 hb4; have HX := Lib.hid (HX.out.below hb4); have HY := Lib.hid (HY.out.below hb4); clear cx cx1 cx2 cy cy1 cy2; obtain ⟨cx, cx1, cx2⟩ := HX.out; obtain ⟨cy, cy1, cy2⟩ := HY.out)) | (go_at_call 80; go_must (refine (compareBy_eq HC.out _ (HP.below hb4) HQ (by omega)).mono ?_; rintro e w5 ⟨rfl, hb5⟩; have B5 : Bl w w5 := bl_call B4 hb5; have HX := Lib.hid (HX.out.below hb5); have HY := Lib.hid (HY.out.below hb5); clear cx cx1 cx2 cy cy1 cy2; obtain ⟨cx, cx1, cx2⟩ := HX.out; obtain ⟨cy, cy1, cy2⟩ := HY.out)))
            have hB2 : Bl wo w5 := bl_call (bl_call hBi (show Bl wr w3 from bl_call (bl_drew (bl_refl wr)) hb3)) (bl_call hb4 hb5)
            by_cases hq0 : q0 = 0
            · subst hq0
              have HD2 := Lib.hid (show ∀ j x, j < k + 1 → out[j]? = some x → (cmpAt ss M i x).2 = 0 from fun j x h1 h2 => by
                rcases Nat.lt_or_ge j k with h3 | h3
                · exact HD.out j x h3 h2
                · obtain rfl : j = k := by omega
                  rw [HJ.out] at h2
                  injection h2 with h2
                  subst h2
                  rw [HF.out])
              by_cases hcc : cc < 0
              · have hq2 := Lib.hid (fun hd => at_less (f := cmpAt ss M) hd (HAT.out hd) hlk HJ.out (by rw [HF.out]; exact hcc))
                rcases Nat.lt_or_ge k q with hkq | hkq
                · have hmn : min (q : Int) (k : Int) = (k : Int) := by omega
                  have HQ2 := Lib.hid (show Dec (cmpAt ss M) (i + 1) → k = if posF (cmpAt ss M) out i < k + 1 then posF (cmpAt ss M) out i else i from fun hd => by rw [← hq2.out hd]; omega)
                  go_wp2
                  go_roundw
                  case rel => exact ⟨k + 1, k, by go_num, rfl, by omega, by omega, HQ2, HD2, hB2⟩
                  case measure => simp only [intOf]; omega
                · have hmn : min (q : Int) (k : Int) = (q : Int) := by omega
                  have hkn : ¬ k < q := by omega
                  have HQ2 := Lib.hid (show Dec (cmpAt ss M) (i + 1) → q = if posF (cmpAt ss M) out i < k + 1 then posF (cmpAt ss M) out i else i from fun hd => by rw [← hq2.out hd]; omega)
                  go_wp2
                  go_roundw
                  case rel => exact ⟨k + 1, q, by go_num, rfl, by omega, by omega, HQ2, HD2, hB2⟩
                  case measure => simp only [intOf]; omega
              · have HQ2 := Lib.hid (fun hd => at_keep hfok.out HS.out.1 hd (HAT.out hd) HJ.out (by rw [HF.out]; exact hcc))
                go_wp2
                go_roundw
                case rel => exact ⟨k + 1, q, by go_num, rfl, by omega, by omega, HQ2, HD2, hB2⟩
                case measure => simp only [intOf]; omega
            · have hq10 : q0 = 10 := by
                have := hfok.out.code i b
                rw [HF.out] at this
                rcases this with h | h
                · exact absurd h hq0
                · exact h
              have HR := Lib.hid (sortF_no HZ.out (not_dec hlt hji HF.out hq0))
              have hq1 : (q0 != 0) = true := bne_iff_ne.2 hq0
              clear hq0
              go_wp2
              go_ret2
              exact ⟨none, 0, 0, by first | exact ret_lv (HR.out.trans (by rw [hq10])) | (rw [HR.out, hq10]; rfl), by rw [HR.out]; exact Own.nil _ _, B5⟩
          · have hdec : Dec (cmpAt ss M) (i + 1) := HS.out.2.1.succ fun j hj => by
              obtain ⟨k', hk'⟩ := List.getElem?_of_mem ((HS.out.1.mem j).2 hj)
              have hk2 := (List.getElem?_eq_some_iff.1 hk').1
              exact HD.out k' j (by have := HOL.out; omega) hk'
            have hqp : q = posF (cmpAt ss M) out i := by
              have h1 := HAT.out hdec
              have h2 := posF_le (cmpAt ss M) out i
              rw [HOL.out] at h2
              split at h1
              · exact h1
              · omega
            have HDEC := Lib.hid hdec
            have HQP := Lib.hid hqp
            have HOi := Lib.hid (show Own wr w.heap.size (.slice oa (natL out).length oc) (natL out) by rw [HNL.out]; exact HO.out.below hBi)
            clear hdec hqp
            have hBs := hB.size
            go_wp2_with (at_builtin; refine wpList_append_one rfl _ _ rfl w.heap.size _ (natL out) (by rfl) (by rw [← HNL.out]; exact HOi.out) 0 (by unfold R64; omega) (by first | rfl | simp [Act.eval]) (by have := HNL.out; omega) (by omega) ?_; intro v' wn ho hg hloc; obtain ⟨a1, c1, rfl, hc1⟩ := ho.form; obtain ⟨g, rfl, hgB, hgz⟩ := ho.addr (by simp); have hlen : (natL out ++ [(0 : Int)]).length = i + 1 := (by rw [List.length_append, HNL.out]; rfl); rw [hlen])
            have HO2 := Lib.hid (show Own wn w.heap.size (.slice (some ⟨g, 0, none⟩) ((natL out).length + 1) c1) (natL out ++ [0]) by have h9 := ho; rw [hlen] at h9; rw [HNL.out]; exact h9)
            have hnb : Bl w wn := bl_grown hB hg (fun k hk => (HOi.out.lt k (by rw [HNL.out]; exact hk)).1)
            have HNB := Lib.hid hnb
            obtain ⟨cur, hcur, hcs, hnc, _, hcm⟩ := own_row HO2.out
            rw [HNL.out] at hnc
            obtain ⟨l1, hl1⟩ : ∃ l, l = i - q := ⟨_, rfl⟩
            obtain ⟨l2, hl2⟩ : ∃ l, l = i + 1 - q := ⟨_, rfl⟩
            obtain ⟨d1, e1, hd1, hd2, hd3⟩ := slice_at (g := g) (c := c1) (n := i + 1) (K := q + 1) (L := l1) (X := (q : Int) + 1) (by omega) hnc (by omega) (by omega)
            obtain ⟨d2, e2, hs1, hs2, hs3⟩ := slice_at (g := g) (c := c1) (n := i + 1) (K := q) (L := l2) (X := (q : Int)) rfl hnc (by omega) hl2
            obtain ⟨CS, hCS⟩ : ∃ CS, CS = ((natL out).drop q).map (Value.int .i64) := ⟨_, rfl⟩
            have hcl : CS.length = l1 := by rw [hCS, List.length_map, List.length_drop, HNL.out, hl1]
            have HCN := Lib.hid (show CS.length = Nat.min l2 l1 by rw [hcl]; show l1 = min l2 l1; omega)
            have HFIT := Lib.hid (show q + 1 + CS.length ≤ cur.toList.length by rw [hcl, Array.length_toList, hcs]; omega)
            have HONE := Lib.hid (show ∀ v ∈ CS, v.oneCell' = true by
              intro v hv
              rw [hCS] at hv
              obtain ⟨y, _, rfl⟩ := List.mem_map.1 hv
              rfl)
            have HPOS := Lib.hid (show 0 < CS.length → d1 = some ⟨g, q + 1, none⟩ ∧ ∃ ad, d2 = some ad ∧ ∀ j v, CS[j]? = some v → wn.cell? (ad.add j) = some v from fun hp => by
              refine ⟨hd3 (by omega), ⟨g, q, none⟩, hs3 (by omega), fun j v hv => ?_⟩
              rw [hCS, List.getElem?_map, List.getElem?_drop] at hv
              obtain ⟨y, hy, rfl⟩ := Option.map_eq_some_iff.1 hv
              have hjl := (List.getElem?_eq_some_iff.1 hy).1
              obtain ⟨y', hy', hcy, _⟩ := HO2.out.cellAt (j := q + j) (by simp; omega)
              rw [List.getElem?_append_left hjl, hy] at hy'
              obtain rfl := Option.some.inj hy'
              rw [add_lit]
              exact hcy)
            have HCUR := Lib.hid (show wn.heap[g]? = some (.cells cur.toList.toArray 2 (0, 0)) by simpa using hcur)
            have HCUR2 := Lib.hid hcur
            have HCSE := Lib.hid hCS
            have hw9 : IntKind.i64.wrap ((q : Int) + 1) = (q : Int) + 1 := by rw [IntKind.wrap_i64]; omega
            have hq0 : (0 : Int) ≤ (q : Int) + 1 := by omega
            have hq1 : (q : Int) + 1 ≤ (i : Int) + 1 := by omega
            have hq2 : (q : Int) ≤ (i : Int) + 1 := by omega
            clear hnb hcur hcs hcm hd3 hs3 hCS hcl hlen ho hg hloc hc1 hl1 hl2
            go_region_law ((refine step_copy_splice rfl (.tmp 64) (.tmp 67) 24 24 rfl 2 Try.underlying24 (by kernel_rfl) d1 d2 l1 e1 l2 e2 (by rfl) (by rfl) g (q + 1) cur.toList 2 HCUR.out CS HCN.out HPOS.out HFIT.out HONE.out w.heap.size w (bl_drew HNB.out) hgB ?_; intro w4 hg4 hb4))
            all_goals
              have hb4 : Bl w w4 := hb4
              have HO4 := Lib.hid (own_shift HO2.out (by rw [HNL.out]; exact hq) HCUR2.out (by rw [← HCSE.out]; exact hg4.out))
              obtain ⟨y4, _, cc4, ff4, _⟩ := HO4.out.cellAt (j := q) (by rw [shiftL_len (by rw [HNL.out]; exact hq), HNL.out]; omega)
              have hSet := (HO4.out.stored q (i : Int) (by unfold R64; omega)).1
              rw [shiftL_set out q i (by rw [HOL.out]; exact hq), HNL.out] at hSet
              have HF := Lib.hid (show Own _ w.heap.size (.slice (some ⟨g, 0, none⟩) (i + 1) c1) (natL (insF (cmpAt ss M) out i)) by rw [insF, ← HQP.out]; exact hSet)
              have hbf := Lib.hid (bl_set hb4 (p := ⟨g, q, none⟩) hgB (.int .i64 (i : Int)))
              have hqi : (q : Int) < (i : Int) + 1 := by omega
              have hqi2 : q < i + 1 := by omega
              clear hSet hb4 hg4
              go_wp2
              go_roundw
              case rel => exact ⟨i + 1, some ⟨g, 0, none⟩, c1, _, by go_num, rfl, by omega, Lib.hid ⟨HS.out.1.ins hfok.out HDEC.out, HDEC.out, by rw [sortG, ← HS.out.2.2]⟩, HF, hbf.out⟩
              case measure => simp only [intOf]; omega
      · have HR := Lib.hid (sortF_yes HZ.out (show Dec (cmpAt ss M) ss.length by rw [show ss.length = i by omega]; exact HS.out.2.1))
        obtain rfl : i = ss.length := by omega
        go_wp2
        go_ret2
        exact ⟨oa, _, oc, ret_lv HR.out, by rw [HR.out]; show Own _ _ _ (natL (sortG (cmpAt ss M) ss.length)); rw [← HS.out.2.2]; exact HO.out, hBo⟩
  · have HR := Lib.hid (sortF_bad hz)
    have hz1 : (listC ss m != 0) = true := bne_iff_ne.2 hz
    have hz2 : (listC ss m == 0) = false := beq_eq_false_iff_ne.2 hz
    clear hz
    generalize hcc : listC ss m = cc at *
    have HZ := Lib.hid hcc
    clear hcc
    go_enter Try.func17, Try.ntmps17
    go_wp2_with fail
    refine (icheck_eq HZ.out _ HA.out).mono ?_
    rintro e w1 ⟨rfl, hb1⟩
    go_wp2
    go_ret2
    exact ⟨none, 0, 0, ret_lv HR.out, by rw [HR.out]; exact Own.nil _ _, hb1⟩

end Go.Proofs.Ytgmofofokhlhnaa
