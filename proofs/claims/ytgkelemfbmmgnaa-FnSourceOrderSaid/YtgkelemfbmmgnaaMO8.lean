/- Some of the texts of this claim, joined in one file: SoI, SoS. -/
import Derived.Test.YtgkelemfbmmgnaaSoWm
/- SortSources. Each theorem names its conditions. -/
namespace Go.Proofs.Ytgkelemfbmmgnaa
open Go.RowKit
set_option linter.unusedVariables false
set_option linter.unusedSimpArgs false


set_option maxRecDepth 100000 in
set_option maxHeartbeats 6400000 in
theorem impl_SortSources (va : Value) (ss : List Src) (m : Int) (w : World) (ha : SlL w va ss) :
    Calls Try.prog 10 #[va, .int .i64 m] w fun e w' => ∃ a n c, e = .returned (.tuple #[.slice a n c, .int .i64 (sortF ss m).2]) ∧ Own w' w.heap.size (.slice a n c) (sortF ss m).1 ∧ Bl w w' := by
  have hl := ha.len
  obtain ⟨a, c, rfl, hc⟩ := ha.form
  have HA := Lib.hid ha
  clear ha
  by_cases hz : listC ss m = 0
  · obtain ⟨hall, hm, hl50⟩ := listC_zero hz
    have HALL := Lib.hid hall
    have HZ := Lib.hid hz
    obtain ⟨M, rfl⟩ := Int.eq_ofNat_of_zero_le (show 0 ≤ m by omega)
    have hfok := Lib.hid (cmpAt_ok ss M)
    clear hall hz
    go_enter Try.func10, Try.ntmps10
    go_wp2_with fail
    refine (icheck_eq HZ.out _ HA.out).mono ?_
    rintro e w1 ⟨rfl, hb1⟩
    go_wp2
    go_loopw [7, 22] (fun s7 s22 wr => ∃ (i : Nat) (a : Option Addr) (c : Nat) (out : List Nat), s22 = .int .i64 i ∧ s7 = .slice a i c ∧ i ≤ ss.length ∧ Hid (Srt (cmpAt ss M) i out ∧ Dec (cmpAt ss M) i ∧ out = sortG (cmpAt ss M) i) ∧ Hid (Own wr w.heap.size (.slice a i c) (natL out)) ∧ Bl w wr) (fun _ s22 _ => ss.length - (intOf s22).toNat)
    case atStart => exact ⟨0, none, 0, [], rfl, rfl, Nat.zero_le _, Lib.hid ⟨srt_nil _, fun i j h => absurd h (by omega), rfl⟩, Lib.hid (Own.nil _ _), hb1⟩
    case round =>
      obtain ⟨i, oa, oc, out, rfl, rfl, hi, HS, HO, hBo⟩ := hrel
      rename World => wo
      have hol : out.length = i := HS.out.1.len
      have hnl : (natL out).length = i := by rw [natL_len]; exact hol
      have HOL := Lib.hid hol
      have HNL := Lib.hid hnl
      clear hol hnl
      by_cases hlt : i < ss.length
      · go_wp2
        go_loopw [9, 29] (fun s9 s29 wi => ∃ k q : Nat, s29 = .int .i64 k ∧ s9 = .int .i64 q ∧ k ≤ i ∧ q ≤ i ∧ Hid (Dec (cmpAt ss M) (i + 1) → q = if posF (cmpAt ss M) out i < k then posF (cmpAt ss M) out i else i) ∧ Hid (∀ j x, j < k → out[j]? = some x → (cmpAt ss M i x).2 = 0) ∧ Bl wo wi) (fun _ s29 _ => i - (intOf s29).toNat)
        case atStart => exact ⟨0, i, rfl, rfl, Nat.zero_le _, Nat.le_refl _, Lib.hid (fun _ => by simp), Lib.hid (fun j x h => absurd h (by omega)), bl_refl _⟩
        case round =>
          obtain ⟨k, q, rfl, rfl, hk, hq, HAT, HD, hBi⟩ := hrel
          have hB : Bl w wr := bl_call hBo hBi
          by_cases hlk : k < i
          · obtain ⟨b, hj⟩ : ∃ b, out[k]? = some b := ⟨_, List.getElem?_eq_getElem (by have := HOL.out; omega)⟩
            have hji : b < i := (HS.out.1.mem b).1 (List.mem_of_getElem? hj)
            obtain ⟨ob, oo, rfl, x, hx, cj, _⟩ := HO.out.sl.cellAt hBi (k := k) (by have := HNL.out; omega)
            obtain rfl : x = (b : Int) := by rw [natL_get hj] at hx; exact (Option.some.inj hx).symm
            obtain ⟨pb, po, rfl, h, p, g, s, hs, x3, xs⟩ := HA.out.at hB hlt
            obtain ⟨t, ht⟩ : ∃ t, ss[b]? = some t := ⟨_, List.getElem?_eq_getElem (by omega)⟩
            obtain ⟨h', p', g', y3, ys⟩ := HA.out.atR hB ht
            obtain ⟨cc, q0, hcq⟩ : ∃ cc q0, cmpP (plainS s) (plainS t) M = (cc, q0) := ⟨_, _, rfl⟩
            have HC := Lib.hid hcq
            have HF := Lib.hid (show cmpAt ss M i b = (cc, q0) by rw [cmpAt_eq hs ht]; exact hcq)
            have HK1 := Lib.hid (all_ok HALL.out hs)
            have HK2 := Lib.hid (all_ok HALL.out ht)
            have hbl : b < ss.length := by omega
            have HX := Lib.hid x3
            have HY := Lib.hid y3
            have HXS := Lib.hid xs
            have HYS := Lib.hid ys
            have HJ := Lib.hid hj
            obtain ⟨cx, cx1, cx2⟩ := x3
            obtain ⟨cy, cy1, cy2⟩ := y3
            clear hs ht hcq xs ys hj hx
            go_wp2_with fail
            clear cj
            go_region_held3 (fun w' => w'.cell? ⟨pb, po + i * 3, none⟩ = some h ∧ w'.cell? ⟨pb, po + i * 3 + 1, none⟩ = some p ∧ w'.cell? ⟨pb, po + i * 3 + 2, none⟩ = some g ∧ w'.cell? ⟨pb, po + b * 3, none⟩ = some h' ∧ w'.cell? ⟨pb, po + b * 3 + 1, none⟩ = some p' ∧ w'.cell? ⟨pb, po + b * 3 + 2, none⟩ = some g') (first | (simp [*]; done) | (go_simp; done) | go_keep)
              (first | (go_at_call_of 42 (h); go_must (refine (shortOf_ok _ (HXS.out.drew) HK1.out).mono ?_; rintro e w3 ⟨ax1, nx1, cx1', ax2, nx2, cx2', ax3, nx3, cx3, ax4, nx4, cx4, fx, rfl, HP, hb3⟩; have HX := Lib.hid HX.out.drew; have HY := Lib.hid HY.out.drew; have B3 : Bl w w3 := bl_call (bl_drew hB) hb3; have HX := Lib.hid (HX.out.below hb3); have HY := Lib.hid (HY.out.below hb3); clear cx cx1 cx2 cy cy1 cy2; obtain ⟨cx, cx1, cx2⟩ := HX.out; obtain ⟨cy, cy1, cy2⟩ := HY.out)) | (go_at_call_of 42 (h'); go_must (refine (shortOf_ok _ ((HYS.out.drew).below hb3) HK2.out).mono ?_; rintro e w4 ⟨ay1, ny1, cy1', ay2, ny2, cy2', ay3, ny3, cy3, ay4, ny4, cy4, fy, rfl, HQ, hb4⟩; have B4 : Bl w w4 := bl_call B3 hb4; have HX := Lib.hid (HX.out.below hb4); have HY := Lib.hid (HY.out.below hb4); clear cx cx1 cx2 cy cy1 cy2; obtain ⟨cx, cx1, cx2⟩ := HX.out; obtain ⟨cy, cy1, cy2⟩ := HY.out)) | (go_at_call 41; go_must (refine (compareBy_eq HC.out _ (HP.below hb4) HQ (by omega)).mono ?_; rintro e w5 ⟨rfl, hb5⟩; have B5 : Bl w w5 := bl_call B4 hb5; have HX := Lib.hid (HX.out.below hb5); have HY := Lib.hid (HY.out.below hb5); clear cx cx1 cx2 cy cy1 cy2; obtain ⟨cx, cx1, cx2⟩ := HX.out; obtain ⟨cy, cy1, cy2⟩ := HY.out)))
            have hB2 : Bl wo w5 := bl_call (bl_call hBi (show Bl wr w3 from bl_call (bl_drew (bl_refl wr)) hb3)) (bl_call hb4 hb5)
            by_cases hq0 : q0 = 0
            · subst hq0
              have HD2 := Lib.hid (show ∀ j x, j < k + 1 → out[j]? = some x → (cmpAt ss M i x).2 = 0 from fun j x h1 h2 => by
                rcases Nat.lt_or_ge j k with h3 | h3
                · exact HD.out j x h3 h2
                · obtain rfl : j = k := by omega
                  rw [HJ.out] at h2
                  injection h2 with h2
                  subst h2
                  rw [HF.out])
              by_cases hcc : cc < 0
              · have hq2 := Lib.hid (fun hd => at_less (f := cmpAt ss M) hd (HAT.out hd) hlk HJ.out (by rw [HF.out]; exact hcc))
                rcases Nat.lt_or_ge k q with hkq | hkq
                · have hmn : min (q : Int) (k : Int) = (k : Int) := by omega
                  have HQ2 := Lib.hid (show Dec (cmpAt ss M) (i + 1) → k = if posF (cmpAt ss M) out i < k + 1 then posF (cmpAt ss M) out i else i from fun hd => by rw [← hq2.out hd]; omega)
                  go_wp2
                  go_roundw
                  case rel => exact ⟨k + 1, k, by go_num, rfl, by omega, by omega, HQ2, HD2, hB2⟩
                  case measure => simp only [intOf]; omega
                · have hmn : min (q : Int) (k : Int) = (q : Int) := by omega
                  have hkn : ¬ k < q := by omega
                  have HQ2 := Lib.hid (show Dec (cmpAt ss M) (i + 1) → q = if posF (cmpAt ss M) out i < k + 1 then posF (cmpAt ss M) out i else i from fun hd => by rw [← hq2.out hd]; omega)
                  go_wp2
                  go_roundw
                  case rel => exact ⟨k + 1, q, by go_num, rfl, by omega, by omega, HQ2, HD2, hB2⟩
                  case measure => simp only [intOf]; omega
              · have HQ2 := Lib.hid (fun hd => at_keep hfok.out HS.out.1 hd (HAT.out hd) HJ.out (by rw [HF.out]; exact hcc))
                go_wp2
                go_roundw
                case rel => exact ⟨k + 1, q, by go_num, rfl, by omega, by omega, HQ2, HD2, hB2⟩
                case measure => simp only [intOf]; omega
            · have hq10 : q0 = 10 := by
                have := hfok.out.code i b
                rw [HF.out] at this
                rcases this with h | h
                · exact absurd h hq0
                · exact h
              have HR := Lib.hid (sortF_no HZ.out (not_dec hlt hji HF.out hq0))
              have hq1 : (q0 != 0) = true := bne_iff_ne.2 hq0
              clear hq0
              go_wp2
              go_ret2
              exact ⟨none, 0, 0, by first | exact ret_lv (HR.out.trans (by rw [hq10])) | (rw [HR.out, hq10]; rfl), by rw [HR.out]; exact Own.nil _ _, B5⟩
          · have hdec : Dec (cmpAt ss M) (i + 1) := HS.out.2.1.succ fun j hj => by
              obtain ⟨k', hk'⟩ := List.getElem?_of_mem ((HS.out.1.mem j).2 hj)
              have hk2 := (List.getElem?_eq_some_iff.1 hk').1
              exact HD.out k' j (by have := HOL.out; omega) hk'
            have hqp : q = posF (cmpAt ss M) out i := by
              have h1 := HAT.out hdec
              have h2 := posF_le (cmpAt ss M) out i
              rw [HOL.out] at h2
              split at h1
              · exact h1
              · omega
            have HDEC := Lib.hid hdec
            have HQP := Lib.hid hqp
            have HOi := Lib.hid (show Own wr w.heap.size (.slice oa (natL out).length oc) (natL out) by rw [HNL.out]; exact HO.out.below hBi)
            clear hdec hqp
            have hBs := hB.size
            go_wp2_with (at_builtin; refine wpList_append_one rfl _ _ rfl w.heap.size _ (natL out) (by rfl) (by rw [← HNL.out]; exact HOi.out) 0 (by unfold R64; omega) (by first | rfl | simp [Act.eval]) (by have := HNL.out; omega) (by omega) ?_; intro v' wn ho hg hloc; obtain ⟨a1, c1, rfl, hc1⟩ := ho.form; obtain ⟨g, rfl, hgB, hgz⟩ := ho.addr (by simp); have hlen : (natL out ++ [(0 : Int)]).length = i + 1 := (by rw [List.length_append, HNL.out]; rfl); rw [hlen])
            have HO2 := Lib.hid (show Own wn w.heap.size (.slice (some ⟨g, 0, none⟩) ((natL out).length + 1) c1) (natL out ++ [0]) by have h9 := ho; rw [hlen] at h9; rw [HNL.out]; exact h9)
            have hnb : Bl w wn := bl_grown hB hg (fun k hk => (HOi.out.lt k (by rw [HNL.out]; exact hk)).1)
            have HNB := Lib.hid hnb
            obtain ⟨cur, hcur, hcs, hnc, _, hcm⟩ := own_row HO2.out
            rw [HNL.out] at hnc
            obtain ⟨l1, hl1⟩ : ∃ l, l = i - q := ⟨_, rfl⟩
            obtain ⟨l2, hl2⟩ : ∃ l, l = i + 1 - q := ⟨_, rfl⟩
            obtain ⟨d1, e1, hd1, hd2, hd3⟩ := slice_at (g := g) (c := c1) (n := i + 1) (K := q + 1) (L := l1) (X := (q : Int) + 1) (by omega) hnc (by omega) (by omega)
            obtain ⟨d2, e2, hs1, hs2, hs3⟩ := slice_at (g := g) (c := c1) (n := i + 1) (K := q) (L := l2) (X := (q : Int)) rfl hnc (by omega) hl2
            obtain ⟨CS, hCS⟩ : ∃ CS, CS = ((natL out).drop q).map (Value.int .i64) := ⟨_, rfl⟩
            have hcl : CS.length = l1 := by rw [hCS, List.length_map, List.length_drop, HNL.out, hl1]
            have HCN := Lib.hid (show CS.length = Nat.min l2 l1 by rw [hcl]; show l1 = min l2 l1; omega)
            have HFIT := Lib.hid (show q + 1 + CS.length ≤ cur.toList.length by rw [hcl, Array.length_toList, hcs]; omega)
            have HONE := Lib.hid (show ∀ v ∈ CS, v.oneCell' = true by
              intro v hv
              rw [hCS] at hv
              obtain ⟨y, _, rfl⟩ := List.mem_map.1 hv
              rfl)
            have HPOS := Lib.hid (show 0 < CS.length → d1 = some ⟨g, q + 1, none⟩ ∧ ∃ ad, d2 = some ad ∧ ∀ j v, CS[j]? = some v → wn.cell? (ad.add j) = some v from fun hp => by
              refine ⟨hd3 (by omega), ⟨g, q, none⟩, hs3 (by omega), fun j v hv => ?_⟩
              rw [hCS, List.getElem?_map, List.getElem?_drop] at hv
              obtain ⟨y, hy, rfl⟩ := Option.map_eq_some_iff.1 hv
              have hjl := (List.getElem?_eq_some_iff.1 hy).1
              obtain ⟨y', hy', hcy, _⟩ := HO2.out.cellAt (j := q + j) (by simp; omega)
              rw [List.getElem?_append_left hjl, hy] at hy'
              obtain rfl := Option.some.inj hy'
              rw [add_lit]
              exact hcy)
            have HCUR := Lib.hid (show wn.heap[g]? = some (.cells cur.toList.toArray 2 (0, 0)) by simpa using hcur)
            have HCUR2 := Lib.hid hcur
            have HCSE := Lib.hid hCS
            have hw9 : IntKind.i64.wrap ((q : Int) + 1) = (q : Int) + 1 := by rw [IntKind.wrap_i64]; omega
            have hq0 : (0 : Int) ≤ (q : Int) + 1 := by omega
            have hq1 : (q : Int) + 1 ≤ (i : Int) + 1 := by omega
            have hq2 : (q : Int) ≤ (i : Int) + 1 := by omega
            clear hnb hcur hcs hcm hd3 hs3 hCS hcl hlen ho hg hloc hc1 hl1 hl2
            go_region_law ((refine step_copy_splice rfl (.tmp 64) (.tmp 67) 24 24 rfl 2 Try.underlying24 (by kernel_rfl) d1 d2 l1 e1 l2 e2 (by rfl) (by rfl) g (q + 1) cur.toList 2 HCUR.out CS HCN.out HPOS.out HFIT.out HONE.out w.heap.size w (bl_drew HNB.out) hgB ?_; intro w4 hg4 hb4))
            all_goals
              have hb4 : Bl w w4 := hb4
              have HO4 := Lib.hid (own_shift HO2.out (by rw [HNL.out]; exact hq) HCUR2.out (by rw [← HCSE.out]; exact hg4.out))
              obtain ⟨y4, _, cc4, ff4, _⟩ := HO4.out.cellAt (j := q) (by rw [shiftL_len (by rw [HNL.out]; exact hq), HNL.out]; omega)
              have hSet := (HO4.out.stored q (i : Int) (by unfold R64; omega)).1
              rw [shiftL_set out q i (by rw [HOL.out]; exact hq), HNL.out] at hSet
              have HF := Lib.hid (show Own _ w.heap.size (.slice (some ⟨g, 0, none⟩) (i + 1) c1) (natL (insF (cmpAt ss M) out i)) by rw [insF, ← HQP.out]; exact hSet)
              have hbf := Lib.hid (bl_set hb4 (p := ⟨g, q, none⟩) hgB (.int .i64 (i : Int)))
              have hqi : (q : Int) < (i : Int) + 1 := by omega
              have hqi2 : q < i + 1 := by omega
              clear hSet hb4 hg4
              go_wp2
              go_roundw
              case rel => exact ⟨i + 1, some ⟨g, 0, none⟩, c1, _, by go_num, rfl, by omega, Lib.hid ⟨HS.out.1.ins hfok.out HDEC.out, HDEC.out, by rw [sortG, ← HS.out.2.2]⟩, HF, hbf.out⟩
              case measure => simp only [intOf]; omega
      · have HR := Lib.hid (sortF_yes HZ.out (show Dec (cmpAt ss M) ss.length by rw [show ss.length = i by omega]; exact HS.out.2.1))
        obtain rfl : i = ss.length := by omega
        go_wp2
        go_ret2
        exact ⟨oa, _, oc, ret_lv HR.out, by rw [HR.out]; show Own _ _ _ (natL (sortG (cmpAt ss M) ss.length)); rw [← HS.out.2.2]; exact HO.out, hBo⟩
  · have HR := Lib.hid (sortF_bad hz)
    have hz1 : (listC ss m != 0) = true := bne_iff_ne.2 hz
    have hz2 : (listC ss m == 0) = false := beq_eq_false_iff_ne.2 hz
    clear hz
    generalize hcc : listC ss m = cc at *
    have HZ := Lib.hid hcc
    clear hcc
    go_enter Try.func10, Try.ntmps10
    go_wp2_with fail
    refine (icheck_eq HZ.out _ HA.out).mono ?_
    rintro e w1 ⟨rfl, hb1⟩
    go_wp2
    go_ret2
    exact ⟨none, 0, 0, ret_lv HR.out, by rw [HR.out]; exact Own.nil _ _, hb1⟩

end Go.Proofs.Ytgkelemfbmmgnaa

/- SortSources. Each theorem names its conditions. -/
namespace Go.Proofs.Ytgkelemfbmmgnaa
open Go.RowKit
set_option linter.unusedVariables false
set_option linter.unusedSimpArgs false


set_option maxRecDepth 100000 in
set_option maxHeartbeats 6400000 in
theorem spec_SortSources (va : Value) (ss : List Src) (m : Int) (w : World) (ha : SlL w va ss) :
    Calls Try.prog 11 #[va, .int .i64 m] w fun e w' => ∃ a n c, e = .returned (.tuple #[.slice a n c, .int .i64 (sortF ss m).2]) ∧ Own w' w.heap.size (.slice a n c) (sortF ss m).1 ∧ Bl w w' := by
  have hl := ha.len
  obtain ⟨a, c, rfl, hc⟩ := ha.form
  have HA := Lib.hid ha
  clear ha
  by_cases hz : listC ss m = 0
  · obtain ⟨hall, hm, hl50⟩ := listC_zero hz
    have HALL := Lib.hid hall
    have HZ := Lib.hid hz
    obtain ⟨M, rfl⟩ := Int.eq_ofNat_of_zero_le (show 0 ≤ m by omega)
    have hfok := Lib.hid (cmpAt_ok ss M)
    clear hall hz
    go_enter Try.func11, Try.ntmps11
    go_wp2_with fail
    refine (scheck_eq HZ.out _ HA.out).mono ?_
    rintro e w1 ⟨rfl, hb1⟩
    go_wp2
    go_loopw [7, 8] (fun s7 s8 wr => ∃ (i : Nat) (a : Option Addr) (c : Nat) (out : List Nat), s8 = .int .i64 i ∧ s7 = .slice a i c ∧ i ≤ ss.length ∧ Hid (Srt (cmpAt ss M) i out ∧ Dec (cmpAt ss M) i ∧ out = sortG (cmpAt ss M) i) ∧ Hid (Own wr w.heap.size (.slice a i c) (natL out)) ∧ Bl w wr) (fun _ s8 _ => ss.length - (intOf s8).toNat)
    case atStart => exact ⟨0, _, 0, [], rfl, rfl, Nat.zero_le _, Lib.hid ⟨srt_nil _, fun i j h => absurd h (by omega), rfl⟩, Lib.hid (own_made w1 hb1.size), bl_alloc hb1 _⟩
    case round =>
      obtain ⟨i, oa, oc, out, rfl, rfl, hi, HS, HO, hBo⟩ := hrel
      rename World => wo
      have hol : out.length = i := HS.out.1.len
      have hnl : (natL out).length = i := by rw [natL_len]; exact hol
      have HOL := Lib.hid hol
      have HNL := Lib.hid hnl
      clear hol hnl
      by_cases hlt : i < ss.length
      · go_wp2
        go_loopw [9] (fun s9 wi => ∃ k : Nat, s9 = .int .i64 k ∧ k ≤ i ∧ Hid (∀ x, x < k → (cmpAt ss M i x).2 = 0) ∧ Bl wo wi) (fun s9 _ => i - (intOf s9).toNat)
        case atStart => exact ⟨0, rfl, Nat.zero_le _, Lib.hid (fun x h => absurd h (by omega)), bl_refl _⟩
        case round =>
          obtain ⟨k, rfl, hk, HD, hBi⟩ := hrel
          have hB : Bl w wr := bl_call hBo hBi
          by_cases hlk : k < i
          · have hkl : k < ss.length := by omega
            obtain ⟨pb, po, rfl, h', p', g', t, ht, y3, ys⟩ := HA.out.at hB hlt
            obtain ⟨s, hs⟩ : ∃ s, ss[k]? = some s := ⟨_, List.getElem?_eq_getElem hkl⟩
            obtain ⟨h, p, g, x3, xs⟩ := HA.out.atR hB hs
            obtain ⟨cc, q0, hcq⟩ : ∃ cc q0, cmpP (plainS s) (plainS t) M = (cc, q0) := ⟨_, _, rfl⟩
            have HC := Lib.hid hcq
            have HF := Lib.hid (show cmpAt ss M k i = (cc, q0) by rw [cmpAt_eq hs ht]; exact hcq)
            have HF2 := Lib.hid (show cmpAt ss M i k = (-cc, q0) by rw [hfok.out.sym k i, HF.out])
            have HK1 := Lib.hid (all_ok HALL.out hs)
            have HK2 := Lib.hid (all_ok HALL.out ht)
            have HX := Lib.hid x3
            have HY := Lib.hid y3
            have HXS := Lib.hid xs
            have HYS := Lib.hid ys
            obtain ⟨cx, cx1, cx2⟩ := x3
            obtain ⟨cy, cy1, cy2⟩ := y3
            clear hs ht hcq xs ys
            go_wp2_with fail
            go_region_held3 (fun w' => w'.cell? ⟨pb, po + k * 3, none⟩ = some h ∧ w'.cell? ⟨pb, po + k * 3 + 1, none⟩ = some p ∧ w'.cell? ⟨pb, po + k * 3 + 2, none⟩ = some g ∧ w'.cell? ⟨pb, po + i * 3, none⟩ = some h' ∧ w'.cell? ⟨pb, po + i * 3 + 1, none⟩ = some p' ∧ w'.cell? ⟨pb, po + i * 3 + 2, none⟩ = some g') (first | (simp [*]; done) | (go_simp; done) | go_keep)
              ((go_at_call 44; refine (scompare_eqP HC.out _ _ _ _ _ (HXS.out.drew) (HYS.out.drew) HX.out.drew HY.out.drew HK1.out HK2.out (by omega)).mono ?_; rintro e w5 ⟨rfl, hb5⟩; have hB5 : Bl wo w5 := bl_call (bl_drew hBi) hb5; have HX := Lib.hid (HX.out.drew.below hb5); have HY := Lib.hid (HY.out.drew.below hb5); clear cx cx1 cx2 cy cy1 cy2; obtain ⟨cx, cx1, cx2⟩ := HX.out; obtain ⟨cy, cy1, cy2⟩ := HY.out))
            by_cases hq0 : q0 = 0
            · subst hq0
              have HD2 := Lib.hid (show ∀ x, x < k + 1 → (cmpAt ss M i x).2 = 0 from fun x h1 => by
                rcases Nat.lt_or_ge x k with h3 | h3
                · exact HD.out x h3
                · obtain rfl : x = k := by omega
                  rw [HF2.out])
              go_wp2
              go_roundw
              case rel => exact ⟨k + 1, by go_num, by omega, HD2, hB5⟩
              case measure => simp only [intOf]; omega
            · have hq10 : q0 = 10 := by
                have := hfok.out.code k i
                rw [HF.out] at this
                rcases this with h | h
                · exact absurd h hq0
                · exact h
              have HR := Lib.hid (sortF_no HZ.out (not_dec hlt hlk HF2.out hq0))
              have hq1 : (q0 != 0) = true := bne_iff_ne.2 hq0
              have hBF : Bl w w5 := bl_call hBo hB5
              clear hq0
              go_wp2
              go_ret2
              exact ⟨none, 0, 0, by first | exact ret_lv (HR.out.trans (by rw [hq10])) | (rw [HR.out, hq10]; rfl), by rw [HR.out]; exact Own.nil _ _, hBF⟩
          · have hdec : Dec (cmpAt ss M) (i + 1) := HS.out.2.1.succ fun j hj => HD.out j (by omega)
            have HDEC := Lib.hid hdec
            have HPL := Lib.hid (posF_le (cmpAt ss M) out i)
            obtain ⟨pp, hpp⟩ : ∃ pp, pp = posF (cmpAt ss M) out i := ⟨_, rfl⟩
            have HPP := Lib.hid hpp
            have hppi : pp ≤ i := by have := HPL.out; rw [HOL.out] at this; omega
            have HBI := Lib.hid hBi
            clear hdec hpp hB HD
            go_wp2
            clear hBi hlk hk
            go_loopw [12] (fun s12 wi => ∃ k : Nat, s12 = .int .i64 k ∧ pp ≤ k ∧ k ≤ i ∧ Bl wo wi) (fun s12 _ => (intOf s12).toNat)
            case atStart => exact ⟨i, rfl, hppi, Nat.le_refl _, HBI.out⟩
            case round =>
              obtain ⟨k, rfl, hpk, hk, hBi⟩ := hrel
              have hB : Bl w wr := bl_call hBo hBi
              by_cases hk00 : k = 0
              · have HKP := Lib.hid (show k = posF (cmpAt ss M) out i by rw [← HPP.out]; omega)
                have hkz : ¬ (0 : Int) < (k : Int) := by omega
                clear hB
                go_upto_region 19 with fail
                clear hk00 hkz
                have HSL := Lib.hid (HO.out.sl.below hBi)
                have HBW9 := Lib.hid (show Bl w _ from bl_call hBo hBi)
                have HBX := Lib.hid (hBi)
                obtain ⟨l9, hl9⟩ : ∃ l, l = i - k := ⟨_, rfl⟩
                obtain ⟨a9, c9, hd1, hd2, hd3⟩ := slice_fromL HO.out.sl HNL.out.symm k (by omega) hl9
                have HTL := Lib.hid hd3
                have e6 : (natL (out.take k)).length = k := by rw [natL_len, List.length_take, HOL.out]; omega
                have HE6 := Lib.hid e6
                have hk0 : (0 : Int) ≤ (k : Int) := by omega
                have hk1 : (k : Int) ≤ (i : Int) := by omega
                have hhi : (i : Int) ≤ 50 := by omega
                have hkc : k ≤ oc := by
                  obtain ⟨a', c', e, h⟩ := HO.out.form
                  simp only [Value.slice.injEq] at e
                  have := HNL.out
                  omega
                have hkc2 : (k : Int) ≤ (oc : Int) := by omega
                clear hd3 e6 hl9
                go_upto_region 20 with (first
                  | (go_at_call 48; refine (own_any _ (natL (out.take k)) _ (by rw [natL_take]; exact HSL.out.take k (by have := HNL.out; omega)) (by have := HE6.out; omega)).mono ?_; rintro e w6 ⟨a6, c6, rfl, ho6, hb6⟩; rw [HE6.out] at ho6 ⊢; have hB6 : Bl w w6 := bl_call HBW9.out hb6; have hB6o : Bl wo w6 := bl_call HBX.out hb6; have hz6 := hB6.size; have hz6o := HBX.out.size; have HLO := Lib.hid ho6.lt; have HO6 := Lib.hid (ho6.mono HBW9.out.size); clear ho6)
                  | (at_builtin; refine wpList_append_one rfl _ _ rfl w.heap.size _ (natL (out.take k)) (by rfl) HO6.out (i : Int) (by unfold R64; omega) (by first | rfl | simp [Act.eval]) (by have := HE6.out; omega) (by omega) ?_; intro v' wn ho hg hloc; obtain ⟨a7, c7, rfl, _⟩ := ho.form; have hlen : (natL (out.take k) ++ [(i : Int)]).length = k + 1 := (by rw [List.length_append, HE6.out]; rfl); have hbn : Bl wo wn := bl_grown hB6o hg (fun x hx => Nat.le_trans hz6o (HLO.out x hx).1); rw [hlen] at ho ⊢; have HO7 := Lib.hid ho; clear hg hloc ho))
                have HBN := Lib.hid hbn
                have hbnw : Bl w wn := bl_call hBo hbn
                have hzn := hbnw.size
                have HLEN := Lib.hid hlen
                clear hlen hbn
                go_wp2_with (at_builtin; refine wpList_append_sl rfl _ _ rfl w.heap.size _ (natL (out.take k) ++ [(i : Int)]) (by rfl) HO7.out (.slice a9 l9 c9) ((natL out).drop k) (by rfl) (HTL.out.below HBN.out) (by rw [HLEN.out, List.length_drop, HNL.out]; omega) (by omega) ?_; intro v' wf ho hg hloc; obtain ⟨a8, c8, rfl, _⟩ := ho.form; have hlf : (natL (out.take k) ++ [(i : Int)] ++ (natL out).drop k).length = i + 1 := (by rw [List.length_append, HLEN.out, List.length_drop, HNL.out]; omega); have hbf := Lib.hid (bl_grown hbnw hg (fun x hx => (HO7.out.lt x hx).1)); have HF := Lib.hid (show Own wf w.heap.size (.slice a8 (i + 1) c8) (natL (insF (cmpAt ss M) out i)) by have h9 := ho; rw [hlf] at h9; rw [natL_ins] at h9; rw [insF, ← HKP.out]; exact h9); rw [hlf]; clear ho hg hloc)
                go_roundw
                case rel => exact ⟨i + 1, a8, c8, _, by go_num, rfl, by omega, Lib.hid ⟨HS.out.1.ins hfok.out HDEC.out, HDEC.out, by rw [sortG, ← HS.out.2.2]⟩, HF, hbf.out⟩
                case measure => simp only [intOf]; omega
              · obtain ⟨j, hj⟩ : ∃ j, j = k - 1 := ⟨_, rfl⟩
                have hjk : j < k := by omega
                obtain ⟨b, hb⟩ : ∃ b, out[j]? = some b := ⟨_, List.getElem?_eq_getElem (by have := HOL.out; omega)⟩
                have hji : b < i := (HS.out.1.mem b).1 (List.mem_of_getElem? hb)
                obtain ⟨ob, oo, rfl, x, hx, cj, _⟩ := HO.out.sl.cellAt hBi (k := j) (by have := HNL.out; omega)
                obtain rfl : x = (b : Int) := by rw [natL_get hb] at hx; exact (Option.some.inj hx).symm
                have hbl : b < ss.length := by omega
                obtain ⟨pb, po, rfl, h', p', g', t, ht, y3, ys⟩ := HA.out.at hB hlt
                obtain ⟨s, hs⟩ : ∃ s, ss[b]? = some s := ⟨_, List.getElem?_eq_getElem hbl⟩
                obtain ⟨h, p, g, x3, xs⟩ := HA.out.atR hB hs
                obtain ⟨cc, q0, hcq⟩ : ∃ cc q0, cmpP (plainS s) (plainS t) M = (cc, q0) := ⟨_, _, rfl⟩
                have HC := Lib.hid hcq
                have HF := Lib.hid (show cmpAt ss M b i = (cc, q0) by rw [cmpAt_eq hs ht]; exact hcq)
                have HK1 := Lib.hid (all_ok HALL.out hs)
                have HK2 := Lib.hid (all_ok HALL.out ht)
                have HX := Lib.hid x3
                have HY := Lib.hid y3
                have HXS := Lib.hid xs
                have HYS := Lib.hid ys
                have HJ := Lib.hid hb
                have hw1 : IntKind.i64.wrap ((k : Int) - 1) = (j : Int) := by rw [IntKind.wrap_i64]; omega
                have hj0 : (0 : Int) ≤ (j : Int) := by omega
                have hjI : (j : Int) < (i : Int) := by omega
                have hji2 : j < i := by omega
                have hk1 : (0 : Int) < (k : Int) := by omega
                have hKJ := Lib.hid hj
                clear x3 y3 hs ht hcq xs ys hb hx hj hB
                go_wp2_with fail
                go_region_held3 (fun w' => w'.cell? ⟨ob, oo + j, none⟩ = some (.int .i64 (b : Int))) (first | (simp [*]; done) | (go_simp; done) | go_keep)
                  ((go_at_call 44; refine (scompare_eqP HC.out _ _ _ _ _ (HXS.out.drew) (HYS.out.drew) HX.out.drew HY.out.drew HK1.out HK2.out (by omega)).mono ?_; rintro e w5 ⟨rfl, hb5⟩; have hB5 : Bl wo w5 := bl_call (bl_drew hBi) hb5; have cj2 := cell_bl (w := wr.drew) cj hb5; clear cj; have cj := cj2))
                by_cases hst : k = pp
                · have hcc := pos_stop hfok.out (show j < posF (cmpAt ss M) out i by rw [← HPP.out]; omega) HJ.out HF.out
                  have HKP := Lib.hid (show k = posF (cmpAt ss M) out i by rw [← HPP.out]; exact hst)
                  clear cj
                  go_upto_region 19 with fail
                  clear hst hcc hk1 hjI hj0 hw1
                  have HSL := Lib.hid (HO.out.sl.below hB5)
                  have HBW9 := Lib.hid (show Bl w _ from bl_call hBo hB5)
                  have HBX := Lib.hid (hB5)
                  obtain ⟨l9, hl9⟩ : ∃ l, l = i - k := ⟨_, rfl⟩
                  obtain ⟨a9, c9, hd1, hd2, hd3⟩ := slice_fromL HO.out.sl HNL.out.symm k (by omega) hl9
                  have HTL := Lib.hid hd3
                  have e6 : (natL (out.take k)).length = k := by rw [natL_len, List.length_take, HOL.out]; omega
                  have HE6 := Lib.hid e6
                  have hk0 : (0 : Int) ≤ (k : Int) := by omega
                  have hk1 : (k : Int) ≤ (i : Int) := by omega
                  have hhi : (i : Int) ≤ 50 := by omega
                  have hkc : k ≤ oc := by
                    obtain ⟨a', c', e, h⟩ := HO.out.form
                    simp only [Value.slice.injEq] at e
                    have := HNL.out
                    omega
                  have hkc2 : (k : Int) ≤ (oc : Int) := by omega
                  clear hd3 e6 hl9
                  go_upto_region 20 with (first
                    | (go_at_call 48; refine (own_any _ (natL (out.take k)) _ (by rw [natL_take]; exact HSL.out.take k (by have := HNL.out; omega)) (by have := HE6.out; omega)).mono ?_; rintro e w6 ⟨a6, c6, rfl, ho6, hb6⟩; rw [HE6.out] at ho6 ⊢; have hB6 : Bl w w6 := bl_call HBW9.out hb6; have hB6o : Bl wo w6 := bl_call HBX.out hb6; have hz6 := hB6.size; have hz6o := HBX.out.size; have HLO := Lib.hid ho6.lt; have HO6 := Lib.hid (ho6.mono HBW9.out.size); clear ho6)
                    | (at_builtin; refine wpList_append_one rfl _ _ rfl w.heap.size _ (natL (out.take k)) (by rfl) HO6.out (i : Int) (by unfold R64; omega) (by first | rfl | simp [Act.eval]) (by have := HE6.out; omega) (by omega) ?_; intro v' wn ho hg hloc; obtain ⟨a7, c7, rfl, _⟩ := ho.form; have hlen : (natL (out.take k) ++ [(i : Int)]).length = k + 1 := (by rw [List.length_append, HE6.out]; rfl); have hbn : Bl wo wn := bl_grown hB6o hg (fun x hx => Nat.le_trans hz6o (HLO.out x hx).1); rw [hlen] at ho ⊢; have HO7 := Lib.hid ho; clear hg hloc ho))
                  have HBN := Lib.hid hbn
                  have hbnw : Bl w wn := bl_call hBo hbn
                  have hzn := hbnw.size
                  have HLEN := Lib.hid hlen
                  clear hlen hbn
                  go_wp2_with (at_builtin; refine wpList_append_sl rfl _ _ rfl w.heap.size _ (natL (out.take k) ++ [(i : Int)]) (by rfl) HO7.out (.slice a9 l9 c9) ((natL out).drop k) (by rfl) (HTL.out.below HBN.out) (by rw [HLEN.out, List.length_drop, HNL.out]; omega) (by omega) ?_; intro v' wf ho hg hloc; obtain ⟨a8, c8, rfl, _⟩ := ho.form; have hlf : (natL (out.take k) ++ [(i : Int)] ++ (natL out).drop k).length = i + 1 := (by rw [List.length_append, HLEN.out, List.length_drop, HNL.out]; omega); have hbf := Lib.hid (bl_grown hbnw hg (fun x hx => (HO7.out.lt x hx).1)); have HF := Lib.hid (show Own wf w.heap.size (.slice a8 (i + 1) c8) (natL (insF (cmpAt ss M) out i)) by have h9 := ho; rw [hlf] at h9; rw [natL_ins] at h9; rw [insF, ← HKP.out]; exact h9); rw [hlf]; clear ho hg hloc)
                  go_roundw
                  case rel => exact ⟨i + 1, a8, c8, _, by go_num, rfl, by omega, Lib.hid ⟨HS.out.1.ins hfok.out HDEC.out, HDEC.out, by rw [sortG, ← HS.out.2.2]⟩, HF, hbf.out⟩
                  case measure => simp only [intOf]; omega
                · have hcc := pos_go hfok.out HS.out.1 HDEC.out (show posF (cmpAt ss M) out i ≤ j by rw [← HPP.out]; have := hKJ.out; omega) HJ.out HF.out
                  clear cj
                  go_wp2
                  go_roundw
                  case rel => exact ⟨j, by first | rfl | (have := hKJ.out; go_num), by have := hKJ.out; omega, by omega, hB5⟩
                  case measure => (have := hKJ.out; simp only [intOf]; omega)
      · have HR := Lib.hid (sortF_yes HZ.out (show Dec (cmpAt ss M) ss.length by rw [show ss.length = i by omega]; exact HS.out.2.1))
        obtain rfl : i = ss.length := by omega
        go_wp2
        go_ret2
        exact ⟨oa, _, oc, ret_lv HR.out, by rw [HR.out]; show Own _ _ _ (natL (sortG (cmpAt ss M) ss.length)); rw [← HS.out.2.2]; exact HO.out, hBo⟩
  · have HR := Lib.hid (sortF_bad hz)
    have hz1 : (listC ss m != 0) = true := bne_iff_ne.2 hz
    have hz2 : (listC ss m == 0) = false := beq_eq_false_iff_ne.2 hz
    clear hz
    generalize hcc : listC ss m = cc at *
    have HZ := Lib.hid hcc
    clear hcc
    go_enter Try.func11, Try.ntmps11
    go_wp2_with fail
    refine (scheck_eq HZ.out _ HA.out).mono ?_
    rintro e w1 ⟨rfl, hb1⟩
    go_wp2
    go_ret2
    exact ⟨none, 0, 0, ret_lv HR.out, by rw [HR.out]; exact Own.nil _ _, hb1⟩

end Go.Proofs.Ytgkelemfbmmgnaa

