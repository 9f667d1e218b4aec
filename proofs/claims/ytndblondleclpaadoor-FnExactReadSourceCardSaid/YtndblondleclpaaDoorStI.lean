/- The program's text of a source. Each theorem names its conditions. -/
import Derived.Test.YtndblondleclpaaDoorStS
import Derived.Test.YtndblondleclpaaDoorSrcI
import Derived.Test.YtndblondleclpaaDoorDgI
namespace Go.Proofs.YtndblondleclpaaDoor
open Go.RowKit
set_option linter.unusedVariables false
set_option linter.unusedSimpArgs false

theorem idec_str (n : Int) (hn : R64 n) (w : World) (ht : Tab w) :
    Calls Tryd.prog 31 #[.int .i64 n] w fun e w' => ∃ u : ByteArray, e = .returned (.string u) ∧ Hid (u.data.toList = Lib.itoa n) ∧ u.size ≤ 21 ∧ Bl w w' := by
  refine (idec_any n hn w ht).mono ?_
  rintro e w' ⟨rfl, hb⟩
  exact ⟨_, rfl, Lib.hid (by simp), by rw [bsz]; simpa using Lib.itoa_length_le n hn.1 hn.2, hb⟩
/-- strings.Join, of words of the call's own. -/
theorem join_any {w : World} {B : Nat} {a : Option Addr} {c : Nat} {ws : List (List UInt8)} (h : OwS w B (.slice a ws.length c) ws) (sep : ByteArray) (hn : ws.length ≤ 1000000000) (hlen : (Lib.join ws sep.data.toList).length ≤ 1000000000) :
    Calls Tryd.prog 36 #[.slice a ws.length c, .string sep] w fun e w' => e = .returned (.string ⟨(Lib.join ws sep.data.toList).toArray⟩) ∧ Bl w w' := by
  have hmap : (ws.map fun b => (⟨b.toArray⟩ : ByteArray)).map (fun x => x.data.toList) = ws := by
    rw [List.map_map]; simp [Function.comp_def]
  rcases h.2 with ⟨e, hn⟩ | ⟨g, cap, e, hB, h1, h2, h3, h4, _⟩
  · have hw : ws = [] := by cases ws with
      | nil => rfl
      | cons x l => simp [cS] at hn
    subst hw
    injection e with e1 e2 e3
    refine (Tryd.strings_Join_none a c sep w).mono ?_
    rintro e w' ⟨rfl, rfl⟩
    exact ⟨by simp [Lib.join], bl_refl _⟩
  · injection e with e1 e2 e3
    subst e1; subst e3
    have := Tryd.strings_Join g 0 c (ws.map fun b => (⟨b.toArray⟩ : ByteArray)) sep w (fun j x hx => by
      rw [Nat.zero_add]
      rw [List.getElem?_map] at hx
      obtain ⟨b, hb, rfl⟩ := Option.map_eq_some_iff.1 hx
      exact h4 j _ (cS_get hb)) h3 (by rw [List.length_map]; omega) (by rw [List.length_map]; rw [cS_len] at h1; exact h1) (by rw [hmap]; omega)
    rw [List.length_map, hmap] at this
    exact this

set_option maxRecDepth 100000 in
set_option maxHeartbeats 12800000 in
theorem impl_SourceText (h p g : Value) (s : Src) (w : World) (ha : SlS w h p g s) (ht : Tab w) :
    Calls Tryd.prog 14 #[.agg #[h, p, g]] w fun e w' => e = .returned (.string ⟨(stxt s.H s.P s.G).toArray⟩) ∧ Bl w w' := by
  have a1 := ha.1
  have a2 := ha.2.1
  have a3 := ha.2.2
  have HA := Lib.hid ha
  have HT := Lib.hid ht
  clear ha ht
  obtain ⟨ah, ch, rfl, hch⟩ := a1.form
  obtain ⟨ap, cp, rfl, hcp⟩ := a2.form
  obtain ⟨ag, cg, rfl, hcg⟩ := a3.form
  have A1 := Lib.hid a1
  have A2 := Lib.hid a2
  have A3 := Lib.hid a3
  clear a1 a2 a3
  have B0 := bl_alloc (bl_refl w) (.cells #[.slice ah s.H.length ch, .slice ap s.P.length cp, .slice ag s.G.length cg] 31)
  have X0 := Lib.hid (Bx.new w #[.slice ah s.H.length ch, .slice ap s.P.length cp, .slice ag s.G.length cg] 31 (b := w.heap.size) rfl)
  cases e : okSrc s with
  | false =>
    have HX := Lib.hid (show (⟨#[]⟩ : ByteArray) = ⟨(stxt s.H s.P s.G).toArray⟩ by rw [stxt_bad e])
    have HE := Lib.hid (show Ending.returned (.bool (okSrc s)) = .returned (.bool false) by rw [e])
    clear e
    go_enter Tryd.func14, Tryd.ntmps14
    go_wp2_with fail
    refine (ivalid_any _ _ _ s _ (HA.out.below B0)).mono ?_
    rintro e1 w1 ⟨he, B1⟩
    obtain rfl : e1 = .returned (.bool false) := he.trans HE.out
    go_wp2
    go_ret
    exact ⟨by rw [← HX.out]; rfl, bl_call B0 B1⟩
  | true =>
    have HX := Lib.hid (show (⟨(stext s.H s.P s.G).toArray⟩ : ByteArray) = ⟨(stxt s.H s.P s.G).toArray⟩ by rw [stxt_ok e])
    have hv := vs_ok.1 (okSrc_iff.1 e)
    have HE := Lib.hid (show Ending.returned (.bool (okSrc s)) = .returned (.bool true) by rw [e])
    clear e
    have l1 := hv.h30
    have l2 := hv.p30
    have HGP := Lib.hid hv.gp
    have HV := Lib.hid hv
    clear hv
    go_enter Tryd.func14, Tryd.ntmps14
    go_wp2_with fail
    refine (ivalid_any _ _ _ s _ (HA.out.below B0)).mono ?_
    rintro e1 w1 ⟨he, B1'⟩
    obtain rfl : e1 = .returned (.bool true) := he.trans HE.out
    have B1 := bl_call B0 B1'
    have XB := Lib.hid (X0.out.below B1')
    have xb := XB.out
    obtain ⟨cB, fB, zB⟩ := xb.out
    go_wp2
    clear cB fB zB xb B1' B0
    go_loopw [3, 5, 15] (fun s3 _ s15 wr => ∃ (a : Option Addr) (c k : Nat) (ws : List (List UInt8)), s3 = .slice a ws.length c ∧ s15 = .int .i64 k ∧ k ≤ s.H.length ∧ OwS wr w1.heap.size (.slice a ws.length c) ws ∧ Hid (ws = hws s.H k) ∧ Bl w1 wr) (fun _ _ s15 _ => s.H.length - (intOf s15).toNat)
    case atStart => exact ⟨none, 0, 0, [], rfl, rfl, Nat.zero_le _, OwX.nil _ _, Lib.hid (by simp [hws]), bl_refl _⟩
    case round =>
      rcases hrel with ⟨a, c, k, ws, rfl, rfl, hk, ho, hw, Bq⟩
      have HO := Lib.hid ho
      clear ho
      have Br := bl_call B1 Bq
      rcases Nat.lt_or_ge k s.H.length with hlt | hge
      · obtain ⟨b0, o0, rfl, hb0, y, hyk, hr, HC⟩ := A1.out.cellIn hlt
        have HYK := Lib.hid hyk
        clear hyk
        have hcn : wr.cell? ⟨b0, o0 + k, none⟩ = some (.int .i64 y) := HC.out wr Br
        go_wp2_with fail
        refine (idec_str y hr _ (HT.out.below Br)).mono ?_
        rintro e w2 ⟨u, rfl, hu, hus, B2⟩
        have Bw := bl_call Bq B2
        have HLw := Lib.hid (show ws.length ≤ 30 by rw [hw.out, hws_len hk]; omega)
        go_wp2_with (at_builtin; refine wpList_append_s1 (w0 := w1) rfl _ _ rfl _ ws (by rfl) ((HO.out.below B2).alloc _) (Lib.itoa y) w2.heap.size (by rfl) (by rw [← str_of hu.out]; simp) (by have := HLw.out; omega) (bl_alloc Bw _) ?_; intro ws2 g2 c2 w3 HA2 HO2 hg B3 _)
        clear hg
        go_wp2
        go_roundw
        case rel => exact ⟨_, c2, k + 1, ws2, rfl, by simp, by omega, HO2.out, Lib.hid (by rw [HA2.out, hw.out, hws_succ HYK.out]), B3⟩
        case measure => simp only [intOf, Int.toNat_natCast]; omega
      · obtain rfl : k = s.H.length := by omega
        have HW := Lib.hid (show ws = s.H.map Lib.itoa ++ pwn s.P.length s.P s.G 0 by rw [hw.out, hws_all]; simp [pwn])
        clear hw hge hk
        have xb := XB.out.below Bq
        obtain ⟨cB, fB, zB⟩ := xb.out
        go_wp2
        clear cB fB zB xb
        go_loopw [3, 6, 7, 8, 28] (fun s3 _ _ _ s28 wr => ∃ (a : Option Addr) (c k : Nat) (ws : List (List UInt8)), s3 = .slice a ws.length c ∧ s28 = .int .i64 k ∧ k ≤ s.P.length ∧ OwS wr w1.heap.size (.slice a ws.length c) ws ∧ Hid (ws = s.H.map Lib.itoa ++ pwn s.P.length s.P s.G k) ∧ Bl w1 wr) (fun _ _ _ _ s28 _ => s.P.length - (intOf s28).toNat)
        case atStart => exact ⟨a, c, 0, ws, rfl, rfl, Nat.zero_le _, HO.out, HW, Bq⟩
        case round =>
          rcases hrel with ⟨a3, c3, k, w3, rfl, rfl, hk, ho, hw, Bt⟩
          have HO3 := Lib.hid ho
          clear ho
          have Bs := bl_call B1 Bt
          have HLw := Lib.hid (show w3.length ≤ 60 by rw [hw.out, List.length_append, List.length_map, pwn_length]; omega)
          rcases Nat.lt_or_ge k s.P.length with hlt | hge
          · have hltg : k < s.G.length := by rw [HGP.out]; exact hlt
            obtain ⟨b0, o0, rfl, hb0, y, hyk, hr, HC⟩ := A2.out.cellIn hlt
            obtain ⟨b1, o1, rfl, hb1, z, hzk, hrz, HCz⟩ := A3.out.cellIn hltg
            have HYK := Lib.hid hyk
            have HZK := Lib.hid hzk
            have HPL := Lib.hid (show s.P.length ≠ 0 by omega)
            clear hyk hzk
            have xb := XB.out.below Bt
            obtain ⟨cB, fB, zB⟩ := xb.out
            have hcn : wr.cell? ⟨b0, o0 + k, none⟩ = some (.int .i64 y) := HC.out wr Bs
            go_wp2_with fail
            refine (idec_str y hr _ (HT.out.below Bs)).mono ?_
            rintro e w4 ⟨u, rfl, hu, hus, B4'⟩
            have B4 := bl_call Bt B4'
            have Bv := bl_call B1 B4
            clear cB fB zB xb hcn
            have xb := XB.out.below B4
            obtain ⟨cB, fB, zB⟩ := xb.out
            have hcz : w4.cell? ⟨b1, o1 + k, none⟩ = some (.int .i64 z) := HCz.out w4 Bv
            by_cases hz : z = 0
            · have qz : (z != 0) = false := by simp [hz]
              have HZ0 := Lib.hid hz
              clear hz
              have HC0 := Lib.hid (show (u).data.toList = core y z by rw [hu.out, core, gw, if_pos HZ0.out, List.append_nil])
              by_cases hk0 : k = 0
              · have q0 : ((k : Int) == 0) = true := by simp; omega
                by_cases hkl : k + 1 = s.P.length
                · have q1 : ((k : Int) == (s.P.length : Int) - 1) = true := by simp; have := HPL.out; omega
                  have HPW := Lib.hid (show ((⟨#[40]⟩ : ByteArray) ++ (u) ++ ⟨#[41]⟩).data.toList = pword s.P.length k y z by rw [bap, bap,  HC0.out, pword, if_pos hk0, if_pos hkl]; simp)
                  clear hk0 hkl
                  go_wp2_with (at_builtin; refine wpList_append_s1 (w0 := w1) rfl _ _ rfl _ w3 (by rfl) (((HO3.out.below B4').alloc _)) (pword s.P.length k y z) w4.heap.size (by rfl) (by rw [← str_of HPW.out]; simp) (by have := HLw.out; omega) (bl_alloc B4 _) ?_; intro ws2 g2 c2 wz HA2 HO2 hg BZ _)
                  clear hg cB fB zB
                  go_wp2
                  go_roundw
                  case rel => exact ⟨_, c2, k + 1, ws2, rfl, by simp, by omega, HO2.out, Lib.hid (by rw [HA2.out, hw.out, pwn_snoc HYK.out HZK.out, List.append_assoc]), BZ⟩
                  case measure => simp only [intOf, Int.toNat_natCast]; omega
                · have q1 : ((k : Int) == (s.P.length : Int) - 1) = false := by simp; have := HPL.out; omega
                  have HPW := Lib.hid (show ((⟨#[40]⟩ : ByteArray) ++ (u)).data.toList = pword s.P.length k y z by rw [bap,  HC0.out, pword, if_pos hk0, if_neg hkl]; simp)
                  clear hk0 hkl
                  go_wp2_with (at_builtin; refine wpList_append_s1 (w0 := w1) rfl _ _ rfl _ w3 (by rfl) (((HO3.out.below B4').alloc _)) (pword s.P.length k y z) w4.heap.size (by rfl) (by rw [← str_of HPW.out]; simp) (by have := HLw.out; omega) (bl_alloc B4 _) ?_; intro ws2 g2 c2 wz HA2 HO2 hg BZ _)
                  clear hg cB fB zB
                  go_wp2
                  go_roundw
                  case rel => exact ⟨_, c2, k + 1, ws2, rfl, by simp, by omega, HO2.out, Lib.hid (by rw [HA2.out, hw.out, pwn_snoc HYK.out HZK.out, List.append_assoc]), BZ⟩
                  case measure => simp only [intOf, Int.toNat_natCast]; omega
              · have q0 : ((k : Int) == 0) = false := by simp; omega
                by_cases hkl : k + 1 = s.P.length
                · have q1 : ((k : Int) == (s.P.length : Int) - 1) = true := by simp; have := HPL.out; omega
                  have HPW := Lib.hid (show (u ++ ⟨#[41]⟩).data.toList = pword s.P.length k y z by rw [bap,  HC0.out, pword, if_neg hk0, if_pos hkl]; simp)
                  clear hk0 hkl
                  go_wp2_with (at_builtin; refine wpList_append_s1 (w0 := w1) rfl _ _ rfl _ w3 (by rfl) (((HO3.out.below B4').alloc _)) (pword s.P.length k y z) w4.heap.size (by rfl) (by rw [← str_of HPW.out]; simp) (by have := HLw.out; omega) (bl_alloc B4 _) ?_; intro ws2 g2 c2 wz HA2 HO2 hg BZ _)
                  clear hg cB fB zB
                  go_wp2
                  go_roundw
                  case rel => exact ⟨_, c2, k + 1, ws2, rfl, by simp, by omega, HO2.out, Lib.hid (by rw [HA2.out, hw.out, pwn_snoc HYK.out HZK.out, List.append_assoc]), BZ⟩
                  case measure => simp only [intOf, Int.toNat_natCast]; omega
                · have q1 : ((k : Int) == (s.P.length : Int) - 1) = false := by simp; have := HPL.out; omega
                  have HPW := Lib.hid (show (u).data.toList = pword s.P.length k y z by rw [ HC0.out, pword, if_neg hk0, if_neg hkl]; simp)
                  clear hk0 hkl
                  go_wp2_with (at_builtin; refine wpList_append_s1 (w0 := w1) rfl _ _ rfl _ w3 (by rfl) (((HO3.out.below B4').alloc _)) (pword s.P.length k y z) w4.heap.size (by rfl) (by rw [← str_of HPW.out]; simp) (by have := HLw.out; omega) (bl_alloc B4 _) ?_; intro ws2 g2 c2 wz HA2 HO2 hg BZ _)
                  clear hg cB fB zB
                  go_wp2
                  go_roundw
                  case rel => exact ⟨_, c2, k + 1, ws2, rfl, by simp, by omega, HO2.out, Lib.hid (by rw [HA2.out, hw.out, pwn_snoc HYK.out HZK.out, List.append_assoc]), BZ⟩
                  case measure => simp only [intOf, Int.toNat_natCast]; omega
            · have qz : (z != 0) = true := by simp [hz]
              have HZ0 := Lib.hid hz
              clear hz
              go_wp2_with fail
              refine (idec_str z hrz _ (HT.out.below Bv)).mono ?_
              rintro e w5 ⟨v, rfl, hv, hvs, B5'⟩
              have B5 := bl_call B4 B5'
              clear cB fB zB xb hcz
              have xb := XB.out.below B5
              obtain ⟨cB, fB, zB⟩ := xb.out
              have HC0 := Lib.hid (show (u ++ (⟨#[43]⟩ ++ v)).data.toList = core y z by rw [bap, bap, hu.out, hv.out, core, gw, if_neg HZ0.out]; simp)
              by_cases hk0 : k = 0
              · have q0 : ((k : Int) == 0) = true := by simp; omega
                by_cases hkl : k + 1 = s.P.length
                · have q1 : ((k : Int) == (s.P.length : Int) - 1) = true := by simp; have := HPL.out; omega
                  have HPW := Lib.hid (show ((⟨#[40]⟩ : ByteArray) ++ (u ++ (⟨#[43]⟩ ++ v)) ++ ⟨#[41]⟩).data.toList = pword s.P.length k y z by rw [bap, bap,  HC0.out, pword, if_pos hk0, if_pos hkl]; simp)
                  clear hk0 hkl
                  go_wp2_with (at_builtin; refine wpList_append_s1 (w0 := w1) rfl _ _ rfl _ w3 (by rfl) ((((HO3.out.below B4').below B5').alloc _)) (pword s.P.length k y z) w5.heap.size (by rfl) (by rw [← str_of HPW.out]; simp) (by have := HLw.out; omega) (bl_alloc B5 _) ?_; intro ws2 g2 c2 wz HA2 HO2 hg BZ _)
                  clear hg cB fB zB
                  go_wp2
                  go_roundw
                  case rel => exact ⟨_, c2, k + 1, ws2, rfl, by simp, by omega, HO2.out, Lib.hid (by rw [HA2.out, hw.out, pwn_snoc HYK.out HZK.out, List.append_assoc]), BZ⟩
                  case measure => simp only [intOf, Int.toNat_natCast]; omega
                · have q1 : ((k : Int) == (s.P.length : Int) - 1) = false := by simp; have := HPL.out; omega
                  have HPW := Lib.hid (show ((⟨#[40]⟩ : ByteArray) ++ (u ++ (⟨#[43]⟩ ++ v))).data.toList = pword s.P.length k y z by rw [bap,  HC0.out, pword, if_pos hk0, if_neg hkl]; simp)
                  clear hk0 hkl
                  go_wp2_with (at_builtin; refine wpList_append_s1 (w0 := w1) rfl _ _ rfl _ w3 (by rfl) ((((HO3.out.below B4').below B5').alloc _)) (pword s.P.length k y z) w5.heap.size (by rfl) (by rw [← str_of HPW.out]; simp) (by have := HLw.out; omega) (bl_alloc B5 _) ?_; intro ws2 g2 c2 wz HA2 HO2 hg BZ _)
                  clear hg cB fB zB
                  go_wp2
                  go_roundw
                  case rel => exact ⟨_, c2, k + 1, ws2, rfl, by simp, by omega, HO2.out, Lib.hid (by rw [HA2.out, hw.out, pwn_snoc HYK.out HZK.out, List.append_assoc]), BZ⟩
                  case measure => simp only [intOf, Int.toNat_natCast]; omega
              · have q0 : ((k : Int) == 0) = false := by simp; omega
                by_cases hkl : k + 1 = s.P.length
                · have q1 : ((k : Int) == (s.P.length : Int) - 1) = true := by simp; have := HPL.out; omega
                  have HPW := Lib.hid (show (u ++ (⟨#[43]⟩ ++ v) ++ ⟨#[41]⟩).data.toList = pword s.P.length k y z by rw [bap,  HC0.out, pword, if_neg hk0, if_pos hkl]; simp)
                  clear hk0 hkl
                  go_wp2_with (at_builtin; refine wpList_append_s1 (w0 := w1) rfl _ _ rfl _ w3 (by rfl) ((((HO3.out.below B4').below B5').alloc _)) (pword s.P.length k y z) w5.heap.size (by rfl) (by rw [← str_of HPW.out]; simp) (by have := HLw.out; omega) (bl_alloc B5 _) ?_; intro ws2 g2 c2 wz HA2 HO2 hg BZ _)
                  clear hg cB fB zB
                  go_wp2
                  go_roundw
                  case rel => exact ⟨_, c2, k + 1, ws2, rfl, by simp, by omega, HO2.out, Lib.hid (by rw [HA2.out, hw.out, pwn_snoc HYK.out HZK.out, List.append_assoc]), BZ⟩
                  case measure => simp only [intOf, Int.toNat_natCast]; omega
                · have q1 : ((k : Int) == (s.P.length : Int) - 1) = false := by simp; have := HPL.out; omega
                  have HPW := Lib.hid (show (u ++ (⟨#[43]⟩ ++ v)).data.toList = pword s.P.length k y z by rw [ HC0.out, pword, if_neg hk0, if_neg hkl]; simp)
                  clear hk0 hkl
                  go_wp2_with (at_builtin; refine wpList_append_s1 (w0 := w1) rfl _ _ rfl _ w3 (by rfl) ((((HO3.out.below B4').below B5').alloc _)) (pword s.P.length k y z) w5.heap.size (by rfl) (by rw [← str_of HPW.out]; simp) (by have := HLw.out; omega) (bl_alloc B5 _) ?_; intro ws2 g2 c2 wz HA2 HO2 hg BZ _)
                  clear hg cB fB zB
                  go_wp2
                  go_roundw
                  case rel => exact ⟨_, c2, k + 1, ws2, rfl, by simp, by omega, HO2.out, Lib.hid (by rw [HA2.out, hw.out, pwn_snoc HYK.out HZK.out, List.append_assoc]), BZ⟩
                  case measure => simp only [intOf, Int.toNat_natCast]; omega
          · obtain rfl : k = s.P.length := by omega
            have HJ := Lib.hid (show Lib.join w3 [32] = stext s.H s.P s.G by rw [hw.out]; rfl)
            have HJL := Lib.hid (show (Lib.join w3 [32]).length ≤ 1000000000 by
              have hm : ∀ q ∈ w3, q.length ≤ 45 := by
                rw [hw.out]
                intro q hq
                rcases List.mem_append.1 hq with hq | hq
                · obtain ⟨x, hx, rfl⟩ := List.mem_map.1 hq
                  have := HV.out.hr x hx
                  exact Nat.le_trans (Lib.itoa_length_le x (by omega) (by omega)) (by decide)
                · obtain ⟨i, hi, rfl⟩ := List.mem_map.1 hq
                  have hi := List.mem_range.1 hi
                  have q1 := HV.out.pr i hi
                  have q2 := HV.out.gg i hi
                  exact pword_len (by omega) (by omega)
              have := join_len 32 45 w3 hm
              have := HLw.out
              have := Nat.mul_le_mul_right (45 + 1) this
              omega)
            go_wp2_with fail
            refine (join_any (HO3.out) ⟨#[32]⟩ (by have := HLw.out; omega) HJL.out).mono ?_
            rintro e w5 ⟨rfl, B5⟩
            have HY := Lib.hid (show (⟨(Lib.join w3 [32]).toArray⟩ : ByteArray) = ⟨(stxt s.H s.P s.G).toArray⟩ by rw [HJ.out, HX.out])
            go_wp2
            go_ret
            exact ⟨by rw [← HY.out]; rfl, bl_call Bs B5⟩

end Go.Proofs.YtndblondleclpaaDoor
