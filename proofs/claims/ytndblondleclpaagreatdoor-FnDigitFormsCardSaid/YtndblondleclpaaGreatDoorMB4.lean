/- Some of the texts of this claim, joined in one file: StS, LtX, SdM. -/
import Derived.Test.YtndblondleclpaaGreatDoorMB1
import Derived.Test.YtndblondleclpaaGreatDoorMB2
import Derived.Test.YtndblondleclpaaGreatDoorSrcS
import Derived.Test.YtndblondleclpaaGreatDoorSdK
/- The reference's text of a source. Each theorem names its conditions. -/
namespace Go.Proofs.YtndblondleclpaaGreatDoor
open Go.RowKit
set_option linter.unusedVariables false
set_option linter.unusedSimpArgs false

theorem bap (x y : ByteArray) : (x ++ y).data.toList = x.data.toList ++ y.data.toList := by rw [ByteArray.data_append]; simp
theorem bsz (x : ByteArray) : x.size = x.data.toList.length := Lib.size_eq x
theorem str_of {x : ByteArray} {l : List UInt8} (h : x.data.toList = l) : x = ⟨l.toArray⟩ := by rw [← h]
theorem ldec_str (n : Int) (hn : R64 n) (w : World) :
    Calls Tryz.prog 120 #[.int .i64 n] w fun e w' => ∃ u : ByteArray, e = .returned (.string u) ∧ Hid (u.data.toList = Lib.itoa n) ∧ u.size ≤ 21 ∧ Bl w w' := by
  refine (ldec_any n hn w).mono ?_
  rintro e w' ⟨rfl, hb⟩
  exact ⟨_, rfl, Lib.hid (by simp), by rw [bsz]; simpa using Lib.itoa_length_le n hn.1 hn.2, hb⟩

set_option maxRecDepth 100000 in
set_option maxHeartbeats 6400000 in
theorem stx_any (h p g : Value) (s : Src) (w : World) (x : Nat) (ha : SlS w h p g s) (hx : Bx w x #[h, p, g]) (hv : VS s.H s.P s.G) :
    Calls Tryz.prog 65 #[.pointer (some ⟨x, 0, none⟩)] w fun e w' => e = .returned (.string ⟨(stext s.H s.P s.G).toArray⟩) ∧ Bl w w' := by
  obtain ⟨a1, a2, a3⟩ := ha
  have l1 := hv.h30
  have l2 := hv.p30
  have hgp := hv.gp
  obtain ⟨ah, ch, rfl, hch⟩ := a1.form
  obtain ⟨ap, cp, rfl, hcp⟩ := a2.form
  obtain ⟨ag, cg, rfl, hcg⟩ := a3.form
  have A1 := Lib.hid a1
  have A2 := Lib.hid a2
  have A3 := Lib.hid a3
  have HV := Lib.hid hv
  have HGP := Lib.hid hgp
  clear a1 a2 a3 hv hgp
  have XB := Lib.hid hx
  clear hx
  go_enter Tryz.func65, Tryz.ntmps65
  go_wp2
  go_loopw [3, 4] (fun s3 s4 wr => ∃ (t : ByteArray) (k : Nat), s3 = .string t ∧ s4 = .int .i64 k ∧ k ≤ s.H.length ∧ t.size ≤ 22 * k ∧ Hid (t.data.toList = Lib.join (hws s.H k) [32]) ∧ Bl w wr) (fun _ s4 _ => s.H.length - (intOf s4).toNat)
  case atStart => exact ⟨⟨#[]⟩, 0, rfl, rfl, Nat.zero_le _, Nat.le_refl _, Lib.hid (by simp [hws, join_nil]), bl_refl _⟩
  case round =>
    rcases hrel with ⟨t, k, rfl, rfl, hk, hts, ht, Br⟩
    have xb := XB.out.below Br
    obtain ⟨cB, fB, zB⟩ := xb.out
    rcases Nat.lt_or_ge k s.H.length with hlt | hge
    · obtain ⟨b0, o0, rfl, hb0, y, hyk, hr, HC⟩ := A1.out.cellIn hlt
      have HYK := Lib.hid hyk
      clear hyk
      by_cases hk0 : k = 0
      · subst hk0
        have hcn : wr.cell? ⟨b0, o0, none⟩ = some (.int .i64 y) := by have := HC.out wr Br; rwa [Nat.add_zero] at this
        go_wp2_with fail
        refine (ldec_str y hr _).mono ?_
        rintro e w2 ⟨u, rfl, hu, hus, B2⟩
        go_wp2
        go_roundw
        case rel => exact ⟨t ++ u, 1, rfl, rfl, by omega, by rw [ByteArray.size_append]; omega, Lib.hid (by rw [bap, hu.out, ht.out, hws_succ HYK.out]; simp [hws, join_nil, join_one]), bl_call Br B2⟩
        case measure => simp only [intOf]; omega
      · have hcn := HC.out wr Br
        go_wp2_with fail
        refine (ldec_str y hr _).mono ?_
        rintro e w2 ⟨u, rfl, hu, hus, B2⟩
        go_wp2
        go_roundw
        case rel => exact ⟨t ++ ⟨#[32]⟩ ++ u, k + 1, rfl, by simp, by omega, by rw [ByteArray.size_append, ByteArray.size_append]; have : (⟨#[32]⟩ : ByteArray).size = 1 := rfl; omega, Lib.hid (by rw [bap, bap, hu.out, ht.out, hws_succ HYK.out, join_snoc, if_neg (fun q => hk0 (by have := congrArg List.length q; rw [hws_len hk] at this; exact this))]; simp), bl_call Br B2⟩
        case measure => simp only [intOf, Int.toNat_natCast]; omega
    · obtain rfl : k = s.H.length := by omega
      have HT := Lib.hid (show t.data.toList = Lib.join (s.H.map Lib.itoa) [32] by rw [ht.out, hws_all])
      clear ht hge hk
      by_cases hp0 : s.P.length = 0
      · have HX := Lib.hid (show t = ⟨(stext s.H s.P s.G).toArray⟩ from str_of (by rw [HT.out, List.eq_nil_of_length_eq_zero hp0, stext_none]))
        go_wp2
        go_ret
        exact ⟨by rw [← HX.out]; rfl, Br⟩
      · have HPP := Lib.hid (show 0 < s.P.length by omega)
        have qp : ((s.P.length : Int) == 0) = false := beq_eq_false_iff_ne.2 (by omega)
        clear hp0
        by_cases hh0 : s.H.length = 0
        · obtain ⟨t0, ht0, HT2, hs2⟩ : ∃ t0 : ByteArray, Hid (t0 = ⟨#[40]⟩) ∧ Hid (t0.data.toList = sbase s.H ++ Lib.join (cws s.P s.G 0) [32]) ∧ t0.size ≤ 700 :=
            ⟨⟨#[40]⟩, Lib.hid rfl, Lib.hid (by rw [sbase, if_pos (List.eq_nil_of_length_eq_zero hh0)]; simp [cws, join_nil]), by decide⟩
          have qh : ((s.H.length : Int) == 0) = true := beq_iff_eq.2 (by omega)
          clear hh0
          go_wp2
          rw [← ht0.out]
          have HS0 := Lib.hid hs2
          clear hs2 HT
          go_loopw [3, 5] (fun s3 s5 wr => ∃ (t : ByteArray) (k : Nat), s3 = .string t ∧ s5 = .int .i64 k ∧ k ≤ s.P.length ∧ t.size ≤ 700 + 44 * k ∧ Hid (t.data.toList = sbase s.H ++ Lib.join (cws s.P s.G k) [32]) ∧ Bl w wr) (fun _ s5 _ => s.P.length - (intOf s5).toNat)
          case atStart => exact ⟨t0, 0, rfl, rfl, Nat.zero_le _, HS0.out, HT2, Br⟩
          case round =>
            rcases hrel with ⟨t2, k, rfl, rfl, hk, hts, ht, Bq⟩
            clear cB fB zB xb
            have xc := XB.out.below Bq
            obtain ⟨cB, fB, zB⟩ := xc.out
            rcases Nat.lt_or_ge k s.P.length with hlt | hge
            · have hltg : k < s.G.length := by rw [HGP.out]; exact hlt
              obtain ⟨b0, o0, rfl, hb0, y, hyk, hr, HC⟩ := A2.out.cellIn hlt
              obtain ⟨b1, o1, rfl, hb1, z, hzk, hrz, HCz⟩ := A3.out.cellIn hltg
              have HYK := Lib.hid hyk
              have HZK := Lib.hid hzk
              have hz0 := (HV.out.gr k z hzk).1
              clear hyk hzk
              by_cases hk0 : k = 0
              · have HK0 := Lib.hid hk0
                subst hk0
                by_cases hz : 0 < z
                · have HZ := Lib.hid hz
                  have hcn : wr.cell? ⟨b0, o0, none⟩ = some (.int .i64 y) := by have := HC.out wr Bq; rwa [Nat.add_zero] at this
                  have hcz : wr.cell? ⟨b1, o1, none⟩ = some (.int .i64 z) := by have := HCz.out wr Bq; rwa [Nat.add_zero] at this
                  go_wp2_with fail
                  refine (ldec_str y hr _).mono ?_
                  rintro e w2 ⟨u, rfl, hu, hus, B2'⟩
                  have B2 := bl_call Bq B2'
                  clear cB fB zB hcn hcz
                  have xd := XB.out.below B2
                  obtain ⟨cB, fB, zB⟩ := xd.out
                  have hcn : w2.cell? ⟨b0, o0, none⟩ = some (.int .i64 y) := by have := HC.out w2 B2; rwa [Nat.add_zero] at this
                  have hcz : w2.cell? ⟨b1, o1, none⟩ = some (.int .i64 z) := by have := HCz.out w2 B2; rwa [Nat.add_zero] at this
                  go_wp2_with fail
                  refine (ldec_str z hrz _).mono ?_
                  rintro e w3 ⟨v, rfl, hv, hvs, B3'⟩
                  have B3 := bl_call B2 B3'
                  go_wp2
                  go_roundw
                  case rel => exact ⟨t2 ++ u ++ (⟨#[43]⟩ ++ v), 1, rfl, rfl, by omega, by simp only [ByteArray.size_append]; have s1 : (⟨#[32]⟩ : ByteArray).size = 1 := rfl; have s2 : (⟨#[43]⟩ : ByteArray).size = 1 := rfl; omega, Lib.hid (by simp only [bap, hu.out, hv.out, ht.out]; rw [cws_succ HYK.out HZK.out, join_snoc, if_pos (by simp [cws]), core, gw, if_neg (by have := HZ.out; omega)]; simp [cws, join_nil]), B3⟩
                  case measure => simp only [intOf]; omega
                · have HZ := Lib.hid hz
                  have hcn : wr.cell? ⟨b0, o0, none⟩ = some (.int .i64 y) := by have := HC.out wr Bq; rwa [Nat.add_zero] at this
                  have hcz : wr.cell? ⟨b1, o1, none⟩ = some (.int .i64 z) := by have := HCz.out wr Bq; rwa [Nat.add_zero] at this
                  go_wp2_with fail
                  refine (ldec_str y hr _).mono ?_
                  rintro e w2 ⟨u, rfl, hu, hus, B2'⟩
                  have B2 := bl_call Bq B2'
                  clear cB fB zB hcn hcz
                  have xd := XB.out.below B2
                  obtain ⟨cB, fB, zB⟩ := xd.out
                  have hcn : w2.cell? ⟨b0, o0, none⟩ = some (.int .i64 y) := by have := HC.out w2 B2; rwa [Nat.add_zero] at this
                  have hcz : w2.cell? ⟨b1, o1, none⟩ = some (.int .i64 z) := by have := HCz.out w2 B2; rwa [Nat.add_zero] at this
                  go_wp2
                  go_roundw
                  case rel => exact ⟨t2 ++ u, 1, rfl, rfl, by omega, by simp only [ByteArray.size_append]; have s1 : (⟨#[32]⟩ : ByteArray).size = 1 := rfl; have s2 : (⟨#[43]⟩ : ByteArray).size = 1 := rfl; omega, Lib.hid (by simp only [bap, hu.out, ht.out]; rw [cws_succ HYK.out HZK.out, join_snoc, if_pos (by simp [cws]), core, gw, if_pos (by have := HZ.out; omega)]; simp [cws, join_nil]), B2⟩
                  case measure => simp only [intOf]; omega
              · have HK0 := Lib.hid hk0
                by_cases hz : 0 < z
                · have HZ := Lib.hid hz
                  have hcn := HC.out wr Bq
                  have hcz := HCz.out wr Bq
                  go_wp2_with fail
                  refine (ldec_str y hr _).mono ?_
                  rintro e w2 ⟨u, rfl, hu, hus, B2'⟩
                  have B2 := bl_call Bq B2'
                  clear cB fB zB hcn hcz
                  have xd := XB.out.below B2
                  obtain ⟨cB, fB, zB⟩ := xd.out
                  have hcn := HC.out w2 B2
                  have hcz := HCz.out w2 B2
                  go_wp2_with fail
                  refine (ldec_str z hrz _).mono ?_
                  rintro e w3 ⟨v, rfl, hv, hvs, B3'⟩
                  have B3 := bl_call B2 B3'
                  go_wp2
                  go_roundw
                  case rel => exact ⟨t2 ++ ⟨#[32]⟩ ++ u ++ (⟨#[43]⟩ ++ v), k + 1, rfl, by simp, by omega, by simp only [ByteArray.size_append]; have s1 : (⟨#[32]⟩ : ByteArray).size = 1 := rfl; have s2 : (⟨#[43]⟩ : ByteArray).size = 1 := rfl; omega, Lib.hid (by simp only [bap, hu.out, hv.out, ht.out]; rw [cws_succ HYK.out HZK.out, join_snoc, if_neg (fun q => HK0.out (by have := congrArg List.length q; rw [cws_len] at this; exact this)), core, gw, if_neg (by have := HZ.out; omega)]; simp [cws, join_nil]), B3⟩
                  case measure => simp only [intOf, Int.toNat_natCast]; omega
                · have HZ := Lib.hid hz
                  have hcn := HC.out wr Bq
                  have hcz := HCz.out wr Bq
                  go_wp2_with fail
                  refine (ldec_str y hr _).mono ?_
                  rintro e w2 ⟨u, rfl, hu, hus, B2'⟩
                  have B2 := bl_call Bq B2'
                  clear cB fB zB hcn hcz
                  have xd := XB.out.below B2
                  obtain ⟨cB, fB, zB⟩ := xd.out
                  have hcn := HC.out w2 B2
                  have hcz := HCz.out w2 B2
                  go_wp2
                  go_roundw
                  case rel => exact ⟨t2 ++ ⟨#[32]⟩ ++ u, k + 1, rfl, by simp, by omega, by simp only [ByteArray.size_append]; have s1 : (⟨#[32]⟩ : ByteArray).size = 1 := rfl; have s2 : (⟨#[43]⟩ : ByteArray).size = 1 := rfl; omega, Lib.hid (by simp only [bap, hu.out, ht.out]; rw [cws_succ HYK.out HZK.out, join_snoc, if_neg (fun q => HK0.out (by have := congrArg List.length q; rw [cws_len] at this; exact this)), core, gw, if_pos (by have := HZ.out; omega)]; simp [cws, join_nil]), B2⟩
                  case measure => simp only [intOf, Int.toNat_natCast]; omega
            · obtain rfl : k = s.P.length := by omega
              have HX := Lib.hid (show t2 ++ ⟨#[41]⟩ = ⟨(stext s.H s.P s.G).toArray⟩ from str_of (by rw [bap, ht.out, stext_some HPP.out]))
              go_wp2
              go_ret
              exact ⟨by rw [← HX.out]; rfl, Bq⟩
        · have HT2 := Lib.hid (show (t ++ ⟨#[32, 40]⟩).data.toList = sbase s.H ++ Lib.join (cws s.P s.G 0) [32] by rw [bap, HT.out, sbase, if_neg (fun q => hh0 (by rw [q]; rfl))]; simp [cws, join_nil])
          have hs2 : (t ++ ⟨#[32, 40]⟩).size ≤ 700 := by rw [ByteArray.size_append]; have : (⟨#[32, 40]⟩ : ByteArray).size = 2 := rfl; omega
          have qh : ((s.H.length : Int) == 0) = false := beq_eq_false_iff_ne.2 (by omega)
          clear hh0
          go_wp2
          generalize (t ++ (⟨#[32, 40]⟩ : ByteArray)) = t0 at *
          have HS0 := Lib.hid hs2
          clear hs2 HT
          go_loopw [3, 5] (fun s3 s5 wr => ∃ (t : ByteArray) (k : Nat), s3 = .string t ∧ s5 = .int .i64 k ∧ k ≤ s.P.length ∧ t.size ≤ 700 + 44 * k ∧ Hid (t.data.toList = sbase s.H ++ Lib.join (cws s.P s.G k) [32]) ∧ Bl w wr) (fun _ s5 _ => s.P.length - (intOf s5).toNat)
          case atStart => exact ⟨t0, 0, rfl, rfl, Nat.zero_le _, HS0.out, HT2, Br⟩
          case round =>
            rcases hrel with ⟨t2, k, rfl, rfl, hk, hts, ht, Bq⟩
            clear cB fB zB xb
            have xc := XB.out.below Bq
            obtain ⟨cB, fB, zB⟩ := xc.out
            rcases Nat.lt_or_ge k s.P.length with hlt | hge
            · have hltg : k < s.G.length := by rw [HGP.out]; exact hlt
              obtain ⟨b0, o0, rfl, hb0, y, hyk, hr, HC⟩ := A2.out.cellIn hlt
              obtain ⟨b1, o1, rfl, hb1, z, hzk, hrz, HCz⟩ := A3.out.cellIn hltg
              have HYK := Lib.hid hyk
              have HZK := Lib.hid hzk
              have hz0 := (HV.out.gr k z hzk).1
              clear hyk hzk
              by_cases hk0 : k = 0
              · have HK0 := Lib.hid hk0
                subst hk0
                by_cases hz : 0 < z
                · have HZ := Lib.hid hz
                  have hcn : wr.cell? ⟨b0, o0, none⟩ = some (.int .i64 y) := by have := HC.out wr Bq; rwa [Nat.add_zero] at this
                  have hcz : wr.cell? ⟨b1, o1, none⟩ = some (.int .i64 z) := by have := HCz.out wr Bq; rwa [Nat.add_zero] at this
                  go_wp2_with fail
                  refine (ldec_str y hr _).mono ?_
                  rintro e w2 ⟨u, rfl, hu, hus, B2'⟩
                  have B2 := bl_call Bq B2'
                  clear cB fB zB hcn hcz
                  have xd := XB.out.below B2
                  obtain ⟨cB, fB, zB⟩ := xd.out
                  have hcn : w2.cell? ⟨b0, o0, none⟩ = some (.int .i64 y) := by have := HC.out w2 B2; rwa [Nat.add_zero] at this
                  have hcz : w2.cell? ⟨b1, o1, none⟩ = some (.int .i64 z) := by have := HCz.out w2 B2; rwa [Nat.add_zero] at this
                  go_wp2_with fail
                  refine (ldec_str z hrz _).mono ?_
                  rintro e w3 ⟨v, rfl, hv, hvs, B3'⟩
                  have B3 := bl_call B2 B3'
                  go_wp2
                  go_roundw
                  case rel => exact ⟨t2 ++ u ++ (⟨#[43]⟩ ++ v), 1, rfl, rfl, by omega, by simp only [ByteArray.size_append]; have s1 : (⟨#[32]⟩ : ByteArray).size = 1 := rfl; have s2 : (⟨#[43]⟩ : ByteArray).size = 1 := rfl; omega, Lib.hid (by simp only [bap, hu.out, hv.out, ht.out]; rw [cws_succ HYK.out HZK.out, join_snoc, if_pos (by simp [cws]), core, gw, if_neg (by have := HZ.out; omega)]; simp [cws, join_nil]), B3⟩
                  case measure => simp only [intOf]; omega
                · have HZ := Lib.hid hz
                  have hcn : wr.cell? ⟨b0, o0, none⟩ = some (.int .i64 y) := by have := HC.out wr Bq; rwa [Nat.add_zero] at this
                  have hcz : wr.cell? ⟨b1, o1, none⟩ = some (.int .i64 z) := by have := HCz.out wr Bq; rwa [Nat.add_zero] at this
                  go_wp2_with fail
                  refine (ldec_str y hr _).mono ?_
                  rintro e w2 ⟨u, rfl, hu, hus, B2'⟩
                  have B2 := bl_call Bq B2'
                  clear cB fB zB hcn hcz
                  have xd := XB.out.below B2
                  obtain ⟨cB, fB, zB⟩ := xd.out
                  have hcn : w2.cell? ⟨b0, o0, none⟩ = some (.int .i64 y) := by have := HC.out w2 B2; rwa [Nat.add_zero] at this
                  have hcz : w2.cell? ⟨b1, o1, none⟩ = some (.int .i64 z) := by have := HCz.out w2 B2; rwa [Nat.add_zero] at this
                  go_wp2
                  go_roundw
                  case rel => exact ⟨t2 ++ u, 1, rfl, rfl, by omega, by simp only [ByteArray.size_append]; have s1 : (⟨#[32]⟩ : ByteArray).size = 1 := rfl; have s2 : (⟨#[43]⟩ : ByteArray).size = 1 := rfl; omega, Lib.hid (by simp only [bap, hu.out, ht.out]; rw [cws_succ HYK.out HZK.out, join_snoc, if_pos (by simp [cws]), core, gw, if_pos (by have := HZ.out; omega)]; simp [cws, join_nil]), B2⟩
                  case measure => simp only [intOf]; omega
              · have HK0 := Lib.hid hk0
                by_cases hz : 0 < z
                · have HZ := Lib.hid hz
                  have hcn := HC.out wr Bq
                  have hcz := HCz.out wr Bq
                  go_wp2_with fail
                  refine (ldec_str y hr _).mono ?_
                  rintro e w2 ⟨u, rfl, hu, hus, B2'⟩
                  have B2 := bl_call Bq B2'
                  clear cB fB zB hcn hcz
                  have xd := XB.out.below B2
                  obtain ⟨cB, fB, zB⟩ := xd.out
                  have hcn := HC.out w2 B2
                  have hcz := HCz.out w2 B2
                  go_wp2_with fail
                  refine (ldec_str z hrz _).mono ?_
                  rintro e w3 ⟨v, rfl, hv, hvs, B3'⟩
                  have B3 := bl_call B2 B3'
                  go_wp2
                  go_roundw
                  case rel => exact ⟨t2 ++ ⟨#[32]⟩ ++ u ++ (⟨#[43]⟩ ++ v), k + 1, rfl, by simp, by omega, by simp only [ByteArray.size_append]; have s1 : (⟨#[32]⟩ : ByteArray).size = 1 := rfl; have s2 : (⟨#[43]⟩ : ByteArray).size = 1 := rfl; omega, Lib.hid (by simp only [bap, hu.out, hv.out, ht.out]; rw [cws_succ HYK.out HZK.out, join_snoc, if_neg (fun q => HK0.out (by have := congrArg List.length q; rw [cws_len] at this; exact this)), core, gw, if_neg (by have := HZ.out; omega)]; simp [cws, join_nil]), B3⟩
                  case measure => simp only [intOf, Int.toNat_natCast]; omega
                · have HZ := Lib.hid hz
                  have hcn := HC.out wr Bq
                  have hcz := HCz.out wr Bq
                  go_wp2_with fail
                  refine (ldec_str y hr _).mono ?_
                  rintro e w2 ⟨u, rfl, hu, hus, B2'⟩
                  have B2 := bl_call Bq B2'
                  clear cB fB zB hcn hcz
                  have xd := XB.out.below B2
                  obtain ⟨cB, fB, zB⟩ := xd.out
                  have hcn := HC.out w2 B2
                  have hcz := HCz.out w2 B2
                  go_wp2
                  go_roundw
                  case rel => exact ⟨t2 ++ ⟨#[32]⟩ ++ u, k + 1, rfl, by simp, by omega, by simp only [ByteArray.size_append]; have s1 : (⟨#[32]⟩ : ByteArray).size = 1 := rfl; have s2 : (⟨#[43]⟩ : ByteArray).size = 1 := rfl; omega, Lib.hid (by simp only [bap, hu.out, ht.out]; rw [cws_succ HYK.out HZK.out, join_snoc, if_neg (fun q => HK0.out (by have := congrArg List.length q; rw [cws_len] at this; exact this)), core, gw, if_pos (by have := HZ.out; omega)]; simp [cws, join_nil]), B2⟩
                  case measure => simp only [intOf, Int.toNat_natCast]; omega
            · obtain rfl : k = s.P.length := by omega
              have HX := Lib.hid (show t2 ++ ⟨#[41]⟩ = ⟨(stext s.H s.P s.G).toArray⟩ from str_of (by rw [bap, ht.out, stext_some HPP.out]))
              go_wp2
              go_ret
              exact ⟨by rw [← HX.out]; rfl, Bq⟩

set_option maxHeartbeats 800000 in
theorem spec_SourceText (h p g : Value) (s : Src) (w : World) (ha : SlS w h p g s) :
    Calls Tryz.prog 23 #[.agg #[h, p, g]] w fun e w' => e = .returned (.string ⟨(stxt s.H s.P s.G).toArray⟩) ∧ Bl w w' := by
  have HA := Lib.hid ha
  clear ha
  have B0 := bl_alloc (bl_refl w) (.cells #[h, p, g] 26)
  have X0 := Lib.hid (Bx.new w #[h, p, g] 26 (b := w.heap.size) rfl)
  cases e : okSrc s with
  | false =>
    have HX := Lib.hid (show (⟨#[]⟩ : ByteArray) = ⟨(stxt s.H s.P s.G).toArray⟩ by rw [stxt_bad e])
    go_enter Tryz.func23, Tryz.ntmps23
    go_wp2_with fail
    refine (svalid_any h p g s _ w.heap.size (HA.out.below B0) X0.out).mono ?_
    rintro e1 w1 ⟨rfl, B1⟩
    go_wp2
    go_ret
    exact ⟨by rw [← HX.out]; rfl, bl_call B0 B1⟩
  | true =>
    have HX := Lib.hid (show (⟨(stext s.H s.P s.G).toArray⟩ : ByteArray) = ⟨(stxt s.H s.P s.G).toArray⟩ by rw [stxt_ok e])
    have HV := Lib.hid (vs_ok.1 (okSrc_iff.1 e))
    go_enter Tryz.func23, Tryz.ntmps23
    go_wp2_with fail
    refine (svalid_any h p g s _ w.heap.size (HA.out.below B0) X0.out).mono ?_
    rintro e1 w1 ⟨rfl, B1⟩
    go_wp2_with fail
    refine (stx_any h p g s _ w.heap.size ((HA.out.below B0).below B1) (X0.out.below B1) HV.out).mono ?_
    rintro e2 w2 ⟨rfl, B2⟩
    go_wp2
    go_ret
    exact ⟨by rw [← HX.out]; rfl, bl_call (bl_call B0 B1) B2⟩

end Go.Proofs.YtndblondleclpaaGreatDoor

/- Texts of any short source, as the reference writes them: short. Each theorem names its conditions. -/
namespace Go.Proofs.YtndblondleclpaaGreatDoor
open Go.RowKit
set_option linter.unusedVariables false
set_option linter.unusedSimpArgs false

set_option maxRecDepth 100000 in
set_option maxHeartbeats 6400000 in
theorem ltx_any (h p g : Value) (s : Src) (w : World) (x : Nat) (ha : SlS w h p g s) (hx : Bx w x #[h, p, g]) (hv : s.H.length ≤ 2000 ∧ s.P.length ≤ 2000 ∧ s.G.length ≤ 2000 ∧ s.P.length ≤ s.G.length) :
    Calls Tryz.prog 65 #[.pointer (some ⟨x, 0, none⟩)] w fun e w' => ∃ T : ByteArray, e = .returned (.string T) ∧ T.size ≤ 140000 ∧ Bl w w' := by
  obtain ⟨a1, a2, a3⟩ := ha
  have l1 := hv.1
  have l2 := hv.2.1
  have hgp := hv.2.2.2
  obtain ⟨ah, ch, rfl, hch⟩ := a1.form
  obtain ⟨ap, cp, rfl, hcp⟩ := a2.form
  obtain ⟨ag, cg, rfl, hcg⟩ := a3.form
  have A1 := Lib.hid a1
  have A2 := Lib.hid a2
  have A3 := Lib.hid a3
  have HGP := Lib.hid hgp
  clear a1 a2 a3 hv hgp
  have XB := Lib.hid hx
  clear hx
  go_enter Tryz.func65, Tryz.ntmps65
  go_wp2
  go_loopw [3, 4] (fun s3 s4 wr => ∃ (t : ByteArray) (k : Nat), s3 = .string t ∧ s4 = .int .i64 k ∧ k ≤ s.H.length ∧ t.size ≤ 22 * k ∧ True ∧ Bl w wr) (fun _ s4 _ => s.H.length - (intOf s4).toNat)
  case atStart => exact ⟨⟨#[]⟩, 0, rfl, rfl, Nat.zero_le _, Nat.le_refl _, trivial, bl_refl _⟩
  case round =>
    rcases hrel with ⟨t, k, rfl, rfl, hk, hts, ht, Br⟩
    have xb := XB.out.below Br
    obtain ⟨cB, fB, zB⟩ := xb.out
    rcases Nat.lt_or_ge k s.H.length with hlt | hge
    · obtain ⟨b0, o0, rfl, hb0, y, hyk, hr, HC⟩ := A1.out.cellIn hlt
      have HYK := Lib.hid hyk
      clear hyk
      by_cases hk0 : k = 0
      · subst hk0
        have hcn : wr.cell? ⟨b0, o0, none⟩ = some (.int .i64 y) := by have := HC.out wr Br; rwa [Nat.add_zero] at this
        go_wp2_with fail
        refine (ldec_str y hr _).mono ?_
        rintro e w2 ⟨u, rfl, hu, hus, B2⟩
        go_wp2
        go_roundw
        case rel => exact ⟨t ++ u, 1, rfl, rfl, by omega, by rw [ByteArray.size_append]; omega, trivial, bl_call Br B2⟩
        case measure => simp only [intOf]; omega
      · have hcn := HC.out wr Br
        go_wp2_with fail
        refine (ldec_str y hr _).mono ?_
        rintro e w2 ⟨u, rfl, hu, hus, B2⟩
        go_wp2
        go_roundw
        case rel => exact ⟨t ++ ⟨#[32]⟩ ++ u, k + 1, rfl, by simp, by omega, by rw [ByteArray.size_append, ByteArray.size_append]; have : (⟨#[32]⟩ : ByteArray).size = 1 := rfl; omega, trivial, bl_call Br B2⟩
        case measure => simp only [intOf, Int.toNat_natCast]; omega
    · obtain rfl : k = s.H.length := by omega
      clear hge hk
      by_cases hp0 : s.P.length = 0
      · go_wp2
        go_ret
        exact ⟨_, rfl, by omega, Br⟩
      · have HPP := Lib.hid (show 0 < s.P.length by omega)
        have qp : ((s.P.length : Int) == 0) = false := beq_eq_false_iff_ne.2 (by omega)
        clear hp0
        by_cases hh0 : s.H.length = 0
        · obtain ⟨t0, ht0, hs2⟩ : ∃ t0 : ByteArray, Hid (t0 = ⟨#[40]⟩) ∧ t0.size ≤ 44010 := ⟨⟨#[40]⟩, Lib.hid rfl, by decide⟩
          have qh : ((s.H.length : Int) == 0) = true := beq_iff_eq.2 (by omega)
          clear hh0
          go_wp2
          rw [← ht0.out]
          have HS0 := Lib.hid hs2
          clear hs2
          go_loopw [3, 5] (fun s3 s5 wr => ∃ (t : ByteArray) (k : Nat), s3 = .string t ∧ s5 = .int .i64 k ∧ k ≤ s.P.length ∧ t.size ≤ 44010 + 44 * k ∧ True ∧ Bl w wr) (fun _ s5 _ => s.P.length - (intOf s5).toNat)
          case atStart => exact ⟨t0, 0, rfl, rfl, Nat.zero_le _, HS0.out, trivial, Br⟩
          case round =>
            rcases hrel with ⟨t2, k, rfl, rfl, hk, hts, ht, Bq⟩
            clear cB fB zB xb
            have xc := XB.out.below Bq
            obtain ⟨cB, fB, zB⟩ := xc.out
            rcases Nat.lt_or_ge k s.P.length with hlt | hge
            · have hltg : k < s.G.length := by have := HGP.out; omega
              obtain ⟨b0, o0, rfl, hb0, y, hyk, hr, HC⟩ := A2.out.cellIn hlt
              obtain ⟨b1, o1, rfl, hb1, z, hzk, hrz, HCz⟩ := A3.out.cellIn hltg
              have HYK := Lib.hid hyk
              have HZK := Lib.hid hzk
              clear hyk hzk
              by_cases hk0 : k = 0
              · have HK0 := Lib.hid hk0
                subst hk0
                by_cases hz : 0 < z
                · have HZ := Lib.hid hz
                  have hcn : wr.cell? ⟨b0, o0, none⟩ = some (.int .i64 y) := by have := HC.out wr Bq; rwa [Nat.add_zero] at this
                  have hcz : wr.cell? ⟨b1, o1, none⟩ = some (.int .i64 z) := by have := HCz.out wr Bq; rwa [Nat.add_zero] at this
                  go_wp2_with fail
                  refine (ldec_str y hr _).mono ?_
                  rintro e w2 ⟨u, rfl, hu, hus, B2'⟩
                  have B2 := bl_call Bq B2'
                  clear cB fB zB hcn hcz
                  have xd := XB.out.below B2
                  obtain ⟨cB, fB, zB⟩ := xd.out
                  have hcn : w2.cell? ⟨b0, o0, none⟩ = some (.int .i64 y) := by have := HC.out w2 B2; rwa [Nat.add_zero] at this
                  have hcz : w2.cell? ⟨b1, o1, none⟩ = some (.int .i64 z) := by have := HCz.out w2 B2; rwa [Nat.add_zero] at this
                  go_wp2_with fail
                  refine (ldec_str z hrz _).mono ?_
                  rintro e w3 ⟨v, rfl, hv, hvs, B3'⟩
                  have B3 := bl_call B2 B3'
                  go_wp2
                  go_roundw
                  case rel => exact ⟨t2 ++ u ++ (⟨#[43]⟩ ++ v), 1, rfl, rfl, by omega, by simp only [ByteArray.size_append]; have s1 : (⟨#[32]⟩ : ByteArray).size = 1 := rfl; have s2 : (⟨#[43]⟩ : ByteArray).size = 1 := rfl; omega, trivial, B3⟩
                  case measure => simp only [intOf]; omega
                · have HZ := Lib.hid hz
                  have hcn : wr.cell? ⟨b0, o0, none⟩ = some (.int .i64 y) := by have := HC.out wr Bq; rwa [Nat.add_zero] at this
                  have hcz : wr.cell? ⟨b1, o1, none⟩ = some (.int .i64 z) := by have := HCz.out wr Bq; rwa [Nat.add_zero] at this
                  go_wp2_with fail
                  refine (ldec_str y hr _).mono ?_
                  rintro e w2 ⟨u, rfl, hu, hus, B2'⟩
                  have B2 := bl_call Bq B2'
                  clear cB fB zB hcn hcz
                  have xd := XB.out.below B2
                  obtain ⟨cB, fB, zB⟩ := xd.out
                  have hcn : w2.cell? ⟨b0, o0, none⟩ = some (.int .i64 y) := by have := HC.out w2 B2; rwa [Nat.add_zero] at this
                  have hcz : w2.cell? ⟨b1, o1, none⟩ = some (.int .i64 z) := by have := HCz.out w2 B2; rwa [Nat.add_zero] at this
                  go_wp2
                  go_roundw
                  case rel => exact ⟨t2 ++ u, 1, rfl, rfl, by omega, by simp only [ByteArray.size_append]; have s1 : (⟨#[32]⟩ : ByteArray).size = 1 := rfl; have s2 : (⟨#[43]⟩ : ByteArray).size = 1 := rfl; omega, trivial, B2⟩
                  case measure => simp only [intOf]; omega
              · have HK0 := Lib.hid hk0
                by_cases hz : 0 < z
                · have HZ := Lib.hid hz
                  have hcn := HC.out wr Bq
                  have hcz := HCz.out wr Bq
                  go_wp2_with fail
                  refine (ldec_str y hr _).mono ?_
                  rintro e w2 ⟨u, rfl, hu, hus, B2'⟩
                  have B2 := bl_call Bq B2'
                  clear cB fB zB hcn hcz
                  have xd := XB.out.below B2
                  obtain ⟨cB, fB, zB⟩ := xd.out
                  have hcn := HC.out w2 B2
                  have hcz := HCz.out w2 B2
                  go_wp2_with fail
                  refine (ldec_str z hrz _).mono ?_
                  rintro e w3 ⟨v, rfl, hv, hvs, B3'⟩
                  have B3 := bl_call B2 B3'
                  go_wp2
                  go_roundw
                  case rel => exact ⟨t2 ++ ⟨#[32]⟩ ++ u ++ (⟨#[43]⟩ ++ v), k + 1, rfl, by simp, by omega, by simp only [ByteArray.size_append]; have s1 : (⟨#[32]⟩ : ByteArray).size = 1 := rfl; have s2 : (⟨#[43]⟩ : ByteArray).size = 1 := rfl; omega, trivial, B3⟩
                  case measure => simp only [intOf, Int.toNat_natCast]; omega
                · have HZ := Lib.hid hz
                  have hcn := HC.out wr Bq
                  have hcz := HCz.out wr Bq
                  go_wp2_with fail
                  refine (ldec_str y hr _).mono ?_
                  rintro e w2 ⟨u, rfl, hu, hus, B2'⟩
                  have B2 := bl_call Bq B2'
                  clear cB fB zB hcn hcz
                  have xd := XB.out.below B2
                  obtain ⟨cB, fB, zB⟩ := xd.out
                  have hcn := HC.out w2 B2
                  have hcz := HCz.out w2 B2
                  go_wp2
                  go_roundw
                  case rel => exact ⟨t2 ++ ⟨#[32]⟩ ++ u, k + 1, rfl, by simp, by omega, by simp only [ByteArray.size_append]; have s1 : (⟨#[32]⟩ : ByteArray).size = 1 := rfl; have s2 : (⟨#[43]⟩ : ByteArray).size = 1 := rfl; omega, trivial, B2⟩
                  case measure => simp only [intOf, Int.toNat_natCast]; omega
            · obtain rfl : k = s.P.length := by omega
              go_wp2
              go_ret
              exact ⟨_, rfl, by rw [ByteArray.size_append]; have : (⟨#[41]⟩ : ByteArray).size = 1 := rfl; omega, Bq⟩
        · have hs2 : (t ++ ⟨#[32, 40]⟩).size ≤ 44010 := by rw [ByteArray.size_append]; have : (⟨#[32, 40]⟩ : ByteArray).size = 2 := rfl; omega
          have qh : ((s.H.length : Int) == 0) = false := beq_eq_false_iff_ne.2 (by omega)
          clear hh0
          go_wp2
          generalize (t ++ (⟨#[32, 40]⟩ : ByteArray)) = t0 at *
          have HS0 := Lib.hid hs2
          clear hs2
          go_loopw [3, 5] (fun s3 s5 wr => ∃ (t : ByteArray) (k : Nat), s3 = .string t ∧ s5 = .int .i64 k ∧ k ≤ s.P.length ∧ t.size ≤ 44010 + 44 * k ∧ True ∧ Bl w wr) (fun _ s5 _ => s.P.length - (intOf s5).toNat)
          case atStart => exact ⟨t0, 0, rfl, rfl, Nat.zero_le _, HS0.out, trivial, Br⟩
          case round =>
            rcases hrel with ⟨t2, k, rfl, rfl, hk, hts, ht, Bq⟩
            clear cB fB zB xb
            have xc := XB.out.below Bq
            obtain ⟨cB, fB, zB⟩ := xc.out
            rcases Nat.lt_or_ge k s.P.length with hlt | hge
            · have hltg : k < s.G.length := by have := HGP.out; omega
              obtain ⟨b0, o0, rfl, hb0, y, hyk, hr, HC⟩ := A2.out.cellIn hlt
              obtain ⟨b1, o1, rfl, hb1, z, hzk, hrz, HCz⟩ := A3.out.cellIn hltg
              have HYK := Lib.hid hyk
              have HZK := Lib.hid hzk
              clear hyk hzk
              by_cases hk0 : k = 0
              · have HK0 := Lib.hid hk0
                subst hk0
                by_cases hz : 0 < z
                · have HZ := Lib.hid hz
                  have hcn : wr.cell? ⟨b0, o0, none⟩ = some (.int .i64 y) := by have := HC.out wr Bq; rwa [Nat.add_zero] at this
                  have hcz : wr.cell? ⟨b1, o1, none⟩ = some (.int .i64 z) := by have := HCz.out wr Bq; rwa [Nat.add_zero] at this
                  go_wp2_with fail
                  refine (ldec_str y hr _).mono ?_
                  rintro e w2 ⟨u, rfl, hu, hus, B2'⟩
                  have B2 := bl_call Bq B2'
                  clear cB fB zB hcn hcz
                  have xd := XB.out.below B2
                  obtain ⟨cB, fB, zB⟩ := xd.out
                  have hcn : w2.cell? ⟨b0, o0, none⟩ = some (.int .i64 y) := by have := HC.out w2 B2; rwa [Nat.add_zero] at this
                  have hcz : w2.cell? ⟨b1, o1, none⟩ = some (.int .i64 z) := by have := HCz.out w2 B2; rwa [Nat.add_zero] at this
                  go_wp2_with fail
                  refine (ldec_str z hrz _).mono ?_
                  rintro e w3 ⟨v, rfl, hv, hvs, B3'⟩
                  have B3 := bl_call B2 B3'
                  go_wp2
                  go_roundw
                  case rel => exact ⟨t2 ++ u ++ (⟨#[43]⟩ ++ v), 1, rfl, rfl, by omega, by simp only [ByteArray.size_append]; have s1 : (⟨#[32]⟩ : ByteArray).size = 1 := rfl; have s2 : (⟨#[43]⟩ : ByteArray).size = 1 := rfl; omega, trivial, B3⟩
                  case measure => simp only [intOf]; omega
                · have HZ := Lib.hid hz
                  have hcn : wr.cell? ⟨b0, o0, none⟩ = some (.int .i64 y) := by have := HC.out wr Bq; rwa [Nat.add_zero] at this
                  have hcz : wr.cell? ⟨b1, o1, none⟩ = some (.int .i64 z) := by have := HCz.out wr Bq; rwa [Nat.add_zero] at this
                  go_wp2_with fail
                  refine (ldec_str y hr _).mono ?_
                  rintro e w2 ⟨u, rfl, hu, hus, B2'⟩
                  have B2 := bl_call Bq B2'
                  clear cB fB zB hcn hcz
                  have xd := XB.out.below B2
                  obtain ⟨cB, fB, zB⟩ := xd.out
                  have hcn : w2.cell? ⟨b0, o0, none⟩ = some (.int .i64 y) := by have := HC.out w2 B2; rwa [Nat.add_zero] at this
                  have hcz : w2.cell? ⟨b1, o1, none⟩ = some (.int .i64 z) := by have := HCz.out w2 B2; rwa [Nat.add_zero] at this
                  go_wp2
                  go_roundw
                  case rel => exact ⟨t2 ++ u, 1, rfl, rfl, by omega, by simp only [ByteArray.size_append]; have s1 : (⟨#[32]⟩ : ByteArray).size = 1 := rfl; have s2 : (⟨#[43]⟩ : ByteArray).size = 1 := rfl; omega, trivial, B2⟩
                  case measure => simp only [intOf]; omega
              · have HK0 := Lib.hid hk0
                by_cases hz : 0 < z
                · have HZ := Lib.hid hz
                  have hcn := HC.out wr Bq
                  have hcz := HCz.out wr Bq
                  go_wp2_with fail
                  refine (ldec_str y hr _).mono ?_
                  rintro e w2 ⟨u, rfl, hu, hus, B2'⟩
                  have B2 := bl_call Bq B2'
                  clear cB fB zB hcn hcz
                  have xd := XB.out.below B2
                  obtain ⟨cB, fB, zB⟩ := xd.out
                  have hcn := HC.out w2 B2
                  have hcz := HCz.out w2 B2
                  go_wp2_with fail
                  refine (ldec_str z hrz _).mono ?_
                  rintro e w3 ⟨v, rfl, hv, hvs, B3'⟩
                  have B3 := bl_call B2 B3'
                  go_wp2
                  go_roundw
                  case rel => exact ⟨t2 ++ ⟨#[32]⟩ ++ u ++ (⟨#[43]⟩ ++ v), k + 1, rfl, by simp, by omega, by simp only [ByteArray.size_append]; have s1 : (⟨#[32]⟩ : ByteArray).size = 1 := rfl; have s2 : (⟨#[43]⟩ : ByteArray).size = 1 := rfl; omega, trivial, B3⟩
                  case measure => simp only [intOf, Int.toNat_natCast]; omega
                · have HZ := Lib.hid hz
                  have hcn := HC.out wr Bq
                  have hcz := HCz.out wr Bq
                  go_wp2_with fail
                  refine (ldec_str y hr _).mono ?_
                  rintro e w2 ⟨u, rfl, hu, hus, B2'⟩
                  have B2 := bl_call Bq B2'
                  clear cB fB zB hcn hcz
                  have xd := XB.out.below B2
                  obtain ⟨cB, fB, zB⟩ := xd.out
                  have hcn := HC.out w2 B2
                  have hcz := HCz.out w2 B2
                  go_wp2
                  go_roundw
                  case rel => exact ⟨t2 ++ ⟨#[32]⟩ ++ u, k + 1, rfl, by simp, by omega, by simp only [ByteArray.size_append]; have s1 : (⟨#[32]⟩ : ByteArray).size = 1 := rfl; have s2 : (⟨#[43]⟩ : ByteArray).size = 1 := rfl; omega, trivial, B2⟩
                  case measure => simp only [intOf, Int.toNat_natCast]; omega
            · obtain rfl : k = s.P.length := by omega
              go_wp2
              go_ret
              exact ⟨_, rfl, by rw [ByteArray.size_append]; have : (⟨#[41]⟩ : ByteArray).size = 1 := rfl; omega, Bq⟩

end Go.Proofs.YtndblondleclpaaGreatDoor

/- Draws of texts. Each theorem names its conditions. -/
namespace Go.Proofs.YtndblondleclpaaGreatDoor
open Go.RowKit
set_option linter.unusedVariables false
set_option linter.unusedSimpArgs false

set_option maxRecDepth 100000 in
set_option maxHeartbeats 6400000 in
theorem stext_draw {w0 w : World} {p N b n : Nat} {cs : Array Value} (h : SrcD w0 w p N) (hN : N ≤ 900000000) (hx : Bx w b cs) (hb : b ≠ p) (h0 : 0 < n) (hn : n ≤ 1000000) (hc : ∀ i < n, ∃ T : ByteArray, cs[i]? = some (.string T) ∧ T.size ≤ 64) :
    Calls Tryz.prog 68 #[.pointer (some ⟨p, 0, none⟩), .slice (some ⟨b, 0, none⟩) n n] w fun e w' => ∃ T : ByteArray, e = .returned (.string T) ∧ T.size ≤ 64 ∧ SrcD w0 w' p (N + 2) ∧ Upd w w' p := by
  go_enter Tryz.func68, Tryz.ntmps68
  go_wp2_with fail
  refine (dpick_any h hN (by omega)).mono ?_
  rintro e w1 ⟨r, rfl, r0, r1, hS1, hU1⟩
  have x1 := hx.upd hU1 hb
  obtain ⟨k, rfl⟩ := Int.eq_ofNat_of_zero_le r0
  have hk : k < n := by omega
  obtain ⟨x, hcx, hr⟩ := hc k hk
  have c1 : w1.cell? ⟨b, 0 + k, none⟩ = some (.string x) := by rw [Nat.zero_add, x1.out.1, hcx]
  have c2 : w1.cell? ⟨b, k, none⟩ = some (.string x) := by rw [x1.out.1, hcx]
  clear hcx hc
  go_wp2
  go_ret
  exact ⟨x, rfl, hr, hS1, hU1⟩
set_option maxRecDepth 100000 in
set_option maxHeartbeats 6400000 in
theorem sspoil_any {w0 w : World} {p N : Nat} {s : ByteArray} (h0 : SrcD w0 w p N) (hN : N ≤ 400000000) (hs : s.size ≤ 1000000) :
    Calls Tryz.prog 67 #[.pointer (some ⟨p, 0, none⟩), .string s] w fun e w' => ∃ T : ByteArray, e = .returned (.string T) ∧ T.size ≤ s.size + 64 ∧ SrcD w0 w' p (N + 10) ∧ Upd w w' p := by
  go_enter Tryz.func67, Tryz.ntmps67
  go_wp2_with fail
  refine (dpick_any h0 (by omega) (by omega)).mono ?_
  rintro e w1 ⟨x, rfl, x0, x1, hS1, hU1⟩
  by_cases c0 : x = 0
  · subst c0
    go_wp2_with fail
    refine (dpick_any hS1 (by omega) (by omega)).mono ?_
    rintro e w3 ⟨r, rfl, r0, r1, hS3, hU3⟩
    have U3 := upd_trans hU1 hU3
    obtain ⟨k, rfl⟩ := Int.eq_ofNat_of_zero_le r0
    have hk : k ≤ s.size := by omega
    have hki : (k : Int) ≤ (s.size : Int) := by omega
    go_wp2_with fail
    go_region_with ((go_simp; go_at_call 68; go_must (refine (stext_draw (b := w3.heap.size) (cs := #[.string ⟨#[32]⟩, .string ⟨#[48]⟩, .string ⟨#[45]⟩, .string ⟨#[120]⟩, .string ⟨#[49]⟩, .string ⟨#[57]⟩, .string ⟨#[46]⟩]) ((hS3.below (bl_drew (bl_refl w3))).below (bl_alloc (bl_refl _) (.cells #[.string ⟨#[32]⟩, .string ⟨#[48]⟩, .string ⟨#[45]⟩, .string ⟨#[120]⟩, .string ⟨#[49]⟩, .string ⟨#[57]⟩, .string ⟨#[46]⟩] 9))) (by omega) (Bx.new (b := w3.heap.size) _ _ _ rfl) (by have := hS3.out.2.1; omega) (by omega) (by omega) (fun i hi => by rcases (show i = 0 ∨ i = 1 ∨ i = 2 ∨ i = 3 ∨ i = 4 ∨ i = 5 ∨ i = 6 by omega) with rfl | rfl | rfl | rfl | rfl | rfl | rfl <;> exact ⟨_, rfl, by decide⟩)).mono ?_; rintro e w8 ⟨T, rfl, hT, hS8, hU8⟩; have U8 := upd_trans U3 (upd_trans (upd_bl (upd_bl (upd_refl _ _) (bl_drew (bl_refl w3))) (bl_alloc (bl_refl _) (.cells #[.string ⟨#[32]⟩, .string ⟨#[48]⟩, .string ⟨#[45]⟩, .string ⟨#[120]⟩, .string ⟨#[49]⟩, .string ⟨#[57]⟩, .string ⟨#[46]⟩] 9))) hU8))))
    all_goals
      go_wp2
      go_ret
      exact ⟨_, rfl, by simp only [ByteArray.size_append, ByteArray.size_extract]; omega, hS8.more (by omega), U8⟩
  · have e0 : (x == 0) = false := by simp [c0]
    by_cases c1 : x = 1
    · subst c1
      by_cases hz : s.size = 0
      · have hem := (empty_yes hz).1
        go_wp2
        go_ret
        exact ⟨_, rfl, by omega, hS1.more (by omega), hU1⟩
      · have hem := empty_no (s := s) (by omega)
        go_wp2_with fail
        refine (dpick_any hS1 (by omega) (by omega)).mono ?_
        rintro e w3 ⟨r, rfl, r0, r1, hS3, hU3⟩
        have U3 := upd_trans hU1 hU3
        obtain ⟨k, rfl⟩ := Int.eq_ofNat_of_zero_le r0
        have hk : k < s.size := by omega
        have hki : (k : Int) < (s.size : Int) := by omega
        have hw1 : IntKind.i64.wrap ((k : Int) + 1) = ((k + 1 : Nat) : Int) := by rw [IntKind.wrap_i64]; omega
        go_wp2_with fail
        go_region
        all_goals
          go_wp2
          go_ret
          exact ⟨_, rfl, by simp only [ByteArray.size_append, ByteArray.size_extract]; omega, (hS3.below (bl_drew (bl_refl _))).more (by omega), upd_bl U3 (bl_drew (bl_refl _))⟩
    · have e1 : (x == 1) = false := by simp [c1]
      go_wp2
      go_ret
      exact ⟨_, rfl, by omega, hS1.more (by omega), hU1⟩
set_option maxRecDepth 100000 in
set_option maxHeartbeats 6400000 in
theorem drdsrc_any {w : World} {v : Value} {bs : List Int} (h : SlB w v bs) (hl : bs.length ≤ 4096) :
    Calls Tryz.prog 18 #[v] w fun e w' => ∃ T : ByteArray, e = .returned (.string T) ∧ T.size ≤ 1048576 ∧ Bl w w' := by
  obtain ⟨av, cv, rfl, hcv⟩ := h.form
  have HS := Lib.hid h
  clear h
  go_enter Tryz.func18, Tryz.ntmps18
  go_wp2_with fail
  refine (dfrom_any HS.out (by omega)).mono ?_
  rintro e w1 ⟨p, rfl, hD, hb1⟩
  have hp := hD.out
  go_wp2_with fail
  refine (sdraw15_any hD (by omega)).mono ?_
  rintro e w2 ⟨h, pp, g, s, rfl, hO, hL, hS2, hU2⟩
  obtain ⟨⟨b1, m1, k1, rfl⟩, ⟨b2, m2, k2, rfl⟩, ⟨b3, m3, k3, rfl⟩⟩ := hO.shape
  have B2 := bl_of_upd hb1 hU2 (by omega)
  go_wp2_with fail
  have xX3 : Bx (w2.alloc (.cells #[.slice b1 m1 k1, .slice b2 m2 k2, .slice b3 m3 k3] 26)) w2.heap.size #[.slice b1 m1 k1, .slice b2 m2 k2, .slice b3 m3 k3] := Bx.new (b := w2.heap.size) _ _ _ rfl
  have S3 := hS2.below (bl_alloc (bl_refl w2) (.cells #[.slice b1 m1 k1, .slice b2 m2 k2, .slice b3 m3 k3] 26))
  have O3 := hO.below (bl_alloc (bl_refl w2) (.cells #[.slice b1 m1 k1, .slice b2 m2 k2, .slice b3 m3 k3] 26))
  have B3 : Bl w (w2.alloc (.cells #[.slice b1 m1 k1, .slice b2 m2 k2, .slice b3 m3 k3] 26)) := bl_alloc B2 _
  generalize w2.alloc (.cells #[.slice b1 m1 k1, .slice b2 m2 k2, .slice b3 m3 k3] 26) = w3 at *
  refine (ltx_any _ _ _ s w3 w2.heap.size O3.sl xX3 hL).mono ?_
  rintro e w4 ⟨T, rfl, hT, hb4⟩
  have S4 := S3.below hb4
  have B4 := bl_call B3 hb4
  clear S3 B3 O3 xX3 hO hL hS2 B2 hU2
  go_wp2_with fail
  refine (done_any S4 (by omega) (by omega)).mono ?_
  rintro e w5 ⟨b, rfl, hS5, hU5⟩
  have B5 := bl_of_upd B4 hU5 (by omega)
  cases b with
  | true =>
    go_wp2_with fail
    refine (sspoil_any hS5 (by omega) (by omega)).mono ?_
    rintro e w6 ⟨U, rfl, hU, hS6, hU6⟩
    have B6 := bl_of_upd B5 hU6 (by omega)
    go_wp2
    go_ret
    exact ⟨_, rfl, by omega, B6⟩
  | false =>
    go_wp2_with fail
    refine (done_any hS5 (by omega) (by omega)).mono ?_
    rintro e w6 ⟨b, rfl, hS6, hU6⟩
    have B6 := bl_of_upd B5 hU6 (by omega)
    cases b with
    | true =>
      go_wp2_with fail
      refine (stext_draw (b := w6.heap.size) (cs := #[.string ⟨#[]⟩, .string ⟨#[40]⟩, .string ⟨#[41]⟩, .string ⟨#[40, 41]⟩, .string ⟨#[49, 32, 40, 50]⟩, .string ⟨#[49, 32, 50, 41]⟩, .string ⟨#[49, 43, 50]⟩, .string ⟨#[40, 49, 43, 48, 41]⟩, .string ⟨#[40, 49, 32, 50, 41, 32, 51]⟩, .string ⟨#[40, 40, 49, 41]⟩, .string ⟨#[49, 32, 32, 50]⟩, .string ⟨#[40, 45, 49, 41]⟩]) (hS6.below (bl_alloc (bl_refl _) (.cells #[.string ⟨#[]⟩, .string ⟨#[40]⟩, .string ⟨#[41]⟩, .string ⟨#[40, 41]⟩, .string ⟨#[49, 32, 40, 50]⟩, .string ⟨#[49, 32, 50, 41]⟩, .string ⟨#[49, 43, 50]⟩, .string ⟨#[40, 49, 43, 48, 41]⟩, .string ⟨#[40, 49, 32, 50, 41, 32, 51]⟩, .string ⟨#[40, 40, 49, 41]⟩, .string ⟨#[49, 32, 32, 50]⟩, .string ⟨#[40, 45, 49, 41]⟩] 9))) (by omega) (Bx.new (b := w6.heap.size) _ _ _ rfl) (by have := hS6.out.2.1; omega) (by omega) (by omega) (fun i hi => by rcases (show i = 0 ∨ i = 1 ∨ i = 2 ∨ i = 3 ∨ i = 4 ∨ i = 5 ∨ i = 6 ∨ i = 7 ∨ i = 8 ∨ i = 9 ∨ i = 10 ∨ i = 11 by omega) with rfl | rfl | rfl | rfl | rfl | rfl | rfl | rfl | rfl | rfl | rfl | rfl <;> exact ⟨_, rfl, by decide⟩)).mono ?_
      rintro e w7 ⟨U, rfl, hU, hS7, hU7⟩
      have B7 := bl_of_upd (bl_alloc B6 _) hU7 (by omega)
      go_wp2
      go_ret
      exact ⟨_, rfl, by omega, B7⟩
    | false =>
      go_wp2
      go_ret
      exact ⟨_, rfl, by omega, B6⟩

end Go.Proofs.YtndblondleclpaaGreatDoor

