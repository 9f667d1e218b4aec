/- Some of the texts of this claim, joined in one file: StS, LtX, StI. -/
import Derived.Test.YtndblondleclpaaGreatDoorMA1
import Derived.Test.YtndblondleclpaaGreatDoorMA2
import Derived.Test.YtndblondleclpaaGreatDoorSrcS
import Derived.Test.YtndblondleclpaaGreatDoorSrcI
import Derived.Test.YtndblondleclpaaGreatDoorMA3
/- The reference's text of a source. Each theorem names its conditions. -/
namespace Go.Proofs.YtndblondleclpaaGreatDoor
open Go.RowKit
set_option linter.unusedVariables false
set_option linter.unusedSimpArgs false

theorem bap (x y : ByteArray) : (x ++ y).data.toList = x.data.toList ++ y.data.toList := by rw [ByteArray.data_append]; simp
theorem bsz (x : ByteArray) : x.size = x.data.toList.length := Lib.size_eq x
theorem str_of {x : ByteArray} {l : List UInt8} (h : x.data.toList = l) : x = ⟨l.toArray⟩ := by rw [← h]
theorem ldec_str (n : Int) (hn : R64 n) (w : World) :
    Calls Tryz.prog 120 #[.int .i64 n] w fun e w' => ∃ u : ByteArray, e = .returned (.string u) ∧ Hid (u.data.toList = Lib.itoa n) ∧ u.size ≤ 21 ∧ Bl w w' := by
  refine (ldec_any n hn w).mono ?_
  rintro e w' ⟨rfl, hb⟩
  exact ⟨_, rfl, Lib.hid (by simp), by rw [bsz]; simpa using Lib.itoa_length_le n hn.1 hn.2, hb⟩

set_option maxRecDepth 100000 in
set_option maxHeartbeats 6400000 in
theorem stx_any (h p g : Value) (s : Src) (w : World) (x : Nat) (ha : SlS w h p g s) (hx : Bx w x #[h, p, g]) (hv : VS s.H s.P s.G) :
    Calls Tryz.prog 65 #[.pointer (some ⟨x, 0, none⟩)] w fun e w' => e = .returned (.string ⟨(stext s.H s.P s.G).toArray⟩) ∧ Bl w w' := by
  obtain ⟨a1, a2, a3⟩ := ha
  have l1 := hv.h30
  have l2 := hv.p30
  have hgp := hv.gp
  obtain ⟨ah, ch, rfl, hch⟩ := a1.form
  obtain ⟨ap, cp, rfl, hcp⟩ := a2.form
  obtain ⟨ag, cg, rfl, hcg⟩ := a3.form
  have A1 := Lib.hid a1
  have A2 := Lib.hid a2
  have A3 := Lib.hid a3
  have HV := Lib.hid hv
  have HGP := Lib.hid hgp
  clear a1 a2 a3 hv hgp
  have XB := Lib.hid hx
  clear hx
  go_enter Tryz.func65, Tryz.ntmps65
  go_wp2
  go_loopw [3, 4] (fun s3 s4 wr => ∃ (t : ByteArray) (k : Nat), s3 = .string t ∧ s4 = .int .i64 k ∧ k ≤ s.H.length ∧ t.size ≤ 22 * k ∧ Hid (t.data.toList = Lib.join (hws s.H k) [32]) ∧ Bl w wr) (fun _ s4 _ => s.H.length - (intOf s4).toNat)
  case atStart => exact ⟨⟨#[]⟩, 0, rfl, rfl, Nat.zero_le _, Nat.le_refl _, Lib.hid (by simp [hws, join_nil]), bl_refl _⟩
  case round =>
    rcases hrel with ⟨t, k, rfl, rfl, hk, hts, ht, Br⟩
    have xb := XB.out.below Br
    obtain ⟨cB, fB, zB⟩ := xb.out
    rcases Nat.lt_or_ge k s.H.length with hlt | hge
    · obtain ⟨b0, o0, rfl, hb0, y, hyk, hr, HC⟩ := A1.out.cellIn hlt
      have HYK := Lib.hid hyk
      clear hyk
      by_cases hk0 : k = 0
      · subst hk0
        have hcn : wr.cell? ⟨b0, o0, none⟩ = some (.int .i64 y) := by have := HC.out wr Br; rwa [Nat.add_zero] at this
        go_wp2_with fail
        refine (ldec_str y hr _).mono ?_
        rintro e w2 ⟨u, rfl, hu, hus, B2⟩
        go_wp2
        go_roundw
        case rel => exact ⟨t ++ u, 1, rfl, rfl, by omega, by rw [ByteArray.size_append]; omega, Lib.hid (by rw [bap, hu.out, ht.out, hws_succ HYK.out]; simp [hws, join_nil, join_one]), bl_call Br B2⟩
        case measure => simp only [intOf]; omega
      · have hcn := HC.out wr Br
        go_wp2_with fail
        refine (ldec_str y hr _).mono ?_
        rintro e w2 ⟨u, rfl, hu, hus, B2⟩
        go_wp2
        go_roundw
        case rel => exact ⟨t ++ ⟨#[32]⟩ ++ u, k + 1, rfl, by simp, by omega, by rw [ByteArray.size_append, ByteArray.size_append]; have : (⟨#[32]⟩ : ByteArray).size = 1 := rfl; omega, Lib.hid (by rw [bap, bap, hu.out, ht.out, hws_succ HYK.out, join_snoc, if_neg (fun q => hk0 (by have := congrArg List.length q; rw [hws_len hk] at this; exact this))]; simp), bl_call Br B2⟩
        case measure => simp only [intOf, Int.toNat_natCast]; omega
    · obtain rfl : k = s.H.length := by omega
      have HT := Lib.hid (show t.data.toList = Lib.join (s.H.map Lib.itoa) [32] by rw [ht.out, hws_all])
      clear ht hge hk
      by_cases hp0 : s.P.length = 0
      · have HX := Lib.hid (show t = ⟨(stext s.H s.P s.G).toArray⟩ from str_of (by rw [HT.out, List.eq_nil_of_length_eq_zero hp0, stext_none]))
        go_wp2
        go_ret
        exact ⟨by rw [← HX.out]; rfl, Br⟩
      · have HPP := Lib.hid (show 0 < s.P.length by omega)
        have qp : ((s.P.length : Int) == 0) = false := beq_eq_false_iff_ne.2 (by omega)
        clear hp0
        by_cases hh0 : s.H.length = 0
        · obtain ⟨t0, ht0, HT2, hs2⟩ : ∃ t0 : ByteArray, Hid (t0 = ⟨#[40]⟩) ∧ Hid (t0.data.toList = sbase s.H ++ Lib.join (cws s.P s.G 0) [32]) ∧ t0.size ≤ 700 :=
            ⟨⟨#[40]⟩, Lib.hid rfl, Lib.hid (by rw [sbase, if_pos (List.eq_nil_of_length_eq_zero hh0)]; simp [cws, join_nil]), by decide⟩
          have qh : ((s.H.length : Int) == 0) = true := beq_iff_eq.2 (by omega)
          clear hh0
          go_wp2
          rw [← ht0.out]
          have HS0 := Lib.hid hs2
          clear hs2 HT
          go_loopw [3, 5] (fun s3 s5 wr => ∃ (t : ByteArray) (k : Nat), s3 = .string t ∧ s5 = .int .i64 k ∧ k ≤ s.P.length ∧ t.size ≤ 700 + 44 * k ∧ Hid (t.data.toList = sbase s.H ++ Lib.join (cws s.P s.G k) [32]) ∧ Bl w wr) (fun _ s5 _ => s.P.length - (intOf s5).toNat)
          case atStart => exact ⟨t0, 0, rfl, rfl, Nat.zero_le _, HS0.out, HT2, Br⟩
          case round =>
            rcases hrel with ⟨t2, k, rfl, rfl, hk, hts, ht, Bq⟩
            clear cB fB zB xb
            have xc := XB.out.below Bq
            obtain ⟨cB, fB, zB⟩ := xc.out
            rcases Nat.lt_or_ge k s.P.length with hlt | hge
            · have hltg : k < s.G.length := by rw [HGP.out]; exact hlt
              obtain ⟨b0, o0, rfl, hb0, y, hyk, hr, HC⟩ := A2.out.cellIn hlt
              obtain ⟨b1, o1, rfl, hb1, z, hzk, hrz, HCz⟩ := A3.out.cellIn hltg
              have HYK := Lib.hid hyk
              have HZK := Lib.hid hzk
              have hz0 := (HV.out.gr k z hzk).1
              clear hyk hzk
              by_cases hk0 : k = 0
              · have HK0 := Lib.hid hk0
                subst hk0
                by_cases hz : 0 < z
                · have HZ := Lib.hid hz
                  have hcn : wr.cell? ⟨b0, o0, none⟩ = some (.int .i64 y) := by have := HC.out wr Bq; rwa [Nat.add_zero] at this
                  have hcz : wr.cell? ⟨b1, o1, none⟩ = some (.int .i64 z) := by have := HCz.out wr Bq; rwa [Nat.add_zero] at this
                  go_wp2_with fail
                  refine (ldec_str y hr _).mono ?_
                  rintro e w2 ⟨u, rfl, hu, hus, B2'⟩
                  have B2 := bl_call Bq B2'
                  clear cB fB zB hcn hcz
                  have xd := XB.out.below B2
                  obtain ⟨cB, fB, zB⟩ := xd.out
                  have hcn : w2.cell? ⟨b0, o0, none⟩ = some (.int .i64 y) := by have := HC.out w2 B2; rwa [Nat.add_zero] at this
                  have hcz : w2.cell? ⟨b1, o1, none⟩ = some (.int .i64 z) := by have := HCz.out w2 B2; rwa [Nat.add_zero] at this
                  go_wp2_with fail
                  refine (ldec_str z hrz _).mono ?_
                  rintro e w3 ⟨v, rfl, hv, hvs, B3'⟩
                  have B3 := bl_call B2 B3'
                  go_wp2
                  go_roundw
                  case rel => exact ⟨t2 ++ u ++ (⟨#[43]⟩ ++ v), 1, rfl, rfl, by omega, by simp only [ByteArray.size_append]; have s1 : (⟨#[32]⟩ : ByteArray).size = 1 := rfl; have s2 : (⟨#[43]⟩ : ByteArray).size = 1 := rfl; omega, Lib.hid (by simp only [bap, hu.out, hv.out, ht.out]; rw [cws_succ HYK.out HZK.out, join_snoc, if_pos (by simp [cws]), core, gw, if_neg (by have := HZ.out; omega)]; simp [cws, join_nil]), B3⟩
                  case measure => simp only [intOf]; omega
                · have HZ := Lib.hid hz
                  have hcn : wr.cell? ⟨b0, o0, none⟩ = some (.int .i64 y) := by have := HC.out wr Bq; rwa [Nat.add_zero] at this
                  have hcz : wr.cell? ⟨b1, o1, none⟩ = some (.int .i64 z) := by have := HCz.out wr Bq; rwa [Nat.add_zero] at this
                  go_wp2_with fail
                  refine (ldec_str y hr _).mono ?_
                  rintro e w2 ⟨u, rfl, hu, hus, B2'⟩
                  have B2 := bl_call Bq B2'
                  clear cB fB zB hcn hcz
                  have xd := XB.out.below B2
                  obtain ⟨cB, fB, zB⟩ := xd.out
                  have hcn : w2.cell? ⟨b0, o0, none⟩ = some (.int .i64 y) := by have := HC.out w2 B2; rwa [Nat.add_zero] at this
                  have hcz : w2.cell? ⟨b1, o1, none⟩ = some (.int .i64 z) := by have := HCz.out w2 B2; rwa [Nat.add_zero] at this
                  go_wp2
                  go_roundw
                  case rel => exact ⟨t2 ++ u, 1, rfl, rfl, by omega, by simp only [ByteArray.size_append]; have s1 : (⟨#[32]⟩ : ByteArray).size = 1 := rfl; have s2 : (⟨#[43]⟩ : ByteArray).size = 1 := rfl; omega, Lib.hid (by simp only [bap, hu.out, ht.out]; rw [cws_succ HYK.out HZK.out, join_snoc, if_pos (by simp [cws]), core, gw, if_pos (by have := HZ.out; omega)]; simp [cws, join_nil]), B2⟩
                  case measure => simp only [intOf]; omega
              · have HK0 := Lib.hid hk0
                by_cases hz : 0 < z
                · have HZ := Lib.hid hz
                  have hcn := HC.out wr Bq
                  have hcz := HCz.out wr Bq
                  go_wp2_with fail
                  refine (ldec_str y hr _).mono ?_
                  rintro e w2 ⟨u, rfl, hu, hus, B2'⟩
                  have B2 := bl_call Bq B2'
                  clear cB fB zB hcn hcz
                  have xd := XB.out.below B2
                  obtain ⟨cB, fB, zB⟩ := xd.out
                  have hcn := HC.out w2 B2
                  have hcz := HCz.out w2 B2
                  go_wp2_with fail
                  refine (ldec_str z hrz _).mono ?_
                  rintro e w3 ⟨v, rfl, hv, hvs, B3'⟩
                  have B3 := bl_call B2 B3'
                  go_wp2
                  go_roundw
                  case rel => exact ⟨t2 ++ ⟨#[32]⟩ ++ u ++ (⟨#[43]⟩ ++ v), k + 1, rfl, by simp, by omega, by simp only [ByteArray.size_append]; have s1 : (⟨#[32]⟩ : ByteArray).size = 1 := rfl; have s2 : (⟨#[43]⟩ : ByteArray).size = 1 := rfl; omega, Lib.hid (by simp only [bap, hu.out, hv.out, ht.out]; rw [cws_succ HYK.out HZK.out, join_snoc, if_neg (fun q => HK0.out (by have := congrArg List.length q; rw [cws_len] at this; exact this)), core, gw, if_neg (by have := HZ.out; omega)]; simp [cws, join_nil]), B3⟩
                  case measure => simp only [intOf, Int.toNat_natCast]; omega
                · have HZ := Lib.hid hz
                  have hcn := HC.out wr Bq
                  have hcz := HCz.out wr Bq
                  go_wp2_with fail
                  refine (ldec_str y hr _).mono ?_
                  rintro e w2 ⟨u, rfl, hu, hus, B2'⟩
                  have B2 := bl_call Bq B2'
                  clear cB fB zB hcn hcz
                  have xd := XB.out.below B2
                  obtain ⟨cB, fB, zB⟩ := xd.out
                  have hcn := HC.out w2 B2
                  have hcz := HCz.out w2 B2
                  go_wp2
                  go_roundw
                  case rel => exact ⟨t2 ++ ⟨#[32]⟩ ++ u, k + 1, rfl, by simp, by omega, by simp only [ByteArray.size_append]; have s1 : (⟨#[32]⟩ : ByteArray).size = 1 := rfl; have s2 : (⟨#[43]⟩ : ByteArray).size = 1 := rfl; omega, Lib.hid (by simp only [bap, hu.out, ht.out]; rw [cws_succ HYK.out HZK.out, join_snoc, if_neg (fun q => HK0.out (by have := congrArg List.length q; rw [cws_len] at this; exact this)), core, gw, if_pos (by have := HZ.out; omega)]; simp [cws, join_nil]), B2⟩
                  case measure => simp only [intOf, Int.toNat_natCast]; omega
            · obtain rfl : k = s.P.length := by omega
              have HX := Lib.hid (show t2 ++ ⟨#[41]⟩ = ⟨(stext s.H s.P s.G).toArray⟩ from str_of (by rw [bap, ht.out, stext_some HPP.out]))
              go_wp2
              go_ret
              exact ⟨by rw [← HX.out]; rfl, Bq⟩
        · have HT2 := Lib.hid (show (t ++ ⟨#[32, 40]⟩).data.toList = sbase s.H ++ Lib.join (cws s.P s.G 0) [32] by rw [bap, HT.out, sbase, if_neg (fun q => hh0 (by rw [q]; rfl))]; simp [cws, join_nil])
          have hs2 : (t ++ ⟨#[32, 40]⟩).size ≤ 700 := by rw [ByteArray.size_append]; have : (⟨#[32, 40]⟩ : ByteArray).size = 2 := rfl; omega
          have qh : ((s.H.length : Int) == 0) = false := beq_eq_false_iff_ne.2 (by omega)
          clear hh0
          go_wp2
          generalize (t ++ (⟨#[32, 40]⟩ : ByteArray)) = t0 at *
          have HS0 := Lib.hid hs2
          clear hs2 HT
          go_loopw [3, 5] (fun s3 s5 wr => ∃ (t : ByteArray) (k : Nat), s3 = .string t ∧ s5 = .int .i64 k ∧ k ≤ s.P.length ∧ t.size ≤ 700 + 44 * k ∧ Hid (t.data.toList = sbase s.H ++ Lib.join (cws s.P s.G k) [32]) ∧ Bl w wr) (fun _ s5 _ => s.P.length - (intOf s5).toNat)
          case atStart => exact ⟨t0, 0, rfl, rfl, Nat.zero_le _, HS0.out, HT2, Br⟩
          case round =>
            rcases hrel with ⟨t2, k, rfl, rfl, hk, hts, ht, Bq⟩
            clear cB fB zB xb
            have xc := XB.out.below Bq
            obtain ⟨cB, fB, zB⟩ := xc.out
            rcases Nat.lt_or_ge k s.P.length with hlt | hge
            · have hltg : k < s.G.length := by rw [HGP.out]; exact hlt
              obtain ⟨b0, o0, rfl, hb0, y, hyk, hr, HC⟩ := A2.out.cellIn hlt
              obtain ⟨b1, o1, rfl, hb1, z, hzk, hrz, HCz⟩ := A3.out.cellIn hltg
              have HYK := Lib.hid hyk
              have HZK := Lib.hid hzk
              have hz0 := (HV.out.gr k z hzk).1
              clear hyk hzk
              by_cases hk0 : k = 0
              · have HK0 := Lib.hid hk0
                subst hk0
                by_cases hz : 0 < z
                · have HZ := Lib.hid hz
                  have hcn : wr.cell? ⟨b0, o0, none⟩ = some (.int .i64 y) := by have := HC.out wr Bq; rwa [Nat.add_zero] at this
                  have hcz : wr.cell? ⟨b1, o1, none⟩ = some (.int .i64 z) := by have := HCz.out wr Bq; rwa [Nat.add_zero] at this
                  go_wp2_with fail
                  refine (ldec_str y hr _).mono ?_
                  rintro e w2 ⟨u, rfl, hu, hus, B2'⟩
                  have B2 := bl_call Bq B2'
                  clear cB fB zB hcn hcz
                  have xd := XB.out.below B2
                  obtain ⟨cB, fB, zB⟩ := xd.out
                  have hcn : w2.cell? ⟨b0, o0, none⟩ = some (.int .i64 y) := by have := HC.out w2 B2; rwa [Nat.add_zero] at this
                  have hcz : w2.cell? ⟨b1, o1, none⟩ = some (.int .i64 z) := by have := HCz.out w2 B2; rwa [Nat.add_zero] at this
                  go_wp2_with fail
                  refine (ldec_str z hrz _).mono ?_
                  rintro e w3 ⟨v, rfl, hv, hvs, B3'⟩
                  have B3 := bl_call B2 B3'
                  go_wp2
                  go_roundw
                  case rel => exact ⟨t2 ++ u ++ (⟨#[43]⟩ ++ v), 1, rfl, rfl, by omega, by simp only [ByteArray.size_append]; have s1 : (⟨#[32]⟩ : ByteArray).size = 1 := rfl; have s2 : (⟨#[43]⟩ : ByteArray).size = 1 := rfl; omega, Lib.hid (by simp only [bap, hu.out, hv.out, ht.out]; rw [cws_succ HYK.out HZK.out, join_snoc, if_pos (by simp [cws]), core, gw, if_neg (by have := HZ.out; omega)]; simp [cws, join_nil]), B3⟩
                  case measure => simp only [intOf]; omega
                · have HZ := Lib.hid hz
                  have hcn : wr.cell? ⟨b0, o0, none⟩ = some (.int .i64 y) := by have := HC.out wr Bq; rwa [Nat.add_zero] at this
                  have hcz : wr.cell? ⟨b1, o1, none⟩ = some (.int .i64 z) := by have := HCz.out wr Bq; rwa [Nat.add_zero] at this
                  go_wp2_with fail
                  refine (ldec_str y hr _).mono ?_
                  rintro e w2 ⟨u, rfl, hu, hus, B2'⟩
                  have B2 := bl_call Bq B2'
                  clear cB fB zB hcn hcz
                  have xd := XB.out.below B2
                  obtain ⟨cB, fB, zB⟩ := xd.out
                  have hcn : w2.cell? ⟨b0, o0, none⟩ = some (.int .i64 y) := by have := HC.out w2 B2; rwa [Nat.add_zero] at this
                  have hcz : w2.cell? ⟨b1, o1, none⟩ = some (.int .i64 z) := by have := HCz.out w2 B2; rwa [Nat.add_zero] at this
                  go_wp2
                  go_roundw
                  case rel => exact ⟨t2 ++ u, 1, rfl, rfl, by omega, by simp only [ByteArray.size_append]; have s1 : (⟨#[32]⟩ : ByteArray).size = 1 := rfl; have s2 : (⟨#[43]⟩ : ByteArray).size = 1 := rfl; omega, Lib.hid (by simp only [bap, hu.out, ht.out]; rw [cws_succ HYK.out HZK.out, join_snoc, if_pos (by simp [cws]), core, gw, if_pos (by have := HZ.out; omega)]; simp [cws, join_nil]), B2⟩
                  case measure => simp only [intOf]; omega
              · have HK0 := Lib.hid hk0
                by_cases hz : 0 < z
                · have HZ := Lib.hid hz
                  have hcn := HC.out wr Bq
                  have hcz := HCz.out wr Bq
                  go_wp2_with fail
                  refine (ldec_str y hr _).mono ?_
                  rintro e w2 ⟨u, rfl, hu, hus, B2'⟩
                  have B2 := bl_call Bq B2'
                  clear cB fB zB hcn hcz
                  have xd := XB.out.below B2
                  obtain ⟨cB, fB, zB⟩ := xd.out
                  have hcn := HC.out w2 B2
                  have hcz := HCz.out w2 B2
                  go_wp2_with fail
                  refine (ldec_str z hrz _).mono ?_
                  rintro e w3 ⟨v, rfl, hv, hvs, B3'⟩
                  have B3 := bl_call B2 B3'
                  go_wp2
                  go_roundw
                  case rel => exact ⟨t2 ++ ⟨#[32]⟩ ++ u ++ (⟨#[43]⟩ ++ v), k + 1, rfl, by simp, by omega, by simp only [ByteArray.size_append]; have s1 : (⟨#[32]⟩ : ByteArray).size = 1 := rfl; have s2 : (⟨#[43]⟩ : ByteArray).size = 1 := rfl; omega, Lib.hid (by simp only [bap, hu.out, hv.out, ht.out]; rw [cws_succ HYK.out HZK.out, join_snoc, if_neg (fun q => HK0.out (by have := congrArg List.length q; rw [cws_len] at this; exact this)), core, gw, if_neg (by have := HZ.out; omega)]; simp [cws, join_nil]), B3⟩
                  case measure => simp only [intOf, Int.toNat_natCast]; omega
                · have HZ := Lib.hid hz
                  have hcn := HC.out wr Bq
                  have hcz := HCz.out wr Bq
                  go_wp2_with fail
                  refine (ldec_str y hr _).mono ?_
                  rintro e w2 ⟨u, rfl, hu, hus, B2'⟩
                  have B2 := bl_call Bq B2'
                  clear cB fB zB hcn hcz
                  have xd := XB.out.below B2
                  obtain ⟨cB, fB, zB⟩ := xd.out
                  have hcn := HC.out w2 B2
                  have hcz := HCz.out w2 B2
                  go_wp2
                  go_roundw
                  case rel => exact ⟨t2 ++ ⟨#[32]⟩ ++ u, k + 1, rfl, by simp, by omega, by simp only [ByteArray.size_append]; have s1 : (⟨#[32]⟩ : ByteArray).size = 1 := rfl; have s2 : (⟨#[43]⟩ : ByteArray).size = 1 := rfl; omega, Lib.hid (by simp only [bap, hu.out, ht.out]; rw [cws_succ HYK.out HZK.out, join_snoc, if_neg (fun q => HK0.out (by have := congrArg List.length q; rw [cws_len] at this; exact this)), core, gw, if_pos (by have := HZ.out; omega)]; simp [cws, join_nil]), B2⟩
                  case measure => simp only [intOf, Int.toNat_natCast]; omega
            · obtain rfl : k = s.P.length := by omega
              have HX := Lib.hid (show t2 ++ ⟨#[41]⟩ = ⟨(stext s.H s.P s.G).toArray⟩ from str_of (by rw [bap, ht.out, stext_some HPP.out]))
              go_wp2
              go_ret
              exact ⟨by rw [← HX.out]; rfl, Bq⟩

set_option maxHeartbeats 800000 in
theorem spec_SourceText (h p g : Value) (s : Src) (w : World) (ha : SlS w h p g s) :
    Calls Tryz.prog 23 #[.agg #[h, p, g]] w fun e w' => e = .returned (.string ⟨(stxt s.H s.P s.G).toArray⟩) ∧ Bl w w' := by
  have HA := Lib.hid ha
  clear ha
  have B0 := bl_alloc (bl_refl w) (.cells #[h, p, g] 26)
  have X0 := Lib.hid (Bx.new w #[h, p, g] 26 (b := w.heap.size) rfl)
  cases e : okSrc s with
  | false =>
    have HX := Lib.hid (show (⟨#[]⟩ : ByteArray) = ⟨(stxt s.H s.P s.G).toArray⟩ by rw [stxt_bad e])
    go_enter Tryz.func23, Tryz.ntmps23
    go_wp2_with fail
    refine (svalid_any h p g s _ w.heap.size (HA.out.below B0) X0.out).mono ?_
    rintro e1 w1 ⟨rfl, B1⟩
    go_wp2
    go_ret
    exact ⟨by rw [← HX.out]; rfl, bl_call B0 B1⟩
  | true =>
    have HX := Lib.hid (show (⟨(stext s.H s.P s.G).toArray⟩ : ByteArray) = ⟨(stxt s.H s.P s.G).toArray⟩ by rw [stxt_ok e])
    have HV := Lib.hid (vs_ok.1 (okSrc_iff.1 e))
    go_enter Tryz.func23, Tryz.ntmps23
    go_wp2_with fail
    refine (svalid_any h p g s _ w.heap.size (HA.out.below B0) X0.out).mono ?_
    rintro e1 w1 ⟨rfl, B1⟩
    go_wp2_with fail
    refine (stx_any h p g s _ w.heap.size ((HA.out.below B0).below B1) (X0.out.below B1) HV.out).mono ?_
    rintro e2 w2 ⟨rfl, B2⟩
    go_wp2
    go_ret
    exact ⟨by rw [← HX.out]; rfl, bl_call (bl_call B0 B1) B2⟩

end Go.Proofs.YtndblondleclpaaGreatDoor

/- Texts of any short source, as the reference writes them: short. Each theorem names its conditions. -/
namespace Go.Proofs.YtndblondleclpaaGreatDoor
open Go.RowKit
set_option linter.unusedVariables false
set_option linter.unusedSimpArgs false

set_option maxRecDepth 100000 in
set_option maxHeartbeats 6400000 in
theorem ltx_any (h p g : Value) (s : Src) (w : World) (x : Nat) (ha : SlS w h p g s) (hx : Bx w x #[h, p, g]) (hv : s.H.length ≤ 2000 ∧ s.P.length ≤ 2000 ∧ s.G.length ≤ 2000 ∧ s.P.length ≤ s.G.length) :
    Calls Tryz.prog 65 #[.pointer (some ⟨x, 0, none⟩)] w fun e w' => ∃ T : ByteArray, e = .returned (.string T) ∧ T.size ≤ 140000 ∧ Bl w w' := by
  obtain ⟨a1, a2, a3⟩ := ha
  have l1 := hv.1
  have l2 := hv.2.1
  have hgp := hv.2.2.2
  obtain ⟨ah, ch, rfl, hch⟩ := a1.form
  obtain ⟨ap, cp, rfl, hcp⟩ := a2.form
  obtain ⟨ag, cg, rfl, hcg⟩ := a3.form
  have A1 := Lib.hid a1
  have A2 := Lib.hid a2
  have A3 := Lib.hid a3
  have HGP := Lib.hid hgp
  clear a1 a2 a3 hv hgp
  have XB := Lib.hid hx
  clear hx
  go_enter Tryz.func65, Tryz.ntmps65
  go_wp2
  go_loopw [3, 4] (fun s3 s4 wr => ∃ (t : ByteArray) (k : Nat), s3 = .string t ∧ s4 = .int .i64 k ∧ k ≤ s.H.length ∧ t.size ≤ 22 * k ∧ True ∧ Bl w wr) (fun _ s4 _ => s.H.length - (intOf s4).toNat)
  case atStart => exact ⟨⟨#[]⟩, 0, rfl, rfl, Nat.zero_le _, Nat.le_refl _, trivial, bl_refl _⟩
  case round =>
    rcases hrel with ⟨t, k, rfl, rfl, hk, hts, ht, Br⟩
    have xb := XB.out.below Br
    obtain ⟨cB, fB, zB⟩ := xb.out
    rcases Nat.lt_or_ge k s.H.length with hlt | hge
    · obtain ⟨b0, o0, rfl, hb0, y, hyk, hr, HC⟩ := A1.out.cellIn hlt
      have HYK := Lib.hid hyk
      clear hyk
      by_cases hk0 : k = 0
      · subst hk0
        have hcn : wr.cell? ⟨b0, o0, none⟩ = some (.int .i64 y) := by have := HC.out wr Br; rwa [Nat.add_zero] at this
        go_wp2_with fail
        refine (ldec_str y hr _).mono ?_
        rintro e w2 ⟨u, rfl, hu, hus, B2⟩
        go_wp2
        go_roundw
        case rel => exact ⟨t ++ u, 1, rfl, rfl, by omega, by rw [ByteArray.size_append]; omega, trivial, bl_call Br B2⟩
        case measure => simp only [intOf]; omega
      · have hcn := HC.out wr Br
        go_wp2_with fail
        refine (ldec_str y hr _).mono ?_
        rintro e w2 ⟨u, rfl, hu, hus, B2⟩
        go_wp2
        go_roundw
        case rel => exact ⟨t ++ ⟨#[32]⟩ ++ u, k + 1, rfl, by simp, by omega, by rw [ByteArray.size_append, ByteArray.size_append]; have : (⟨#[32]⟩ : ByteArray).size = 1 := rfl; omega, trivial, bl_call Br B2⟩
        case measure => simp only [intOf, Int.toNat_natCast]; omega
    · obtain rfl : k = s.H.length := by omega
      clear hge hk
      by_cases hp0 : s.P.length = 0
      · go_wp2
        go_ret
        exact ⟨_, rfl, by omega, Br⟩
      · have HPP := Lib.hid (show 0 < s.P.length by omega)
        have qp : ((s.P.length : Int) == 0) = false := beq_eq_false_iff_ne.2 (by omega)
        clear hp0
        by_cases hh0 : s.H.length = 0
        · obtain ⟨t0, ht0, hs2⟩ : ∃ t0 : ByteArray, Hid (t0 = ⟨#[40]⟩) ∧ t0.size ≤ 44010 := ⟨⟨#[40]⟩, Lib.hid rfl, by decide⟩
          have qh : ((s.H.length : Int) == 0) = true := beq_iff_eq.2 (by omega)
          clear hh0
          go_wp2
          rw [← ht0.out]
          have HS0 := Lib.hid hs2
          clear hs2
          go_loopw [3, 5] (fun s3 s5 wr => ∃ (t : ByteArray) (k : Nat), s3 = .string t ∧ s5 = .int .i64 k ∧ k ≤ s.P.length ∧ t.size ≤ 44010 + 44 * k ∧ True ∧ Bl w wr) (fun _ s5 _ => s.P.length - (intOf s5).toNat)
          case atStart => exact ⟨t0, 0, rfl, rfl, Nat.zero_le _, HS0.out, trivial, Br⟩
          case round =>
            rcases hrel with ⟨t2, k, rfl, rfl, hk, hts, ht, Bq⟩
            clear cB fB zB xb
            have xc := XB.out.below Bq
            obtain ⟨cB, fB, zB⟩ := xc.out
            rcases Nat.lt_or_ge k s.P.length with hlt | hge
            · have hltg : k < s.G.length := by have := HGP.out; omega
              obtain ⟨b0, o0, rfl, hb0, y, hyk, hr, HC⟩ := A2.out.cellIn hlt
              obtain ⟨b1, o1, rfl, hb1, z, hzk, hrz, HCz⟩ := A3.out.cellIn hltg
              have HYK := Lib.hid hyk
              have HZK := Lib.hid hzk
              clear hyk hzk
              by_cases hk0 : k = 0
              · have HK0 := Lib.hid hk0
                subst hk0
                by_cases hz : 0 < z
                · have HZ := Lib.hid hz
                  have hcn : wr.cell? ⟨b0, o0, none⟩ = some (.int .i64 y) := by have := HC.out wr Bq; rwa [Nat.add_zero] at this
                  have hcz : wr.cell? ⟨b1, o1, none⟩ = some (.int .i64 z) := by have := HCz.out wr Bq; rwa [Nat.add_zero] at this
                  go_wp2_with fail
                  refine (ldec_str y hr _).mono ?_
                  rintro e w2 ⟨u, rfl, hu, hus, B2'⟩
                  have B2 := bl_call Bq B2'
                  clear cB fB zB hcn hcz
                  have xd := XB.out.below B2
                  obtain ⟨cB, fB, zB⟩ := xd.out
                  have hcn : w2.cell? ⟨b0, o0, none⟩ = some (.int .i64 y) := by have := HC.out w2 B2; rwa [Nat.add_zero] at this
                  have hcz : w2.cell? ⟨b1, o1, none⟩ = some (.int .i64 z) := by have := HCz.out w2 B2; rwa [Nat.add_zero] at this
                  go_wp2_with fail
                  refine (ldec_str z hrz _).mono ?_
                  rintro e w3 ⟨v, rfl, hv, hvs, B3'⟩
                  have B3 := bl_call B2 B3'
                  go_wp2
                  go_roundw
                  case rel => exact ⟨t2 ++ u ++ (⟨#[43]⟩ ++ v), 1, rfl, rfl, by omega, by simp only [ByteArray.size_append]; have s1 : (⟨#[32]⟩ : ByteArray).size = 1 := rfl; have s2 : (⟨#[43]⟩ : ByteArray).size = 1 := rfl; omega, trivial, B3⟩
                  case measure => simp only [intOf]; omega
                · have HZ := Lib.hid hz
                  have hcn : wr.cell? ⟨b0, o0, none⟩ = some (.int .i64 y) := by have := HC.out wr Bq; rwa [Nat.add_zero] at this
                  have hcz : wr.cell? ⟨b1, o1, none⟩ = some (.int .i64 z) := by have := HCz.out wr Bq; rwa [Nat.add_zero] at this
                  go_wp2_with fail
                  refine (ldec_str y hr _).mono ?_
                  rintro e w2 ⟨u, rfl, hu, hus, B2'⟩
                  have B2 := bl_call Bq B2'
                  clear cB fB zB hcn hcz
                  have xd := XB.out.below B2
                  obtain ⟨cB, fB, zB⟩ := xd.out
                  have hcn : w2.cell? ⟨b0, o0, none⟩ = some (.int .i64 y) := by have := HC.out w2 B2; rwa [Nat.add_zero] at this
                  have hcz : w2.cell? ⟨b1, o1, none⟩ = some (.int .i64 z) := by have := HCz.out w2 B2; rwa [Nat.add_zero] at this
                  go_wp2
                  go_roundw
                  case rel => exact ⟨t2 ++ u, 1, rfl, rfl, by omega, by simp only [ByteArray.size_append]; have s1 : (⟨#[32]⟩ : ByteArray).size = 1 := rfl; have s2 : (⟨#[43]⟩ : ByteArray).size = 1 := rfl; omega, trivial, B2⟩
                  case measure => simp only [intOf]; omega
              · have HK0 := Lib.hid hk0
                by_cases hz : 0 < z
                · have HZ := Lib.hid hz
                  have hcn := HC.out wr Bq
                  have hcz := HCz.out wr Bq
                  go_wp2_with fail
                  refine (ldec_str y hr _).mono ?_
                  rintro e w2 ⟨u, rfl, hu, hus, B2'⟩
                  have B2 := bl_call Bq B2'
                  clear cB fB zB hcn hcz
                  have xd := XB.out.below B2
                  obtain ⟨cB, fB, zB⟩ := xd.out
                  have hcn := HC.out w2 B2
                  have hcz := HCz.out w2 B2
                  go_wp2_with fail
                  refine (ldec_str z hrz _).mono ?_
                  rintro e w3 ⟨v, rfl, hv, hvs, B3'⟩
                  have B3 := bl_call B2 B3'
                  go_wp2
                  go_roundw
                  case rel => exact ⟨t2 ++ ⟨#[32]⟩ ++ u ++ (⟨#[43]⟩ ++ v), k + 1, rfl, by simp, by omega, by simp only [ByteArray.size_append]; have s1 : (⟨#[32]⟩ : ByteArray).size = 1 := rfl; have s2 : (⟨#[43]⟩ : ByteArray).size = 1 := rfl; omega, trivial, B3⟩
                  case measure => simp only [intOf, Int.toNat_natCast]; omega
                · have HZ := Lib.hid hz
                  have hcn := HC.out wr Bq
                  have hcz := HCz.out wr Bq
                  go_wp2_with fail
                  refine (ldec_str y hr _).mono ?_
                  rintro e w2 ⟨u, rfl, hu, hus, B2'⟩
                  have B2 := bl_call Bq B2'
                  clear cB fB zB hcn hcz
                  have xd := XB.out.below B2
                  obtain ⟨cB, fB, zB⟩ := xd.out
                  have hcn := HC.out w2 B2
                  have hcz := HCz.out w2 B2
                  go_wp2
                  go_roundw
                  case rel => exact ⟨t2 ++ ⟨#[32]⟩ ++ u, k + 1, rfl, by simp, by omega, by simp only [ByteArray.size_append]; have s1 : (⟨#[32]⟩ : ByteArray).size = 1 := rfl; have s2 : (⟨#[43]⟩ : ByteArray).size = 1 := rfl; omega, trivial, B2⟩
                  case measure => simp only [intOf, Int.toNat_natCast]; omega
            · obtain rfl : k = s.P.length := by omega
              go_wp2
              go_ret
              exact ⟨_, rfl, by rw [ByteArray.size_append]; have : (⟨#[41]⟩ : ByteArray).size = 1 := rfl; omega, Bq⟩
        · have hs2 : (t ++ ⟨#[32, 40]⟩).size ≤ 44010 := by rw [ByteArray.size_append]; have : (⟨#[32, 40]⟩ : ByteArray).size = 2 := rfl; omega
          have qh : ((s.H.length : Int) == 0) = false := beq_eq_false_iff_ne.2 (by omega)
          clear hh0
          go_wp2
          generalize (t ++ (⟨#[32, 40]⟩ : ByteArray)) = t0 at *
          have HS0 := Lib.hid hs2
          clear hs2
          go_loopw [3, 5] (fun s3 s5 wr => ∃ (t : ByteArray) (k : Nat), s3 = .string t ∧ s5 = .int .i64 k ∧ k ≤ s.P.length ∧ t.size ≤ 44010 + 44 * k ∧ True ∧ Bl w wr) (fun _ s5 _ => s.P.length - (intOf s5).toNat)
          case atStart => exact ⟨t0, 0, rfl, rfl, Nat.zero_le _, HS0.out, trivial, Br⟩
          case round =>
            rcases hrel with ⟨t2, k, rfl, rfl, hk, hts, ht, Bq⟩
            clear cB fB zB xb
            have xc := XB.out.below Bq
            obtain ⟨cB, fB, zB⟩ := xc.out
            rcases Nat.lt_or_ge k s.P.length with hlt | hge
            · have hltg : k < s.G.length := by have := HGP.out; omega
              obtain ⟨b0, o0, rfl, hb0, y, hyk, hr, HC⟩ := A2.out.cellIn hlt
              obtain ⟨b1, o1, rfl, hb1, z, hzk, hrz, HCz⟩ := A3.out.cellIn hltg
              have HYK := Lib.hid hyk
              have HZK := Lib.hid hzk
              clear hyk hzk
              by_cases hk0 : k = 0
              · have HK0 := Lib.hid hk0
                subst hk0
                by_cases hz : 0 < z
                · have HZ := Lib.hid hz
                  have hcn : wr.cell? ⟨b0, o0, none⟩ = some (.int .i64 y) := by have := HC.out wr Bq; rwa [Nat.add_zero] at this
                  have hcz : wr.cell? ⟨b1, o1, none⟩ = some (.int .i64 z) := by have := HCz.out wr Bq; rwa [Nat.add_zero] at this
                  go_wp2_with fail
                  refine (ldec_str y hr _).mono ?_
                  rintro e w2 ⟨u, rfl, hu, hus, B2'⟩
                  have B2 := bl_call Bq B2'
                  clear cB fB zB hcn hcz
                  have xd := XB.out.below B2
                  obtain ⟨cB, fB, zB⟩ := xd.out
                  have hcn : w2.cell? ⟨b0, o0, none⟩ = some (.int .i64 y) := by have := HC.out w2 B2; rwa [Nat.add_zero] at this
                  have hcz : w2.cell? ⟨b1, o1, none⟩ = some (.int .i64 z) := by have := HCz.out w2 B2; rwa [Nat.add_zero] at this
                  go_wp2_with fail
                  refine (ldec_str z hrz _).mono ?_
                  rintro e w3 ⟨v, rfl, hv, hvs, B3'⟩
                  have B3 := bl_call B2 B3'
                  go_wp2
                  go_roundw
                  case rel => exact ⟨t2 ++ u ++ (⟨#[43]⟩ ++ v), 1, rfl, rfl, by omega, by simp only [ByteArray.size_append]; have s1 : (⟨#[32]⟩ : ByteArray).size = 1 := rfl; have s2 : (⟨#[43]⟩ : ByteArray).size = 1 := rfl; omega, trivial, B3⟩
                  case measure => simp only [intOf]; omega
                · have HZ := Lib.hid hz
                  have hcn : wr.cell? ⟨b0, o0, none⟩ = some (.int .i64 y) := by have := HC.out wr Bq; rwa [Nat.add_zero] at this
                  have hcz : wr.cell? ⟨b1, o1, none⟩ = some (.int .i64 z) := by have := HCz.out wr Bq; rwa [Nat.add_zero] at this
                  go_wp2_with fail
                  refine (ldec_str y hr _).mono ?_
                  rintro e w2 ⟨u, rfl, hu, hus, B2'⟩
                  have B2 := bl_call Bq B2'
                  clear cB fB zB hcn hcz
                  have xd := XB.out.below B2
                  obtain ⟨cB, fB, zB⟩ := xd.out
                  have hcn : w2.cell? ⟨b0, o0, none⟩ = some (.int .i64 y) := by have := HC.out w2 B2; rwa [Nat.add_zero] at this
                  have hcz : w2.cell? ⟨b1, o1, none⟩ = some (.int .i64 z) := by have := HCz.out w2 B2; rwa [Nat.add_zero] at this
                  go_wp2
                  go_roundw
                  case rel => exact ⟨t2 ++ u, 1, rfl, rfl, by omega, by simp only [ByteArray.size_append]; have s1 : (⟨#[32]⟩ : ByteArray).size = 1 := rfl; have s2 : (⟨#[43]⟩ : ByteArray).size = 1 := rfl; omega, trivial, B2⟩
                  case measure => simp only [intOf]; omega
              · have HK0 := Lib.hid hk0
                by_cases hz : 0 < z
                · have HZ := Lib.hid hz
                  have hcn := HC.out wr Bq
                  have hcz := HCz.out wr Bq
                  go_wp2_with fail
                  refine (ldec_str y hr _).mono ?_
                  rintro e w2 ⟨u, rfl, hu, hus, B2'⟩
                  have B2 := bl_call Bq B2'
                  clear cB fB zB hcn hcz
                  have xd := XB.out.below B2
                  obtain ⟨cB, fB, zB⟩ := xd.out
                  have hcn := HC.out w2 B2
                  have hcz := HCz.out w2 B2
                  go_wp2_with fail
                  refine (ldec_str z hrz _).mono ?_
                  rintro e w3 ⟨v, rfl, hv, hvs, B3'⟩
                  have B3 := bl_call B2 B3'
                  go_wp2
                  go_roundw
                  case rel => exact ⟨t2 ++ ⟨#[32]⟩ ++ u ++ (⟨#[43]⟩ ++ v), k + 1, rfl, by simp, by omega, by simp only [ByteArray.size_append]; have s1 : (⟨#[32]⟩ : ByteArray).size = 1 := rfl; have s2 : (⟨#[43]⟩ : ByteArray).size = 1 := rfl; omega, trivial, B3⟩
                  case measure => simp only [intOf, Int.toNat_natCast]; omega
                · have HZ := Lib.hid hz
                  have hcn := HC.out wr Bq
                  have hcz := HCz.out wr Bq
                  go_wp2_with fail
                  refine (ldec_str y hr _).mono ?_
                  rintro e w2 ⟨u, rfl, hu, hus, B2'⟩
                  have B2 := bl_call Bq B2'
                  clear cB fB zB hcn hcz
                  have xd := XB.out.below B2
                  obtain ⟨cB, fB, zB⟩ := xd.out
                  have hcn := HC.out w2 B2
                  have hcz := HCz.out w2 B2
                  go_wp2
                  go_roundw
                  case rel => exact ⟨t2 ++ ⟨#[32]⟩ ++ u, k + 1, rfl, by simp, by omega, by simp only [ByteArray.size_append]; have s1 : (⟨#[32]⟩ : ByteArray).size = 1 := rfl; have s2 : (⟨#[43]⟩ : ByteArray).size = 1 := rfl; omega, trivial, B2⟩
                  case measure => simp only [intOf, Int.toNat_natCast]; omega
            · obtain rfl : k = s.P.length := by omega
              go_wp2
              go_ret
              exact ⟨_, rfl, by rw [ByteArray.size_append]; have : (⟨#[41]⟩ : ByteArray).size = 1 := rfl; omega, Bq⟩

end Go.Proofs.YtndblondleclpaaGreatDoor

/- The program's text of a source. Each theorem names its conditions. -/
namespace Go.Proofs.YtndblondleclpaaGreatDoor
open Go.RowKit
set_option linter.unusedVariables false
set_option linter.unusedSimpArgs false

theorem idec_str (n : Int) (hn : R64 n) (w : World) (ht : Tab w) :
    Calls Tryz.prog 57 #[.int .i64 n] w fun e w' => ∃ u : ByteArray, e = .returned (.string u) ∧ Hid (u.data.toList = Lib.itoa n) ∧ u.size ≤ 21 ∧ Bl w w' := by
  refine (idec_any n hn w ht).mono ?_
  rintro e w' ⟨rfl, hb⟩
  exact ⟨_, rfl, Lib.hid (by simp), by rw [bsz]; simpa using Lib.itoa_length_le n hn.1 hn.2, hb⟩
/-- strings.Join, of words of the call's own. -/
theorem join_any {w : World} {B : Nat} {a : Option Addr} {c : Nat} {ws : List (List UInt8)} (h : OwS w B (.slice a ws.length c) ws) (sep : ByteArray) (hn : ws.length ≤ 1000000000) (hlen : (Lib.join ws sep.data.toList).length ≤ 1000000000) :
    Calls Tryz.prog 58 #[.slice a ws.length c, .string sep] w fun e w' => e = .returned (.string ⟨(Lib.join ws sep.data.toList).toArray⟩) ∧ Bl w w' := by
  have hmap : (ws.map fun b => (⟨b.toArray⟩ : ByteArray)).map (fun x => x.data.toList) = ws := by
    rw [List.map_map]; simp [Function.comp_def]
  rcases h.2 with ⟨e, hn⟩ | ⟨g, cap, e, hB, h1, h2, h3, h4, _⟩
  · have hw : ws = [] := by cases ws with
      | nil => rfl
      | cons x l => simp [cS] at hn
    subst hw
    injection e with e1 e2 e3
    refine (Tryz.strings_Join_none a c sep w).mono ?_
    rintro e w' ⟨rfl, rfl⟩
    exact ⟨by simp [Lib.join], bl_refl _⟩
  · injection e with e1 e2 e3
    subst e1; subst e3
    have := Tryz.strings_Join g 0 c (ws.map fun b => (⟨b.toArray⟩ : ByteArray)) sep w (fun j x hx => by
      rw [Nat.zero_add]
      rw [List.getElem?_map] at hx
      obtain ⟨b, hb, rfl⟩ := Option.map_eq_some_iff.1 hx
      exact h4 j _ (cS_get hb)) h3 (by rw [List.length_map]; omega) (by rw [List.length_map]; rw [cS_len] at h1; exact h1) (by rw [hmap]; omega)
    rw [List.length_map, hmap] at this
    exact this

set_option maxRecDepth 100000 in
set_option maxHeartbeats 12800000 in
theorem impl_SourceText (h p g : Value) (s : Src) (w : World) (ha : SlS w h p g s) (ht : Tab w) :
    Calls Tryz.prog 16 #[.agg #[h, p, g]] w fun e w' => e = .returned (.string ⟨(stxt s.H s.P s.G).toArray⟩) ∧ Bl w w' := by
  have a1 := ha.1
  have a2 := ha.2.1
  have a3 := ha.2.2
  have HA := Lib.hid ha
  have HT := Lib.hid ht
  clear ha ht
  obtain ⟨ah, ch, rfl, hch⟩ := a1.form
  obtain ⟨ap, cp, rfl, hcp⟩ := a2.form
  obtain ⟨ag, cg, rfl, hcg⟩ := a3.form
  have A1 := Lib.hid a1
  have A2 := Lib.hid a2
  have A3 := Lib.hid a3
  clear a1 a2 a3
  have B0 := bl_alloc (bl_refl w) (.cells #[.slice ah s.H.length ch, .slice ap s.P.length cp, .slice ag s.G.length cg] 26)
  have X0 := Lib.hid (Bx.new w #[.slice ah s.H.length ch, .slice ap s.P.length cp, .slice ag s.G.length cg] 26 (b := w.heap.size) rfl)
  cases e : okSrc s with
  | false =>
    have HX := Lib.hid (show (⟨#[]⟩ : ByteArray) = ⟨(stxt s.H s.P s.G).toArray⟩ by rw [stxt_bad e])
    have HE := Lib.hid (show Ending.returned (.bool (okSrc s)) = .returned (.bool false) by rw [e])
    clear e
    go_enter Tryz.func16, Tryz.ntmps16
    go_wp2_with fail
    refine (ivalid_any _ _ _ s _ (HA.out.below B0)).mono ?_
    rintro e1 w1 ⟨he, B1⟩
    obtain rfl : e1 = .returned (.bool false) := he.trans HE.out
    go_wp2
    go_ret
    exact ⟨by rw [← HX.out]; rfl, bl_call B0 B1⟩
  | true =>
    have HX := Lib.hid (show (⟨(stext s.H s.P s.G).toArray⟩ : ByteArray) = ⟨(stxt s.H s.P s.G).toArray⟩ by rw [stxt_ok e])
    have hv := vs_ok.1 (okSrc_iff.1 e)
    have HE := Lib.hid (show Ending.returned (.bool (okSrc s)) = .returned (.bool true) by rw [e])
    clear e
    have l1 := hv.h30
    have l2 := hv.p30
    have HGP := Lib.hid hv.gp
    have HV := Lib.hid hv
    clear hv
    go_enter Tryz.func16, Tryz.ntmps16
    go_wp2_with fail
    refine (ivalid_any _ _ _ s _ (HA.out.below B0)).mono ?_
    rintro e1 w1 ⟨he, B1'⟩
    obtain rfl : e1 = .returned (.bool true) := he.trans HE.out
    have B1 := bl_call B0 B1'
    have XB := Lib.hid (X0.out.below B1')
    have xb := XB.out
    obtain ⟨cB, fB, zB⟩ := xb.out
    go_wp2
    clear cB fB zB xb B1' B0
    go_loopw [3, 5, 15] (fun s3 _ s15 wr => ∃ (a : Option Addr) (c k : Nat) (ws : List (List UInt8)), s3 = .slice a ws.length c ∧ s15 = .int .i64 k ∧ k ≤ s.H.length ∧ OwS wr w1.heap.size (.slice a ws.length c) ws ∧ Hid (ws = hws s.H k) ∧ Bl w1 wr) (fun _ _ s15 _ => s.H.length - (intOf s15).toNat)
    case atStart => exact ⟨none, 0, 0, [], rfl, rfl, Nat.zero_le _, OwX.nil _ _, Lib.hid (by simp [hws]), bl_refl _⟩
    case round =>
      rcases hrel with ⟨a, c, k, ws, rfl, rfl, hk, ho, hw, Bq⟩
      have HO := Lib.hid ho
      clear ho
      have Br := bl_call B1 Bq
      rcases Nat.lt_or_ge k s.H.length with hlt | hge
      · obtain ⟨b0, o0, rfl, hb0, y, hyk, hr, HC⟩ := A1.out.cellIn hlt
        have HYK := Lib.hid hyk
        clear hyk
        have hcn : wr.cell? ⟨b0, o0 + k, none⟩ = some (.int .i64 y) := HC.out wr Br
        go_wp2_with fail
        refine (idec_str y hr _ (HT.out.below Br)).mono ?_
        rintro e w2 ⟨u, rfl, hu, hus, B2⟩
        have Bw := bl_call Bq B2
        have HLw := Lib.hid (show ws.length ≤ 30 by rw [hw.out, hws_len hk]; omega)
        go_wp2_with (at_builtin; refine wpList_append_s1 (w0 := w1) rfl _ _ rfl _ ws (by rfl) ((HO.out.below B2).alloc _) (Lib.itoa y) w2.heap.size (by rfl) (by rw [← str_of hu.out]; simp) (by have := HLw.out; omega) (bl_alloc Bw _) ?_; intro ws2 g2 c2 w3 HA2 HO2 hg B3 _)
        clear hg
        go_wp2
        go_roundw
        case rel => exact ⟨_, c2, k + 1, ws2, rfl, by simp, by omega, HO2.out, Lib.hid (by rw [HA2.out, hw.out, hws_succ HYK.out]), B3⟩
        case measure => simp only [intOf, Int.toNat_natCast]; omega
      · obtain rfl : k = s.H.length := by omega
        have HW := Lib.hid (show ws = s.H.map Lib.itoa ++ pwn s.P.length s.P s.G 0 by rw [hw.out, hws_all]; simp [pwn])
        clear hw hge hk
        have xb := XB.out.below Bq
        obtain ⟨cB, fB, zB⟩ := xb.out
        go_wp2
        clear cB fB zB xb
        go_loopw [3, 6, 7, 8, 28] (fun s3 _ _ _ s28 wr => ∃ (a : Option Addr) (c k : Nat) (ws : List (List UInt8)), s3 = .slice a ws.length c ∧ s28 = .int .i64 k ∧ k ≤ s.P.length ∧ OwS wr w1.heap.size (.slice a ws.length c) ws ∧ Hid (ws = s.H.map Lib.itoa ++ pwn s.P.length s.P s.G k) ∧ Bl w1 wr) (fun _ _ _ _ s28 _ => s.P.length - (intOf s28).toNat)
        case atStart => exact ⟨a, c, 0, ws, rfl, rfl, Nat.zero_le _, HO.out, HW, Bq⟩
        case round =>
          rcases hrel with ⟨a3, c3, k, w3, rfl, rfl, hk, ho, hw, Bt⟩
          have HO3 := Lib.hid ho
          clear ho
          have Bs := bl_call B1 Bt
          have HLw := Lib.hid (show w3.length ≤ 60 by rw [hw.out, List.length_append, List.length_map, pwn_length]; omega)
          rcases Nat.lt_or_ge k s.P.length with hlt | hge
          · have hltg : k < s.G.length := by rw [HGP.out]; exact hlt
            obtain ⟨b0, o0, rfl, hb0, y, hyk, hr, HC⟩ := A2.out.cellIn hlt
            obtain ⟨b1, o1, rfl, hb1, z, hzk, hrz, HCz⟩ := A3.out.cellIn hltg
            have HYK := Lib.hid hyk
            have HZK := Lib.hid hzk
            have HPL := Lib.hid (show s.P.length ≠ 0 by omega)
            clear hyk hzk
            have xb := XB.out.below Bt
            obtain ⟨cB, fB, zB⟩ := xb.out
            have hcn : wr.cell? ⟨b0, o0 + k, none⟩ = some (.int .i64 y) := HC.out wr Bs
            go_wp2_with fail
            refine (idec_str y hr _ (HT.out.below Bs)).mono ?_
            rintro e w4 ⟨u, rfl, hu, hus, B4'⟩
            have B4 := bl_call Bt B4'
            have Bv := bl_call B1 B4
            clear cB fB zB xb hcn
            have xb := XB.out.below B4
            obtain ⟨cB, fB, zB⟩ := xb.out
            have hcz : w4.cell? ⟨b1, o1 + k, none⟩ = some (.int .i64 z) := HCz.out w4 Bv
            by_cases hz : z = 0
            · have qz : (z != 0) = false := by simp [hz]
              have HZ0 := Lib.hid hz
              clear hz
              have HC0 := Lib.hid (show (u).data.toList = core y z by rw [hu.out, core, gw, if_pos HZ0.out, List.append_nil])
              by_cases hk0 : k = 0
              · have q0 : ((k : Int) == 0) = true := by simp; omega
                by_cases hkl : k + 1 = s.P.length
                · have q1 : ((k : Int) == (s.P.length : Int) - 1) = true := by simp; have := HPL.out; omega
                  have HPW := Lib.hid (show ((⟨#[40]⟩ : ByteArray) ++ (u) ++ ⟨#[41]⟩).data.toList = pword s.P.length k y z by rw [bap, bap,  HC0.out, pword, if_pos hk0, if_pos hkl]; simp)
                  clear hk0 hkl
                  go_wp2_with (at_builtin; refine wpList_append_s1 (w0 := w1) rfl _ _ rfl _ w3 (by rfl) (((HO3.out.below B4').alloc _)) (pword s.P.length k y z) w4.heap.size (by rfl) (by rw [← str_of HPW.out]; simp) (by have := HLw.out; omega) (bl_alloc B4 _) ?_; intro ws2 g2 c2 wz HA2 HO2 hg BZ _)
                  clear hg cB fB zB
                  go_wp2
                  go_roundw
                  case rel => exact ⟨_, c2, k + 1, ws2, rfl, by simp, by omega, HO2.out, Lib.hid (by rw [HA2.out, hw.out, pwn_snoc HYK.out HZK.out, List.append_assoc]), BZ⟩
                  case measure => simp only [intOf, Int.toNat_natCast]; omega
                · have q1 : ((k : Int) == (s.P.length : Int) - 1) = false := by simp; have := HPL.out; omega
                  have HPW := Lib.hid (show ((⟨#[40]⟩ : ByteArray) ++ (u)).data.toList = pword s.P.length k y z by rw [bap,  HC0.out, pword, if_pos hk0, if_neg hkl]; simp)
                  clear hk0 hkl
                  go_wp2_with (at_builtin; refine wpList_append_s1 (w0 := w1) rfl _ _ rfl _ w3 (by rfl) (((HO3.out.below B4').alloc _)) (pword s.P.length k y z) w4.heap.size (by rfl) (by rw [← str_of HPW.out]; simp) (by have := HLw.out; omega) (bl_alloc B4 _) ?_; intro ws2 g2 c2 wz HA2 HO2 hg BZ _)
                  clear hg cB fB zB
                  go_wp2
                  go_roundw
                  case rel => exact ⟨_, c2, k + 1, ws2, rfl, by simp, by omega, HO2.out, Lib.hid (by rw [HA2.out, hw.out, pwn_snoc HYK.out HZK.out, List.append_assoc]), BZ⟩
                  case measure => simp only [intOf, Int.toNat_natCast]; omega
              · have q0 : ((k : Int) == 0) = false := by simp; omega
                by_cases hkl : k + 1 = s.P.length
                · have q1 : ((k : Int) == (s.P.length : Int) - 1) = true := by simp; have := HPL.out; omega
                  have HPW := Lib.hid (show (u ++ ⟨#[41]⟩).data.toList = pword s.P.length k y z by rw [bap,  HC0.out, pword, if_neg hk0, if_pos hkl]; simp)
                  clear hk0 hkl
                  go_wp2_with (at_builtin; refine wpList_append_s1 (w0 := w1) rfl _ _ rfl _ w3 (by rfl) (((HO3.out.below B4').alloc _)) (pword s.P.length k y z) w4.heap.size (by rfl) (by rw [← str_of HPW.out]; simp) (by have := HLw.out; omega) (bl_alloc B4 _) ?_; intro ws2 g2 c2 wz HA2 HO2 hg BZ _)
                  clear hg cB fB zB
                  go_wp2
                  go_roundw
                  case rel => exact ⟨_, c2, k + 1, ws2, rfl, by simp, by omega, HO2.out, Lib.hid (by rw [HA2.out, hw.out, pwn_snoc HYK.out HZK.out, List.append_assoc]), BZ⟩
                  case measure => simp only [intOf, Int.toNat_natCast]; omega
                · have q1 : ((k : Int) == (s.P.length : Int) - 1) = false := by simp; have := HPL.out; omega
                  have HPW := Lib.hid (show (u).data.toList = pword s.P.length k y z by rw [ HC0.out, pword, if_neg hk0, if_neg hkl]; simp)
                  clear hk0 hkl
                  go_wp2_with (at_builtin; refine wpList_append_s1 (w0 := w1) rfl _ _ rfl _ w3 (by rfl) (((HO3.out.below B4').alloc _)) (pword s.P.length k y z) w4.heap.size (by rfl) (by rw [← str_of HPW.out]; simp) (by have := HLw.out; omega) (bl_alloc B4 _) ?_; intro ws2 g2 c2 wz HA2 HO2 hg BZ _)
                  clear hg cB fB zB
                  go_wp2
                  go_roundw
                  case rel => exact ⟨_, c2, k + 1, ws2, rfl, by simp, by omega, HO2.out, Lib.hid (by rw [HA2.out, hw.out, pwn_snoc HYK.out HZK.out, List.append_assoc]), BZ⟩
                  case measure => simp only [intOf, Int.toNat_natCast]; omega
            · have qz : (z != 0) = true := by simp [hz]
              have HZ0 := Lib.hid hz
              clear hz
              go_wp2_with fail
              refine (idec_str z hrz _ (HT.out.below Bv)).mono ?_
              rintro e w5 ⟨v, rfl, hv, hvs, B5'⟩
              have B5 := bl_call B4 B5'
              clear cB fB zB xb hcz
              have xb := XB.out.below B5
              obtain ⟨cB, fB, zB⟩ := xb.out
              have HC0 := Lib.hid (show (u ++ (⟨#[43]⟩ ++ v)).data.toList = core y z by rw [bap, bap, hu.out, hv.out, core, gw, if_neg HZ0.out]; simp)
              by_cases hk0 : k = 0
              · have q0 : ((k : Int) == 0) = true := by simp; omega
                by_cases hkl : k + 1 = s.P.length
                · have q1 : ((k : Int) == (s.P.length : Int) - 1) = true := by simp; have := HPL.out; omega
                  have HPW := Lib.hid (show ((⟨#[40]⟩ : ByteArray) ++ (u ++ (⟨#[43]⟩ ++ v)) ++ ⟨#[41]⟩).data.toList = pword s.P.length k y z by rw [bap, bap,  HC0.out, pword, if_pos hk0, if_pos hkl]; simp)
                  clear hk0 hkl
                  go_wp2_with (at_builtin; refine wpList_append_s1 (w0 := w1) rfl _ _ rfl _ w3 (by rfl) ((((HO3.out.below B4').below B5').alloc _)) (pword s.P.length k y z) w5.heap.size (by rfl) (by rw [← str_of HPW.out]; simp) (by have := HLw.out; omega) (bl_alloc B5 _) ?_; intro ws2 g2 c2 wz HA2 HO2 hg BZ _)
                  clear hg cB fB zB
                  go_wp2
                  go_roundw
                  case rel => exact ⟨_, c2, k + 1, ws2, rfl, by simp, by omega, HO2.out, Lib.hid (by rw [HA2.out, hw.out, pwn_snoc HYK.out HZK.out, List.append_assoc]), BZ⟩
                  case measure => simp only [intOf, Int.toNat_natCast]; omega
                · have q1 : ((k : Int) == (s.P.length : Int) - 1) = false := by simp; have := HPL.out; omega
                  have HPW := Lib.hid (show ((⟨#[40]⟩ : ByteArray) ++ (u ++ (⟨#[43]⟩ ++ v))).data.toList = pword s.P.length k y z by rw [bap,  HC0.out, pword, if_pos hk0, if_neg hkl]; simp)
                  clear hk0 hkl
                  go_wp2_with (at_builtin; refine wpList_append_s1 (w0 := w1) rfl _ _ rfl _ w3 (by rfl) ((((HO3.out.below B4').below B5').alloc _)) (pword s.P.length k y z) w5.heap.size (by rfl) (by rw [← str_of HPW.out]; simp) (by have := HLw.out; omega) (bl_alloc B5 _) ?_; intro ws2 g2 c2 wz HA2 HO2 hg BZ _)
                  clear hg cB fB zB
                  go_wp2
                  go_roundw
                  case rel => exact ⟨_, c2, k + 1, ws2, rfl, by simp, by omega, HO2.out, Lib.hid (by rw [HA2.out, hw.out, pwn_snoc HYK.out HZK.out, List.append_assoc]), BZ⟩
                  case measure => simp only [intOf, Int.toNat_natCast]; omega
              · have q0 : ((k : Int) == 0) = false := by simp; omega
                by_cases hkl : k + 1 = s.P.length
                · have q1 : ((k : Int) == (s.P.length : Int) - 1) = true := by simp; have := HPL.out; omega
                  have HPW := Lib.hid (show (u ++ (⟨#[43]⟩ ++ v) ++ ⟨#[41]⟩).data.toList = pword s.P.length k y z by rw [bap,  HC0.out, pword, if_neg hk0, if_pos hkl]; simp)
                  clear hk0 hkl
                  go_wp2_with (at_builtin; refine wpList_append_s1 (w0 := w1) rfl _ _ rfl _ w3 (by rfl) ((((HO3.out.below B4').below B5').alloc _)) (pword s.P.length k y z) w5.heap.size (by rfl) (by rw [← str_of HPW.out]; simp) (by have := HLw.out; omega) (bl_alloc B5 _) ?_; intro ws2 g2 c2 wz HA2 HO2 hg BZ _)
                  clear hg cB fB zB
                  go_wp2
                  go_roundw
                  case rel => exact ⟨_, c2, k + 1, ws2, rfl, by simp, by omega, HO2.out, Lib.hid (by rw [HA2.out, hw.out, pwn_snoc HYK.out HZK.out, List.append_assoc]), BZ⟩
                  case measure => simp only [intOf, Int.toNat_natCast]; omega
                · have q1 : ((k : Int) == (s.P.length : Int) - 1) = false := by simp; have := HPL.out; omega
                  have HPW := Lib.hid (show (u ++ (⟨#[43]⟩ ++ v)).data.toList = pword s.P.length k y z by rw [ HC0.out, pword, if_neg hk0, if_neg hkl]; simp)
                  clear hk0 hkl
                  go_wp2_with (at_builtin; refine wpList_append_s1 (w0 := w1) rfl _ _ rfl _ w3 (by rfl) ((((HO3.out.below B4').below B5').alloc _)) (pword s.P.length k y z) w5.heap.size (by rfl) (by rw [← str_of HPW.out]; simp) (by have := HLw.out; omega) (bl_alloc B5 _) ?_; intro ws2 g2 c2 wz HA2 HO2 hg BZ _)
                  clear hg cB fB zB
                  go_wp2
                  go_roundw
                  case rel => exact ⟨_, c2, k + 1, ws2, rfl, by simp, by omega, HO2.out, Lib.hid (by rw [HA2.out, hw.out, pwn_snoc HYK.out HZK.out, List.append_assoc]), BZ⟩
                  case measure => simp only [intOf, Int.toNat_natCast]; omega
          · obtain rfl : k = s.P.length := by omega
            have HJ := Lib.hid (show Lib.join w3 [32] = stext s.H s.P s.G by rw [hw.out]; rfl)
            have HJL := Lib.hid (show (Lib.join w3 [32]).length ≤ 1000000000 by
              have hm : ∀ q ∈ w3, q.length ≤ 45 := by
                rw [hw.out]
                intro q hq
                rcases List.mem_append.1 hq with hq | hq
                · obtain ⟨x, hx, rfl⟩ := List.mem_map.1 hq
                  have := HV.out.hr x hx
                  exact Nat.le_trans (Lib.itoa_length_le x (by omega) (by omega)) (by decide)
                · obtain ⟨i, hi, rfl⟩ := List.mem_map.1 hq
                  have hi := List.mem_range.1 hi
                  have q1 := HV.out.pr i hi
                  have q2 := HV.out.gg i hi
                  exact pword_len (by omega) (by omega)
              have := join_len 32 45 w3 hm
              have := HLw.out
              have := Nat.mul_le_mul_right (45 + 1) this
              omega)
            go_wp2_with fail
            refine (join_any (HO3.out) ⟨#[32]⟩ (by have := HLw.out; omega) HJL.out).mono ?_
            rintro e w5 ⟨rfl, B5⟩
            have HY := Lib.hid (show (⟨(Lib.join w3 [32]).toArray⟩ : ByteArray) = ⟨(stxt s.H s.P s.G).toArray⟩ by rw [HJ.out, HX.out])
            go_wp2
            go_ret
            exact ⟨by rw [← HY.out]; rfl, bl_call Bs B5⟩

end Go.Proofs.YtndblondleclpaaGreatDoor

