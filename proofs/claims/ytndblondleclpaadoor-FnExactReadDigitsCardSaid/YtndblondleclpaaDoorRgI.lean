/- Texts of digits, as the program reads them. Each theorem names its conditions. -/
import Derived.Test.YtndblondleclpaaDoorRgS
import Derived.Test.YtndblondleclpaaDoorRdI
namespace Go.Proofs.YtndblondleclpaaDoor
open Go.RowKit
set_option linter.unusedVariables false
set_option linter.unusedSimpArgs false

/-- The program's tests. -/
theorem ri_n2 {base : Int} {l h t : List UInt8} {f : Bool} (hc : Lib.cut l [46] = (h, t, f)) (e : rdec h = none) : rdgS base l = none := by
  rw [← rdg_eq]; unfold rdgI; rw [hc]; simp only; rw [e]
theorem ri_n3 {base : Int} {l h t : List UInt8} {f : Bool} (hc : Lib.cut l [46] = (h, t, f)) (e : ¬ t.length ≤ 1000) : rdgS base l = none := by
  rw [← rdg_eq]; unfold rdgI; rw [hc]; simp only
  cases rdec h with
  | none => rfl
  | some wh => simp only; rw [if_neg (fun q => e q.2.1)]
theorem ri_n4 {base : Int} {l h t : List UInt8} {f : Bool} {c : UInt8} {k : Nat} (hc : Lib.cut l [46] = (h, t, f)) (hk : t[k]? = some c) (e : dval c < 0) : rdgS base l = none := by
  rw [← rdg_eq]; unfold rdgI; rw [hc]; simp only
  cases rdec h with
  | none => rfl
  | some wh => simp only; rw [if_neg (fun q => by have := q.2.2.1 c (List.mem_of_getElem? hk); omega)]
theorem ri_n5 {base wh : Int} {l h t : List UInt8} {f : Bool} (hc : Lib.cut l [46] = (h, t, f)) (hr : rdec h = some wh) (e : dtxt base wh (t.map dval) ≠ l) : rdgS base l = none := by
  rw [← rdg_eq]; unfold rdgI; rw [hc]; simp only; rw [hr]; simp only
  rw [if_neg (fun q => e q.2.2.2)]
theorem ri_ok {base wh : Int} {l h t : List UInt8} {f : Bool} (hc : Lib.cut l [46] = (h, t, f)) (hr : rdec h = some wh) (hb : 2 ≤ base ∧ base ≤ 36) (hl : t.length ≤ 1000) (hd : ∀ c ∈ t, 0 ≤ dval c) (e : dtxt base wh (t.map dval) = l) : rdgS base l = some (wh, t.map dval) := by
  rw [← rdg_eq]; unfold rdgI; rw [hc]; simp only; rw [hr]; simp only
  rw [if_pos ⟨hb, hl, hd, e⟩]
theorem cut_le (l : List UInt8) (c : UInt8) : (Lib.cut l [c]).1.length ≤ l.length ∧ (Lib.cut l [c]).2.1.length ≤ l.length := by
  rcases cut_spl c l with ⟨_, e, _⟩ | ⟨a, b, rfl, _, e, _⟩
  · rw [e]; simp
  · rw [e]; simp; omega

set_option maxRecDepth 100000 in
set_option maxHeartbeats 12800000 in
theorem impl_ReadDigits (base : Int) (s : ByteArray) (w : World) (hs : s.size ≤ 1048576) (hE : Env w) :
    Calls Tryd.prog 17 #[.int .i64 base, .string s] w (RdgP base s.data.toList w) := by
  obtain ⟨l, hl⟩ : ∃ l, s.data.toList = l := ⟨_, rfl⟩
  have hln : l.length ≤ 1048576 := by rw [← hl, ← Lib.size_eq s]; exact hs
  have HL := Lib.hid hl
  have HE := Lib.hid hE
  clear hl hE
  obtain ⟨h, t, f, hcut⟩ : ∃ h t f, Lib.cut l [46] = (h, t, f) := ⟨_, _, _, rfl⟩
  have hcl := cut_le l 46
  rw [hcut] at hcl
  have HCUT := Lib.hid hcut
  obtain ⟨X, hX⟩ : ∃ X : ByteArray, (⟨h.toArray⟩ : ByteArray) = X := ⟨_, rfl⟩
  obtain ⟨Y, hY⟩ : ∃ Y : ByteArray, (⟨t.toArray⟩ : ByteArray) = Y := ⟨_, rfl⟩
  have HXD := Lib.hid (show X.data.toList = h by rw [← hX])
  have HYD := Lib.hid (show Y.data.toList = t by rw [← hY])
  have HXS := Lib.hid (show X.size ≤ 2000000 by rw [Lib.size_eq X, HXD.out]; have := hcl.1; simp at this; omega)
  have hYs : Y.size ≤ 1048576 := by rw [Lib.size_eq Y, HYD.out]; have := hcl.2; simp at this; omega
  have HYN := Lib.hid (show t.length = Y.size by rw [← HYD.out]; exact (Lib.size_eq Y).symm)
  have HX := Lib.hid hX
  have HY := Lib.hid hY
  clear hX hY hcl hcut
  obtain ⟨o, ho⟩ : ∃ o, rdec h = o := ⟨_, rfl⟩
  have HRX := Lib.hid (show rdec X.data.toList = o by rw [HXD.out]; exact ho)
  have HR0 := Lib.hid ho
  clear ho
  obtain ⟨m, hm⟩ := HE.out.mx
  have HM := Lib.hid hm
  clear hm
  rw [HL.out]
  cases o with
  | none =>
    have HB := Lib.hid (ri_n2 (base := base) HCUT.out HR0.out)
    go_enter Tryd.func17, Tryd.ntmps17
    go_wp2_with fail
    have HCC := Tryd.strings_Cut s ⟨#[46]⟩ m _ (by omega) HM.out
    rw [show Lib.cut s.data.toList (⟨#[46]⟩ : ByteArray).data.toList = (h, t, f) by rw [HL.out]; exact HCUT.out] at HCC
    simp only [HX.out, HY.out] at HCC
    refine HCC.mono ?_
    clear HCC
    rintro e w1 ⟨rfl, dn, rfl⟩
    have B1 : Bl w (w.drewN dn) := Drawn.below ⟨dn, rfl⟩ _
    generalize w.drewN dn = w1 at *
    go_wp2_with fail
    have HNUM := irdec_any X w1 HXS.out (HE.out.below B1)
    rw [HRX.out] at HNUM
    refine HNUM.mono ?_
    clear HNUM
    rintro e w2 ⟨rfl, B2'⟩
    have B2 := bl_call B1 B2'
    go_wp2
    refine bodyPost_ret (v := .tuple #[.int .i64 0, .slice none 0 0, .bool false]) (by simp only [results, Tryd.results17]; go_simp) rfl ?_
    exact rdg_bad HB.out B2
  | some wh =>
    cases qb : inB base 2 36 with
    | false =>
      have HB := Lib.hid (rs_n1 (l := l) qb)
      have QB := Lib.hid qb
      clear qb
      go_enter Tryd.func17, Tryd.ntmps17
      go_wp2_with fail
      have HCC := Tryd.strings_Cut s ⟨#[46]⟩ m _ (by omega) HM.out
      rw [show Lib.cut s.data.toList (⟨#[46]⟩ : ByteArray).data.toList = (h, t, f) by rw [HL.out]; exact HCUT.out] at HCC
      simp only [HX.out, HY.out] at HCC
      refine HCC.mono ?_
      clear HCC
      rintro e w1 ⟨rfl, dn, rfl⟩
      have B1 : Bl w (w.drewN dn) := Drawn.below ⟨dn, rfl⟩ _
      generalize w.drewN dn = w1 at *
      go_wp2_with fail
      have HNUM := irdec_any X w1 HXS.out (HE.out.below B1)
      rw [HRX.out] at HNUM
      refine HNUM.mono ?_
      clear HNUM
      rintro e w2 ⟨rfl, B2'⟩
      have B2 := bl_call B1 B2'
      go_wp2_with fail
      refine (ibase_eq QB.out _).mono ?_
      rintro e w9 ⟨rfl, rfl⟩
      go_wp2
      refine bodyPost_ret (v := .tuple #[.int .i64 0, .slice none 0 0, .bool false]) (by simp only [results, Tryd.results17]; go_simp) rfl ?_
      exact rdg_bad HB.out B2
    | true =>
      have QB := Lib.hid qb
      have hbb := inB_iff.1 qb
      clear qb
      by_cases hm : 1000 < Y.size
      · have HB := Lib.hid (ri_n3 (base := base) HCUT.out (by rw [HYN.out]; omega))
        have hm2 : (1000 : Int) < (Y.size : Int) := by omega
        go_enter Tryd.func17, Tryd.ntmps17
        go_wp2_with fail
        have HCC := Tryd.strings_Cut s ⟨#[46]⟩ m _ (by omega) HM.out
        rw [show Lib.cut s.data.toList (⟨#[46]⟩ : ByteArray).data.toList = (h, t, f) by rw [HL.out]; exact HCUT.out] at HCC
        simp only [HX.out, HY.out] at HCC
        refine HCC.mono ?_
        clear HCC
        rintro e w1 ⟨rfl, dn, rfl⟩
        have B1 : Bl w (w.drewN dn) := Drawn.below ⟨dn, rfl⟩ _
        generalize w.drewN dn = w1 at *
        go_wp2_with fail
        have HNUM := irdec_any X w1 HXS.out (HE.out.below B1)
        rw [HRX.out] at HNUM
        refine HNUM.mono ?_
        clear HNUM
        rintro e w2 ⟨rfl, B2'⟩
        have B2 := bl_call B1 B2'
        go_wp2_with fail
        refine (ibase_eq QB.out _).mono ?_
        rintro e w9 ⟨rfl, rfl⟩
        go_wp2
        refine bodyPost_ret (v := .tuple #[.int .i64 0, .slice none 0 0, .bool false]) (by simp only [results, Tryd.results17]; go_simp) rfl ?_
        exact rdg_bad HB.out B2
      · have hm2 : ¬ (1000 : Int) < (Y.size : Int) := by omega
        have hm3 : Y.size ≤ 1000 := by omega
        clear hm
        go_enter Tryd.func17, Tryd.ntmps17
        go_wp2_with fail
        have HCC := Tryd.strings_Cut s ⟨#[46]⟩ m _ (by omega) HM.out
        rw [show Lib.cut s.data.toList (⟨#[46]⟩ : ByteArray).data.toList = (h, t, f) by rw [HL.out]; exact HCUT.out] at HCC
        simp only [HX.out, HY.out] at HCC
        refine HCC.mono ?_
        clear HCC
        rintro e w1 ⟨rfl, dn, rfl⟩
        have B1 : Bl w (w.drewN dn) := Drawn.below ⟨dn, rfl⟩ _
        generalize w.drewN dn = w1 at *
        go_wp2_with fail
        have HNUM := irdec_any X w1 HXS.out (HE.out.below B1)
        rw [HRX.out] at HNUM
        refine HNUM.mono ?_
        clear HNUM
        rintro e w2 ⟨rfl, B2'⟩
        have B2 := bl_call B1 B2'
        go_wp2_with fail
        refine (ibase_eq QB.out _).mono ?_
        rintro e w9 ⟨rfl, rfl⟩
        go_wp2_with fail
        go_loopw [12, 13, 14, 40] (fun s12 _ _ s40 wr => ∃ (xs : List Int) (a : Option Addr) (c k : Nat), s12 = .slice a xs.length c ∧ s40 = .int .i64 k ∧ k ≤ Y.size ∧ Own wr w2.heap.size (.slice a xs.length c) xs ∧ Hid (xs = (t.take k).map dval ∧ xs.length = k ∧ ∀ c ∈ t.take k, 0 ≤ dval c) ∧ Bl w2 wr) (fun _ _ _ s40 _ => Y.size - (intOf s40).toNat)
        case atStart => exact ⟨[], none, 0, 0, rfl, rfl, Nat.zero_le _, Own.nil _ _, Lib.hid ⟨by simp, rfl, by simp⟩, bl_refl _⟩
        case round =>
          rcases hrel with ⟨xs, a, c4, k, rfl, rfl, hk, ho, hx, Bq⟩
          have HO4 := Lib.hid ho
          have HX4 := Lib.hid hx.out
          have HLX := Lib.hid (show xs.length ≤ 1000 by have := hx.out.2.1; omega)
          have BW := bl_call B2 Bq
          clear ho hx
          rcases Nat.lt_or_ge k Y.size with hlt | hge
          · obtain ⟨ch, hch⟩ : ∃ ch, Y[k] = ch := ⟨_, rfl⟩
            have HCH := Lib.hid (show t[k]? = some ch by rw [← HYD.out, ← hch]; exact str_ix hlt)
            have hc255 := ch.toNat_lt
            by_cases h1 : 48 ≤ ch.toNat ∧ ch.toNat ≤ 57
            · have HD := Lib.hid (show dval ch = (ch.toNat : Int) - 48 by rw [dval, if_pos h1])
              have H1 := Lib.hid h1
              obtain ⟨h2, h3⟩ := h1
              go_wp2_with fail
              refine (idig_yes H1.out _).mono ?_
              rintro e w9 ⟨rfl, rfl⟩
              go_wp2_with (at_builtin; refine wpList_append_one rfl _ _ rfl w2.heap.size _ xs (by rfl) HO4.out _ (by unfold R64; omega) (by rfl) (by have := HLX.out; omega) (Bq.size) ?_; intro v' wn ho hg _; have BN := bl_grownX Bq hg (fun k hk => (HO4.out.lt k hk).1); clear hg; obtain ⟨xs2, hxs2⟩ : ∃ q, q = xs ++ [(ch.toNat : Int) - 48] := ⟨_, rfl⟩; rw [← hxs2] at ho; have HXS2 := Lib.hid hxs2; clear hxs2; obtain ⟨a1, c5, rfl, _⟩ := ho.form)
              have HO5 := Lib.hid ho
              clear ho
              go_wp2
              go_roundw
              case rel => exact ⟨xs2, a1, c5, k + 1, rfl, by simp, by omega, HO5.out, Lib.hid ⟨by rw [HXS2.out, HX4.out.1, List.take_add_one, HCH.out, ← HD.out]; simp, by rw [HXS2.out, List.length_append, HX4.out.2.1]; rfl, by rw [List.take_add_one, HCH.out]; intro q hq; rcases List.mem_append.1 hq with hq | hq; exact HX4.out.2.2 q hq; simp at hq; subst hq; rw [HD.out]; omega⟩, BN⟩
              case measure => simp only [intOf, Int.toNat_natCast]; omega
            · have H1 := Lib.hid h1
              by_cases h4 : 97 ≤ ch.toNat ∧ ch.toNat ≤ 122
              · have HD := Lib.hid (show dval ch = (ch.toNat : Int) - 97 + 10 by rw [dval, if_neg h1, if_pos h4])
                have H4 := Lib.hid h4
                obtain ⟨h2, h3⟩ := h4
                clear h1
                go_wp2_with fail
                refine (idig_no H1.out _).mono ?_
                rintro e w9 ⟨rfl, rfl⟩
                go_wp2_with fail
                refine (isml_yes H4.out _).mono ?_
                rintro e w9 ⟨rfl, rfl⟩
                go_wp2_with (at_builtin; refine wpList_append_one rfl _ _ rfl w2.heap.size _ xs (by rfl) HO4.out _ (by unfold R64; omega) (by rfl) (by have := HLX.out; omega) (Bq.size) ?_; intro v' wn ho hg _; have BN := bl_grownX Bq hg (fun k hk => (HO4.out.lt k hk).1); clear hg; obtain ⟨xs2, hxs2⟩ : ∃ q, q = xs ++ [(ch.toNat : Int) - 97 + 10] := ⟨_, rfl⟩; rw [← hxs2] at ho; have HXS2 := Lib.hid hxs2; clear hxs2; obtain ⟨a1, c5, rfl, _⟩ := ho.form)
                have HO5 := Lib.hid ho
                clear ho
                go_wp2
                go_roundw
                case rel => exact ⟨xs2, a1, c5, k + 1, rfl, by simp, by omega, HO5.out, Lib.hid ⟨by rw [HXS2.out, HX4.out.1, List.take_add_one, HCH.out, ← HD.out]; simp, by rw [HXS2.out, List.length_append, HX4.out.2.1]; rfl, by rw [List.take_add_one, HCH.out]; intro q hq; rcases List.mem_append.1 hq with hq | hq; exact HX4.out.2.2 q hq; simp at hq; subst hq; rw [HD.out]; omega⟩, BN⟩
                case measure => simp only [intOf, Int.toNat_natCast]; omega
              · have HB := Lib.hid (ri_n4 (base := base) HCUT.out HCH.out (by rw [dval, if_neg h1, if_neg h4]; decide))
                have H4 := Lib.hid h4
                clear h1 h4
                go_wp2_with fail
                refine (idig_no H1.out _).mono ?_
                rintro e w9 ⟨rfl, rfl⟩
                go_wp2_with fail
                refine (isml_no H4.out _).mono ?_
                rintro e w9 ⟨rfl, rfl⟩
                go_wp2
                refine bodyPost_ret (v := .tuple #[.int .i64 0, .slice none 0 0, .bool false]) (by simp only [results, Tryd.results17]; go_simp) rfl ?_
                exact rdg_bad HB.out BW
          · obtain rfl : k = Y.size := by omega
            have HE2 := Lib.hid (show xs = t.map dval by rw [HX4.out.1, List.take_of_length_le (by rw [HYN.out]; exact Nat.le_refl _)])
            have HDD := Lib.hid (show ∀ c ∈ t, 0 ≤ dval c by have := HX4.out.2.2; rwa [List.take_of_length_le (by rw [HYN.out]; exact Nat.le_refl _)] at this)
            clear hge hk
            go_wp2_with fail
            refine (impl_DigitsText base wh _ xs _ HO4.out.sl (by have := HLX.out; omega) (HE.out.below BW).tab).mono ?_
            rintro e w5 ⟨rfl, B5⟩
            have BF := bl_call BW B5
            by_cases hq : dtxt base wh xs = l
            · have HG := Lib.hid (ri_ok HCUT.out HR0.out hbb (by rw [HYN.out]; exact hm3) HDD.out (by rw [← HE2.out]; exact hq))
              have hcmp : (dtxt base wh xs == s.toList) = true := by rw [ByteArray.toList_eq, HL.out]; exact beq_iff_eq.2 hq
              clear hq
              go_wp2
              refine bodyPost_ret (v := .tuple #[.int .i64 wh, .slice a xs.length c4, .bool true]) (by simp only [results, Tryd.results17]; go_simp) rfl ?_
              exact rdg_good (by rw [HE2.out]; exact HG.out) ((HO4.out.below B5).mono B2.size) BF
            · have HB := Lib.hid (ri_n5 (base := base) HCUT.out HR0.out (by rw [← HE2.out]; exact hq))
              have hcmp : (dtxt base wh xs == s.toList) = false := by rw [ByteArray.toList_eq, HL.out]; exact beq_eq_false_iff_ne.2 hq
              clear hq
              go_wp2
              refine bodyPost_ret (v := .tuple #[.int .i64 0, .slice none 0 0, .bool false]) (by simp only [results, Tryd.results17]; go_simp) rfl ?_
              exact rdg_bad HB.out BF

end Go.Proofs.YtndblondleclpaaDoor
