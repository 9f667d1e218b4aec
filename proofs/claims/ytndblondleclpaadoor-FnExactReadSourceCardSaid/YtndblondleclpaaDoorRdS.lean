/- Decimal texts and parts of texts, as the reference reads them. Each theorem names its conditions. -/
import Derived.Test.YtndblondleclpaaDoorRdM
import Derived.Test.YtndblondleclpaaDoorTxM
import Derived.Test.YtndblondleclpaaDoorDecS
namespace Go.Proofs.YtndblondleclpaaDoor
open Go.RowKit
set_option linter.unusedVariables false
set_option linter.unusedSimpArgs false

theorem ldig_yes {c : UInt8} (h : 48 ≤ c.toNat ∧ c.toNat ≤ 57) (w : World) : Calls Tryd.prog 56 #[.int .u8 (c.toNat : Int)] w fun e w' => e = .returned (.bool true) ∧ w = w' := by
  have h1 : 48 ≤ (c.toNat : Int) := by omega
  have h2 : (c.toNat : Int) ≤ 57 := by omega
  clear h
  go_enter Tryd.func56, Tryd.ntmps56
  go_wp2
  go_ret
  exact ⟨rfl, rfl⟩
theorem ldig_no {c : UInt8} (h : ¬ (48 ≤ c.toNat ∧ c.toNat ≤ 57)) (w : World) : Calls Tryd.prog 56 #[.int .u8 (c.toNat : Int)] w fun e w' => e = .returned (.bool false) ∧ w = w' := by
  by_cases h1 : 48 ≤ (c.toNat : Int)
  · have h2 : ¬ (c.toNat : Int) ≤ 57 := by omega
    clear h
    go_enter Tryd.func56, Tryd.ntmps56
    go_wp2
    go_ret
    exact ⟨rfl, rfl⟩
  · clear h
    go_enter Tryd.func56, Tryd.ntmps56
    go_wp2
    go_ret
    exact ⟨rfl, rfl⟩
theorem lsml_yes {c : UInt8} (h : 97 ≤ c.toNat ∧ c.toNat ≤ 122) (w : World) : Calls Tryd.prog 57 #[.int .u8 (c.toNat : Int)] w fun e w' => e = .returned (.bool true) ∧ w = w' := by
  have h1 : 97 ≤ (c.toNat : Int) := by omega
  have h2 : (c.toNat : Int) ≤ 122 := by omega
  clear h
  go_enter Tryd.func57, Tryd.ntmps57
  go_wp2
  go_ret
  exact ⟨rfl, rfl⟩
theorem lsml_no {c : UInt8} (h : ¬ (97 ≤ c.toNat ∧ c.toNat ≤ 122)) (w : World) : Calls Tryd.prog 57 #[.int .u8 (c.toNat : Int)] w fun e w' => e = .returned (.bool false) ∧ w = w' := by
  by_cases h1 : 97 ≤ (c.toNat : Int)
  · have h2 : ¬ (c.toNat : Int) ≤ 122 := by omega
    clear h
    go_enter Tryd.func57, Tryd.ntmps57
    go_wp2
    go_ret
    exact ⟨rfl, rfl⟩
  · clear h
    go_enter Tryd.func57, Tryd.ntmps57
    go_wp2
    go_ret
    exact ⟨rfl, rfl⟩
theorem idig_yes {c : UInt8} (h : 48 ≤ c.toNat ∧ c.toNat ≤ 57) (w : World) : Calls Tryd.prog 42 #[.int .u8 (c.toNat : Int)] w fun e w' => e = .returned (.bool true) ∧ w = w' := by
  have h1 : 48 ≤ (c.toNat : Int) := by omega
  have h2 : (c.toNat : Int) ≤ 57 := by omega
  clear h
  go_enter Tryd.func42, Tryd.ntmps42
  go_wp2
  go_ret
  exact ⟨rfl, rfl⟩
theorem idig_no {c : UInt8} (h : ¬ (48 ≤ c.toNat ∧ c.toNat ≤ 57)) (w : World) : Calls Tryd.prog 42 #[.int .u8 (c.toNat : Int)] w fun e w' => e = .returned (.bool false) ∧ w = w' := by
  by_cases h1 : 48 ≤ (c.toNat : Int)
  · have h2 : ¬ (c.toNat : Int) ≤ 57 := by omega
    clear h
    go_enter Tryd.func42, Tryd.ntmps42
    go_wp2
    go_ret
    exact ⟨rfl, rfl⟩
  · clear h
    go_enter Tryd.func42, Tryd.ntmps42
    go_wp2
    go_ret
    exact ⟨rfl, rfl⟩
theorem isml_yes {c : UInt8} (h : 97 ≤ c.toNat ∧ c.toNat ≤ 122) (w : World) : Calls Tryd.prog 43 #[.int .u8 (c.toNat : Int)] w fun e w' => e = .returned (.bool true) ∧ w = w' := by
  have h1 : 97 ≤ (c.toNat : Int) := by omega
  have h2 : (c.toNat : Int) ≤ 122 := by omega
  clear h
  go_enter Tryd.func43, Tryd.ntmps43
  go_wp2
  go_ret
  exact ⟨rfl, rfl⟩
theorem isml_no {c : UInt8} (h : ¬ (97 ≤ c.toNat ∧ c.toNat ≤ 122)) (w : World) : Calls Tryd.prog 43 #[.int .u8 (c.toNat : Int)] w fun e w' => e = .returned (.bool false) ∧ w = w' := by
  by_cases h1 : 97 ≤ (c.toNat : Int)
  · have h2 : ¬ (c.toNat : Int) ≤ 122 := by omega
    clear h
    go_enter Tryd.func43, Tryd.ntmps43
    go_wp2
    go_ret
    exact ⟨rfl, rfl⟩
  · clear h
    go_enter Tryd.func43, Tryd.ntmps43
    go_wp2
    go_ret
    exact ⟨rfl, rfl⟩

theorem empty_yes {s : ByteArray} (h : s.size = 0) : s.toList.isEmpty = true ∧ s.data.toList = [] := by
  rw [ByteArray.toList_eq]
  have : s.data.toList.length = s.size := (Lib.size_eq s).symm
  have h2 := List.eq_nil_of_length_eq_zero (this.trans h)
  rw [h2]; exact ⟨rfl, rfl⟩
theorem empty_no {s : ByteArray} (h : 0 < s.size) : s.toList.isEmpty = false := by
  rw [ByteArray.toList_eq]
  have : s.data.toList.length = s.size := (Lib.size_eq s).symm
  cases hl : s.data.toList with
  | nil => rw [hl] at this; simp at this; omega
  | cons => rfl
theorem str_ix {s : ByteArray} {i : Nat} (h : i < s.size) : s.data.toList[i]? = some s[i] := by
  have h2 : i < s.data.toList.length := by rw [← Lib.size_eq s]; exact h
  rw [List.getElem?_eq_getElem h2]; rfl
theorem str_head {s : ByteArray} (h : 0 < s.size) : ∃ r, s.data.toList = s[0] :: r ∧ (s.extract 1 s.size).data.toList = r := by
  have h0 := str_ix h
  cases hl : s.data.toList with
  | nil => rw [hl] at h0; simp at h0
  | cons x r =>
    rw [hl] at h0
    simp at h0
    refine ⟨r, by rw [← h0], ?_⟩
    rw [Lib.extract_data, hl]
    have : s.size = (x :: r).length := by rw [← hl]; exact Lib.size_eq s
    rw [this]; simp
theorem tl_neg {b : UInt8} {r : List UInt8} (h : b = 45) : tl (b :: r) = r := by subst h; simp [tl]
theorem tl_pos {b : UInt8} {r : List UInt8} (h : b ≠ 45) : tl (b :: r) = b :: r := by simp [tl, h]
theorem rdec_short {l : List UInt8} (h : (tl l).length < 1 ∨ 18 < (tl l).length) : rdec l = none := by unfold rdec; rw [if_pos h]
theorem rdec_bad {l : List UInt8} (h : ¬ ((tl l).length < 1 ∨ 18 < (tl l).length)) (hd : Lib.decFrom 0 (tl l) = none) : rdec l = none := by unfold rdec; rw [if_neg h, hd]
theorem rdec_no {l : List UInt8} {m : Nat} (h : ¬ ((tl l).length < 1 ∨ 18 < (tl l).length)) (hd : Lib.decFrom 0 (tl l) = some m) (hn : Lib.itoa (sg l m) ≠ l) : rdec l = none := by unfold rdec; rw [if_neg h, hd]; simp only; rw [if_neg hn]
theorem rdec_yes {l : List UInt8} {m : Nat} (h : ¬ ((tl l).length < 1 ∨ 18 < (tl l).length)) (hd : Lib.decFrom 0 (tl l) = some m) (hn : Lib.itoa (sg l m) = l) : rdec l = some (sg l m) := by unfold rdec; rw [if_neg h, hd]; simp only; rw [if_pos hn]
theorem dec_bad {l : List UInt8} {k : Nat} {c : UInt8} (h : l[k]? = some c) (hc : ¬ (48 ≤ c.toNat ∧ c.toNat ≤ 57)) : Lib.decFrom 0 l = none := by
  cases hd : Lib.decFrom 0 l with
  | none => rfl
  | some n =>
    obtain ⟨d, hd2⟩ := Lib.digit_of_decFrom l 0 n hd k c h
    unfold Lib.digitVal at hd2
    rw [if_neg hc] at hd2; cases hd2
theorem ret_rd {l : List UInt8} {o : Option Int} {x : Int} {b : Bool} (h : rdec l = o) (hx : o.getD 0 = x) (hb : o.isSome = b) : Ending.returned (.tuple #[.int .i64 x, .bool b]) = Ending.returned (.tuple #[.int .i64 ((rdec l).getD 0), .bool (rdec l).isSome]) := by rw [h, hx, hb]
theorem pow17 {m k : Nat} (h : m < 10 ^ k) (hk : k ≤ 17) : m < 100000000000000000 :=
  Nat.lt_of_lt_of_le h (Nat.le_trans (Nat.pow_le_pow_right (by decide) hk) (by decide))
theorem pow18 {m k : Nat} (h : m < 10 ^ k) (hk : k ≤ 18) : m < 1000000000000000000 :=
  Nat.lt_of_lt_of_le h (Nat.le_trans (Nat.pow_le_pow_right (by decide) hk) (by decide))

set_option maxRecDepth 100000 in
set_option maxHeartbeats 6400000 in
theorem lnum_any (s : ByteArray) (w : World) (hs : s.size ≤ 2000000) :
    Calls Tryd.prog 38 #[.string s] w fun e w' => e = .returned (.tuple #[.int .i64 ((rdec s.data.toList).getD 0), .bool (rdec s.data.toList).isSome]) ∧ Bl w w' := by
  have hszl : s.data.toList.length = s.size := (Lib.size_eq s).symm
  by_cases h0 : s.size = 0
  · have hem := (empty_yes h0).1
    have HR := Lib.hid (show rdec s.data.toList = none by rw [(empty_yes h0).2]; rfl)
    have h1 : ((s.size : Int) < 1) := by omega
    clear h0 hszl
    go_enter Tryd.func38, Tryd.ntmps38
    go_wp2
    refine bodyPost_ret (v := .tuple #[.int .i64 0, .bool false]) (by simp only [results, Tryd.results38]; go_simp) rfl ?_
    exact ⟨ret_rd HR.out rfl rfl, bl_refl _⟩
  · have hne : 0 < s.size := by omega
    have hem := empty_no hne
    obtain ⟨r, hsr, hxr⟩ := str_head hne
    clear h0
    by_cases hb : s[0].toNat = 45
    · obtain ⟨T, hT⟩ : ∃ T, s.extract 1 s.size = T := ⟨_, rfl⟩
      have hq : ((s[0].toNat : Int) == 45) = true := beq_iff_eq.2 (by omega)
      have HTL := Lib.hid (show T.data.toList = tl s.data.toList by rw [← hT, hxr, hsr, tl_neg (UInt8.toNat_inj.1 hb)])
      have hTs : T.size < s.size := by rw [← hT, ByteArray.size_extract]; omega
      have HSG := Lib.hid (show ∀ m, sg s.data.toList m = -(m : Int) by intro m; rw [hsr, sg, if_pos (UInt8.toNat_inj.1 hb)])
      have HTN := Lib.hid (show (tl s.data.toList).length = T.size by rw [← HTL.out]; exact (Lib.size_eq T).symm)
      clear hsr hxr hb hszl
      by_cases hl1 : T.size < 1
      · have HR := Lib.hid (rdec_short (l := s.data.toList) (.inl (by rw [HTN.out]; exact hl1)))
        have q1 : ((T.size : Int) < 1) := by omega
        clear hl1
        go_enter Tryd.func38, Tryd.ntmps38
        go_wp2
        refine bodyPost_ret (v := .tuple #[.int .i64 (0), .bool false]) (by simp only [results, Tryd.results38]; go_simp) rfl ?_
        exact ⟨ret_rd HR.out rfl rfl, bl_refl _⟩
      by_cases hl2 : 18 < T.size
      · have HR := Lib.hid (rdec_short (l := s.data.toList) (.inr (by rw [HTN.out]; exact hl2)))
        have q1 : ¬ ((T.size : Int) < 1) := by omega
        have q2 : (18 : Int) < (T.size : Int) := by omega
        clear hl1 hl2
        go_enter Tryd.func38, Tryd.ntmps38
        go_wp2
        refine bodyPost_ret (v := .tuple #[.int .i64 (0), .bool false]) (by simp only [results, Tryd.results38]; go_simp) rfl ?_
        exact ⟨ret_rd HR.out rfl rfl, bl_refl _⟩
      have hl3 : 1 ≤ T.size := by omega
      have hl4 : T.size ≤ 18 := by omega
      have HSH := Lib.hid (show ¬ ((tl s.data.toList).length < 1 ∨ 18 < (tl s.data.toList).length) by rw [HTN.out]; omega)
      clear hl1 hl2
      go_enter Tryd.func38, Tryd.ntmps38
      go_wp2_with fail
      go_loopw [5, 6] (fun s5 s6 wr => ∃ (k m : Nat), s5 = .int .i64 m ∧ s6 = .int .i64 k ∧ k ≤ T.size ∧ Hid (m < 10 ^ k) ∧ Hid (Lib.decFrom 0 (T.data.toList.take k) = some m) ∧ Bl w wr) (fun _ s6 _ => T.size - (intOf s6).toNat)
      case atStart => exact ⟨0, 0, rfl, rfl, Nat.zero_le _, Lib.hid (by decide), Lib.hid (by simp [Lib.decFrom]), bl_refl _⟩
      case round =>
        rcases hrel with ⟨k, m, rfl, rfl, hk, hm, hd, Br⟩
        rcases Nat.lt_or_ge k T.size with hlt | hge
        · have hm17 := pow17 hm.out (show k ≤ 17 by omega)
          obtain ⟨c, hc⟩ : ∃ c, T[k] = c := ⟨_, rfl⟩
          have HCK := Lib.hid (show T.data.toList[k]? = some c by rw [← hc]; exact str_ix hlt)
          have hc255 := c.toNat_lt
          by_cases hdig : 48 ≤ c.toNat ∧ c.toNat ≤ 57
          · obtain ⟨hd1, hd2⟩ := hdig
            go_wp2_with fail
            refine (ldig_yes ⟨hd1, hd2⟩ _).mono ?_
            rintro e w9 ⟨rfl, rfl⟩
            go_wp2
            go_roundw
            case rel =>
              refine ⟨k + 1, m * 10 + (c.toNat - 48), ?_, by simp, by omega, Lib.hid ?_, Lib.hid ?_, Br⟩
              · congr 1; omega
              · have := hm.out; rw [Nat.pow_succ]; omega
              · exact Lib.decFrom_take _ k 0 m c _ hd.out HCK.out (by unfold Lib.digitVal; rw [if_pos ⟨hd1, hd2⟩])
            case measure => simp only [intOf, Int.toNat_natCast]; omega
          · have HDG := Lib.hid hdig
            have HR := Lib.hid (rdec_bad (l := s.data.toList) HSH.out (by rw [← HTL.out]; exact dec_bad HCK.out hdig))
            clear hdig
            go_wp2_with fail
            refine (ldig_no HDG.out _).mono ?_
            rintro e w9 ⟨rfl, rfl⟩
            go_wp2
            refine bodyPost_ret (v := .tuple #[.int .i64 (0), .bool false]) (by simp only [results, Tryd.results38]; go_simp) rfl ?_
            exact ⟨ret_rd HR.out rfl rfl, Br⟩
        · obtain rfl : k = T.size := by omega
          have hm18 := pow18 hm.out hl4
          have HD := Lib.hid (show Lib.decFrom 0 (tl s.data.toList) = some m by have := hd.out; rw [List.take_of_length_le (by rw [← Lib.size_eq T]; exact Nat.le_refl _), HTL.out] at this; exact this)
          clear hd hm hge hk
          go_wp2_with fail
          refine (ldec_any (-(m : Int)) (by unfold R64; omega) _).mono ?_
          rintro e w2 ⟨rfl, B2⟩
          have BB := bl_call Br B2
          by_cases hn : Lib.itoa (-(m : Int)) = s.data.toList
          · have HN := Lib.hid (rdec_yes HSH.out HD.out (by rw [HSG.out]; exact hn))
            have hcmp : (Lib.itoa (-(m : Int)) == s.toList) = true := by rw [ByteArray.toList_eq]; exact beq_iff_eq.2 hn
            rw [HSG.out] at HN
            clear hn
            go_wp2
            refine bodyPost_ret (v := .tuple #[.int .i64 (-(m : Int)), .bool true]) (by simp only [results, Tryd.results38]; go_simp) rfl ?_
            exact ⟨ret_rd HN.out rfl rfl, BB⟩
          · have HN := Lib.hid (rdec_no HSH.out HD.out (by rw [HSG.out]; exact hn))
            have hcmp : (Lib.itoa (-(m : Int)) == s.toList) = false := by rw [ByteArray.toList_eq]; exact beq_eq_false_iff_ne.2 hn
            clear hn
            go_wp2
            refine bodyPost_ret (v := .tuple #[.int .i64 (0), .bool false]) (by simp only [results, Tryd.results38]; go_simp) rfl ?_
            exact ⟨ret_rd HN.out rfl rfl, BB⟩
    · have hq : ((s[0].toNat : Int) == 45) = false := beq_eq_false_iff_ne.2 (by omega)
      have HTL := Lib.hid (show s.data.toList = tl s.data.toList by rw [hsr, tl_pos (fun q => hb (by rw [q]; rfl))])
      have HSG := Lib.hid (show ∀ m, sg s.data.toList m = (m : Int) by intro m; rw [hsr, sg, if_neg (fun q => hb (by rw [q]; rfl))])
      have HTN := Lib.hid (show (tl s.data.toList).length = s.size by rw [← HTL.out]; exact (Lib.size_eq s).symm)
      clear hsr hxr hb hszl
      by_cases hl1 : s.size < 1
      · have HR := Lib.hid (rdec_short (l := s.data.toList) (.inl (by rw [HTN.out]; exact hl1)))
        have q1 : ((s.size : Int) < 1) := by omega
        clear hl1
        go_enter Tryd.func38, Tryd.ntmps38
        go_wp2
        refine bodyPost_ret (v := .tuple #[.int .i64 (0), .bool false]) (by simp only [results, Tryd.results38]; go_simp) rfl ?_
        exact ⟨ret_rd HR.out rfl rfl, bl_refl _⟩
      by_cases hl2 : 18 < s.size
      · have HR := Lib.hid (rdec_short (l := s.data.toList) (.inr (by rw [HTN.out]; exact hl2)))
        have q1 : ¬ ((s.size : Int) < 1) := by omega
        have q2 : (18 : Int) < (s.size : Int) := by omega
        clear hl1 hl2
        go_enter Tryd.func38, Tryd.ntmps38
        go_wp2
        refine bodyPost_ret (v := .tuple #[.int .i64 (0), .bool false]) (by simp only [results, Tryd.results38]; go_simp) rfl ?_
        exact ⟨ret_rd HR.out rfl rfl, bl_refl _⟩
      have hl3 : 1 ≤ s.size := by omega
      have hl4 : s.size ≤ 18 := by omega
      have HSH := Lib.hid (show ¬ ((tl s.data.toList).length < 1 ∨ 18 < (tl s.data.toList).length) by rw [HTN.out]; omega)
      clear hl1 hl2
      go_enter Tryd.func38, Tryd.ntmps38
      go_wp2_with fail
      go_loopw [5, 6] (fun s5 s6 wr => ∃ (k m : Nat), s5 = .int .i64 m ∧ s6 = .int .i64 k ∧ k ≤ s.size ∧ Hid (m < 10 ^ k) ∧ Hid (Lib.decFrom 0 (s.data.toList.take k) = some m) ∧ Bl w wr) (fun _ s6 _ => s.size - (intOf s6).toNat)
      case atStart => exact ⟨0, 0, rfl, rfl, Nat.zero_le _, Lib.hid (by decide), Lib.hid (by simp [Lib.decFrom]), bl_refl _⟩
      case round =>
        rcases hrel with ⟨k, m, rfl, rfl, hk, hm, hd, Br⟩
        rcases Nat.lt_or_ge k s.size with hlt | hge
        · have hm17 := pow17 hm.out (show k ≤ 17 by omega)
          obtain ⟨c, hc⟩ : ∃ c, s[k] = c := ⟨_, rfl⟩
          have HCK := Lib.hid (show s.data.toList[k]? = some c by rw [← hc]; exact str_ix hlt)
          have hc255 := c.toNat_lt
          by_cases hdig : 48 ≤ c.toNat ∧ c.toNat ≤ 57
          · obtain ⟨hd1, hd2⟩ := hdig
            go_wp2_with fail
            refine (ldig_yes ⟨hd1, hd2⟩ _).mono ?_
            rintro e w9 ⟨rfl, rfl⟩
            go_wp2
            go_roundw
            case rel =>
              refine ⟨k + 1, m * 10 + (c.toNat - 48), ?_, by simp, by omega, Lib.hid ?_, Lib.hid ?_, Br⟩
              · congr 1; omega
              · have := hm.out; rw [Nat.pow_succ]; omega
              · exact Lib.decFrom_take _ k 0 m c _ hd.out HCK.out (by unfold Lib.digitVal; rw [if_pos ⟨hd1, hd2⟩])
            case measure => simp only [intOf, Int.toNat_natCast]; omega
          · have HDG := Lib.hid hdig
            have HR := Lib.hid (rdec_bad (l := s.data.toList) HSH.out (by rw [← HTL.out]; exact dec_bad HCK.out hdig))
            clear hdig
            go_wp2_with fail
            refine (ldig_no HDG.out _).mono ?_
            rintro e w9 ⟨rfl, rfl⟩
            go_wp2
            refine bodyPost_ret (v := .tuple #[.int .i64 (0), .bool false]) (by simp only [results, Tryd.results38]; go_simp) rfl ?_
            exact ⟨ret_rd HR.out rfl rfl, Br⟩
        · obtain rfl : k = s.size := by omega
          have hm18 := pow18 hm.out hl4
          have HD := Lib.hid (show Lib.decFrom 0 (tl s.data.toList) = some m by have := hd.out; rw [List.take_of_length_le (by rw [← Lib.size_eq s]; exact Nat.le_refl _), HTL.out] at this; exact this)
          clear hd hm hge hk
          go_wp2_with fail
          refine (ldec_any ((m : Int)) (by unfold R64; omega) _).mono ?_
          rintro e w2 ⟨rfl, B2⟩
          have BB := bl_call Br B2
          by_cases hn : Lib.itoa ((m : Int)) = s.data.toList
          · have HN := Lib.hid (rdec_yes HSH.out HD.out (by rw [HSG.out]; exact hn))
            have hcmp : (Lib.itoa ((m : Int)) == s.toList) = true := by rw [ByteArray.toList_eq]; exact beq_iff_eq.2 hn
            rw [HSG.out] at HN
            clear hn
            go_wp2
            refine bodyPost_ret (v := .tuple #[.int .i64 ((m : Int)), .bool true]) (by simp only [results, Tryd.results38]; go_simp) rfl ?_
            exact ⟨ret_rd HN.out rfl rfl, BB⟩
          · have HN := Lib.hid (rdec_no HSH.out HD.out (by rw [HSG.out]; exact hn))
            have hcmp : (Lib.itoa ((m : Int)) == s.toList) = false := by rw [ByteArray.toList_eq]; exact beq_eq_false_iff_ne.2 hn
            clear hn
            go_wp2
            refine bodyPost_ret (v := .tuple #[.int .i64 (0), .bool false]) (by simp only [results, Tryd.results38]; go_simp) rfl ?_
            exact ⟨ret_rd HN.out rfl rfl, BB⟩

/-! The parts of a text. -/
theorem drop_split {l : List UInt8} {f i : Nat} {c : UInt8} (hf : f ≤ i) (h : l[i]? = some c) : l.drop f = (l.drop f).take (i - f) ++ c :: l.drop (i + 1) := by
  have hi := (List.getElem?_eq_some_iff.1 h).1
  have e : l.drop i = c :: l.drop (i + 1) := by
    rw [List.drop_eq_getElem_cons hi, (List.getElem?_eq_some_iff.1 h).2]
  rw [← e]
  have e2 : l.drop i = (l.drop f).drop (i - f) := by rw [List.drop_drop]; congr 1; omega
  rw [e2, List.take_append_drop]
theorem piece_snoc {l : List UInt8} {f i : Nat} {c : UInt8} (hf : f ≤ i) (h : l[i]? = some c) : (l.drop f).take (i + 1 - f) = (l.drop f).take (i - f) ++ [c] := by
  have e : (l.drop f)[i - f]? = some c := by rw [List.getElem?_drop, show f + (i - f) = i by omega]; exact h
  rw [show i + 1 - f = (i - f) + 1 by omega, List.take_add_one, e]; rfl

set_option maxRecDepth 100000 in
set_option maxHeartbeats 6400000 in
theorem lspl_any (s : ByteArray) (sc : UInt8) (w : World) (hs : s.size ≤ 2000000) :
    Calls Tryd.prog 37 #[.string s, .int .u8 (sc.toNat : Int)] w fun e w' => ∃ g c, e = .returned (.slice (some ⟨g, 0, none⟩) (spl sc s.data.toList).length c) ∧ OwS w' w.heap.size (.slice (some ⟨g, 0, none⟩) (spl sc s.data.toList).length c) (spl sc s.data.toList) ∧ Bl w w' := by
  obtain ⟨l, hl⟩ : ∃ l, s.data.toList = l := ⟨_, rfl⟩
  have hln : l.length = s.size := by rw [← hl]; exact (Lib.size_eq s).symm
  rw [hl]
  have HL := Lib.hid hl
  have HLN := Lib.hid hln
  clear hl hln
  go_enter Tryd.func37, Tryd.ntmps37
  go_wp2_with fail
  go_loopw [5, 6, 7] (fun s5 s6 s7 wr => ∃ (ws : List (List UInt8)) (g c f i : Nat), s5 = .slice (some ⟨g, 0, none⟩) ws.length c ∧ s6 = .int .i64 f ∧ s7 = .int .i64 i ∧ f ≤ i ∧ i ≤ s.size ∧ OwS wr w.heap.size (.slice (some ⟨g, 0, none⟩) ws.length c) ws ∧ Hid (ws ++ spl sc (l.drop f) = spl sc l ∧ sc ∉ (l.drop f).take (i - f) ∧ ws.length ≤ i) ∧ Bl w wr) (fun _ _ s7 _ => s.size - (intOf s7).toNat)
  case atStart => exact ⟨[], w.heap.size, 0, 0, 0, rfl, rfl, rfl, Nat.le_refl _, Nat.zero_le _, OwX.made (Nat.le_refl _) _, Lib.hid ⟨by simp, by simp, by simp⟩, bl_alloc (bl_refl _) _⟩
  case round =>
    rcases hrel with ⟨ws, g, c, f, i, rfl, rfl, rfl, hf, hi, ho, hw, Br⟩
    have HO := Lib.hid ho
    have HW := Lib.hid hw.out
    have HLw := Lib.hid (show ws.length ≤ 2000000 by have := hw.out.2.2; omega)
    clear ho hw
    rcases Nat.lt_or_ge i s.size with hlt | hge
    · obtain ⟨x, hx⟩ : ∃ x, s[i] = x := ⟨_, rfl⟩
      have HX := Lib.hid (show l[i]? = some x by rw [← HL.out, ← hx]; exact str_ix hlt)
      by_cases hb : x = sc
      · have hq : ((x.toNat : Int) == (sc.toNat : Int)) = true := by rw [hb]; exact beq_self_eq_true _
        have HB := Lib.hid hb
        clear hb
        have hfs : f ≤ s.size := by omega
        obtain ⟨P, hP⟩ : ∃ P, s.extract f i = P := ⟨_, rfl⟩
        have HP := Lib.hid (show P.data.toList = (l.drop f).take (i - f) by rw [← hP, Lib.extract_data, HL.out])
        go_wp2_with (at_builtin; refine wpList_append_s1 (w0 := w) rfl _ _ rfl _ ws (by rfl) (HO.out.alloc _) ((l.drop f).take (i - f)) wr.heap.size (by rfl) (by rw [← HP.out]; simp) (by have := HLw.out; omega) (bl_alloc Br _) ?_; intro ws2 g2 c2 wn HA2 HO2 hg BN _)
        clear hg
        go_wp2
        go_roundw
        case rel =>
          refine ⟨ws2, g2, c2, i + 1, i + 1, rfl, by simp, by simp, Nat.le_refl _, by omega, HO2.out, Lib.hid ⟨?_, by simp, ?_⟩, BN⟩
          · have h1 := HW.out.1
            have hx2 := HX.out
            rw [HB.out] at hx2
            rw [drop_split hf hx2, spl_hit _ HW.out.2.1] at h1
            rw [HA2.out, ← h1]; simp
          · rw [HA2.out]; have := HW.out.2.2; simp; omega
        case measure => simp only [intOf]; omega
      · have hq : ((x.toNat : Int) == (sc.toNat : Int)) = false := beq_eq_false_iff_ne.2 (fun q => hb (UInt8.toNat_inj.1 (by omega)))
        have HB := Lib.hid hb
        clear hb
        go_wp2
        go_roundw
        case rel =>
          refine ⟨ws, g, c, f, i + 1, rfl, rfl, by simp, by omega, by omega, HO.out, Lib.hid ⟨HW.out.1, ?_, by have := HW.out.2.2; omega⟩, Br⟩
          rw [piece_snoc hf HX.out]
          simp only [List.mem_append, List.mem_singleton, not_or]
          exact ⟨HW.out.2.1, fun q => HB.out q.symm⟩
        case measure => simp only [intOf, Int.toNat_natCast]; omega
    · obtain rfl : i = s.size := by omega
      obtain ⟨P, hP⟩ : ∃ P, s.extract f s.size = P := ⟨_, rfl⟩
      have HP := Lib.hid (show P.data.toList = l.drop f by rw [← hP, Lib.extract_data, HL.out]; exact List.take_of_length_le (by rw [List.length_drop, HLN.out]; exact Nat.le_refl _))
      have HE := Lib.hid (show ws ++ [l.drop f] = spl sc l by
        rw [← HW.out.1, spl_none]
        have := HW.out.2.1
        rwa [List.take_of_length_le (by rw [List.length_drop, HLN.out]; exact Nat.le_refl _)] at this)
      go_wp2_with (at_builtin; refine wpList_append_s1 (w0 := w) rfl _ _ rfl _ ws (by rfl) (HO.out.alloc _) (l.drop f) wr.heap.size (by rfl) (by rw [← HP.out]; simp) (by have := HLw.out; omega) (bl_alloc Br _) ?_; intro ws2 g2 c2 wn HA2 HO2 hg BN _)
      clear hg
      have HE2 := Lib.hid (show ws2 = spl sc l by rw [HA2.out]; exact HE.out)
      go_wp2
      go_ret
      have := HO2.out
      rw [HE2.out] at this
      exact ⟨g2, c2, by rw [← HE2.out]; rfl, this, BN⟩


end Go.Proofs.YtndblondleclpaaDoor
